/- The book grows the lists of bytes that it keeps. -/
import Derived.Test.YtggngmmbpkoooaaBkL
namespace Go.Proofs.Ytggngmmbpkoooaa.Bk
open Go Go.Proofs.Ytggngmmbpkoooaa.Eng Go.Proofs.Ytggngmmbpkoooaa.Hd
set_option linter.unusedVariables false
set_option linter.unusedSimpArgs false
set_option maxRecDepth 4000
/-- so many lists have come when the next byte is the i-th. -/
def cnt (i : Nat) : Nat := (i - 1) / 16 + (if i ≤ 4 then i - 1 else 3)
theorem cnt_push {i : Nat} (h1 : 1 ≤ i) (h : i < 4 ∨ i % 16 = 0) : cnt i + 1 ≤ cnt (i + 1) := by unfold cnt; split <;> split <;> omega
theorem cnt_skip {i : Nat} (h1 : 1 ≤ i) : cnt i ≤ cnt (i + 1) := by unfold cnt; split <;> split <;> omega
def isB (ρ : Nat → Role) (k : Nat) : Prop := ρ k = .book ∨ ∃ m, ρ k = .list m
theorem isB_none {ρ : Nat → Role} {k : Nat} (h : isB ρ k) : ρ k ≠ .none := by
  rcases h with h | ⟨m, h⟩ <;> rw [h] <;> exact fun h => by cases h

/-- What stands at a world on the way, seen from the world where the call began. -/
structure Way (w0 : World) (ρ0 : Nat → Role) (base bb : Nat) (s : BookS) (w : World) (ρ : Nat → Role) (v1 v2 : Value) (L : List (Value × Nat)) : Prop where
  C : Core w ρ bb v1 v2 L L s
  K : All w ρ L
  R : Roles w base ρ
  G : AtLeast w base
  ag : ∀ k, k < w0.heap.size → ρ k = ρ0 k
  ch : Ch (isB ρ0) w0 w
  mks : ∀ e ∈ L, e.2 ≤ 274877906944

set_option maxHeartbeats 4000000 in
theorem growBytes_any {ρ : Nat → Role} {bb base : Nat} {v1 v2 : Value} {s : BookS} (w0 : World) (C : Core w0 ρ bb v1 v2 s.L s.L s) (K : All w0 ρ s.L) (R : Roles w0 base ρ) (G : AtLeast w0 base) (hM : ∀ e ∈ s.L, e.2 ≤ 274877906944) (h1 : s.at_ ≤ s.L.length) (h2 : s.L.length + 9 * (s.L.length - s.at_) ≤ 2748779069440) (hE : ∀ i e, s.at_ ≤ i → s.L[i]? = some e → elen e.1 ≤ 1099511627776) :
    Calls Try.prog 40 #[.pointer (some ⟨bb, 0, none⟩)] w0 fun e w' => ∃ v1' v2' s' ρ', e = .returned (.tuple #[]) ∧ Core w' ρ' bb v1' v2' s'.L s'.L s' ∧ All w' ρ' s'.L ∧ Roles w' base ρ' ∧ (∀ k, k < w0.heap.size → ρ' k = ρ k) ∧ Ch (isB ρ) w0 w' ∧ s'.turn = s.turn ∧ s'.done = s.done ∧ s'.used = s.used ∧ s'.at_ = s'.L.length ∧ s'.L.length ≤ s.L.length + 9 * (s.L.length - s.at_) ∧ ∀ e ∈ s'.L, e.2 ≤ 274877906944 := by
  have Y : Way w0 ρ base bb s w0 ρ v1 v2 s.L := ⟨C, K, R, G, fun _ _ => rfl, Ch.refl _, hM⟩
  obtain ⟨a1, c1, rfl⟩ := owns_form C.o1
  have hn2 : s.L.length ≤ 2748779069440 := by omega
  refine calls @Try.func40 rfl @Try.ntmps40 rfl ?_
  show JC _ _ _ _ _ [(0, .pointer (some ⟨bb, 0, none⟩))] _
  refine JC.seq ?_
  refine JC.region ?_
  refine JL.val rfl (Run.move (.tmp .here)) ?_
  refine JL.val rfl (Run.nilPtr (.tmp .here)) ?_
  refine JL.val rfl (Run.fieldAddr (ft := 23) (foff := 0) (off := 0) @Try.underlying46 (by rfl) (@Try.sizeOf23 _) rfl rfl (.tmp .here)) ?_
  refine JL.val rfl (Run.loadB (@Try.isAgg23 _) (.tmp .here) (Y.C.B) (by rfl)) ?_
  refine JL.val rfl (Run.len @Try.underlying23 (.tmp .here)) ?_
  refine JL.val rfl (Run.assign (.tmp .here)) ?_
  refine JL.nil ?_
  refine JE.seq ?_
  refine JC.seq ?_
  refine JC.seq ?_
  refine JC.region ?_
  refine JL.val rfl (Run.move (.tmp (.there rfl (.there rfl (.there rfl (.there rfl (.there rfl (.there rfl .here)))))))) ?_
  refine JL.val rfl (Run.nilPtr (.tmp .here)) ?_
  refine JL.val rfl (Run.fieldAddr (ft := 3) (foff := 2) (off := 2) @Try.underlying46 (by rfl) (@Try.sizeOf3 _) rfl rfl (.tmp .here)) ?_
  refine JL.val rfl (Run.loadB (@Try.isAgg3 _) (.tmp .here) (Y.C.B) (by rfl)) ?_
  refine JL.val rfl (Run.assign (.tmp .here)) ?_
  refine JL.nil ?_
  refine JE.keep (L := _) (.cons .here (.cons (.there rfl (.there rfl (.there rfl (.there rfl (.there rfl .here))))) (.cons (.there rfl (.there rfl (.there rfl (.there rfl (.there rfl (.there rfl (.there rfl (.there rfl (.there rfl (.there rfl (.there rfl .here))))))))))) .nil))) ?_
  refine JE.seq ?_
  refine JC.block ?_
  clear C K R G hM
  refine JC.loop (α := Nat × List (Value × Nat) × (Nat → Role) × Value × Value) (fun ⟨k, L, ρ1, u1, u2⟩ => [(0, .pointer (some ⟨bb, 0, none⟩)), (2, .int .i64 (s.L.length : Int)), (3, .int .i64 (k : Int))]) (fun ⟨k, L, ρ1, u1, u2⟩ w => s.at_ ≤ k ∧ k ≤ s.L.length ∧ Way w0 ρ base bb s w ρ1 u1 u2 L ∧ L.length ≤ s.L.length + 9 * (k - s.at_) ∧ ∀ i, i < s.L.length → L[i]? = s.L[i]?) (fun ⟨k, L, ρ1, u1, u2⟩ => s.L.length - k) (s.at_, s.L, ρ, _, v2) ⟨Nat.le_refl _, h1, Y, by omega, fun _ _ => rfl⟩ (.cons (.there rfl (.there rfl .here)) (.conse (.there rfl .here) (rfl) (.conse .here (rfl) .nil))) ?_
  rintro ⟨k, L, ρ1, u1, u2⟩ w1 m2 ⟨hka, hkn, Y, hLL, hpre⟩ hmu3
  show JC _ _ _ _ _ [(0, .pointer (some ⟨bb, 0, none⟩)), (2, .int .i64 (s.L.length : Int)), (3, .int .i64 (k : Int))] _
  refine JC.seq ?_
  refine JC.seq ?_
  refine JC.region ?_
  refine JL.val rfl (Run.move (.tmp (.there rfl (.there rfl .here)))) ?_
  refine JL.val rfl (Run.move (.tmp (.there rfl (.there rfl .here)))) ?_
  refine JL.val rfl (Run.lss (.tmp (.there rfl .here)) (.tmp .here)) ?_
  refine JL.nil ?_
  refine JE.seq ?_
  refine JC.cond (.tmp .here) (fun hlt => ?_) (fun hlt => ?_)
  · have hlt := of_decide_eq_true hlt
    have hks : k < s.L.length := by omega
    obtain ⟨e, he⟩ : ∃ e, e = s.L[k] := ⟨_, rfl⟩
    have hLk : L[k]? = some e := by rw [hpre k hks, List.getElem?_eq_getElem hks, he]
    have hkL : k < L.length := (List.getElem?_eq_some_iff.1 hLk).1
    have hem : e ∈ L := List.mem_of_getElem? hLk
    have hm := Y.mks e hem
    have hel := hE k e hka (by rw [List.getElem?_eq_getElem hks, he])
    have hKe := Y.K e hem
    obtain ⟨x, m⟩ := e
    simp only at hm hel
    have hi1 : (L.map (·.1))[k]? = some x := by rw [List.getElem?_map, hLk]; rfl
    have hi2 : (L.map fun e => Value.int .i64 (e.2 : Int))[k]? = some (.int .i64 (m : Int)) := by rw [List.getElem?_map, hLk]; rfl
    obtain ⟨a1, c1, rfl⟩ := owns_form Y.C.o1
    obtain ⟨b1, rfl, -⟩ := owns_pos Y.C.o1 (by omega)
    obtain ⟨a2, c2, rfl⟩ := owns_form Y.C.o2
    obtain ⟨b2, rfl, -⟩ := owns_pos Y.C.o2 (by omega)
    refine JC.skip ?_
    refine JE.seq ?_
    refine JC.seq ?_
    refine JC.block ?_
    refine JC.seq ?_
    refine JC.region ?_
    refine JL.val rfl (Run.move (.tmp (.there rfl (.there rfl (.there rfl .here))))) ?_
    refine JL.val rfl (Run.nilPtr (.tmp .here)) ?_
    refine JL.val rfl (Run.fieldAddr (ft := 23) (foff := 0) (off := 0) @Try.underlying46 (by rfl) (@Try.sizeOf23 _) rfl rfl (.tmp .here)) ?_
    refine JL.val rfl (Run.loadB (@Try.isAgg23 _) (.tmp .here) (Y.C.B) (by rfl)) ?_
    refine JL.val rfl (Run.move (.tmp (.there rfl (.there rfl (.there rfl (.there rfl (.there rfl (.there rfl (.there rfl (.there rfl (.there rfl .here))))))))))) ?_
    refine JL.val rfl (Run.indexAddr (m := k) @Try.underlying23 (@Try.sizeOf53 _) (.tmp (.there rfl .here)) (.tmp .here) (rfl) (by omega) rfl) ?_
    refine JL.val rfl (Run.load (@Try.isAgg53 _) (.tmp .here) (by first | exact (ocell Y.C.o1 hi1))) ?_
    refine JL.val rfl (Run.assign (.tmp .here)) ?_
    refine JL.nil ?_
    refine JE.seq ?_
    refine JC.seq ?_
    refine JC.region ?_
    refine JL.val rfl (Run.move (.tmp (.there rfl (.there rfl (.there rfl (.there rfl (.there rfl (.there rfl (.there rfl (.there rfl (.there rfl (.there rfl (.there rfl .here))))))))))))) ?_
    refine JL.val rfl (Run.nilPtr (.tmp .here)) ?_
    refine JL.val rfl (Run.fieldAddr (ft := 27) (foff := 1) (off := 1) @Try.underlying46 (by rfl) (@Try.sizeOf27 _) rfl rfl (.tmp .here)) ?_
    refine JL.val rfl (Run.loadB (@Try.isAgg27 _) (.tmp .here) (Y.C.B) (by rfl)) ?_
    refine JL.val rfl (Run.move (.tmp (.there rfl (.there rfl (.there rfl (.there rfl (.there rfl (.there rfl (.there rfl (.there rfl (.there rfl (.there rfl (.there rfl (.there rfl (.there rfl (.there rfl (.there rfl (.there rfl (.there rfl .here))))))))))))))))))) ?_
    refine JL.val rfl (Run.indexAddr (m := k) @Try.underlying27 (@Try.sizeOf3 _) (.tmp (.there rfl .here)) (.tmp .here) (rfl) (by omega) rfl) ?_
    refine JL.val rfl (Run.load (@Try.isAgg3 _) (.tmp .here) (by first | exact (ocell Y.C.o2 hi2))) ?_
    refine JL.val rfl (Run.assign (.tmp .here)) ?_
    refine JL.nil ?_
    refine JE.seq ?_
    refine JC.seq ?_
    refine JC.region ?_
    refine JL.val rfl (Run.assign .const) ?_
    refine JL.nil ?_
    refine JE.seq ?_
    refine JC.block ?_
    refine JC.loop (α := Nat × List (Value × Nat) × (Nat → Role) × Value × Value × Value) (fun ⟨i, L2, ρ2, u1, u2, g⟩ => [(0, .pointer (some ⟨bb, 0, none⟩)), (2, .int .i64 (s.L.length : Int)), (3, .int .i64 (k : Int)), (4, g), (5, .int .i64 (m : Int)), (6, .int .i64 (i : Int))]) (fun ⟨i, L2, ρ2, u1, u2, g⟩ w => 1 ≤ i ∧ i ≤ 97 ∧ Way w0 ρ base bb s w ρ2 u1 u2 L2 ∧ Kept w ρ2 (g, m) ∧ elen g = elen x + (i - 1) ∧ L2.length ≤ L.length + cnt i ∧ ∀ j, j < L.length → L2[j]? = L[j]?) (fun ⟨i, L2, ρ2, u1, u2, g⟩ => 97 - i) (1, L, ρ1, _, _, x) ⟨Nat.le_refl _, by omega, Y, hKe, by simp, by omega, fun _ _ => rfl⟩ (.cons (.there rfl (.there rfl (.there rfl (.there rfl (.there rfl (.there rfl (.there rfl (.there rfl (.there rfl (.there rfl (.there rfl (.there rfl (.there rfl (.there rfl (.there rfl (.there rfl (.there rfl (.there rfl (.there rfl (.there rfl .here)))))))))))))))))))) (.conse (.there rfl (.there rfl (.there rfl (.there rfl (.there rfl (.there rfl (.there rfl (.there rfl (.there rfl (.there rfl (.there rfl (.there rfl (.there rfl (.there rfl (.there rfl (.there rfl (.there rfl (.there rfl (.there rfl (.there rfl (.there rfl .here))))))))))))))))))))) (rfl) (.conse (.there rfl (.there rfl (.there rfl (.there rfl (.there rfl (.there rfl (.there rfl (.there rfl (.there rfl (.there rfl (.there rfl (.there rfl (.there rfl (.there rfl (.there rfl (.there rfl (.there rfl (.there rfl (.there rfl (.there rfl (.there rfl (.there rfl .here)))))))))))))))))))))) (rfl) (.cons (.there rfl (.there rfl (.there rfl (.there rfl (.there rfl (.there rfl (.there rfl (.there rfl (.there rfl .here))))))))) (.conse (.there rfl .here) (rfl) (.conse .here (rfl) .nil)))))) ?_
    rintro ⟨i, L2, ρ2, u1, u2, g⟩ w7 m8 ⟨hi1, hi97, Y, hKg, heg, hLc, hpr2⟩ hmu9
    show JC _ _ _ _ _ [(0, .pointer (some ⟨bb, 0, none⟩)), (2, .int .i64 (s.L.length : Int)), (3, .int .i64 (k : Int)), (4, g), (5, .int .i64 (m : Int)), (6, .int .i64 (i : Int))] _
    refine JC.seq ?_
    refine JC.seq ?_
    refine JC.region ?_
    refine JL.val rfl (Run.move (.tmp (.there rfl (.there rfl (.there rfl (.there rfl (.there rfl .here))))))) ?_
    refine JL.val rfl (Run.leq (.tmp .here) .const) ?_
    refine JL.nil ?_
    refine JE.seq ?_
    refine JC.cond (.tmp .here) (fun h96 => ?_) (fun h96 => ?_)
    · have h96 := of_decide_eq_true h96
      obtain ⟨ag, cg, hgf⟩ := kept_form hKg
      obtain ⟨n, hn⟩ : ∃ n, n = elen g := ⟨_, rfl⟩
      simp only at hgf
      rw [← hn] at hgf heg
      subst hgf
      clear hn
      have hcm2 : cnt i ≤ 9 := by unfold cnt; split <;> omega
      obtain ⟨C, K, R, G, hagr, hK1, hmk⟩ := Y
      refine JC.skip ?_
      refine JE.seq ?_
      refine JC.seq ?_
      refine JC.block ?_
      refine JC.seq ?_
      refine JC.region ?_
      refine JL.val rfl (Run.move (.tmp (.there rfl (.there rfl (.there rfl (.there rfl (.there rfl .here))))))) ?_
      refine JL.val rfl (Run.move (.tmp (.there rfl (.there rfl (.there rfl (.there rfl (.there rfl (.there rfl (.there rfl .here))))))))) ?_
      refine JL.val rfl (Run.move (.tmp (.there rfl (.there rfl (.there rfl (.there rfl (.there rfl (.there rfl (.there rfl .here))))))))) ?_
      refine JL.val rfl (Run.len @Try.underlying53 (.tmp .here)) ?_
      refine JL.call rfl (Run.call @Try.call33 (.cons (.tmp (.there rfl (.there rfl .here))) (.cons (.tmp .here) .nil))) (at_any m n hm (by omega) _) ?_
      rintro e w7 ⟨rfl, rfl⟩
      refine JRet.ret ?_
      refine JL.lit (os := [.tmp 43]) rfl @Try.underlying53 (@Try.sizeOf5 _) (@Try.zeroValue5 _) (by rfl) (by rfl) rfl rfl (by rfl) (.cons (.tmp .here) .nil) (by intro u hu; simp at hu; subst hu; rfl) ?_
      intro b10 w11 hg12 hc13 Bb10
      replace C := C.no hc13
      replace K := K.no hc13
      replace R := R.no hc13
      replace G := G.no hc13
      replace hK1 := hK1.no hc13
      replace hKg := hKg.no hc13
      refine JL.append2 rfl @Try.underlying53 @Try.underlying53 info_u8 (by rfl) (by decide) (.tmp (.there rfl (.there rfl (.there rfl (.there rfl (.there rfl .here)))))) hKg.owns (.tmp .here) Bb10 (by rfl) (by rfl) (Nat.zero_le _) (by show (n + 1) * 1 ≤ _; omega) ?_
      intro g2 w2 hO2 hc2 hx2
      have hzz := hK1.size
      obtain ⟨ρ3, hKg3, hel3, R3, hag3, hall3, hch3⟩ := kept_grown R G hKg hO2 hc2 hx2
      replace C : Core w2 ρ3 _ _ _ _ _ _ := (C.ch hch3 (fun k hk => by rw [hk]; exact fun h => by cases h)).role (fun k hk hr => by
        have hlt := (R k (by rw [hr]; exact fun h => by cases h)).2
        rw [hag3 k hlt]; exact hr)
      replace K : All w2 ρ3 L2 := fun e he => hall3 e (K e he)
      replace hK1 := hK1.comp hch3 (fun k hk hlt => .inr ⟨m, by rw [← hagr k hlt]; exact hk⟩)
      have hagr3 : ∀ k, k < w0.heap.size → ρ3 k = ρ k := fun k hk => by rw [hag3 k (by omega)]; exact hagr k hk
      replace G := G.up hch3
      clear hKg R hO2 hc2 hx2 hch3 hall3 hag3 hagr hzz Bb10
      rename Roles _ _ _ => R
      rename Kept _ _ _ => hKg
      have hel4 : elen g2 = elen x + i := by have h5 : elen g2 = n + 1 := hel3; omega
      refine JL.val rfl (Run.assign (.tmp .here)) ?_
      refine JL.nil ?_
      refine JE.seq ?_
      refine JC.seq ?_
      refine JC.region ?_
      refine JL.val rfl (Run.move (.tmp (.there rfl (.there rfl (.there rfl (.there rfl (.there rfl (.there rfl (.there rfl (.there rfl (.there rfl (.there rfl (.there rfl (.there rfl (.there rfl (.there rfl (.there rfl .here))))))))))))))))) ?_
      refine JL.val rfl (Run.lss (.tmp .here) .const) ?_
      refine JL.val rfl (Run.move (.tmp .here)) ?_
      refine JL.gsplit (dj := 48) (want := false) .here (fun g4B => ?_) (fun g4B => ?_)
      · have g4 := of_decide_eq_false g4B
        refine JL.gyesb (oj := _) (by rfl) (by rfl) .here g4B ?_
        refine JL.val rfl (Run.move (.tmp (.there rfl (.there rfl (.there rfl (.there rfl (.there rfl (.there rfl (.there rfl (.there rfl (.there rfl (.there rfl (.there rfl (.there rfl (.there rfl (.there rfl (.there rfl (.there rfl (.there rfl (.there rfl .here)))))))))))))))))))) ?_
        refine JL.gyesb (oj := _) (by rfl) (by rfl) (.there rfl .here) g4B ?_
        refine JL.val rfl (Run.rem (.tmp .here) .const (by decide) (Int.tmod_eq_emod_of_nonneg (by omega))) ?_
        refine JL.gyesb (oj := _) (by rfl) (by rfl) (.there rfl (.there rfl .here)) g4B ?_
        refine JL.val rfl (Run.eql (.tmp .here) .const) ?_
        refine JL.val rfl (Run.pickF (.tmp (.there rfl (.there rfl (.there rfl .here)))) g4B (.tmp .here)) ?_
        refine JL.nil ?_
        refine JE.seq ?_
        refine JC.cond (.tmp .here) (fun h16 => ?_) (fun h16 => ?_)
        · have h16 := eq_of_beq h16
          replace K : All w2 ρ3 (L2 ++ [(g2, m)]) := fun e he => by
            rcases List.mem_append.1 he with he | he
            · exact K e he
            · rw [List.mem_singleton.1 he]; exact hKg
          obtain ⟨ag2, cg2, hgf2⟩ := kept_form hKg
          simp only at hgf2
          obtain ⟨n2, hn2b⟩ : ∃ n2, n2 = elen g2 := ⟨_, rfl⟩
          rw [← hn2b] at hgf2 hel4
          subst hgf2
          clear hel3
          refine JC.seq ?_
          refine JC.region ?_
          refine JL.val rfl (Run.move (.tmp (.there rfl (.there rfl (.there rfl (.there rfl (.there rfl (.there rfl (.there rfl (.there rfl (.there rfl (.there rfl (.there rfl (.there rfl (.there rfl (.there rfl (.there rfl (.there rfl (.there rfl .here))))))))))))))))))) ?_
          refine JL.val rfl (Run.move (.tmp (.there rfl (.there rfl (.there rfl (.there rfl (.there rfl (.there rfl (.there rfl (.there rfl (.there rfl (.there rfl (.there rfl (.there rfl (.there rfl (.there rfl (.there rfl (.there rfl (.there rfl (.there rfl .here)))))))))))))))))))) ?_
          refine JL.val rfl (Run.nilPtr (.tmp .here)) ?_
          refine JL.val rfl (Run.fieldAddr (ft := 23) (foff := 0) (off := 0) @Try.underlying46 (by rfl) (@Try.sizeOf23 _) rfl rfl (.tmp .here)) ?_
          refine JL.val rfl (Run.loadB (@Try.isAgg23 _) (.tmp .here) (C.B) (by rfl)) ?_
          refine JL.val rfl (Run.move (.tmp (.there rfl (.there rfl (.there rfl (.there rfl (.there rfl (.there rfl (.there rfl (.there rfl (.there rfl (.there rfl (.there rfl (.there rfl .here)))))))))))))) ?_
          refine JL.lit (os := [.tmp 58]) rfl @Try.underlying23 (@Try.sizeOf53 _) (@Try.zeroValue53 _) (by rfl) (by rfl) rfl rfl (by rfl) (.cons (.tmp .here) .nil) (by simp [Value.cells]) ?_
          intro b38 w39 hg40 hc41 Bb38
          replace C := C.no hc41
          replace K := K.no hc41
          replace R := R.no hc41
          replace G := G.no hc41
          replace hK1 := hK1.no hc41
          replace hKg := hKg.no hc41
          refine JL.append2 rfl @Try.underlying23 @Try.underlying23 info_sl (by rfl) (by decide) (.tmp (.there rfl (.there rfl .here))) C.o1 (.tmp .here) Bb38 (by rfl) (by rfl) (Nat.zero_le _) (by omega) ?_
          intro v42 w43 hO44 hc45 hx46
          obtain ⟨av42, cv42, rfl⟩ := owns_form hO44
          have hBs := C.B.ch hc45 (owns_ne C.o1 C.B rfl)
          have hz1 := hK1.size
          refine JL.val rfl (Run.nilPtr (.tmp (.there rfl (.there rfl (.there rfl (.there rfl (.there rfl (.there rfl (.there rfl .here))))))))) ?_
          refine JL.val rfl (Run.fieldAddr (ft := 23) (foff := 0) (off := 0) @Try.underlying46 (by rfl) (@Try.sizeOf23 _) rfl rfl (.tmp .here)) ?_
          refine JL.storeB (@Try.sizeOf23 _) (.tmp .here) (.tmp (.there rfl (.there rfl .here))) (by rfl) (by rfl) hBs rfl ?_
          intro w47 hc48 hb49
          replace hBs := hb49; clear hb49
          refine JL.nil ?_
          refine JE.seq ?_
          refine JC.region ?_
          refine JL.val rfl (Run.move (.tmp (.there rfl (.there rfl (.there rfl (.there rfl (.there rfl (.there rfl (.there rfl (.there rfl (.there rfl (.there rfl (.there rfl (.there rfl (.there rfl (.there rfl (.there rfl (.there rfl (.there rfl (.there rfl (.there rfl (.there rfl (.there rfl (.there rfl (.there rfl (.there rfl (.there rfl (.there rfl (.there rfl .here))))))))))))))))))))))))))))) ?_
          refine JL.val rfl (Run.move (.tmp (.there rfl (.there rfl (.there rfl (.there rfl (.there rfl (.there rfl (.there rfl (.there rfl (.there rfl (.there rfl (.there rfl (.there rfl (.there rfl (.there rfl (.there rfl (.there rfl (.there rfl (.there rfl (.there rfl (.there rfl (.there rfl (.there rfl (.there rfl (.there rfl (.there rfl (.there rfl (.there rfl (.there rfl .here)))))))))))))))))))))))))))))) ?_
          refine JL.val rfl (Run.nilPtr (.tmp .here)) ?_
          refine JL.val rfl (Run.fieldAddr (ft := 27) (foff := 1) (off := 1) @Try.underlying46 (by rfl) (@Try.sizeOf27 _) rfl rfl (.tmp .here)) ?_
          refine JL.val rfl (Run.loadB (@Try.isAgg27 _) (.tmp .here) hBs (by rfl)) ?_
          refine JL.val rfl (Run.move (.tmp (.there rfl (.there rfl (.there rfl (.there rfl (.there rfl (.there rfl (.there rfl (.there rfl (.there rfl (.there rfl (.there rfl (.there rfl (.there rfl (.there rfl (.there rfl (.there rfl (.there rfl (.there rfl (.there rfl (.there rfl (.there rfl (.there rfl (.there rfl (.there rfl (.there rfl (.there rfl (.there rfl (.there rfl (.there rfl (.there rfl (.there rfl (.there rfl (.there rfl (.there rfl (.there rfl (.there rfl .here)))))))))))))))))))))))))))))))))))))) ?_
          obtain ⟨C2, K2, R2, hag1, hp1⟩ := core_put1 (x := (Value.slice ag2 n2 cg2)) (mm := m) C K R G hO44 hc45 hx46 hc48 hBs
          replace hK1 := hK1.comp hp1 (fun k hk hlt => .inl (by rw [← hagr3 k hlt]; exact hk))
          have hag5 : ∀ k, k < w0.heap.size → _ = ρ k := fun k hk => (hag1 k (by omega)).trans (hagr3 k hk)
          replace G := G.up hp1
          have hKm := hKg
          clear C K R hBs hKg
          rename Core _ _ _ _ _ _ _ _ => C
          rename All _ _ _ => K
          rename Roles _ _ _ => R
          refine JL.lit (os := [.tmp 68]) rfl @Try.underlying27 (@Try.sizeOf3 _) (@Try.zeroValue3 _) (by rfl) (by rfl) rfl rfl (by rfl) (.cons (.tmp .here) .nil) (by simp [Value.cells]) ?_
          intro b50 w51 hg52 hc53 Bb50
          replace C := C.no hc53
          replace K := K.no hc53
          replace R := R.no hc53
          replace G := G.no hc53
          replace hK1 := hK1.no hc53
          refine JL.append2 rfl @Try.underlying27 @Try.underlying27 info_int (by rfl) (by decide) (.tmp (.there rfl (.there rfl .here))) C.o2 (.tmp .here) Bb50 (by rfl) (by rfl) (Nat.zero_le _) (by omega) ?_
          intro v54 w55 hO56 hc57 hx58
          obtain ⟨av54, cv54, rfl⟩ := owns_form hO56
          have hBs := C.B.ch hc57 (owns_ne C.o2 C.B rfl)
          have hz2 := hK1.size
          refine JL.val rfl (Run.nilPtr (.tmp (.there rfl (.there rfl (.there rfl (.there rfl (.there rfl (.there rfl (.there rfl .here))))))))) ?_
          refine JL.val rfl (Run.fieldAddr (ft := 27) (foff := 1) (off := 1) @Try.underlying46 (by rfl) (@Try.sizeOf27 _) rfl rfl (.tmp .here)) ?_
          refine JL.storeB (@Try.sizeOf27 _) (.tmp .here) (.tmp (.there rfl (.there rfl .here))) (by rfl) (by rfl) hBs rfl ?_
          intro w59 hc60 hb61
          replace hBs := hb61; clear hb61
          refine JL.nil ?_
          refine JE.blk ?_
          refine JE.seq ?_
          refine JC.region ?_
          refine JL.val rfl (Run.move (.tmp (.there rfl (.there rfl (.there rfl (.there rfl (.there rfl (.there rfl (.there rfl (.there rfl (.there rfl (.there rfl (.there rfl (.there rfl (.there rfl (.there rfl (.there rfl (.there rfl (.there rfl (.there rfl (.there rfl (.there rfl (.there rfl (.there rfl (.there rfl (.there rfl (.there rfl (.there rfl (.there rfl (.there rfl (.there rfl (.there rfl (.there rfl (.there rfl (.there rfl (.there rfl (.there rfl (.there rfl (.there rfl (.there rfl (.there rfl (.there rfl (.there rfl (.there rfl .here)))))))))))))))))))))))))))))))))))))))))))) ?_
          refine JL.val rfl (Run.add (.tmp .here) .const (wrap_i64 (by omega))) ?_
          refine JL.val rfl (Run.assign (.tmp .here)) ?_
          refine JL.nil ?_
          obtain ⟨C2, K2, R2, hag2, hp2⟩ := core_put2 (x := (Value.slice ag2 n2 cg2)) (mm := m) C K R G hO56 hc57 hx58 hc60 hBs
          replace hK1 := hK1.comp hp2 (fun k hk hlt => .inl (by rw [← hag5 k hlt]; exact hk))
          replace G := G.up hp2
          have hag6 : ∀ k, k < w0.heap.size → _ = ρ k := fun k hk => (hag2 k (by omega)).trans (hag5 k hk)
          have hcp := cnt_push hi1 (.inr (by omega))
          exact JE.again (i + 1, L2 ++ [((Value.slice ag2 n2 cg2), m)], _, _, _, (Value.slice ag2 n2 cg2)) (.cons (.there rfl (.there rfl (.there rfl (.there rfl (.there rfl (.there rfl (.there rfl (.there rfl (.there rfl (.there rfl (.there rfl (.there rfl (.there rfl (.there rfl (.there rfl (.there rfl (.there rfl (.there rfl (.there rfl (.there rfl (.there rfl (.there rfl (.there rfl (.there rfl (.there rfl (.there rfl (.there rfl (.there rfl (.there rfl (.there rfl (.there rfl (.there rfl (.there rfl (.there rfl (.there rfl (.there rfl (.there rfl (.there rfl (.there rfl (.there rfl .here)))))))))))))))))))))))))))))))))))))))) (.cons (.there rfl (.there rfl (.there rfl (.there rfl (.there rfl (.there rfl (.there rfl (.there rfl (.there rfl (.there rfl (.there rfl (.there rfl (.there rfl (.there rfl (.there rfl (.there rfl (.there rfl (.there rfl (.there rfl (.there rfl (.there rfl (.there rfl (.there rfl (.there rfl (.there rfl (.there rfl (.there rfl (.there rfl (.there rfl (.there rfl (.there rfl (.there rfl (.there rfl (.there rfl (.there rfl (.there rfl (.there rfl (.there rfl (.there rfl (.there rfl (.there rfl .here))))))))))))))))))))))))))))))))))))))))) (.cons (.there rfl (.there rfl (.there rfl (.there rfl (.there rfl (.there rfl (.there rfl (.there rfl (.there rfl (.there rfl (.there rfl (.there rfl (.there rfl (.there rfl (.there rfl (.there rfl (.there rfl (.there rfl (.there rfl (.there rfl (.there rfl (.there rfl (.there rfl (.there rfl (.there rfl (.there rfl (.there rfl (.there rfl (.there rfl (.there rfl (.there rfl (.there rfl (.there rfl (.there rfl (.there rfl (.there rfl (.there rfl (.there rfl (.there rfl (.there rfl (.there rfl (.there rfl .here)))))))))))))))))))))))))))))))))))))))))) (.cons (.there rfl (.there rfl (.there rfl (.there rfl (.there rfl (.there rfl (.there rfl (.there rfl (.there rfl (.there rfl (.there rfl (.there rfl (.there rfl (.there rfl (.there rfl (.there rfl (.there rfl (.there rfl (.there rfl (.there rfl (.there rfl (.there rfl (.there rfl (.there rfl (.there rfl (.there rfl (.there rfl (.there rfl (.there rfl (.there rfl .here)))))))))))))))))))))))))))))) (.cons (.there rfl (.there rfl (.there rfl (.there rfl (.there rfl (.there rfl (.there rfl (.there rfl (.there rfl (.there rfl (.there rfl (.there rfl (.there rfl (.there rfl (.there rfl (.there rfl (.there rfl (.there rfl (.there rfl (.there rfl (.there rfl (.there rfl (.there rfl (.there rfl (.there rfl (.there rfl (.there rfl (.there rfl (.there rfl (.there rfl (.there rfl (.there rfl (.there rfl (.there rfl (.there rfl (.there rfl (.there rfl (.there rfl (.there rfl (.there rfl (.there rfl (.there rfl (.there rfl (.there rfl .here)))))))))))))))))))))))))))))))))))))))))))) (.conse .here (rfl) .nil)))))) (⟨by omega, by omega, ⟨C2, K2, R2, G, hag6, hK1, fun e he => by
  rcases List.mem_append.1 he with he | he
  · exact hmk e he
  · rw [List.mem_singleton.1 he]; exact hm⟩, K2 _ (by simp), by show n2 = _; omega, by simp; omega, fun j hj => by rw [List.getElem?_append_left (by have h6 := hpr2 j hj; rw [List.getElem?_eq_getElem hj] at h6; exact (List.getElem?_eq_some_iff.1 h6).1)]; exact hpr2 j hj⟩) (by simp only [hmu9]; omega)
        · have hcs := cnt_skip hi1
          refine JC.skip ?_
          refine JE.blk ?_
          refine JE.seq ?_
          refine JC.region ?_
          refine JL.val rfl (Run.move (.tmp (.there rfl (.there rfl (.there rfl (.there rfl (.there rfl (.there rfl (.there rfl (.there rfl (.there rfl (.there rfl (.there rfl (.there rfl (.there rfl (.there rfl (.there rfl (.there rfl (.there rfl (.there rfl (.there rfl (.there rfl (.there rfl (.there rfl .here)))))))))))))))))))))))) ?_
          refine JL.val rfl (Run.add (.tmp .here) .const (wrap_i64 (by omega))) ?_
          refine JL.val rfl (Run.assign (.tmp .here)) ?_
          refine JL.nil ?_
          exact JE.again (i + 1, L2, ρ3, _, _, g2) (.cons (.there rfl (.there rfl (.there rfl (.there rfl (.there rfl (.there rfl (.there rfl (.there rfl (.there rfl (.there rfl (.there rfl (.there rfl (.there rfl (.there rfl (.there rfl (.there rfl (.there rfl (.there rfl (.there rfl (.there rfl .here)))))))))))))))))))) (.cons (.there rfl (.there rfl (.there rfl (.there rfl (.there rfl (.there rfl (.there rfl (.there rfl (.there rfl (.there rfl (.there rfl (.there rfl (.there rfl (.there rfl (.there rfl (.there rfl (.there rfl (.there rfl (.there rfl (.there rfl (.there rfl .here))))))))))))))))))))) (.cons (.there rfl (.there rfl (.there rfl (.there rfl (.there rfl (.there rfl (.there rfl (.there rfl (.there rfl (.there rfl (.there rfl (.there rfl (.there rfl (.there rfl (.there rfl (.there rfl (.there rfl (.there rfl (.there rfl (.there rfl (.there rfl (.there rfl .here)))))))))))))))))))))) (.cons (.there rfl (.there rfl (.there rfl (.there rfl (.there rfl (.there rfl (.there rfl (.there rfl (.there rfl (.there rfl .here)))))))))) (.cons (.there rfl (.there rfl (.there rfl (.there rfl (.there rfl (.there rfl (.there rfl (.there rfl (.there rfl (.there rfl (.there rfl (.there rfl (.there rfl (.there rfl (.there rfl (.there rfl (.there rfl (.there rfl (.there rfl (.there rfl (.there rfl (.there rfl (.there rfl (.there rfl .here)))))))))))))))))))))))) (.conse .here (rfl) .nil)))))) (⟨by omega, by omega, ⟨C, K, R, G, hagr3, hK1, hmk⟩, hKg, by omega, by omega, hpr2⟩) (by simp only [hmu9]; omega)
      · have g4 := of_decide_eq_true g4B
        refine JL.gnob rfl (oj := _) (by rfl) (by rfl) .here g4B ?_
        refine JL.gnob rfl (oj := _) (by rfl) (by rfl) (.there rfl .here) g4B ?_
        refine JL.gnob rfl (oj := _) (by rfl) (by rfl) (.there rfl (.there rfl .here)) g4B ?_
        refine JL.val rfl (Run.pickT (.tmp (.there rfl (.there rfl (.there rfl .here)))) g4B .const) ?_
        refine JL.nil ?_
        refine JE.seq ?_
        refine JC.condT (.tmp .here) (rfl) ?_
        replace K : All w2 ρ3 (L2 ++ [(g2, m)]) := fun e he => by
          rcases List.mem_append.1 he with he | he
          · exact K e he
          · rw [List.mem_singleton.1 he]; exact hKg
        obtain ⟨ag2, cg2, hgf2⟩ := kept_form hKg
        simp only at hgf2
        obtain ⟨n2, hn2b⟩ : ∃ n2, n2 = elen g2 := ⟨_, rfl⟩
        rw [← hn2b] at hgf2 hel4
        subst hgf2
        clear hel3
        refine JC.seq ?_
        refine JC.region ?_
        refine JL.val rfl (Run.move (.tmp (.there rfl (.there rfl (.there rfl (.there rfl (.there rfl (.there rfl (.there rfl (.there rfl (.there rfl (.there rfl (.there rfl (.there rfl (.there rfl (.there rfl (.there rfl (.there rfl (.there rfl .here))))))))))))))))))) ?_
        refine JL.val rfl (Run.move (.tmp (.there rfl (.there rfl (.there rfl (.there rfl (.there rfl (.there rfl (.there rfl (.there rfl (.there rfl (.there rfl (.there rfl (.there rfl (.there rfl (.there rfl (.there rfl (.there rfl (.there rfl (.there rfl .here)))))))))))))))))))) ?_
        refine JL.val rfl (Run.nilPtr (.tmp .here)) ?_
        refine JL.val rfl (Run.fieldAddr (ft := 23) (foff := 0) (off := 0) @Try.underlying46 (by rfl) (@Try.sizeOf23 _) rfl rfl (.tmp .here)) ?_
        refine JL.val rfl (Run.loadB (@Try.isAgg23 _) (.tmp .here) (C.B) (by rfl)) ?_
        refine JL.val rfl (Run.move (.tmp (.there rfl (.there rfl (.there rfl (.there rfl (.there rfl (.there rfl (.there rfl (.there rfl (.there rfl (.there rfl (.there rfl (.there rfl .here)))))))))))))) ?_
        refine JL.lit (os := [.tmp 58]) rfl @Try.underlying23 (@Try.sizeOf53 _) (@Try.zeroValue53 _) (by rfl) (by rfl) rfl rfl (by rfl) (.cons (.tmp .here) .nil) (by simp [Value.cells]) ?_
        intro b14 w15 hg16 hc17 Bb14
        replace C := C.no hc17
        replace K := K.no hc17
        replace R := R.no hc17
        replace G := G.no hc17
        replace hK1 := hK1.no hc17
        replace hKg := hKg.no hc17
        refine JL.append2 rfl @Try.underlying23 @Try.underlying23 info_sl (by rfl) (by decide) (.tmp (.there rfl (.there rfl .here))) C.o1 (.tmp .here) Bb14 (by rfl) (by rfl) (Nat.zero_le _) (by omega) ?_
        intro v18 w19 hO20 hc21 hx22
        obtain ⟨av18, cv18, rfl⟩ := owns_form hO20
        have hBs := C.B.ch hc21 (owns_ne C.o1 C.B rfl)
        have hz1 := hK1.size
        refine JL.val rfl (Run.nilPtr (.tmp (.there rfl (.there rfl (.there rfl (.there rfl (.there rfl (.there rfl (.there rfl .here))))))))) ?_
        refine JL.val rfl (Run.fieldAddr (ft := 23) (foff := 0) (off := 0) @Try.underlying46 (by rfl) (@Try.sizeOf23 _) rfl rfl (.tmp .here)) ?_
        refine JL.storeB (@Try.sizeOf23 _) (.tmp .here) (.tmp (.there rfl (.there rfl .here))) (by rfl) (by rfl) hBs rfl ?_
        intro w23 hc24 hb25
        replace hBs := hb25; clear hb25
        refine JL.nil ?_
        refine JE.seq ?_
        refine JC.region ?_
        refine JL.val rfl (Run.move (.tmp (.there rfl (.there rfl (.there rfl (.there rfl (.there rfl (.there rfl (.there rfl (.there rfl (.there rfl (.there rfl (.there rfl (.there rfl (.there rfl (.there rfl (.there rfl (.there rfl (.there rfl (.there rfl (.there rfl (.there rfl (.there rfl (.there rfl (.there rfl (.there rfl (.there rfl (.there rfl (.there rfl .here))))))))))))))))))))))))))))) ?_
        refine JL.val rfl (Run.move (.tmp (.there rfl (.there rfl (.there rfl (.there rfl (.there rfl (.there rfl (.there rfl (.there rfl (.there rfl (.there rfl (.there rfl (.there rfl (.there rfl (.there rfl (.there rfl (.there rfl (.there rfl (.there rfl (.there rfl (.there rfl (.there rfl (.there rfl (.there rfl (.there rfl (.there rfl (.there rfl (.there rfl (.there rfl .here)))))))))))))))))))))))))))))) ?_
        refine JL.val rfl (Run.nilPtr (.tmp .here)) ?_
        refine JL.val rfl (Run.fieldAddr (ft := 27) (foff := 1) (off := 1) @Try.underlying46 (by rfl) (@Try.sizeOf27 _) rfl rfl (.tmp .here)) ?_
        refine JL.val rfl (Run.loadB (@Try.isAgg27 _) (.tmp .here) hBs (by rfl)) ?_
        refine JL.val rfl (Run.move (.tmp (.there rfl (.there rfl (.there rfl (.there rfl (.there rfl (.there rfl (.there rfl (.there rfl (.there rfl (.there rfl (.there rfl (.there rfl (.there rfl (.there rfl (.there rfl (.there rfl (.there rfl (.there rfl (.there rfl (.there rfl (.there rfl (.there rfl (.there rfl (.there rfl (.there rfl (.there rfl (.there rfl (.there rfl (.there rfl (.there rfl (.there rfl (.there rfl (.there rfl (.there rfl (.there rfl (.there rfl .here)))))))))))))))))))))))))))))))))))))) ?_
        obtain ⟨C2, K2, R2, hag1, hp1⟩ := core_put1 (x := (Value.slice ag2 n2 cg2)) (mm := m) C K R G hO20 hc21 hx22 hc24 hBs
        replace hK1 := hK1.comp hp1 (fun k hk hlt => .inl (by rw [← hagr3 k hlt]; exact hk))
        have hag5 : ∀ k, k < w0.heap.size → _ = ρ k := fun k hk => (hag1 k (by omega)).trans (hagr3 k hk)
        replace G := G.up hp1
        have hKm := hKg
        clear C K R hBs hKg
        rename Core _ _ _ _ _ _ _ _ => C
        rename All _ _ _ => K
        rename Roles _ _ _ => R
        refine JL.lit (os := [.tmp 68]) rfl @Try.underlying27 (@Try.sizeOf3 _) (@Try.zeroValue3 _) (by rfl) (by rfl) rfl rfl (by rfl) (.cons (.tmp .here) .nil) (by simp [Value.cells]) ?_
        intro b26 w27 hg28 hc29 Bb26
        replace C := C.no hc29
        replace K := K.no hc29
        replace R := R.no hc29
        replace G := G.no hc29
        replace hK1 := hK1.no hc29
        refine JL.append2 rfl @Try.underlying27 @Try.underlying27 info_int (by rfl) (by decide) (.tmp (.there rfl (.there rfl .here))) C.o2 (.tmp .here) Bb26 (by rfl) (by rfl) (Nat.zero_le _) (by omega) ?_
        intro v30 w31 hO32 hc33 hx34
        obtain ⟨av30, cv30, rfl⟩ := owns_form hO32
        have hBs := C.B.ch hc33 (owns_ne C.o2 C.B rfl)
        have hz2 := hK1.size
        refine JL.val rfl (Run.nilPtr (.tmp (.there rfl (.there rfl (.there rfl (.there rfl (.there rfl (.there rfl (.there rfl .here))))))))) ?_
        refine JL.val rfl (Run.fieldAddr (ft := 27) (foff := 1) (off := 1) @Try.underlying46 (by rfl) (@Try.sizeOf27 _) rfl rfl (.tmp .here)) ?_
        refine JL.storeB (@Try.sizeOf27 _) (.tmp .here) (.tmp (.there rfl (.there rfl .here))) (by rfl) (by rfl) hBs rfl ?_
        intro w35 hc36 hb37
        replace hBs := hb37; clear hb37
        refine JL.nil ?_
        refine JE.blk ?_
        refine JE.seq ?_
        refine JC.region ?_
        refine JL.val rfl (Run.move (.tmp (.there rfl (.there rfl (.there rfl (.there rfl (.there rfl (.there rfl (.there rfl (.there rfl (.there rfl (.there rfl (.there rfl (.there rfl (.there rfl (.there rfl (.there rfl (.there rfl (.there rfl (.there rfl (.there rfl (.there rfl (.there rfl (.there rfl (.there rfl (.there rfl (.there rfl (.there rfl (.there rfl (.there rfl (.there rfl (.there rfl (.there rfl (.there rfl (.there rfl (.there rfl (.there rfl (.there rfl (.there rfl (.there rfl (.there rfl (.there rfl (.there rfl (.there rfl .here)))))))))))))))))))))))))))))))))))))))))))) ?_
        refine JL.val rfl (Run.add (.tmp .here) .const (wrap_i64 (by omega))) ?_
        refine JL.val rfl (Run.assign (.tmp .here)) ?_
        refine JL.nil ?_
        obtain ⟨C2, K2, R2, hag2, hp2⟩ := core_put2 (x := (Value.slice ag2 n2 cg2)) (mm := m) C K R G hO32 hc33 hx34 hc36 hBs
        replace hK1 := hK1.comp hp2 (fun k hk hlt => .inl (by rw [← hag5 k hlt]; exact hk))
        replace G := G.up hp2
        have hag6 : ∀ k, k < w0.heap.size → _ = ρ k := fun k hk => (hag2 k (by omega)).trans (hag5 k hk)
        have hcp := cnt_push hi1 (.inl (by omega))
        exact JE.again (i + 1, L2 ++ [((Value.slice ag2 n2 cg2), m)], _, _, _, (Value.slice ag2 n2 cg2)) (.cons (.there rfl (.there rfl (.there rfl (.there rfl (.there rfl (.there rfl (.there rfl (.there rfl (.there rfl (.there rfl (.there rfl (.there rfl (.there rfl (.there rfl (.there rfl (.there rfl (.there rfl (.there rfl (.there rfl (.there rfl (.there rfl (.there rfl (.there rfl (.there rfl (.there rfl (.there rfl (.there rfl (.there rfl (.there rfl (.there rfl (.there rfl (.there rfl (.there rfl (.there rfl (.there rfl (.there rfl (.there rfl (.there rfl (.there rfl (.there rfl .here)))))))))))))))))))))))))))))))))))))))) (.cons (.there rfl (.there rfl (.there rfl (.there rfl (.there rfl (.there rfl (.there rfl (.there rfl (.there rfl (.there rfl (.there rfl (.there rfl (.there rfl (.there rfl (.there rfl (.there rfl (.there rfl (.there rfl (.there rfl (.there rfl (.there rfl (.there rfl (.there rfl (.there rfl (.there rfl (.there rfl (.there rfl (.there rfl (.there rfl (.there rfl (.there rfl (.there rfl (.there rfl (.there rfl (.there rfl (.there rfl (.there rfl (.there rfl (.there rfl (.there rfl (.there rfl .here))))))))))))))))))))))))))))))))))))))))) (.cons (.there rfl (.there rfl (.there rfl (.there rfl (.there rfl (.there rfl (.there rfl (.there rfl (.there rfl (.there rfl (.there rfl (.there rfl (.there rfl (.there rfl (.there rfl (.there rfl (.there rfl (.there rfl (.there rfl (.there rfl (.there rfl (.there rfl (.there rfl (.there rfl (.there rfl (.there rfl (.there rfl (.there rfl (.there rfl (.there rfl (.there rfl (.there rfl (.there rfl (.there rfl (.there rfl (.there rfl (.there rfl (.there rfl (.there rfl (.there rfl (.there rfl (.there rfl .here)))))))))))))))))))))))))))))))))))))))))) (.cons (.there rfl (.there rfl (.there rfl (.there rfl (.there rfl (.there rfl (.there rfl (.there rfl (.there rfl (.there rfl (.there rfl (.there rfl (.there rfl (.there rfl (.there rfl (.there rfl (.there rfl (.there rfl (.there rfl (.there rfl (.there rfl (.there rfl (.there rfl (.there rfl (.there rfl (.there rfl (.there rfl (.there rfl (.there rfl (.there rfl .here)))))))))))))))))))))))))))))) (.cons (.there rfl (.there rfl (.there rfl (.there rfl (.there rfl (.there rfl (.there rfl (.there rfl (.there rfl (.there rfl (.there rfl (.there rfl (.there rfl (.there rfl (.there rfl (.there rfl (.there rfl (.there rfl (.there rfl (.there rfl (.there rfl (.there rfl (.there rfl (.there rfl (.there rfl (.there rfl (.there rfl (.there rfl (.there rfl (.there rfl (.there rfl (.there rfl (.there rfl (.there rfl (.there rfl (.there rfl (.there rfl (.there rfl (.there rfl (.there rfl (.there rfl (.there rfl (.there rfl (.there rfl .here)))))))))))))))))))))))))))))))))))))))))))) (.conse .here (rfl) .nil)))))) (⟨by omega, by omega, ⟨C2, K2, R2, G, hag6, hK1, fun e he => by
  rcases List.mem_append.1 he with he | he
  · exact hmk e he
  · rw [List.mem_singleton.1 he]; exact hm⟩, K2 _ (by simp), by show n2 = _; omega, by simp; omega, fun j hj => by rw [List.getElem?_append_left (by have h6 := hpr2 j hj; rw [List.getElem?_eq_getElem hj] at h6; exact (List.getElem?_eq_some_iff.1 h6).1)]; exact hpr2 j hj⟩) (by simp only [hmu9]; omega)
    · have h96 := of_decide_eq_false h96
      have hc97 : cnt i = 9 := by rw [show i = 97 from by omega]; rfl
      refine JC.exit ?_
      refine JE.exit_seq ?_
      refine JE.exit_seq ?_
      refine JE.exit_here ?_
      refine JE.blk ?_
      refine JE.seq ?_
      refine JC.region ?_
      refine JL.val rfl (Run.move (.tmp (.there rfl (.there rfl (.there rfl (.there rfl .here)))))) ?_
      refine JL.val rfl (Run.add (.tmp .here) .const (wrap_i64 (by omega))) ?_
      refine JL.val rfl (Run.assign (.tmp .here)) ?_
      refine JL.nil ?_
      exact JE.again (k + 1, L2, ρ2, u1, u2) (.cons (.there rfl (.there rfl (.there rfl (.there rfl (.there rfl .here))))) (.cons (.there rfl (.there rfl (.there rfl (.there rfl (.there rfl (.there rfl .here)))))) (.conse .here (rfl) .nil))) (⟨by omega, by omega, Y, by omega, fun j hj => by rw [hpr2 j (by have h6 := hpre j hj; rw [List.getElem?_eq_getElem hj] at h6; exact (List.getElem?_eq_some_iff.1 h6).1)]; exact hpre j hj⟩) (by simp only [hmu3]; omega)
  · have hlt := of_decide_eq_false hlt
    have hkk : k = s.L.length := by omega
    obtain ⟨b1, d1, rfl⟩ := owns_form Y.C.o1
    have hBs := Y.C.B
    refine JC.exit ?_
    refine JE.exit_seq ?_
    refine JE.exit_seq ?_
    refine JE.exit_here ?_
    refine JE.seq ?_
    refine JC.region ?_
    refine JL.val rfl (Run.move (.tmp (.there rfl (.there rfl (.there rfl .here))))) ?_
    refine JL.val rfl (Run.move (.tmp (.there rfl (.there rfl (.there rfl (.there rfl .here)))))) ?_
    refine JL.val rfl (Run.nilPtr (.tmp .here)) ?_
    refine JL.val rfl (Run.fieldAddr (ft := 23) (foff := 0) (off := 0) @Try.underlying46 (by rfl) (@Try.sizeOf23 _) rfl rfl (.tmp .here)) ?_
    refine JL.val rfl (Run.loadB (@Try.isAgg23 _) (.tmp .here) hBs (by rfl)) ?_
    refine JL.val rfl (Run.len @Try.underlying23 (.tmp .here)) ?_
    refine JL.val rfl (Run.nilPtr (.tmp (.there rfl (.there rfl (.there rfl (.there rfl (.there rfl .here))))))) ?_
    refine JL.val rfl (Run.fieldAddr (ft := 3) (foff := 2) (off := 2) @Try.underlying46 (by rfl) (@Try.sizeOf3 _) rfl rfl (.tmp .here)) ?_
    refine JL.storeB (@Try.sizeOf3 _) (.tmp .here) (.tmp (.there rfl (.there rfl .here))) (by rfl) (by rfl) hBs rfl ?_
    intro w4 hc5 hb6
    replace hBs := hb6; clear hb6
    refine JL.nil ?_
    refine JE.keep (L := _) .nil ?_
    refine JE.end0 @Try.results40 ?_
    exact ⟨_, u2, { s with L := L, at_ := L.length }, ρ1, rfl, ⟨hBs, Y.C.rb, (Y.C.o1.ch hc5 (fun k hk hs => by have hs2 : k = bb := hs; subst hs2; exact owns_ne Y.C.o1 Y.C.B rfl hk)), Y.C.i1, (Y.C.o2.ch hc5 (fun k hk hs => by have hs2 : k = bb := hs; subst hs2; exact owns_ne Y.C.o2 Y.C.B rfl hk)), Y.C.i2⟩, Y.K.ch hc5 (fun k m hk => by have hk2 : k = bb := hk; rw [hk2, Y.C.rb]; exact fun h => by cases h), Y.R.up hc5.size, Y.ag, Y.ch.comp hc5 (fun k hk hl => by have hk2 : k = bb := hk; rw [hk2] at hl ⊢; exact .inl (by rw [← Y.ag bb hl]; exact Y.C.rb)), rfl, rfl, rfl, rfl, (by rw [hkk] at hLL; exact hLL), Y.mks⟩

end Go.Proofs.Ytggngmmbpkoooaa.Bk
