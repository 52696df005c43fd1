/- Contracts of the functions on answers that nobody has written into yet. -/
import Derived.Test.YtggngmmbpkoooaaLt
namespace Go.Proofs.Ytggngmmbpkoooaa.Bk
open Go Go.Proofs.Ytggngmmbpkoooaa.Eng Go.Proofs.Ytggngmmbpkoooaa.Hd
set_option linter.unusedVariables false
set_option linter.unusedSimpArgs false
set_option maxRecDepth 4000
theorem LateOk.swap1 {w : World} {ρ : Nat → Role} {tb : Nat} {g1 g2 : Value} {G G2 : List Ent} {e e' : Ent} (h : LateOk w ρ tb g1 g2 (G ++ [e]) G2) (he : e'.1 = e.1) : LateOk w ρ tb g1 g2 (G ++ [e']) G2 :=
  ⟨h.B, h.rb, by have := h.o1; simp only [List.length_append, List.length_singleton, List.map_append, List.map_cons, List.map_nil] at this ⊢; rw [he]; exact this, h.i1, h.o2, h.i2⟩
theorem isL_of {ρ : Nat → Role} {k : Nat} (h : isL ρ k) : ρ k ≠ .text ∧ ∀ i, ρ k ≠ .fresh i := by
  rcases h with h | h | h <;> rw [h] <;> exact ⟨fun h => (by cases h), fun i h => (by cases h)⟩
theorem Ents.put {w w2 : World} {ρ ρ' : Nat → Role} {base : Nat} {G : List Ent} (E : Ents w ρ G) (R : Roles w base ρ) (hp : Ch (isL ρ) w w2) (hag : ∀ k, k < w.heap.size → ρ' k = ρ k) : Ents w2 ρ' G :=
  (E.ch hp (fun k hk => isL_of hk)).role (fun k hk => (hag k (R k (by rw [hk]; exact fun h => by cases h)).2).trans hk) (fun k i hk => (hag k (R k (by rw [hk]; exact fun h => by cases h)).2).trans hk)

set_option maxHeartbeats 4000000 in
theorem add_any {ρ : Nat → Role} {tb base n : Nat} {g1 g2 xv yv : Value} {G : List Ent} {l : List UInt8} (w0 : World) (D : LateOk w0 ρ tb g1 g2 G G) (E : Ents w0 ρ G) (R : Roles w0 base ρ) (Gb : AtLeast w0 base) (hX : Owns w0 0 5 1 xv n (l.map bv)) (hF : inB ρ xv (.fresh G.length)) (hY : SlB w0 yv l) (hYr : ∀ k, ownB yv k → ¬ isL ρ k) (hG : G.length ≤ 1099511627776) (hl : l.length ≤ 1099511627776) :
    Calls Try.prog 10 #[.pointer (some ⟨tb, 0, none⟩), xv, yv] w0 fun e w' => ∃ g1' g2' y' ρ', e = .returned (.tuple #[]) ∧ LateOk w' ρ' tb g1' g2' (G ++ [(xv, y', l)]) (G ++ [(xv, y', l)]) ∧ Ents w' ρ' (G ++ [(xv, y', l)]) ∧ Roles w' base ρ' ∧ AtLeast w' base ∧ (∀ k, k < w0.heap.size → ρ' k = ρ k) ∧ Ch (isL ρ) w0 w' := by
  obtain ⟨a, cap, rfl⟩ := owns_form hX
  have hK : Ch (isL ρ) w0 w0 := Ch.refl w0
  have hX0 := hX
  refine calls @Try.func10 rfl @Try.ntmps10 rfl ?_
  show JC _ _ _ _ _ [(0, .pointer (some ⟨tb, 0, none⟩)), (1, .slice a n cap), (2, yv)] _
  refine JC.seq ?_
  refine JC.region ?_
  refine JL.val rfl (Run.move (.tmp .here)) ?_
  refine JL.val rfl (Run.move (.tmp (.there rfl .here))) ?_
  refine JL.val rfl (Run.nilPtr (.tmp .here)) ?_
  refine JL.val rfl (Run.fieldAddr (ft := 23) (foff := 0) (off := 0) @Try.underlying49 (by rfl) (@Try.sizeOf23 _) rfl rfl (.tmp .here)) ?_
  refine JL.val rfl (Run.loadB (@Try.isAgg23 _) (.tmp .here) (D.B) (by rfl)) ?_
  refine JL.val rfl (Run.move (.tmp (.there rfl (.there rfl (.there rfl (.there rfl (.there rfl (.there rfl .here)))))))) ?_
  refine JL.lit (os := [.tmp 11]) rfl @Try.underlying23 (@Try.sizeOf53 _) (@Try.zeroValue53 _) (by rfl) (by rfl) rfl rfl (by rfl) (.cons (.tmp .here) .nil) (by simp [Value.cells]) ?_
  intro b1 w2 hg3 hc4 Bb1
  replace D := D.no hc4
  replace E := E.no hc4
  replace R := R.no hc4
  replace Gb := Gb.no hc4
  replace hX := hX.no hc4
  replace hY := hY.no hc4
  replace hK := hK.no hc4
  refine JL.append2 rfl @Try.underlying23 @Try.underlying23 info_sl (by rfl) (by decide) (.tmp (.there rfl (.there rfl .here))) D.o1 (.tmp .here) Bb1 (by rfl) (by rfl) (Nat.zero_le _) (by omega) ?_
  intro v1 wa hO1 hc1 hx1
  obtain ⟨av1, cv1, rfl⟩ := owns_form hO1
  have hBs := D.B.ch hc1 (owns_ne D.o1 D.B rfl)
  have hz1 := hK.size
  refine JL.val rfl (Run.nilPtr (.tmp (.there rfl (.there rfl (.there rfl (.there rfl (.there rfl (.there rfl (.there rfl .here))))))))) ?_
  refine JL.val rfl (Run.fieldAddr (ft := 23) (foff := 0) (off := 0) @Try.underlying49 (by rfl) (@Try.sizeOf23 _) rfl rfl (.tmp .here)) ?_
  refine JL.storeB (@Try.sizeOf23 _) (.tmp .here) (.tmp (.there rfl (.there rfl .here))) (by rfl) (by rfl) hBs rfl ?_
  intro w5 hc6 hb7
  replace hBs := hb7; clear hb7
  refine JL.nil ?_
  refine JE.keep (L := _) (.cons (.there rfl (.there rfl (.there rfl (.there rfl (.there rfl (.there rfl (.there rfl (.there rfl (.there rfl (.there rfl .here)))))))))) (.cons (.there rfl (.there rfl (.there rfl (.there rfl (.there rfl (.there rfl (.there rfl (.there rfl (.there rfl (.there rfl (.there rfl (.there rfl .here)))))))))))) .nil)) ?_
  refine JE.seq ?_
  obtain ⟨D1, R1, hag1, hp1⟩ := late_put1 (e := (.slice a n cap, .slice none 0 0, l)) D R Gb rfl hO1 hc1 hx1 hc6 hBs
  replace E := E.put R hp1 hag1
  replace hX := hX.ch hp1 (fun k hk hs => (isL_of hs).2 _ (hF k hk))
  replace hY := hY.ch hp1 (fun k hk hs => hYr k hk hs)
  replace hK := hK.comp hp1 (fun k hk _ => hk)
  replace Gb := Gb.up hp1
  obtain ⟨u1, hu1⟩ : ∃ u, u = Value.slice av1 (G.length + 1) cv1 := ⟨_, rfl⟩
  rw [← hu1] at D1 R1 hag1 E
  obtain ⟨ρ1, hρ1⟩ : ∃ r, r = setR ρ u1 .got := ⟨_, rfl⟩
  rw [← hρ1] at D1 R1 hag1 E
  clear D R hBs
  rename LateOk _ _ _ _ _ _ _ => D
  rename Roles _ _ _ => R
  refine JC.anyJ (f := 13) (fun L w' => (L.getD 9 true = false → Blk w' tb 49 [u1, g2]) ∧ (L.getD 7 true = false → SlB w' yv l)) mixed rfl ?_
  intro w8 hd9
  replace D := D.no hd9
  replace E := E.no hd9
  replace R := R.no hd9
  replace Gb := Gb.no hd9
  replace hX := hX.no hd9
  replace hY := hY.no hd9
  replace hK := hK.no hd9
  refine JB.take 0 10 (by kernel_rfl) (by rfl) (by kernel_rfl) (by kernel_rfl) (L := #[true, false, false, false, false, false, false, false, false, false, false, false, false]) rfl rfl (by kernel_rfl) rfl (by rfl) (fun L w h => ⟨fun hq => h.1 (by rw [getD_set_ne true (by decide)]; exact hq), fun hq => h.2 (by rw [getD_set_ne true (by decide)]; exact hq)⟩) (fun L w' hb hI => Run.move (.tmp .here)) ?_
  refine JB.take 1 2 (by kernel_rfl) (by rfl) (by kernel_rfl) (by kernel_rfl) (L := #[true, true, false, false, false, false, false, false, false, false, false, false, false]) rfl rfl (by kernel_rfl) rfl (by rfl) (fun L w h => ⟨fun hq => h.1 (by rw [getD_set_ne true (by decide)]; exact hq), fun hq => h.2 (by rw [getD_set_ne true (by decide)]; exact hq)⟩) (fun L w' hb hI => Run.move (.tmp (.there rfl .here))) ?_
  refine JB.take 2 3 (by kernel_rfl) (by rfl) (by kernel_rfl) (by kernel_rfl) (L := #[true, true, true, false, false, false, false, false, false, false, false, false, false]) rfl rfl (by kernel_rfl) rfl (by rfl) (fun L w h => ⟨fun hq => h.1 (by rw [getD_set_ne true (by decide)]; exact hq), fun hq => h.2 (by rw [getD_set_ne true (by decide)]; exact hq)⟩) (fun L w' hb hI => Run.nilPtr (.tmp .here)) ?_
  refine JB.take 3 4 (by kernel_rfl) (by rfl) (by kernel_rfl) (by kernel_rfl) (L := #[true, true, true, true, false, false, false, false, false, false, false, false, false]) rfl rfl (by kernel_rfl) rfl (by rfl) (fun L w h => ⟨fun hq => h.1 (by rw [getD_set_ne true (by decide)]; exact hq), fun hq => h.2 (by rw [getD_set_ne true (by decide)]; exact hq)⟩) (fun L w' hb hI => Run.fieldAddr (ft := 23) (foff := 1) (off := 1) @Try.underlying49 (by rfl) (@Try.sizeOf23 _) rfl rfl (.tmp .here)) ?_
  refine JB.take 4 9 (by kernel_rfl) (by rfl) (by kernel_rfl) (by kernel_rfl) (L := #[true, true, true, true, true, false, false, false, false, false, false, false, false]) rfl rfl (by kernel_rfl) rfl (by rfl) (fun L w h => ⟨fun hq => h.1 (by rw [getD_set_ne true (by decide)]; exact hq), fun hq => h.2 (by rw [getD_set_ne true (by decide)]; exact hq)⟩) (fun L w' hb hI => Run.loadB (@Try.isAgg23 _) (.tmp .here) (hI.1 hb) (by rfl)) ?_
  refine JB.take 5 6 (by kernel_rfl) (by rfl) (by kernel_rfl) (by kernel_rfl) (L := #[true, true, true, true, true, true, false, false, false, false, false, false, false]) rfl rfl (by kernel_rfl) rfl (by rfl) (fun L w h => ⟨fun hq => h.1 (by rw [getD_set_ne true (by decide)]; exact hq), fun hq => h.2 (by rw [getD_set_ne true (by decide)]; exact hq)⟩) (fun L w' hb hI => Run.move (.tmp (.there rfl (.there rfl (.there rfl (.there rfl (.there rfl (.there rfl .here)))))))) ?_
  refine JB.take 6 7 (by kernel_rfl) (by rfl) (by kernel_rfl) (by kernel_rfl) (L := #[true, true, true, true, true, true, true, false, false, false, false, false, false]) rfl rfl (by kernel_rfl) rfl (by rfl) (fun L w h => ⟨fun hq => h.1 (by rw [getD_set_ne true (by decide)]; exact hq), fun hq => h.2 (by rw [getD_set_ne true (by decide)]; exact hq)⟩) (fun L w' hb hI => Run.bytesStr @Try.underlying53 @Try.underlying9 @Try.underlying5 (.tmp .here) (hI.2 hb)) ?_
  refine JB.strBytes 7 rfl (by kernel_rfl) (L := #[true, true, true, true, true, true, true, true, false, false, false, false, false]) rfl rfl ⟨(fun _ => D.B), (fun _ => hY)⟩ @Try.underlying9 @Try.underlying53 @Try.underlying5 (.tmp .here) (by omega) ?_
  intro yb ycap wy hgy hcy hsy hly
  have hyn : ρ1 yb = .none := by
    by_cases h : ρ1 yb = .none
    · exact h
    · exact absurd (R yb h).2 (by omega)
  have hyb : base ≤ yb := Nat.le_trans Gb hgy
  have hy0 : w0.heap.size ≤ yb := Nat.le_trans hK.size hgy
  replace D := D.no hcy
  replace E := E.no hcy
  replace R := R.no hcy
  replace Gb := Gb.no hcy
  replace hX := hX.no hcy
  replace hY := hY.no hcy
  replace hK := hK.no hcy
  obtain ⟨ρ2, hρ2⟩ : ∃ r, r = setR ρ1 (.slice (some ⟨yb, 0, none⟩) l.length ycap) .text := ⟨_, rfl⟩
  have hr2 : ∀ k, ρ1 k ≠ .none → ρ2 k = ρ1 k := fun k hk => by rw [hρ2]; exact setR_not (fun h => by have h2 : k = yb := h; rw [h2] at hk; exact hk hyn)
  have hy2 : ρ2 yb = .text := by rw [hρ2]; exact setR_own rfl
  replace D : LateOk wy ρ2 _ _ _ _ _ := D.role (fun k _ hk => hr2 k (by rcases hk with h | h | h <;> rw [h] <;> exact fun h => (by cases h)))
  replace E : Ents wy ρ2 G := E.role (fun k hk => (hr2 k (by rw [hk]; exact fun h => (by cases h))).trans hk) (fun k i hk => (hr2 k (by rw [hk]; exact fun h => (by cases h))).trans hk)
  replace R : Roles wy base ρ2 := by rw [hρ2]; exact R.set (Nat.le_refl _) (fun k hk => by have h2 : k = yb := hk; subst h2; exact ⟨hyb, hly⟩)
  have hag12 : ∀ k, k < w0.heap.size → ρ2 k = ρ k := fun k hk => by
    rw [hρ2, setR_not (fun h => by have h2 : k = yb := h; omega)]; exact hag1 k (by omega)
  refine JB.lit1 8 rfl (by kernel_rfl) (L := #[true, true, true, true, true, true, true, true, true, false, false, false, false]) rfl rfl ⟨(fun _ => D.B), (fun h => absurd h (by decide))⟩ @Try.underlying23 (@Try.sizeOf53 _) (@Try.zeroValue53 _) (by rfl) (.tmp .here) (by rfl) ?_
  intro b10 w11 hg12 hc13 Bb10
  replace D := D.no hc13
  replace E := E.no hc13
  replace R := R.no hc13
  replace Gb := Gb.no hc13
  replace hX := hX.no hc13
  replace hY := hY.no hc13
  replace hK := hK.no hc13
  replace hsy := hsy.no hc13
  refine JB.append2 9 rfl (by kernel_rfl) (L := #[true, true, true, true, true, true, true, true, true, true, false, false, false]) rfl rfl ⟨(fun _ => D.B), (fun h => absurd h (by decide))⟩ @Try.underlying23 @Try.underlying23 info_sl (by rfl) (by decide) (.tmp (.there rfl (.there rfl (.there rfl (.there rfl .here))))) D.o2 (.tmp .here) Bb10 (by rfl) (by rfl) (Nat.zero_le _) (by omega) ?_
  intro v2 wb hO2 hc2 hx2
  obtain ⟨av2, cv2, rfl⟩ := owns_form hO2
  have hBs := D.B.ch hc2 (owns_ne D.o2 D.B rfl)
  have hz2 := hK.size
  refine JB.take 10 11 (by kernel_rfl) (by rfl) (by kernel_rfl) (by kernel_rfl) (L := #[true, true, true, true, true, true, true, true, true, true, true, false, false]) rfl rfl (by kernel_rfl) rfl (by rfl) (fun L w h => ⟨fun hq => h.1 (by rw [getD_set_ne true (by decide)]; exact hq), fun hq => h.2 (by rw [getD_set_ne true (by decide)]; exact hq)⟩) (fun L w' hb hI => Run.nilPtr (.tmp (.there rfl (.there rfl (.there rfl (.there rfl (.there rfl (.there rfl (.there rfl (.there rfl (.there rfl .here))))))))))) ?_
  refine JB.take 11 12 (by kernel_rfl) (by rfl) (by kernel_rfl) (by kernel_rfl) (L := #[true, true, true, true, true, true, true, true, true, true, true, true, false]) rfl rfl (by kernel_rfl) rfl (by rfl) (fun L w h => ⟨fun hq => h.1 (by rw [getD_set_ne true (by decide)]; exact hq), fun hq => h.2 (by rw [getD_set_ne true (by decide)]; exact hq)⟩) (fun L w' hb hI => Run.fieldAddr (ft := 23) (foff := 1) (off := 1) @Try.underlying49 (by rfl) (@Try.sizeOf23 _) rfl rfl (.tmp .here)) ?_
  refine JB.storeB 12 rfl (by kernel_rfl) (L := #[true, true, true, true, true, true, true, true, true, true, true, true, true]) rfl ⟨(fun h => absurd h (by decide)), (fun h => absurd h (by decide))⟩ (@Try.sizeOf23 _) (.tmp .here) (.tmp (.there rfl (.there rfl .here))) (by rfl) (by rfl) hBs rfl ?_
  intro w14 hc15 hb16
  replace hBs := hb16; clear hb16
  refine JB.done (by kernel_rfl) ⟨(fun h => absurd h (by decide)), (fun h => absurd h (by decide))⟩ ?_
  refine JE.keep (L := _) .nil ?_
  obtain ⟨D2, R2, hag2, hp2⟩ := late_put2 (e := (.slice a n cap, .slice (some ⟨yb, 0, none⟩) l.length ycap, l)) D R Gb rfl hO2 hc2 hx2 hc15 hBs
  have D3 := D2.swap1 (e' := ((Value.slice a n cap), (Value.slice (some ⟨yb, 0, none⟩) l.length ycap), l)) rfl
  have hag3 : ∀ k, k < w0.heap.size → setR ρ2 _ .want k = ρ k := fun k hk => (hag2 k (by omega)).trans (hag12 k hk)
  have hX2 := hX.ch hp2 (fun k hk hs => (isL_of hs).2 G.length ((hag12 k (hX0.ge k hk).2).trans (hF k hk)))
  have hS2 := hsy.ch hp2 (fun k hk hs => by have h2 : k = yb := hk; subst h2; exact (isL_of hs).1 hy2)
  have E2 := E.put R hp2 hag2
  refine JE.end0 @Try.results10 ?_
  refine ⟨_, _, (Value.slice (some ⟨yb, 0, none⟩) l.length ycap), _, rfl, D3, fun i e he => ?_, R2, Gb.up hp2, hag3, hK.comp hp2 (fun k hk hl => by unfold isL at hk ⊢; rw [← hag12 k hl]; exact hk)⟩
  by_cases hi : i < G.length
  · rw [List.getElem?_append_left hi] at he; exact E2 i e he
  · have hil : i = G.length := by have := (List.getElem?_eq_some_iff.1 he).1; simp at this; omega
    subst hil
    rw [List.getElem?_append_right (Nat.le_refl _)] at he
    simp at he
    subst he
    exact ⟨hX2, fun k hk => (hag3 k (hX0.ge k hk).2).trans (hF k hk), hS2, fun k hk => by have h2 : k = yb := hk; subst h2; exact (hag2 k (R k (by rw [hy2]; exact fun h => (by cases h))).2).trans hy2⟩

end Go.Proofs.Ytggngmmbpkoooaa.Bk
