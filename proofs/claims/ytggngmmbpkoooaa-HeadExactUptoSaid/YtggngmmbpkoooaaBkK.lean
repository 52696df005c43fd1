/- The book looks, grows, and looks once more. -/
import Derived.Test.YtggngmmbpkoooaaBkG
namespace Go.Proofs.Ytggngmmbpkoooaa.Bk
open Go Go.Proofs.Ytggngmmbpkoooaa.Eng Go.Proofs.Ytggngmmbpkoooaa.Hd
set_option linter.unusedVariables false
set_option linter.unusedSimpArgs false
set_option maxRecDepth 4000
theorem core_same {w w' : World} {ρ : Nat → Role} {bb base : Nat} {v1 v2 : Value} {L1 L2 L : List (Value × Nat)} {s s' : BookS} (C : Core w ρ bb v1 v2 L1 L2 s) (K : All w ρ L) (R : Roles w base ρ) (G : AtLeast w base) (hc : Ch (One bb) w w') (hB : Blk w' bb 46 (bookCells v1 v2 s')) :
    Core w' ρ bb v1 v2 L1 L2 s' ∧ All w' ρ L ∧ Roles w' base ρ ∧ AtLeast w' base ∧ Ch (isB ρ) w w' :=
  ⟨⟨hB, C.rb, C.o1.ch hc (fun k hk hs => by have hs2 : k = bb := hs; subst hs2; exact owns_ne C.o1 C.B rfl hk), C.i1, C.o2.ch hc (fun k hk hs => by have hs2 : k = bb := hs; subst hs2; exact owns_ne C.o2 C.B rfl hk), C.i2⟩,
    K.ch hc (fun k m hk => by have hk2 : k = bb := hk; rw [hk2, C.rb]; exact fun h => by cases h), R.up hc.size, G.up hc, hc.mono (fun k hk => by have hk2 : k = bb := hk; rw [hk2]; exact .inl C.rb)⟩
/-- What is so of the book's numbers. -/
structure Num (s : BookS) : Prop where
  h1 : s.at_ ≤ s.L.length
  h2 : s.L.length + 9 * (s.L.length - s.at_) ≤ 10 * s.turn
  h3 : s.turn ≤ 274877906944
  h4 : s.used ≤ 16777216
  hM : ∀ e ∈ s.L, e.2 ≤ 274877906944
  hE : ∀ i e, s.at_ ≤ i → s.L[i]? = some e → elen e.1 ≤ 1099511627776

set_option maxHeartbeats 4000000 in
theorem grow_any {ρ : Nat → Role} {bb base : Nat} {v1 v2 : Value} {s : BookS} (w0 : World) (C : Core w0 ρ bb v1 v2 s.L s.L s) (K : All w0 ρ s.L) (R : Roles w0 base ρ) (G : AtLeast w0 base) (H : Num s) :
    Calls Try.prog 32 #[.pointer (some ⟨bb, 0, none⟩)] w0 fun e w' => ∃ v1' v2' s' ρ', e = .returned (.tuple #[]) ∧ Core w' ρ' bb v1' v2' s'.L s'.L s' ∧ All w' ρ' s'.L ∧ Roles w' base ρ' ∧ AtLeast w' base ∧ (∀ k, k < w0.heap.size → ρ' k = ρ k) ∧ Ch (isB ρ) w0 w' ∧ s'.turn = s.turn ∧ s'.used = s.used ∧ Num s' := by
  refine calls @Try.func32 rfl @Try.ntmps32 rfl ?_
  show JC _ _ _ _ _ [(0, .pointer (some ⟨bb, 0, none⟩))] _
  refine JC.seq ?_
  refine JC.region ?_
  refine JL.val rfl (Run.move (.tmp .here)) ?_
  have hh2 : s.L.length + 9 * (s.L.length - s.at_) ≤ 2748779069440 := by have := H.h2; have := H.h3; omega
  refine JL.call rfl (Run.call @Try.call40 (.cons (.tmp .here) .nil)) (growBytes_any _ C K R G H.hM H.h1 hh2 H.hE) ?_
  rintro e w1 ⟨u1, u2, s1, ρ1, rfl, C1, K1, R1, hag, hK1, ht, hd, hu, hat, hLL, hM1⟩
  refine JRet.ret ?_
  have hN : Num s1 := ⟨by omega, by rw [ht]; have := H.h2; omega, by rw [ht]; exact H.h3, by rw [hu]; exact H.h4, hM1, fun i e hi he => absurd (List.getElem?_eq_some_iff.1 he).1 (by omega)⟩
  replace G := G.up hK1
  clear C K R
  rename Core _ _ _ _ _ _ _ _ => C
  rename All _ _ _ => K
  rename Roles _ _ _ => R
  refine JL.nil ?_
  refine JE.seq ?_
  refine JC.seq ?_
  refine JC.region ?_
  refine JL.val rfl (Run.move (.tmp (.there rfl (.there rfl .here)))) ?_
  refine JL.call rfl (Run.call @Try.call41 (.cons (.tmp .here) .nil)) (growRows_any _ C.B) ?_
  rintro e w2 ⟨rfl, hc, hB⟩
  refine JRet.ret ?_
  obtain ⟨C2, K2, R2, G2, hcb⟩ := core_same C K R G hc hB
  replace hK1 := hK1.comp hcb (fun k hk hl => by unfold isB at hk ⊢; rw [← hag k hl]; exact hk)
  clear C K R G hc hB hcb
  rename Core _ _ _ _ _ _ _ _ => C
  rename All _ _ _ => K
  rename Roles _ _ _ => R
  rename AtLeast _ _ => G
  refine JL.nil ?_
  refine JE.seq ?_
  refine JC.seq ?_
  refine JC.region ?_
  refine JL.val rfl (Run.move (.tmp (.there rfl (.there rfl (.there rfl (.there rfl .here)))))) ?_
  refine JL.call rfl (Run.call @Try.call42 (.cons (.tmp .here) .nil)) (growTexts_any _ C.B) ?_
  rintro e w3 ⟨rfl, hc, hB⟩
  refine JRet.ret ?_
  obtain ⟨C2, K2, R2, G2, hcb⟩ := core_same C K R G hc hB
  replace hK1 := hK1.comp hcb (fun k hk hl => by unfold isB at hk ⊢; rw [← hag k hl]; exact hk)
  clear C K R G hc hB hcb
  rename Core _ _ _ _ _ _ _ _ => C
  rename All _ _ _ => K
  rename Roles _ _ _ => R
  rename AtLeast _ _ => G
  refine JL.nil ?_
  refine JE.seq ?_
  refine JC.seq ?_
  refine JC.region ?_
  refine JL.val rfl (Run.move (.tmp (.there rfl (.there rfl (.there rfl (.there rfl (.there rfl (.there rfl .here)))))))) ?_
  refine JL.call rfl (Run.call @Try.call43 (.cons (.tmp .here) .nil)) (growInts_any _ C.B) ?_
  rintro e w4 ⟨rfl, hc, hB⟩
  refine JRet.ret ?_
  obtain ⟨C2, K2, R2, G2, hcb⟩ := core_same C K R G hc hB
  replace hK1 := hK1.comp hcb (fun k hk hl => by unfold isB at hk ⊢; rw [← hag k hl]; exact hk)
  clear C K R G hc hB hcb
  rename Core _ _ _ _ _ _ _ _ => C
  rename All _ _ _ => K
  rename Roles _ _ _ => R
  rename AtLeast _ _ => G
  refine JL.nil ?_
  refine JE.keep (L := _) (.cons (.there rfl (.there rfl (.there rfl (.there rfl (.there rfl (.there rfl (.there rfl (.there rfl .here)))))))) .nil) ?_
  refine JE.seq ?_
  refine JC.seq ?_
  refine JC.region ?_
  refine JL.val rfl (Run.move (.tmp .here)) ?_
  refine JL.call rfl (Run.call @Try.call44 (.cons (.tmp .here) .nil)) (growWords_any _ C.B) ?_
  rintro e w5 ⟨rfl, hc, hB⟩
  refine JRet.ret ?_
  obtain ⟨C2, K2, R2, G2, hcb⟩ := core_same C K R G hc hB
  replace hK1 := hK1.comp hcb (fun k hk hl => by unfold isB at hk ⊢; rw [← hag k hl]; exact hk)
  clear C K R G hc hB hcb
  rename Core _ _ _ _ _ _ _ _ => C
  rename All _ _ _ => K
  rename Roles _ _ _ => R
  rename AtLeast _ _ => G
  refine JL.nil ?_
  refine JE.seq ?_
  refine JC.seq ?_
  refine JC.region ?_
  refine JL.val rfl (Run.move (.tmp (.there rfl (.there rfl .here)))) ?_
  refine JL.call rfl (Run.call @Try.call45 (.cons (.tmp .here) .nil)) (growFloats_any _ C.B) ?_
  rintro e w6 ⟨rfl, hc, hB⟩
  refine JRet.ret ?_
  obtain ⟨C2, K2, R2, G2, hcb⟩ := core_same C K R G hc hB
  replace hK1 := hK1.comp hcb (fun k hk hl => by unfold isB at hk ⊢; rw [← hag k hl]; exact hk)
  clear C K R G hc hB hcb
  rename Core _ _ _ _ _ _ _ _ => C
  rename All _ _ _ => K
  rename Roles _ _ _ => R
  rename AtLeast _ _ => G
  refine JL.nil ?_
  refine JE.seq ?_
  refine JC.seq ?_
  refine JC.region ?_
  refine JL.val rfl (Run.move (.tmp (.there rfl (.there rfl (.there rfl (.there rfl .here)))))) ?_
  refine JL.call rfl (Run.call @Try.call46 (.cons (.tmp .here) .nil)) (growLinks_any _ C.B) ?_
  rintro e w7 ⟨rfl, hc, hB⟩
  refine JRet.ret ?_
  obtain ⟨C2, K2, R2, G2, hcb⟩ := core_same C K R G hc hB
  replace hK1 := hK1.comp hcb (fun k hk hl => by unfold isB at hk ⊢; rw [← hag k hl]; exact hk)
  clear C K R G hc hB hcb
  rename Core _ _ _ _ _ _ _ _ => C
  rename All _ _ _ => K
  rename Roles _ _ _ => R
  rename AtLeast _ _ => G
  refine JL.nil ?_
  refine JE.seq ?_
  refine JC.seq ?_
  refine JC.region ?_
  refine JL.val rfl (Run.move (.tmp (.there rfl (.there rfl (.there rfl (.there rfl (.there rfl (.there rfl .here)))))))) ?_
  refine JL.call rfl (Run.call @Try.call47 (.cons (.tmp .here) .nil)) (growNotes_any _ C.B) ?_
  rintro e w8 ⟨rfl, hc, hB⟩
  refine JRet.ret ?_
  obtain ⟨C2, K2, R2, G2, hcb⟩ := core_same C K R G hc hB
  replace hK1 := hK1.comp hcb (fun k hk hl => by unfold isB at hk ⊢; rw [← hag k hl]; exact hk)
  clear C K R G hc hB hcb
  rename Core _ _ _ _ _ _ _ _ => C
  rename All _ _ _ => K
  rename Roles _ _ _ => R
  rename AtLeast _ _ => G
  refine JL.nil ?_
  refine JE.keep (L := _) (.cons (.there rfl (.there rfl (.there rfl (.there rfl (.there rfl (.there rfl (.there rfl (.there rfl .here)))))))) .nil) ?_
  refine JE.seq ?_
  refine JC.seq ?_
  refine JC.region ?_
  refine JL.val rfl (Run.move (.tmp .here)) ?_
  refine JL.call rfl (Run.call @Try.call48 (.cons (.tmp .here) .nil)) (growCases_any _ C.B) ?_
  rintro e w9 ⟨rfl, hc, hB⟩
  refine JRet.ret ?_
  obtain ⟨C2, K2, R2, G2, hcb⟩ := core_same C K R G hc hB
  replace hK1 := hK1.comp hcb (fun k hk hl => by unfold isB at hk ⊢; rw [← hag k hl]; exact hk)
  clear C K R G hc hB hcb
  rename Core _ _ _ _ _ _ _ _ => C
  rename All _ _ _ => K
  rename Roles _ _ _ => R
  rename AtLeast _ _ => G
  refine JL.nil ?_
  refine JE.seq ?_
  refine JC.seq ?_
  refine JC.region ?_
  refine JL.val rfl (Run.move (.tmp (.there rfl (.there rfl .here)))) ?_
  refine JL.call rfl (Run.call @Try.call49 (.cons (.tmp .here) .nil)) (growFields_any _ C.B) ?_
  rintro e w10 ⟨rfl, hc, hB⟩
  refine JRet.ret ?_
  obtain ⟨C2, K2, R2, G2, hcb⟩ := core_same C K R G hc hB
  replace hK1 := hK1.comp hcb (fun k hk hl => by unfold isB at hk ⊢; rw [← hag k hl]; exact hk)
  clear C K R G hc hB hcb
  rename Core _ _ _ _ _ _ _ _ => C
  rename All _ _ _ => K
  rename Roles _ _ _ => R
  rename AtLeast _ _ => G
  refine JL.nil ?_
  refine JE.seq ?_
  refine JC.seq ?_
  refine JC.region ?_
  refine JL.val rfl (Run.move (.tmp (.there rfl (.there rfl (.there rfl (.there rfl .here)))))) ?_
  refine JL.call rfl (Run.call @Try.call50 (.cons (.tmp .here) .nil)) (growValues_any _ C.B) ?_
  rintro e w11 ⟨rfl, hc, hB⟩
  refine JRet.ret ?_
  obtain ⟨C2, K2, R2, G2, hcb⟩ := core_same C K R G hc hB
  replace hK1 := hK1.comp hcb (fun k hk hl => by unfold isB at hk ⊢; rw [← hag k hl]; exact hk)
  clear C K R G hc hB hcb
  rename Core _ _ _ _ _ _ _ _ => C
  rename All _ _ _ => K
  rename Roles _ _ _ => R
  rename AtLeast _ _ => G
  refine JL.nil ?_
  refine JE.seq ?_
  refine JC.seq ?_
  refine JC.region ?_
  refine JL.val rfl (Run.move (.tmp (.there rfl (.there rfl (.there rfl (.there rfl (.there rfl (.there rfl .here)))))))) ?_
  refine JL.call rfl (Run.call @Try.call51 (.cons (.tmp .here) .nil)) (growEntries_any _ C.B) ?_
  rintro e w12 ⟨rfl, hc, hB⟩
  refine JRet.ret ?_
  obtain ⟨C2, K2, R2, G2, hcb⟩ := core_same C K R G hc hB
  replace hK1 := hK1.comp hcb (fun k hk hl => by unfold isB at hk ⊢; rw [← hag k hl]; exact hk)
  clear C K R G hc hB hcb
  rename Core _ _ _ _ _ _ _ _ => C
  rename All _ _ _ => K
  rename Roles _ _ _ => R
  rename AtLeast _ _ => G
  refine JL.nil ?_
  refine JE.keep (L := _) (.cons (.there rfl (.there rfl (.there rfl (.there rfl (.there rfl (.there rfl (.there rfl (.there rfl .here)))))))) .nil) ?_
  refine JE.seq ?_
  refine JC.seq ?_
  refine JC.region ?_
  refine JL.val rfl (Run.move (.tmp .here)) ?_
  refine JL.call rfl (Run.call @Try.call52 (.cons (.tmp .here) .nil)) (growChanges_any _ C.B) ?_
  rintro e w13 ⟨rfl, hc, hB⟩
  refine JRet.ret ?_
  obtain ⟨C2, K2, R2, G2, hcb⟩ := core_same C K R G hc hB
  replace hK1 := hK1.comp hcb (fun k hk hl => by unfold isB at hk ⊢; rw [← hag k hl]; exact hk)
  clear C K R G hc hB hcb
  rename Core _ _ _ _ _ _ _ _ => C
  rename All _ _ _ => K
  rename Roles _ _ _ => R
  rename AtLeast _ _ => G
  refine JL.nil ?_
  refine JE.seq ?_
  refine JC.seq ?_
  refine JC.region ?_
  refine JL.val rfl (Run.move (.tmp (.there rfl (.there rfl .here)))) ?_
  refine JL.call rfl (Run.call @Try.call53 (.cons (.tmp .here) .nil)) (growBlocks_any _ C.B) ?_
  rintro e w14 ⟨rfl, hc, hB⟩
  refine JRet.ret ?_
  obtain ⟨C2, K2, R2, G2, hcb⟩ := core_same C K R G hc hB
  replace hK1 := hK1.comp hcb (fun k hk hl => by unfold isB at hk ⊢; rw [← hag k hl]; exact hk)
  clear C K R G hc hB hcb
  rename Core _ _ _ _ _ _ _ _ => C
  rename All _ _ _ => K
  rename Roles _ _ _ => R
  rename AtLeast _ _ => G
  refine JL.nil ?_
  refine JE.seq ?_
  refine JC.seq ?_
  refine JC.region ?_
  refine JL.val rfl (Run.move (.tmp (.there rfl (.there rfl (.there rfl (.there rfl .here)))))) ?_
  refine JL.call rfl (Run.call @Try.call54 (.cons (.tmp .here) .nil)) (growCommits_any _ C.B) ?_
  rintro e w15 ⟨rfl, hc, hB⟩
  refine JRet.ret ?_
  obtain ⟨C2, K2, R2, G2, hcb⟩ := core_same C K R G hc hB
  replace hK1 := hK1.comp hcb (fun k hk hl => by unfold isB at hk ⊢; rw [← hag k hl]; exact hk)
  clear C K R G hc hB hcb
  rename Core _ _ _ _ _ _ _ _ => C
  rename All _ _ _ => K
  rename Roles _ _ _ => R
  rename AtLeast _ _ => G
  refine JL.nil ?_
  refine JE.seq ?_
  refine JC.seq ?_
  refine JC.region ?_
  refine JL.val rfl (Run.move (.tmp (.there rfl (.there rfl (.there rfl (.there rfl (.there rfl (.there rfl .here)))))))) ?_
  refine JL.call rfl (Run.call @Try.call55 (.cons (.tmp .here) .nil)) (growTypes_any _ C.B) ?_
  rintro e w16 ⟨rfl, hc, hB⟩
  refine JRet.ret ?_
  obtain ⟨C2, K2, R2, G2, hcb⟩ := core_same C K R G hc hB
  replace hK1 := hK1.comp hcb (fun k hk hl => by unfold isB at hk ⊢; rw [← hag k hl]; exact hk)
  clear C K R G hc hB hcb
  rename Core _ _ _ _ _ _ _ _ => C
  rename All _ _ _ => K
  rename Roles _ _ _ => R
  rename AtLeast _ _ => G
  refine JL.nil ?_
  refine JE.keep (L := _) (.cons (.there rfl (.there rfl (.there rfl (.there rfl (.there rfl (.there rfl (.there rfl (.there rfl .here)))))))) .nil) ?_
  refine JE.seq ?_
  refine JC.seq ?_
  refine JC.region ?_
  refine JL.val rfl (Run.move (.tmp .here)) ?_
  refine JL.call rfl (Run.call @Try.call56 (.cons (.tmp .here) .nil)) (growTypeds_any _ C.B) ?_
  rintro e w17 ⟨rfl, hc, hB⟩
  refine JRet.ret ?_
  obtain ⟨C2, K2, R2, G2, hcb⟩ := core_same C K R G hc hB
  replace hK1 := hK1.comp hcb (fun k hk hl => by unfold isB at hk ⊢; rw [← hag k hl]; exact hk)
  clear C K R G hc hB hcb
  rename Core _ _ _ _ _ _ _ _ => C
  rename All _ _ _ => K
  rename Roles _ _ _ => R
  rename AtLeast _ _ => G
  refine JL.nil ?_
  refine JE.seq ?_
  refine JC.seq ?_
  refine JC.region ?_
  refine JL.val rfl (Run.move (.tmp (.there rfl (.there rfl .here)))) ?_
  refine JL.call rfl (Run.call @Try.call57 (.cons (.tmp .here) .nil)) (growSteps_any _ C.B) ?_
  rintro e w18 ⟨rfl, hc, hB⟩
  refine JRet.ret ?_
  obtain ⟨C2, K2, R2, G2, hcb⟩ := core_same C K R G hc hB
  replace hK1 := hK1.comp hcb (fun k hk hl => by unfold isB at hk ⊢; rw [← hag k hl]; exact hk)
  clear C K R G hc hB hcb
  rename Core _ _ _ _ _ _ _ _ => C
  rename All _ _ _ => K
  rename Roles _ _ _ => R
  rename AtLeast _ _ => G
  have hBs := C.B
  refine JL.nil ?_
  refine JE.seq ?_
  refine JC.region ?_
  refine JL.val rfl (Run.move (.tmp (.there rfl (.there rfl (.there rfl (.there rfl .here)))))) ?_
  refine JL.val rfl (Run.move (.tmp (.there rfl (.there rfl (.there rfl (.there rfl (.there rfl .here))))))) ?_
  refine JL.val rfl (Run.nilPtr (.tmp .here)) ?_
  refine JL.val rfl (Run.fieldAddr (ft := 3) (foff := 54) (off := 54) @Try.underlying46 (by rfl) (@Try.sizeOf3 _) rfl rfl (.tmp .here)) ?_
  refine JL.val rfl (Run.loadB (@Try.isAgg3 _) (.tmp .here) hBs (by rfl)) ?_
  refine JL.val rfl (Run.nilPtr (.tmp (.there rfl (.there rfl (.there rfl (.there rfl .here)))))) ?_
  refine JL.val rfl (Run.fieldAddr (ft := 3) (foff := 55) (off := 55) @Try.underlying46 (by rfl) (@Try.sizeOf3 _) rfl rfl (.tmp .here)) ?_
  refine JL.storeB (@Try.sizeOf3 _) (.tmp .here) (.tmp (.there rfl (.there rfl .here))) (by rfl) (by rfl) hBs rfl ?_
  intro w19 hc20 hb21
  replace hBs := hb21; clear hb21
  refine JL.nil ?_
  refine JE.keep (L := _) .nil ?_
  obtain ⟨C2, K2, R2, G2, hcb⟩ := core_same (s' := { s1 with done := s1.turn }) C K R G hc20 hBs
  replace hK1 := hK1.comp hcb (fun k hk hl => by unfold isB at hk ⊢; rw [← hag k hl]; exact hk)
  refine JE.end0 @Try.results32 ?_
  exact ⟨_, _, _, ρ1, rfl, ⟨C2.B, C2.rb, C2.o1, C2.i1, C2.o2, C2.i2⟩, K2, R2, G2, hag, hK1, ht, hu, ⟨hN.h1, hN.h2, hN.h3, hN.h4, hN.hM, hN.hE⟩⟩

set_option maxHeartbeats 4000000 in
theorem look_any {ρ : Nat → Role} {bb base : Nat} {v1 v2 : Value} {s : BookS} (w0 : World) (C : Core w0 ρ bb v1 v2 s.L s.L s) (K : All w0 ρ s.L) (R : Roles w0 base ρ) (G : AtLeast w0 base) (H : Num s) :
    Calls Try.prog 18 #[.pointer (some ⟨bb, 0, none⟩)] w0 fun e w' => ∃ v1' v2' s' ρ', e = .returned (.bool true) ∧ Core w' ρ' bb v1' v2' s'.L s'.L s' ∧ All w' ρ' s'.L ∧ Roles w' base ρ' ∧ AtLeast w' base ∧ (∀ k, k < w0.heap.size → ρ' k = ρ k) ∧ Ch (isB ρ) w0 w' ∧ s'.turn = s.turn ∧ s'.used = s.used ∧ Num s' := by
  have hK : Ch No w0 w0 := Ch.refl w0
  have hLn : s.L.length ≤ 2748779069440 := by have := H.h2; have := H.h3; omega
  refine calls @Try.func18 rfl @Try.ntmps18 rfl ?_
  show JC _ _ _ _ _ [(0, .pointer (some ⟨bb, 0, none⟩))] _
  refine JC.seq ?_
  refine JC.region ?_
  refine JL.val rfl (Run.assign .const) ?_
  refine JL.nil ?_
  refine JE.seq ?_
  refine JC.seq ?_
  refine JC.seq ?_
  refine JC.region ?_
  refine JL.val rfl (Run.move (.tmp (.there rfl .here))) ?_
  refine JL.call rfl (Run.call @Try.call31 (.cons (.tmp .here) .nil)) (holds_any _ C K H.hM hLn) ?_
  rintro e w1 ⟨rfl, hc1⟩
  refine JRet.ret ?_
  replace C := C.no hc1
  replace K := K.no hc1
  replace R := R.no hc1
  replace G := G.no hc1
  replace hK := hK.no hc1
  refine JL.val rfl (Run.not (.tmp .here)) ?_
  refine JL.nil ?_
  refine JE.seq ?_
  refine JC.condF (.tmp .here) (rfl) ?_
  refine JC.skip ?_
  refine JE.seq ?_
  refine JC.seq ?_
  refine JC.seq ?_
  refine JC.stillc mixed (by kernel_rfl) ?_
  intro w2 hd3
  replace C := C.no hd3
  replace K := K.no hd3
  replace R := R.no hd3
  replace G := G.no hd3
  replace hK := hK.no hd3
  refine JS.val rfl (Run.move (.tmp (.there rfl (.there rfl (.there rfl (.there rfl .here)))))) ?_
  refine JS.val rfl (Run.nilPtr (.tmp .here)) ?_
  refine JS.val rfl (Run.fieldAddr (ft := 3) (foff := 55) (off := 55) @Try.underlying46 (by rfl) (@Try.sizeOf3 _) rfl rfl (.tmp .here)) ?_
  refine JS.val rfl (Run.loadB (@Try.isAgg3 _) (.tmp .here) (C.B) (by rfl)) ?_
  refine JS.val rfl (Run.move (.tmp (.there rfl (.there rfl (.there rfl (.there rfl (.there rfl (.there rfl (.there rfl (.there rfl .here)))))))))) ?_
  refine JS.val rfl (Run.nilPtr (.tmp .here)) ?_
  refine JS.val rfl (Run.fieldAddr (ft := 3) (foff := 54) (off := 54) @Try.underlying46 (by rfl) (@Try.sizeOf3 _) rfl rfl (.tmp .here)) ?_
  refine JS.val rfl (Run.loadB (@Try.isAgg3 _) (.tmp .here) (C.B) (by rfl)) ?_
  refine JS.val rfl (Run.eql (.tmp (.there rfl (.there rfl (.there rfl (.there rfl .here))))) (.tmp .here)) ?_
  refine JS.nil ?_
  refine JE.keep (L := _) (.cons .here (.cons (.there rfl (.there rfl (.there rfl (.there rfl (.there rfl (.there rfl (.there rfl (.there rfl (.there rfl (.there rfl (.there rfl (.there rfl .here)))))))))))) (.cons (.there rfl (.there rfl (.there rfl (.there rfl (.there rfl (.there rfl (.there rfl (.there rfl (.there rfl (.there rfl (.there rfl (.there rfl (.there rfl .here))))))))))))) .nil))) ?_
  refine JE.seq ?_
  refine JC.cond (.tmp .here) (fun hd => ?_) (fun hd => ?_)
  · refine JC.seq ?_
    refine JC.region ?_
    refine JL.val rfl (Run.assign .const) ?_
    refine JL.nil ?_
    refine JE.seq ?_
    refine JC.ret ?_
    refine JE.ret_seq ?_
    refine JE.ret1 @Try.results18 .here ?_
    exact ⟨_, _, s, ρ, rfl, C, K, R, G, fun _ _ => rfl, hK.mono (fun _ h => h.elim), rfl, rfl, H⟩
  · refine JC.skip ?_
    refine JE.seq ?_
    refine JC.seq ?_
    refine JC.region ?_
    refine JL.val rfl (Run.move (.tmp (.there rfl (.there rfl .here)))) ?_
    refine JL.call rfl (Run.call @Try.call32 (.cons (.tmp .here) .nil)) (grow_any _ C K R G H) ?_
    rintro e w4 ⟨u1, u2, s1, ρ1, rfl, C1, K1, R1, G1, hag, hK1, ht, hu, H1⟩
    refine JRet.ret ?_
    have hzz := hK.size
    have hK2 : Ch (isB ρ) w0 w4 := (hK.mono (T := isB ρ) (fun _ h => h.elim)).trans hK1
    replace hag : ∀ k, k < w0.heap.size → ρ1 k = ρ k := fun k hk => hag k (by omega)
    clear C K R G hK hK1
    have hLn1 : s1.L.length ≤ 2748779069440 := by have := H1.h2; have := H1.h3; omega
    refine JL.nil ?_
    refine JE.seq ?_
    refine JC.seq ?_
    refine JC.region ?_
    refine JL.val rfl (Run.move (.tmp (.there rfl (.there rfl (.there rfl (.there rfl .here)))))) ?_
    refine JL.call rfl (Run.call @Try.call31 (.cons (.tmp .here) .nil)) (holds_any _ C1 K1 H1.hM hLn1) ?_
    rintro e w5 ⟨rfl, hc2⟩
    refine JRet.ret ?_
    replace C1 := C1.no hc2
    replace K1 := K1.no hc2
    replace R1 := R1.no hc2
    replace G1 := G1.no hc2
    replace hK2 := hK2.no hc2
    refine JL.val rfl (Run.assign (.tmp .here)) ?_
    refine JL.nil ?_
    refine JE.keep (L := _) (.cons .here .nil) ?_
    refine JE.seq ?_
    refine JC.ret ?_
    refine JE.ret1 @Try.results18 .here ?_
    exact ⟨_, _, s1, ρ1, rfl, C1, K1, R1, G1, hag, hK2, ht, hu, H1⟩

end Go.Proofs.Ytggngmmbpkoooaa.Bk
