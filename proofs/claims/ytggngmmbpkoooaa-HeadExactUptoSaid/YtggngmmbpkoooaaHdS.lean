/- Contracts of the document's own Read and of the law's look at both, for every input. -/
import Derived.Test.YtggngmmbpkoooaaHdR
namespace Go.Proofs.Ytggngmmbpkoooaa.Hd
open Go Go.Proofs.Ytggngmmbpkoooaa.Eng
set_option linter.unusedVariables false
set_option linter.unusedSimpArgs false
set_option maxRecDepth 4000
theorem bs_succ {w : World} {b o p t : Nat} {c : UInt8} {r : List UInt8} (h : Bs w b o (c :: r)) (ht : t < r.length) (hp : p = o + (t + 1)) : w.cell? ⟨b, p, none⟩ = some (.int .u8 (r[t].toNat : Int)) := by
  have := h.get (j := t + 1) (by simp; omega) hp
  simpa [bv] using this
theorem beh_is {i : Int} {sz : Nat} (h : i = 24 ∧ sz = 1 ∨ i = 25 ∧ sz = 2 ∨ i = 26 ∧ sz = 4 ∨ i = 27 ∧ sz = 8) : behindI i = sz := by
  rcases h with ⟨rfl, rfl⟩ | ⟨rfl, rfl⟩ | ⟨rfl, rfl⟩ | ⟨rfl, rfl⟩ <;> rfl
theorem beh_out {i : Int} (h : i < 24 ∨ 27 < i) : behindI i = 0 := by unfold behindI; rw [if_pos h]
theorem readF_bad {c : UInt8} {r : List UInt8} (h : ((c.toNat : Int) % 32 = 31 ∧ ((c.toNat : Int) / 32 ≤ 1 ∨ (c.toNat : Int) / 32 = 6)) ∨ (27 < (c.toNat : Int) % 32 ∧ (c.toNat : Int) % 32 < 31)) : readF (c :: r) = rHead 0 0 0 0 false 21 := by
  rw [readF_cons (K := 0) (beh_out (by omega)), if_pos h]
theorem readF_end {c : UInt8} {r : List UInt8} (h : (c.toNat : Int) % 32 = 31) (h' : ¬ ((c.toNat : Int) / 32 ≤ 1 ∨ (c.toNat : Int) / 32 = 6)) : readF (c :: r) = rHead ((c.toNat : Int) / 32) ((c.toNat : Int) % 32) 0 1 true 0 := by
  have hb : behindI ((c.toNat : Int) % 32) = (0 : Nat) := beh_out (by omega)
  rw [readF_cons hb, if_neg (by omega), if_neg (by rw [hb]; simp; omega), if_neg (by omega), if_neg (show ¬ ((c.toNat : Int) % 32 < 24) by omega), hb, decide_eq_true (.inl h)]
  rfl
theorem readF_of {c : UInt8} {r : List UInt8} {sz : Nat} {s : Bool} (h24 : ¬ (c.toNat : Int) % 32 < 24) (h27 : ¬ 27 < (c.toNat : Int) % 32) (hb : behindI ((c.toNat : Int) % 32) = sz) (hl : ¬ ((c :: r).length : Int) < 1 + sz) (h3 : ¬ ((c.toNat : Int) / 32 = 7 ∧ (c.toNat : Int) % 32 = 24 ∧ be (r.take sz) < 32))
    (hs : decide ((c.toNat : Int) / 32 = 7 ∨ 1 + (sz : Int) = sizeI (be (r.take sz))) = s) : readF (c :: r) = rHead ((c.toNat : Int) / 32) ((c.toNat : Int) % 32) (be (r.take sz)) (1 + sz) s 0 := by
  rw [readF_cons hb, if_neg (by omega), if_neg (by rw [hb]; exact hl), if_neg h24, if_neg h3, hb, ← hs]
  congr 1
  exact decide_eq_decide.2 ⟨fun h => by rcases h with h | h | h <;> first | omega | exact .inl h | exact .inr h, fun h => .inr h⟩
theorem readF_21 {c : UInt8} {r : List UInt8} {sz : Nat} (h27 : ¬ 27 < (c.toNat : Int) % 32) (hb : behindI ((c.toNat : Int) % 32) = sz) (hl : ¬ ((c :: r).length : Int) < 1 + sz) (h24 : ¬ (c.toNat : Int) % 32 < 24) (h3 : (c.toNat : Int) / 32 = 7 ∧ (c.toNat : Int) % 32 = 24 ∧ be (r.take sz) < 32) : readF (c :: r) = rHead 0 0 0 0 false 21 := by
  rw [readF_cons hb, if_neg (by omega), if_neg (by rw [hb]; exact hl), if_neg h24, if_pos h3]
theorem readF_20 {c : UInt8} {r : List UInt8} {sz : Nat} (h27 : ¬ 27 < (c.toNat : Int) % 32) (hb : behindI ((c.toNat : Int) % 32) = sz) (hl : ((c :: r).length : Int) < 1 + sz) : readF (c :: r) = rHead 0 0 0 0 false 20 := by
  rw [readF_cons hb, if_neg (by omega), if_pos (by rw [hb]; exact hl)]

set_option maxHeartbeats 2000000 in
theorem rread_nil (a : Option Addr) (cap : Nat) (w : World) :
    Calls Try.prog 30 #[.slice a 0 cap] w fun e w' => e = .returned (rHead 0 0 0 0 false 20) ∧ Ch No w w' := by
  have hK : Ch No w w := Ch.refl w
  refine calls @Try.func30 rfl @Try.ntmps30 rfl ?_
  show JC _ _ _ _ _ [(0, .slice a 0 cap)] _
  refine JC.seq ?_
  refine JC.region ?_
  refine JL.alloc rfl (@Try.zeroValue80 _) ?_
  intro b1 w2 hg3 hc4 Bb1
  have ge_b1 : _ ≤ b1 := Nat.le_trans hK.size hg3
  replace hK := hK.no hc4
  refine JL.val rfl (Run.assign .const) ?_
  refine JL.nil ?_
  refine JE.seq ?_
  refine JC.seq ?_
  refine JC.seq ?_
  refine JC.region ?_
  refine JL.val rfl (Run.move (.tmp (.there rfl (.there rfl .here)))) ?_
  refine JL.val rfl (Run.len @Try.underlying53 (.tmp .here)) ?_
  refine JL.val rfl (Run.eql (.tmp .here) .const) ?_
  refine JL.nil ?_
  refine JE.seq ?_
  refine JC.condT (.tmp .here) (by simp) ?_
  refine JC.seq ?_
  refine JC.region ?_
  refine JL.val rfl (Run.build (places := #[(0, 1), (1, 1), (2, 1), (3, 1), (4, 1)]) (ps := []) @Try.underlying80 (@Try.zeroValue80 _) (by kernel_rfl) .nil) ?_
  refine JL.storeA (@Try.sizeOf80 _) (.tmp (.there rfl (.there rfl (.there rfl (.there rfl (.there rfl .here)))))) (.tmp .here) (by rfl) (by rfl) Bb1 rfl ?_
  intro w5 hc6 hb7
  replace hK := hK.own hc6 ge_b1
  replace Bb1 := hb7; clear hb7
  refine JL.val rfl (Run.assign .const) ?_
  refine JL.nil ?_
  refine JE.seq ?_
  refine JC.ret ?_
  refine JE.ret_seq ?_
  refine JE.retc2 @Try.results30 (.cell (.there rfl (.there rfl (.there rfl (.there rfl (.there rfl (.there rfl .here)))))) (run_loadVar (@Try.isAgg80 _) (@Try.sizeOf80 _) Bb1 (Nat.le_of_ble_eq_true rfl))) (.tmp .here) ?_
  exact ⟨rfl, hK⟩

set_option maxHeartbeats 2000000 in
theorem rread_cons (b o cap : Nat) (c : UInt8) (r : List UInt8) (hcap : (c :: r).length ≤ cap) (hcm : cap ≤ 9223372036854775807) (w0 : World) (hb : Bs w0 b o (c :: r)) :
    Calls Try.prog 30 #[.slice (some ⟨b, o, none⟩) (c :: r).length cap] w0 fun e w' => e = .returned (readF (c :: r)) ∧ Ch No w0 w' := by
  have hK : Ch No w0 w0 := Ch.refl w0
  have hc := bv_lt c
  have hl : (c :: r).length = r.length + 1 := rfl
  obtain ⟨hc0, hc1⟩ := hc
  refine calls @Try.func30 rfl @Try.ntmps30 rfl ?_
  show JC _ _ _ _ _ [(0, .slice (some ⟨b, o, none⟩) (c :: r).length cap)] _
  refine JC.seq ?_
  refine JC.region ?_
  refine JL.alloc rfl (@Try.zeroValue80 _) ?_
  intro b1 w2 hg3 hc4 Bb1
  have ge_b1 : _ ≤ b1 := Nat.le_trans hK.size hg3
  replace hK := hK.no hc4
  refine JL.val rfl (Run.assign .const) ?_
  refine JL.nil ?_
  refine JE.seq ?_
  refine JC.seq ?_
  refine JC.seq ?_
  refine JC.region ?_
  refine JL.val rfl (Run.move (.tmp (.there rfl (.there rfl .here)))) ?_
  refine JL.val rfl (Run.len @Try.underlying53 (.tmp .here)) ?_
  refine JL.val rfl (Run.eql (.tmp .here) .const) ?_
  refine JL.nil ?_
  refine JE.seq ?_
  refine JC.condF (.tmp .here) (by simp; omega) ?_
  refine JC.skip ?_
  refine JE.seq ?_
  refine JC.seq ?_
  refine JC.any (f := 13) (fun w' => Ch No w0 w') mixed rfl ?_
  intro w5 hd6
  replace Bb1 := Bb1.no hd6
  replace hK := hK.no hd6
  refine JA.take 0 (by kernel_rfl) (by rfl) (by kernel_rfl) (by kernel_rfl) (L := #[true, false, false, false, false, false, false, false, false, false, false, false, false]) rfl rfl (fun w' hI => Run.move (.tmp (.there rfl (.there rfl (.there rfl (.there rfl (.there rfl .here))))))) ?_
  refine JA.take 1 (by kernel_rfl) (by rfl) (by kernel_rfl) (by kernel_rfl) (L := #[true, true, false, false, false, false, false, false, false, false, false, false, false]) rfl rfl (fun w' hI => Run.indexAddr (m := 0) @Try.underlying53 (@Try.sizeOf5 _) (.tmp .here) .const (rfl) (by omega) rfl) ?_
  refine JA.take 2 (by kernel_rfl) (by rfl) (by kernel_rfl) (by kernel_rfl) (L := #[true, true, true, false, false, false, false, false, false, false, false, false, false]) rfl rfl (fun w' hI => Run.load (@Try.isAgg5 _) (.tmp .here) (by first | exact ((hb.no hI) 0 c rfl))) ?_
  refine JA.take 3 (by kernel_rfl) (by rfl) (by kernel_rfl) (by kernel_rfl) (L := #[true, true, true, true, false, false, false, false, false, false, false, false, false]) rfl rfl (fun w' hI => Run.conv @Try.underlying5 @Try.underlying3 (.tmp .here) (wrap_i64 (by omega))) ?_
  refine JA.take 4 (by kernel_rfl) (by rfl) (by kernel_rfl) (by kernel_rfl) (L := #[true, true, true, true, true, false, false, false, false, false, false, false, false]) rfl rfl (fun w' hI => Run.quo (.tmp .here) .const (by decide) (show IntKind.i64.wrap (Int.tdiv (c.toNat : Int) 32) = (c.toNat : Int) / 32 from by rw [Int.tdiv_eq_ediv_of_nonneg (by omega)]; exact wrap_i64 (by omega))) ?_
  refine JA.take 5 (by kernel_rfl) (by rfl) (by kernel_rfl) (by kernel_rfl) (L := #[true, true, true, true, true, true, false, false, false, false, false, false, false]) rfl rfl (fun w' hI => Run.move (.tmp (.there rfl (.there rfl (.there rfl (.there rfl (.there rfl (.there rfl (.there rfl (.there rfl (.there rfl (.there rfl .here)))))))))))) ?_
  refine JA.take 6 (by kernel_rfl) (by rfl) (by kernel_rfl) (by kernel_rfl) (L := #[true, true, true, true, true, true, true, false, false, false, false, false, false]) rfl rfl (fun w' hI => Run.indexAddr (m := 0) @Try.underlying53 (@Try.sizeOf5 _) (.tmp .here) .const (rfl) (by omega) rfl) ?_
  refine JA.take 7 (by kernel_rfl) (by rfl) (by kernel_rfl) (by kernel_rfl) (L := #[true, true, true, true, true, true, true, true, false, false, false, false, false]) rfl rfl (fun w' hI => Run.load (@Try.isAgg5 _) (.tmp .here) (by first | exact ((hb.no hI) 0 c rfl))) ?_
  refine JA.take 8 (by kernel_rfl) (by rfl) (by kernel_rfl) (by kernel_rfl) (L := #[true, true, true, true, true, true, true, true, true, false, false, false, false]) rfl rfl (fun w' hI => Run.conv @Try.underlying5 @Try.underlying3 (.tmp .here) (wrap_i64 (by omega))) ?_
  refine JA.take 9 (by kernel_rfl) (by rfl) (by kernel_rfl) (by kernel_rfl) (L := #[true, true, true, true, true, true, true, true, true, true, false, false, false]) rfl rfl (fun w' hI => Run.rem (.tmp .here) .const (by decide) (show Int.tmod (c.toNat : Int) 32 = (c.toNat : Int) % 32 from Int.tmod_eq_emod_of_nonneg (by omega))) ?_
  refine JA.take 10 (by kernel_rfl) (by rfl) (by kernel_rfl) (by kernel_rfl) (L := #[true, true, true, true, true, true, true, true, true, true, true, false, false]) rfl rfl (fun w' hI => Run.build (places := #[(0, 1), (1, 1), (2, 1), (3, 1), (4, 1)]) (ps := [(0, .tmp 17), (1, .tmp 22), (3, _)]) @Try.underlying80 (@Try.zeroValue80 _) (by kernel_rfl) (.cons (by rfl) (.tmp (.there rfl (.there rfl (.there rfl (.there rfl (.there rfl .here)))))) (by rfl) (by rfl) rfl (.cons (by rfl) (.tmp .here) (by rfl) (by rfl) rfl (.cons (by rfl) .const (by rfl) (by rfl) rfl .nil)))) ?_
  refine JA.alloc 11 rfl (by kernel_rfl) (L := #[true, true, true, true, true, true, true, true, true, true, true, true, false]) rfl rfl hK (@Try.zeroValue80 _) ?_
  intro b7 w8 hg9 hc10 Bb7
  have lt_b1_b7 : b1 < b7 := Nat.lt_of_lt_of_le Bb1.lt hg9
  have ge_b7 : _ ≤ b7 := Nat.le_trans hK.size hg9
  replace Bb1 := Bb1.no hc10
  replace hK := hK.no hc10
  refine JA.storeA 12 rfl (by kernel_rfl) (L := #[true, true, true, true, true, true, true, true, true, true, true, true, true]) rfl hK (@Try.sizeOf80 _) (.tmp .here) (.tmp (.there rfl .here)) (by rfl) (by rfl) Bb7 rfl ?_
  intro w11 hc12 hb13
  replace Bb1 := Bb1.ch hc12 (Nat.ne_of_lt lt_b1_b7)
  replace hK := hK.own hc12 ge_b7
  replace Bb7 := hb13; clear hb13
  refine JA.done (by kernel_rfl) hK ?_
  refine JE.keep (L := _) (.cons .here (.cons (.there rfl (.there rfl (.there rfl (.there rfl (.there rfl (.there rfl (.there rfl (.there rfl (.there rfl (.there rfl (.there rfl (.there rfl (.there rfl (.there rfl (.there rfl .here))))))))))))))) (.cons (.there rfl (.there rfl (.there rfl (.there rfl (.there rfl (.there rfl (.there rfl (.there rfl (.there rfl (.there rfl (.there rfl (.there rfl (.there rfl (.there rfl (.there rfl (.there rfl .here)))))))))))))))) (.cons (.there rfl (.there rfl (.there rfl (.there rfl (.there rfl (.there rfl (.there rfl (.there rfl (.there rfl (.there rfl (.there rfl (.there rfl (.there rfl (.there rfl (.there rfl (.there rfl (.there rfl .here))))))))))))))))) .nil)))) ?_
  refine JE.seq ?_
  refine JC.seq ?_
  refine JC.seq ?_
  refine JC.region ?_
  refine JL.val rfl (Run.fieldAddr (ft := 3) (foff := 1) (off := 1) @Try.underlying80 (by rfl) (@Try.sizeOf3 _) rfl rfl (.tmp .here)) ?_
  refine JL.val rfl (Run.loadB (@Try.isAgg3 _) (.tmp .here) Bb7 (by rfl)) ?_
  refine JL.val rfl (Run.gtr (.tmp .here) .const) ?_
  refine JL.nil ?_
  refine JE.seq ?_
  refine JC.cond (.tmp .here) (fun h27 => ?_) (fun h27 => ?_)
  · have h27 := of_decide_eq_true h27
    refine JC.seq ?_
    refine JC.region ?_
    refine JL.val rfl (Run.fieldAddr (ft := 3) (foff := 1) (off := 1) @Try.underlying80 (by rfl) (@Try.sizeOf3 _) rfl rfl (.tmp (.there rfl (.there rfl (.there rfl .here))))) ?_
    refine JL.val rfl (Run.loadB (@Try.isAgg3 _) (.tmp .here) Bb7 (by rfl)) ?_
    refine JL.val rfl (Run.eql (.tmp .here) .const) ?_
    refine JL.val rfl (Run.move (.tmp .here)) ?_
    refine JL.gsplit (dj := 30) (want := true) .here (fun g31B => ?_) (fun g31B => ?_)
    · have g31 := eq_of_beq g31B
      refine JL.gyesb (oj := _) (by rfl) (by rfl) .here g31B ?_
      refine JL.val rfl (Run.fieldAddr (ft := 3) (foff := 0) (off := 0) @Try.underlying80 (by rfl) (@Try.sizeOf3 _) rfl rfl (.tmp (.there rfl (.there rfl (.there rfl (.there rfl (.there rfl (.there rfl (.there rfl .here))))))))) ?_
      refine JL.gyesb (oj := _) (by rfl) (by rfl) (.there rfl .here) g31B ?_
      refine JL.val rfl (Run.loadB (@Try.isAgg3 _) (.tmp .here) Bb7 (by rfl)) ?_
      refine JL.gyesb (oj := _) (by rfl) (by rfl) (.there rfl (.there rfl .here)) g31B ?_
      refine JL.val rfl (Run.neq (.tmp .here) .const) ?_
      refine JL.val rfl (Run.pickT (.tmp (.there rfl (.there rfl (.there rfl .here)))) g31B (.tmp .here)) ?_
      refine JL.val rfl (Run.move (.tmp .here)) ?_
      refine JL.gsplit (dj := 35) (want := true) .here (fun g0B => ?_) (fun g0B => ?_)
      · have g0 := bne_iff_ne.1 g0B
        refine JL.gyesb (oj := _) (by rfl) (by rfl) .here g0B ?_
        refine JL.val rfl (Run.fieldAddr (ft := 3) (foff := 0) (off := 0) @Try.underlying80 (by rfl) (@Try.sizeOf3 _) rfl rfl (.tmp (.there rfl (.there rfl (.there rfl (.there rfl (.there rfl (.there rfl (.there rfl (.there rfl (.there rfl (.there rfl (.there rfl (.there rfl .here)))))))))))))) ?_
        refine JL.gyesb (oj := _) (by rfl) (by rfl) (.there rfl .here) g0B ?_
        refine JL.val rfl (Run.loadB (@Try.isAgg3 _) (.tmp .here) Bb7 (by rfl)) ?_
        refine JL.gyesb (oj := _) (by rfl) (by rfl) (.there rfl (.there rfl .here)) g0B ?_
        refine JL.val rfl (Run.neq (.tmp .here) .const) ?_
        refine JL.val rfl (Run.pickT (.tmp (.there rfl (.there rfl (.there rfl .here)))) g0B (.tmp .here)) ?_
        refine JL.val rfl (Run.move (.tmp .here)) ?_
        refine JL.gsplit (dj := 40) (want := true) .here (fun g1B => ?_) (fun g1B => ?_)
        · have g1 := bne_iff_ne.1 g1B
          refine JL.gyesb (oj := _) (by rfl) (by rfl) .here g1B ?_
          refine JL.val rfl (Run.fieldAddr (ft := 3) (foff := 0) (off := 0) @Try.underlying80 (by rfl) (@Try.sizeOf3 _) rfl rfl (.tmp (.there rfl (.there rfl (.there rfl (.there rfl (.there rfl (.there rfl (.there rfl (.there rfl (.there rfl (.there rfl (.there rfl (.there rfl (.there rfl (.there rfl (.there rfl (.there rfl (.there rfl .here))))))))))))))))))) ?_
          refine JL.gyesb (oj := _) (by rfl) (by rfl) (.there rfl .here) g1B ?_
          refine JL.val rfl (Run.loadB (@Try.isAgg3 _) (.tmp .here) Bb7 (by rfl)) ?_
          refine JL.gyesb (oj := _) (by rfl) (by rfl) (.there rfl (.there rfl .here)) g1B ?_
          refine JL.val rfl (Run.neq (.tmp .here) .const) ?_
          refine JL.val rfl (Run.pickT (.tmp (.there rfl (.there rfl (.there rfl .here)))) g1B (.tmp .here)) ?_
          refine JL.val rfl (Run.assign (.tmp .here)) ?_
          refine JL.nil ?_
          refine JE.keep (L := _) (.cons .here (.cons (.there rfl (.there rfl (.there rfl (.there rfl (.there rfl (.there rfl (.there rfl (.there rfl (.there rfl (.there rfl (.there rfl (.there rfl (.there rfl (.there rfl (.there rfl (.there rfl (.there rfl (.there rfl (.there rfl (.there rfl (.there rfl (.there rfl .here)))))))))))))))))))))) (.cons (.there rfl (.there rfl (.there rfl (.there rfl (.there rfl (.there rfl (.there rfl (.there rfl (.there rfl (.there rfl (.there rfl (.there rfl (.there rfl (.there rfl (.there rfl (.there rfl (.there rfl (.there rfl (.there rfl (.there rfl (.there rfl (.there rfl (.there rfl .here))))))))))))))))))))))) (.cons (.there rfl (.there rfl (.there rfl (.there rfl (.there rfl (.there rfl (.there rfl (.there rfl (.there rfl (.there rfl (.there rfl (.there rfl (.there rfl (.there rfl (.there rfl (.there rfl (.there rfl (.there rfl (.there rfl (.there rfl (.there rfl (.there rfl (.there rfl (.there rfl .here)))))))))))))))))))))))) (.cons (.there rfl (.there rfl (.there rfl (.there rfl (.there rfl (.there rfl (.there rfl (.there rfl (.there rfl (.there rfl (.there rfl (.there rfl (.there rfl (.there rfl (.there rfl (.there rfl (.there rfl (.there rfl (.there rfl (.there rfl (.there rfl (.there rfl (.there rfl (.there rfl (.there rfl .here))))))))))))))))))))))))) .nil))))) ?_
          refine JE.seq ?_
          refine JC.seq ?_
          refine JC.seq ?_
          refine JC.region ?_
          refine JL.val rfl (Run.move (.tmp .here)) ?_
          refine JL.val rfl (Run.not (.tmp .here)) ?_
          refine JL.nil ?_
          refine JE.seq ?_
          refine JC.cond (.tmp .here) (fun g6 => ?_) (fun g6 => ?_)
          · have g6 : (c.toNat : Int) / 32 = 6 := by simpa using g6
            refine JC.seq ?_
            refine JC.region ?_
            refine JL.val rfl (Run.build (places := #[(0, 1), (1, 1), (2, 1), (3, 1), (4, 1)]) (ps := []) @Try.underlying80 (@Try.zeroValue80 _) (by kernel_rfl) .nil) ?_
            refine JL.storeA (@Try.sizeOf80 _) (.tmp (.there rfl (.there rfl (.there rfl (.there rfl (.there rfl (.there rfl .here))))))) (.tmp .here) (by rfl) (by rfl) Bb1 rfl ?_
            intro w23 hc24 hb25
            replace Bb7 := Bb7.ch hc24 (Nat.ne_of_gt lt_b1_b7)
            replace hK := hK.own hc24 ge_b1
            replace Bb1 := hb25; clear hb25
            refine JL.val rfl (Run.assign .const) ?_
            refine JL.nil ?_
            refine JE.seq ?_
            refine JC.ret ?_
            refine JE.ret_seq ?_
            refine JE.ret_seq ?_
            refine JE.retc2 @Try.results30 (.cell (.there rfl (.there rfl (.there rfl (.there rfl (.there rfl (.there rfl (.there rfl .here))))))) (run_loadVar (@Try.isAgg80 _) (@Try.sizeOf80 _) Bb1 (Nat.le_of_ble_eq_true rfl))) (.tmp .here) ?_
            exact ⟨congrArg Ending.returned (by rw [readF_bad (by omega)]; rfl), hK⟩
          · have g6 : ¬ (c.toNat : Int) / 32 = 6 := by simpa using g6
            refine JC.skip ?_
            refine JE.seq ?_
            refine JC.seq ?_
            refine JC.region ?_
            refine JL.val rfl (Run.fieldAddr (ft := 4) (foff := 4) (off := 4) @Try.underlying80 (by rfl) (@Try.sizeOf4 _) rfl rfl (.tmp (.there rfl (.there rfl (.there rfl .here))))) ?_
            refine JL.storeB (@Try.sizeOf4 _) (.tmp .here) .const (by rfl) (by rfl) Bb7 rfl ?_
            intro w26 hc27 hb28
            replace Bb1 := Bb1.ch hc27 (Nat.ne_of_lt lt_b1_b7)
            replace hK := hK.own hc27 ge_b7
            replace Bb7 := hb28; clear hb28
            refine JL.nil ?_
            refine JE.seq ?_
            refine JC.seq ?_
            refine JC.region ?_
            refine JL.val rfl (Run.loadA (@Try.isAgg80 _) (@Try.sizeOf80 _) (.tmp (.there rfl (.there rfl (.there rfl (.there rfl .here))))) Bb7 rfl) ?_
            refine JL.storeA (@Try.sizeOf80 _) (.tmp (.there rfl (.there rfl (.there rfl (.there rfl (.there rfl (.there rfl (.there rfl .here)))))))) (.tmp .here) (by rfl) (by rfl) Bb1 rfl ?_
            intro w29 hc30 hb31
            replace Bb7 := Bb7.ch hc30 (Nat.ne_of_gt lt_b1_b7)
            replace hK := hK.own hc30 ge_b1
            replace Bb1 := hb31; clear hb31
            refine JL.val rfl (Run.assign .const) ?_
            refine JL.nil ?_
            refine JE.seq ?_
            refine JC.ret ?_
            refine JE.ret_seq ?_
            refine JE.retc2 @Try.results30 (.cell (.there rfl (.there rfl (.there rfl (.there rfl (.there rfl (.there rfl (.there rfl (.there rfl .here)))))))) (run_loadVar (@Try.isAgg80 _) (@Try.sizeOf80 _) Bb1 (Nat.le_of_ble_eq_true rfl))) (.tmp .here) ?_
            exact ⟨congrArg Ending.returned (by rw [readF_end g31 (by omega)]; rfl), hK⟩
        · have g1 := bne_eq_false_iff_eq.1 g1B
          refine JL.gnob rfl (oj := _) (by rfl) (by rfl) .here g1B ?_
          refine JL.gnob rfl (oj := _) (by rfl) (by rfl) (.there rfl .here) g1B ?_
          refine JL.gnob rfl (oj := _) (by rfl) (by rfl) (.there rfl (.there rfl .here)) g1B ?_
          refine JL.val rfl (Run.pickF (.tmp (.there rfl (.there rfl (.there rfl .here)))) g1B .const) ?_
          refine JL.val rfl (Run.assign (.tmp .here)) ?_
          refine JL.nil ?_
          refine JE.keep (L := _) (.cons .here (.cons (.there rfl (.there rfl (.there rfl (.there rfl (.there rfl (.there rfl (.there rfl (.there rfl (.there rfl (.there rfl (.there rfl (.there rfl (.there rfl (.there rfl (.there rfl (.there rfl (.there rfl (.there rfl (.there rfl (.there rfl (.there rfl (.there rfl .here)))))))))))))))))))))) (.cons (.there rfl (.there rfl (.there rfl (.there rfl (.there rfl (.there rfl (.there rfl (.there rfl (.there rfl (.there rfl (.there rfl (.there rfl (.there rfl (.there rfl (.there rfl (.there rfl (.there rfl (.there rfl (.there rfl (.there rfl (.there rfl (.there rfl (.there rfl .here))))))))))))))))))))))) (.cons (.there rfl (.there rfl (.there rfl (.there rfl (.there rfl (.there rfl (.there rfl (.there rfl (.there rfl (.there rfl (.there rfl (.there rfl (.there rfl (.there rfl (.there rfl (.there rfl (.there rfl (.there rfl (.there rfl (.there rfl (.there rfl (.there rfl (.there rfl (.there rfl .here)))))))))))))))))))))))) (.cons (.there rfl (.there rfl (.there rfl (.there rfl (.there rfl (.there rfl (.there rfl (.there rfl (.there rfl (.there rfl (.there rfl (.there rfl (.there rfl (.there rfl (.there rfl (.there rfl (.there rfl (.there rfl (.there rfl (.there rfl (.there rfl (.there rfl (.there rfl (.there rfl (.there rfl .here))))))))))))))))))))))))) .nil))))) ?_
          refine JE.seq ?_
          refine JC.seq ?_
          refine JC.seq ?_
          refine JC.region ?_
          refine JL.val rfl (Run.move (.tmp .here)) ?_
          refine JL.val rfl (Run.not (.tmp .here)) ?_
          refine JL.nil ?_
          refine JE.seq ?_
          refine JC.condT (.tmp .here) (rfl) ?_
          refine JC.seq ?_
          refine JC.region ?_
          refine JL.val rfl (Run.build (places := #[(0, 1), (1, 1), (2, 1), (3, 1), (4, 1)]) (ps := []) @Try.underlying80 (@Try.zeroValue80 _) (by kernel_rfl) .nil) ?_
          refine JL.storeA (@Try.sizeOf80 _) (.tmp (.there rfl (.there rfl (.there rfl (.there rfl (.there rfl (.there rfl .here))))))) (.tmp .here) (by rfl) (by rfl) Bb1 rfl ?_
          intro w20 hc21 hb22
          replace Bb7 := Bb7.ch hc21 (Nat.ne_of_gt lt_b1_b7)
          replace hK := hK.own hc21 ge_b1
          replace Bb1 := hb22; clear hb22
          refine JL.val rfl (Run.assign .const) ?_
          refine JL.nil ?_
          refine JE.seq ?_
          refine JC.ret ?_
          refine JE.ret_seq ?_
          refine JE.ret_seq ?_
          refine JE.retc2 @Try.results30 (.cell (.there rfl (.there rfl (.there rfl (.there rfl (.there rfl (.there rfl (.there rfl .here))))))) (run_loadVar (@Try.isAgg80 _) (@Try.sizeOf80 _) Bb1 (Nat.le_of_ble_eq_true rfl))) (.tmp .here) ?_
          exact ⟨congrArg Ending.returned (by rw [readF_bad (by omega)]; rfl), hK⟩
      · have g0 := bne_eq_false_iff_eq.1 g0B
        refine JL.gnob rfl (oj := _) (by rfl) (by rfl) .here g0B ?_
        refine JL.gnob rfl (oj := _) (by rfl) (by rfl) (.there rfl .here) g0B ?_
        refine JL.gnob rfl (oj := _) (by rfl) (by rfl) (.there rfl (.there rfl .here)) g0B ?_
        refine JL.val rfl (Run.pickF (.tmp (.there rfl (.there rfl (.there rfl .here)))) g0B .const) ?_
        refine JL.val rfl (Run.move (.tmp .here)) ?_
        refine JL.gnob rfl (oj := _) (by rfl) (by rfl) .here rfl ?_
        refine JL.gnob rfl (oj := _) (by rfl) (by rfl) (.there rfl .here) rfl ?_
        refine JL.gnob rfl (oj := _) (by rfl) (by rfl) (.there rfl (.there rfl .here)) rfl ?_
        refine JL.val rfl (Run.pickF (.tmp (.there rfl (.there rfl (.there rfl .here)))) rfl .const) ?_
        refine JL.val rfl (Run.assign (.tmp .here)) ?_
        refine JL.nil ?_
        refine JE.keep (L := _) (.cons .here (.cons (.there rfl (.there rfl (.there rfl (.there rfl (.there rfl (.there rfl (.there rfl (.there rfl (.there rfl (.there rfl (.there rfl (.there rfl (.there rfl (.there rfl (.there rfl (.there rfl (.there rfl (.there rfl (.there rfl (.there rfl (.there rfl (.there rfl .here)))))))))))))))))))))) (.cons (.there rfl (.there rfl (.there rfl (.there rfl (.there rfl (.there rfl (.there rfl (.there rfl (.there rfl (.there rfl (.there rfl (.there rfl (.there rfl (.there rfl (.there rfl (.there rfl (.there rfl (.there rfl (.there rfl (.there rfl (.there rfl (.there rfl (.there rfl .here))))))))))))))))))))))) (.cons (.there rfl (.there rfl (.there rfl (.there rfl (.there rfl (.there rfl (.there rfl (.there rfl (.there rfl (.there rfl (.there rfl (.there rfl (.there rfl (.there rfl (.there rfl (.there rfl (.there rfl (.there rfl (.there rfl (.there rfl (.there rfl (.there rfl (.there rfl (.there rfl .here)))))))))))))))))))))))) (.cons (.there rfl (.there rfl (.there rfl (.there rfl (.there rfl (.there rfl (.there rfl (.there rfl (.there rfl (.there rfl (.there rfl (.there rfl (.there rfl (.there rfl (.there rfl (.there rfl (.there rfl (.there rfl (.there rfl (.there rfl (.there rfl (.there rfl (.there rfl (.there rfl (.there rfl .here))))))))))))))))))))))))) .nil))))) ?_
        refine JE.seq ?_
        refine JC.seq ?_
        refine JC.seq ?_
        refine JC.region ?_
        refine JL.val rfl (Run.move (.tmp .here)) ?_
        refine JL.val rfl (Run.not (.tmp .here)) ?_
        refine JL.nil ?_
        refine JE.seq ?_
        refine JC.condT (.tmp .here) (rfl) ?_
        refine JC.seq ?_
        refine JC.region ?_
        refine JL.val rfl (Run.build (places := #[(0, 1), (1, 1), (2, 1), (3, 1), (4, 1)]) (ps := []) @Try.underlying80 (@Try.zeroValue80 _) (by kernel_rfl) .nil) ?_
        refine JL.storeA (@Try.sizeOf80 _) (.tmp (.there rfl (.there rfl (.there rfl (.there rfl (.there rfl (.there rfl .here))))))) (.tmp .here) (by rfl) (by rfl) Bb1 rfl ?_
        intro w17 hc18 hb19
        replace Bb7 := Bb7.ch hc18 (Nat.ne_of_gt lt_b1_b7)
        replace hK := hK.own hc18 ge_b1
        replace Bb1 := hb19; clear hb19
        refine JL.val rfl (Run.assign .const) ?_
        refine JL.nil ?_
        refine JE.seq ?_
        refine JC.ret ?_
        refine JE.ret_seq ?_
        refine JE.ret_seq ?_
        refine JE.retc2 @Try.results30 (.cell (.there rfl (.there rfl (.there rfl (.there rfl (.there rfl (.there rfl (.there rfl .here))))))) (run_loadVar (@Try.isAgg80 _) (@Try.sizeOf80 _) Bb1 (Nat.le_of_ble_eq_true rfl))) (.tmp .here) ?_
        exact ⟨congrArg Ending.returned (by rw [readF_bad (by omega)]; rfl), hK⟩
    · have g31 := ne_of_beq_false g31B
      refine JL.gnob rfl (oj := _) (by rfl) (by rfl) .here g31B ?_
      refine JL.gnob rfl (oj := _) (by rfl) (by rfl) (.there rfl .here) g31B ?_
      refine JL.gnob rfl (oj := _) (by rfl) (by rfl) (.there rfl (.there rfl .here)) g31B ?_
      refine JL.val rfl (Run.pickF (.tmp (.there rfl (.there rfl (.there rfl .here)))) g31B .const) ?_
      refine JL.val rfl (Run.move (.tmp .here)) ?_
      refine JL.gnob rfl (oj := _) (by rfl) (by rfl) .here rfl ?_
      refine JL.gnob rfl (oj := _) (by rfl) (by rfl) (.there rfl .here) rfl ?_
      refine JL.gnob rfl (oj := _) (by rfl) (by rfl) (.there rfl (.there rfl .here)) rfl ?_
      refine JL.val rfl (Run.pickF (.tmp (.there rfl (.there rfl (.there rfl .here)))) rfl .const) ?_
      refine JL.val rfl (Run.move (.tmp .here)) ?_
      refine JL.gnob rfl (oj := _) (by rfl) (by rfl) .here rfl ?_
      refine JL.gnob rfl (oj := _) (by rfl) (by rfl) (.there rfl .here) rfl ?_
      refine JL.gnob rfl (oj := _) (by rfl) (by rfl) (.there rfl (.there rfl .here)) rfl ?_
      refine JL.val rfl (Run.pickF (.tmp (.there rfl (.there rfl (.there rfl .here)))) rfl .const) ?_
      refine JL.val rfl (Run.assign (.tmp .here)) ?_
      refine JL.nil ?_
      refine JE.keep (L := _) (.cons .here (.cons (.there rfl (.there rfl (.there rfl (.there rfl (.there rfl (.there rfl (.there rfl (.there rfl (.there rfl (.there rfl (.there rfl (.there rfl (.there rfl (.there rfl (.there rfl (.there rfl (.there rfl (.there rfl (.there rfl (.there rfl (.there rfl (.there rfl .here)))))))))))))))))))))) (.cons (.there rfl (.there rfl (.there rfl (.there rfl (.there rfl (.there rfl (.there rfl (.there rfl (.there rfl (.there rfl (.there rfl (.there rfl (.there rfl (.there rfl (.there rfl (.there rfl (.there rfl (.there rfl (.there rfl (.there rfl (.there rfl (.there rfl (.there rfl .here))))))))))))))))))))))) (.cons (.there rfl (.there rfl (.there rfl (.there rfl (.there rfl (.there rfl (.there rfl (.there rfl (.there rfl (.there rfl (.there rfl (.there rfl (.there rfl (.there rfl (.there rfl (.there rfl (.there rfl (.there rfl (.there rfl (.there rfl (.there rfl (.there rfl (.there rfl (.there rfl .here)))))))))))))))))))))))) (.cons (.there rfl (.there rfl (.there rfl (.there rfl (.there rfl (.there rfl (.there rfl (.there rfl (.there rfl (.there rfl (.there rfl (.there rfl (.there rfl (.there rfl (.there rfl (.there rfl (.there rfl (.there rfl (.there rfl (.there rfl (.there rfl (.there rfl (.there rfl (.there rfl (.there rfl .here))))))))))))))))))))))))) .nil))))) ?_
      refine JE.seq ?_
      refine JC.seq ?_
      refine JC.seq ?_
      refine JC.region ?_
      refine JL.val rfl (Run.move (.tmp .here)) ?_
      refine JL.val rfl (Run.not (.tmp .here)) ?_
      refine JL.nil ?_
      refine JE.seq ?_
      refine JC.condT (.tmp .here) (rfl) ?_
      refine JC.seq ?_
      refine JC.region ?_
      refine JL.val rfl (Run.build (places := #[(0, 1), (1, 1), (2, 1), (3, 1), (4, 1)]) (ps := []) @Try.underlying80 (@Try.zeroValue80 _) (by kernel_rfl) .nil) ?_
      refine JL.storeA (@Try.sizeOf80 _) (.tmp (.there rfl (.there rfl (.there rfl (.there rfl (.there rfl (.there rfl .here))))))) (.tmp .here) (by rfl) (by rfl) Bb1 rfl ?_
      intro w14 hc15 hb16
      replace Bb7 := Bb7.ch hc15 (Nat.ne_of_gt lt_b1_b7)
      replace hK := hK.own hc15 ge_b1
      replace Bb1 := hb16; clear hb16
      refine JL.val rfl (Run.assign .const) ?_
      refine JL.nil ?_
      refine JE.seq ?_
      refine JC.ret ?_
      refine JE.ret_seq ?_
      refine JE.ret_seq ?_
      refine JE.retc2 @Try.results30 (.cell (.there rfl (.there rfl (.there rfl (.there rfl (.there rfl (.there rfl (.there rfl .here))))))) (run_loadVar (@Try.isAgg80 _) (@Try.sizeOf80 _) Bb1 (Nat.le_of_ble_eq_true rfl))) (.tmp .here) ?_
      exact ⟨congrArg Ending.returned (by rw [readF_bad (by omega)]; rfl), hK⟩
  · have h27 := of_decide_eq_false h27
    refine JC.skip ?_
    refine JE.seq ?_
    refine JC.seq ?_
    refine JC.seq ?_
    refine JC.region ?_
    refine JL.val rfl (Run.fieldAddr (ft := 3) (foff := 1) (off := 1) @Try.underlying80 (by rfl) (@Try.sizeOf3 _) rfl rfl (.tmp (.there rfl (.there rfl (.there rfl .here))))) ?_
    refine JL.val rfl (Run.loadB (@Try.isAgg3 _) (.tmp .here) Bb7 (by rfl)) ?_
    refine JL.val rfl (Run.lss (.tmp .here) .const) ?_
    refine JL.nil ?_
    refine JE.seq ?_
    refine JC.cond (.tmp .here) (fun h24 => ?_) (fun h24 => ?_)
    · have h24 := of_decide_eq_true h24
      refine JC.seq ?_
      refine JC.region ?_
      refine JL.val rfl (Run.fieldAddr (ft := 3) (foff := 1) (off := 1) @Try.underlying80 (by rfl) (@Try.sizeOf3 _) rfl rfl (.tmp (.there rfl (.there rfl (.there rfl (.there rfl (.there rfl (.there rfl .here)))))))) ?_
      refine JL.val rfl (Run.loadB (@Try.isAgg3 _) (.tmp .here) Bb7 (by rfl)) ?_
      refine JL.val rfl (Run.conv @Try.underlying3 @Try.underlying50 (.tmp .here) (wrap_u64 (by omega))) ?_
      refine JL.val rfl (Run.fieldAddr (ft := 50) (foff := 2) (off := 2) @Try.underlying80 (by rfl) (@Try.sizeOf50 _) rfl rfl (.tmp (.there rfl (.there rfl (.there rfl (.there rfl (.there rfl (.there rfl (.there rfl (.there rfl (.there rfl .here))))))))))) ?_
      refine JL.storeB (@Try.sizeOf50 _) (.tmp .here) (.tmp (.there rfl .here)) (by rfl) (by rfl) Bb7 rfl ?_
      intro w32 hc33 hb34
      replace Bb1 := Bb1.ch hc33 (Nat.ne_of_lt lt_b1_b7)
      replace hK := hK.own hc33 ge_b7
      replace Bb7 := hb34; clear hb34
      refine JL.nil ?_
      refine JE.keep (L := _) (.cons (.there rfl (.there rfl (.there rfl (.there rfl (.there rfl (.there rfl (.there rfl (.there rfl (.there rfl (.there rfl .here)))))))))) (.cons (.there rfl (.there rfl (.there rfl (.there rfl (.there rfl (.there rfl (.there rfl (.there rfl (.there rfl (.there rfl (.there rfl .here))))))))))) (.cons (.there rfl (.there rfl (.there rfl (.there rfl (.there rfl (.there rfl (.there rfl (.there rfl (.there rfl (.there rfl (.there rfl (.there rfl .here)))))))))))) (.cons (.there rfl (.there rfl (.there rfl (.there rfl (.there rfl (.there rfl (.there rfl (.there rfl (.there rfl (.there rfl (.there rfl (.there rfl (.there rfl .here))))))))))))) .nil)))) ?_
      refine JE.seq ?_
      refine JC.seq ?_
      refine JC.region ?_
      refine JL.val rfl (Run.fieldAddr (ft := 4) (foff := 4) (off := 4) @Try.underlying80 (by rfl) (@Try.sizeOf4 _) rfl rfl (.tmp .here)) ?_
      refine JL.storeB (@Try.sizeOf4 _) (.tmp .here) .const (by rfl) (by rfl) Bb7 rfl ?_
      intro w35 hc36 hb37
      replace Bb1 := Bb1.ch hc36 (Nat.ne_of_lt lt_b1_b7)
      replace hK := hK.own hc36 ge_b7
      replace Bb7 := hb37; clear hb37
      refine JL.nil ?_
      refine JE.seq ?_
      refine JC.seq ?_
      refine JC.region ?_
      refine JL.val rfl (Run.loadA (@Try.isAgg80 _) (@Try.sizeOf80 _) (.tmp (.there rfl .here)) Bb7 rfl) ?_
      refine JL.storeA (@Try.sizeOf80 _) (.tmp (.there rfl (.there rfl (.there rfl (.there rfl .here))))) (.tmp .here) (by rfl) (by rfl) Bb1 rfl ?_
      intro w38 hc39 hb40
      replace Bb7 := Bb7.ch hc39 (Nat.ne_of_gt lt_b1_b7)
      replace hK := hK.own hc39 ge_b1
      replace Bb1 := hb40; clear hb40
      refine JL.val rfl (Run.assign .const) ?_
      refine JL.nil ?_
      refine JE.seq ?_
      refine JC.ret ?_
      refine JE.ret_seq ?_
      refine JE.retc2 @Try.results30 (.cell (.there rfl (.there rfl (.there rfl (.there rfl (.there rfl .here))))) (run_loadVar (@Try.isAgg80 _) (@Try.sizeOf80 _) Bb1 (Nat.le_of_ble_eq_true rfl))) (.tmp .here) ?_
      exact ⟨congrArg Ending.returned (by rw [readF_small (m := (c.toNat : Int) / 32) (i := (c.toNat : Int) % 32) (by omega) (by omega) (by omega) (by omega) h24]; rfl), hK⟩
    · have h24 := of_decide_eq_false h24
      refine JC.skip ?_
      refine JE.seq ?_
      refine JC.seq ?_
      refine JC.region ?_
      refine JL.val rfl (Run.assign .const) ?_
      refine JL.nil ?_
      refine JE.seq ?_
      refine JC.seq ?_
      refine JC.seq ?_
      refine JC.region ?_
      refine JL.val rfl (Run.assign .const) ?_
      refine JL.nil ?_
      refine JE.seq ?_
      refine JC.block ?_
      refine JC.loop (α := Nat × Nat) (fun ⟨i, sz⟩ => [(0, .slice (some ⟨b, o, none⟩) (c :: r).length cap), (2, .pointer (some ⟨b1, 0, none⟩)), (4, .pointer (some ⟨b7, 0, none⟩)), (6, .int .i64 (sz : Int)), (7, .int .i64 (i : Int))]) (fun ⟨i, sz⟩ w => ((i : Int) = 24 ∧ sz = 1 ∨ (i : Int) = 25 ∧ sz = 2 ∨ (i : Int) = 26 ∧ sz = 4 ∨ (i : Int) = 27 ∧ sz = 8) ∧ (i : Int) ≤ (c.toNat : Int) % 32 ∧ Blk w b7 80 [.int .i64 ((c.toNat : Int) / 32), .int .i64 ((c.toNat : Int) % 32), .int .u64 (0), .int .i64 1, .bool false] ∧ Blk w b1 80 [.int .i64 0, .int .i64 0, .int .u64 0, .int .i64 0, .bool false] ∧ Ch No w0 w) (fun ⟨i, sz⟩ => 28 - i) (24, 1) ⟨.inl ⟨rfl, rfl⟩, by omega, Bb7, Bb1, hK⟩ (.cons (.there rfl (.there rfl (.there rfl (.there rfl (.there rfl (.there rfl (.there rfl (.there rfl (.there rfl (.there rfl (.there rfl .here))))))))))) (.cons (.there rfl (.there rfl (.there rfl (.there rfl (.there rfl (.there rfl (.there rfl (.there rfl (.there rfl (.there rfl .here)))))))))) (.cons (.there rfl (.there rfl (.there rfl (.there rfl (.there rfl (.there rfl (.there rfl (.there rfl .here)))))))) (.conse (.there rfl .here) (rfl) (.conse .here (rfl) .nil))))) ?_
      rintro ⟨i, sz⟩ w41 m42 ⟨hi, hle, Bb7, Bb1, hK⟩ hmu43
      show JC _ _ _ _ _ [(0, .slice (some ⟨b, o, none⟩) (c :: r).length cap), (2, .pointer (some ⟨b1, 0, none⟩)), (4, .pointer (some ⟨b7, 0, none⟩)), (6, .int .i64 (sz : Int)), (7, .int .i64 (i : Int))] _
      refine JC.seq ?_
      refine JC.seq ?_
      refine JC.region ?_
      refine JL.val rfl (Run.move (.tmp (.there rfl (.there rfl (.there rfl (.there rfl .here)))))) ?_
      refine JL.val rfl (Run.fieldAddr (ft := 3) (foff := 1) (off := 1) @Try.underlying80 (by rfl) (@Try.sizeOf3 _) rfl rfl (.tmp (.there rfl (.there rfl (.there rfl .here))))) ?_
      refine JL.val rfl (Run.loadB (@Try.isAgg3 _) (.tmp .here) Bb7 (by rfl)) ?_
      refine JL.val rfl (Run.lss (.tmp (.there rfl (.there rfl .here))) (.tmp .here)) ?_
      refine JL.nil ?_
      refine JE.seq ?_
      refine JC.cond (.tmp .here) (fun hlt => ?_) (fun hlt => ?_)
      · have hlt := of_decide_eq_true hlt
        refine JC.skip ?_
        refine JE.seq ?_
        refine JC.seq ?_
        refine JC.block ?_
        refine JC.region ?_
        refine JL.val rfl (Run.move (.tmp (.there rfl (.there rfl (.there rfl (.there rfl (.there rfl (.there rfl (.there rfl .here))))))))) ?_
        refine JL.val rfl (Run.mul .const (.tmp .here) (wrap_i64 (by omega))) ?_
        refine JL.val rfl (Run.assign (.tmp .here)) ?_
        refine JL.nil ?_
        refine JE.blk ?_
        refine JE.seq ?_
        refine JC.region ?_
        refine JL.val rfl (Run.move (.tmp (.there rfl (.there rfl (.there rfl (.there rfl (.there rfl (.there rfl (.there rfl (.there rfl (.there rfl (.there rfl (.there rfl .here))))))))))))) ?_
        refine JL.val rfl (Run.add (.tmp .here) .const (wrap_i64 (by omega))) ?_
        refine JL.val rfl (Run.assign (.tmp .here)) ?_
        refine JL.nil ?_
        exact JE.again (i + 1, 2 * sz) (.cons (.there rfl (.there rfl (.there rfl (.there rfl (.there rfl (.there rfl (.there rfl (.there rfl (.there rfl (.there rfl .here)))))))))) (.cons (.there rfl (.there rfl (.there rfl (.there rfl (.there rfl (.there rfl (.there rfl (.there rfl (.there rfl (.there rfl (.there rfl .here))))))))))) (.cons (.there rfl (.there rfl (.there rfl (.there rfl (.there rfl (.there rfl (.there rfl (.there rfl (.there rfl (.there rfl (.there rfl (.there rfl .here)))))))))))) (.conse (.there rfl (.there rfl (.there rfl .here))) (by simp) (.conse .here (by simp) .nil))))) (⟨by omega, by omega, Bb7, Bb1, hK⟩) (by simp only [hmu43]; omega)
      · have hlt := of_decide_eq_false hlt
        have hii : (i : Int) = (c.toNat : Int) % 32 := by omega
        rw [hii] at hi
        have hbe := beh_is hi
        refine JC.exit ?_
        refine JE.exit_seq ?_
        refine JE.exit_seq ?_
        refine JE.exit_here ?_
        refine JE.seq ?_
        refine JC.seq ?_
        refine JC.seq ?_
        refine JC.region ?_
        refine JL.val rfl (Run.move (.tmp (.there rfl (.there rfl (.there rfl (.there rfl .here)))))) ?_
        refine JL.val rfl (Run.len @Try.underlying53 (.tmp .here)) ?_
        refine JL.val rfl (Run.move (.tmp (.there rfl (.there rfl (.there rfl (.there rfl (.there rfl (.there rfl (.there rfl (.there rfl (.there rfl .here))))))))))) ?_
        refine JL.val rfl (Run.add .const (.tmp .here) (wrap_i64 (by omega))) ?_
        refine JL.val rfl (Run.lss (.tmp (.there rfl (.there rfl .here))) (.tmp .here)) ?_
        refine JL.nil ?_
        refine JE.keep (L := _) (.cons .here (.cons (.there rfl (.there rfl (.there rfl (.there rfl (.there rfl (.there rfl (.there rfl (.there rfl (.there rfl .here))))))))) (.cons (.there rfl (.there rfl (.there rfl (.there rfl (.there rfl (.there rfl (.there rfl (.there rfl (.there rfl (.there rfl .here)))))))))) (.cons (.there rfl (.there rfl (.there rfl (.there rfl (.there rfl (.there rfl (.there rfl (.there rfl (.there rfl (.there rfl (.there rfl .here))))))))))) (.cons (.there rfl (.there rfl (.there rfl (.there rfl (.there rfl (.there rfl (.there rfl (.there rfl (.there rfl (.there rfl (.there rfl (.there rfl .here)))))))))))) .nil))))) ?_
        refine JE.seq ?_
        refine JC.cond (.tmp .here) (fun hs => ?_) (fun hs => ?_)
        · have hs := of_decide_eq_true hs
          refine JC.seq ?_
          refine JC.region ?_
          refine JL.val rfl (Run.build (places := #[(0, 1), (1, 1), (2, 1), (3, 1), (4, 1)]) (ps := []) @Try.underlying80 (@Try.zeroValue80 _) (by kernel_rfl) .nil) ?_
          refine JL.storeA (@Try.sizeOf80 _) (.tmp (.there rfl (.there rfl (.there rfl .here)))) (.tmp .here) (by rfl) (by rfl) Bb1 rfl ?_
          intro w44 hc45 hb46
          replace Bb7 := Bb7.ch hc45 (Nat.ne_of_gt lt_b1_b7)
          replace hK := hK.own hc45 ge_b1
          replace Bb1 := hb46; clear hb46
          refine JL.val rfl (Run.assign .const) ?_
          refine JL.nil ?_
          refine JE.seq ?_
          refine JC.ret ?_
          refine JE.ret_seq ?_
          refine JE.retc2 @Try.results30 (.cell (.there rfl (.there rfl (.there rfl (.there rfl .here)))) (run_loadVar (@Try.isAgg80 _) (@Try.sizeOf80 _) Bb1 (Nat.le_of_ble_eq_true rfl))) (.tmp .here) ?_
          exact ⟨congrArg Ending.returned (by rw [readF_20 (by omega) hbe hs]; rfl), hK⟩
        · have hs := of_decide_eq_false hs
          refine JC.skip ?_
          refine JE.seq ?_
          refine JC.seq ?_
          refine JC.seq ?_
          refine JC.region ?_
          refine JL.val rfl (Run.assign .const) ?_
          refine JL.nil ?_
          refine JE.seq ?_
          refine JC.block ?_
          refine JC.loop (α := Nat) (fun t => [(0, .slice (some ⟨b, o, none⟩) (c :: r).length cap), (2, .pointer (some ⟨b1, 0, none⟩)), (4, .pointer (some ⟨b7, 0, none⟩)), (6, .int .i64 (sz : Int)), (8, .int .i64 ((t + 1 : Nat) : Int))]) (fun t w => t ≤ sz ∧ Blk w b7 80 [.int .i64 ((c.toNat : Int) / 32), .int .i64 ((c.toNat : Int) % 32), .int .u64 (be (r.take t)), .int .i64 1, .bool false] ∧ Blk w b1 80 [.int .i64 0, .int .i64 0, .int .u64 0, .int .i64 0, .bool false] ∧ Ch No w0 w) (fun t => sz - t) 0 ⟨Nat.zero_le _, Bb7, Bb1, hK⟩ (.cons (.there rfl (.there rfl .here)) (.cons (.there rfl (.there rfl (.there rfl .here))) (.cons (.there rfl (.there rfl (.there rfl (.there rfl .here)))) (.cons (.there rfl (.there rfl (.there rfl (.there rfl (.there rfl .here))))) (.conse .here (rfl) .nil))))) ?_
          rintro t w47 m48 ⟨ht, Bb7, Bb1, hK⟩ hmu49
          show JC _ _ _ _ _ [(0, .slice (some ⟨b, o, none⟩) (c :: r).length cap), (2, .pointer (some ⟨b1, 0, none⟩)), (4, .pointer (some ⟨b7, 0, none⟩)), (6, .int .i64 (sz : Int)), (8, .int .i64 ((t + 1 : Nat) : Int))] _
          refine JC.seq ?_
          refine JC.seq ?_
          refine JC.region ?_
          refine JL.val rfl (Run.move (.tmp (.there rfl (.there rfl (.there rfl (.there rfl .here)))))) ?_
          refine JL.val rfl (Run.move (.tmp (.there rfl (.there rfl (.there rfl (.there rfl .here)))))) ?_
          refine JL.val rfl (Run.leq (.tmp (.there rfl .here)) (.tmp .here)) ?_
          refine JL.nil ?_
          refine JE.seq ?_
          refine JC.cond (.tmp .here) (fun hts => ?_) (fun hts => ?_)
          · have hts := of_decide_eq_true hts
            have hrl : t < r.length := by omega
            have hbt := be_bd7 (l := r.take t) (by simp; omega)
            obtain ⟨hbt0, hbt1⟩ := hbt
            have hcc := bv_lt r[t]
            obtain ⟨hcc0, hcc1⟩ := hcc
            refine JC.skip ?_
            refine JE.seq ?_
            refine JC.seq ?_
            refine JC.block ?_
            refine JC.drawnc (m := 10) mixed (by kernel_rfl) ?_
            intro w50 hd51
            replace Bb1 := Bb1.no hd51
            replace Bb7 := Bb7.no hd51
            replace hK := hK.no hd51
            refine JS.val rfl (Run.fieldAddr (ft := 50) (foff := 2) (off := 2) @Try.underlying80 (by rfl) (@Try.sizeOf50 _) rfl rfl (.tmp (.there rfl (.there rfl (.there rfl (.there rfl (.there rfl .here))))))) ?_
            refine JS.val rfl (Run.loadB (@Try.isAgg50 _) (.tmp .here) Bb7 (by rfl)) ?_
            refine JS.val rfl (Run.mul .const (.tmp .here) (wrap_u64 (by omega))) ?_
            refine JS.val rfl (Run.move (.tmp (.there rfl (.there rfl (.there rfl (.there rfl (.there rfl (.there rfl .here)))))))) ?_
            refine JS.val rfl (Run.move (.tmp (.there rfl (.there rfl (.there rfl (.there rfl (.there rfl (.there rfl (.there rfl (.there rfl (.there rfl (.there rfl (.there rfl .here))))))))))))) ?_
            refine JS.val rfl (Run.indexAddr (m := t + 1) @Try.underlying53 (@Try.sizeOf5 _) (.tmp (.there rfl .here)) (.tmp .here) (rfl) (by omega) rfl) ?_
            refine JS.val rfl (Run.load (@Try.isAgg5 _) (.tmp .here) (by first | exact (bs_succ (hb.no hK) hrl (by omega)))) ?_
            refine JS.val rfl (Run.conv @Try.underlying5 @Try.underlying50 (.tmp .here) (wrap_u64 (by omega))) ?_
            refine JS.val rfl (Run.add (.tmp (.there rfl (.there rfl (.there rfl (.there rfl (.there rfl .here)))))) (.tmp .here) (wrap_u64 (by omega))) ?_
            refine JS.val rfl (Run.fieldAddr (ft := 50) (foff := 2) (off := 2) @Try.underlying80 (by rfl) (@Try.sizeOf50 _) rfl rfl (.tmp (.there rfl (.there rfl (.there rfl (.there rfl (.there rfl (.there rfl (.there rfl (.there rfl (.there rfl (.there rfl (.there rfl (.there rfl (.there rfl (.there rfl .here)))))))))))))))) ?_
            refine JS.tail ?_
            refine JL.storeB (@Try.sizeOf50 _) (.tmp .here) (.tmp (.there rfl .here)) (by rfl) (by rfl) Bb7 rfl ?_
            intro w52 hc53 hb54
            replace Bb1 := Bb1.ch hc53 (Nat.ne_of_lt lt_b1_b7)
            replace hK := hK.own hc53 ge_b7
            replace Bb7 := hb54; clear hb54
            refine JL.nil ?_
            refine JE.blk ?_
            refine JE.seq ?_
            refine JC.region ?_
            refine JL.val rfl (Run.move (.tmp (.there rfl (.there rfl (.there rfl (.there rfl (.there rfl (.there rfl (.there rfl (.there rfl (.there rfl (.there rfl (.there rfl (.there rfl (.there rfl (.there rfl (.there rfl (.there rfl (.there rfl .here))))))))))))))))))) ?_
            refine JL.val rfl (Run.add (.tmp .here) .const (wrap_i64 (by omega))) ?_
            refine JL.val rfl (Run.assign (.tmp .here)) ?_
            refine JL.nil ?_
            exact JE.again (t + 1) (.cons (.there rfl (.there rfl (.there rfl (.there rfl (.there rfl (.there rfl (.there rfl (.there rfl (.there rfl (.there rfl (.there rfl (.there rfl (.there rfl (.there rfl (.there rfl (.there rfl .here)))))))))))))))) (.cons (.there rfl (.there rfl (.there rfl (.there rfl (.there rfl (.there rfl (.there rfl (.there rfl (.there rfl (.there rfl (.there rfl (.there rfl (.there rfl (.there rfl (.there rfl (.there rfl (.there rfl .here))))))))))))))))) (.cons (.there rfl (.there rfl (.there rfl (.there rfl (.there rfl (.there rfl (.there rfl (.there rfl (.there rfl (.there rfl (.there rfl (.there rfl (.there rfl (.there rfl (.there rfl (.there rfl (.there rfl (.there rfl .here)))))))))))))))))) (.cons (.there rfl (.there rfl (.there rfl (.there rfl (.there rfl (.there rfl (.there rfl (.there rfl (.there rfl (.there rfl (.there rfl (.there rfl (.there rfl (.there rfl (.there rfl (.there rfl (.there rfl (.there rfl (.there rfl .here))))))))))))))))))) (.conse .here (rfl) .nil))))) (⟨by omega, by rw [be_take hrl, Int.mul_comm]; exact Bb7, Bb1, hK⟩) (by simp only [hmu49]; omega)
          · have hts := of_decide_eq_false hts
            obtain rfl : t = sz := by omega
            have hN0 := (be_bd (r.take t)).1
            have hN1 := be_lt64 (l := r.take t) (by simp; omega)
            refine JC.exit ?_
            refine JE.exit_seq ?_
            refine JE.exit_seq ?_
            refine JE.exit_here ?_
            refine JE.seq ?_
            refine JC.seq ?_
            refine JC.region ?_
            refine JL.val rfl (Run.move (.tmp (.there rfl (.there rfl (.there rfl (.there rfl (.there rfl (.there rfl .here)))))))) ?_
            refine JL.val rfl (Run.add .const (.tmp .here) (wrap_i64 (by omega))) ?_
            refine JL.val rfl (Run.fieldAddr (ft := 3) (foff := 3) (off := 3) @Try.underlying80 (by rfl) (@Try.sizeOf3 _) rfl rfl (.tmp (.there rfl (.there rfl (.there rfl (.there rfl (.there rfl (.there rfl (.there rfl .here))))))))) ?_
            refine JL.storeB (@Try.sizeOf3 _) (.tmp .here) (.tmp (.there rfl .here)) (by rfl) (by rfl) Bb7 rfl ?_
            intro w55 hc56 hb57
            replace Bb1 := Bb1.ch hc56 (Nat.ne_of_lt lt_b1_b7)
            replace hK := hK.own hc56 ge_b7
            replace Bb7 := hb57; clear hb57
            refine JL.nil ?_
            refine JE.keep (L := _) (.cons (.there rfl (.there rfl (.there rfl (.there rfl (.there rfl (.there rfl (.there rfl .here))))))) (.cons (.there rfl (.there rfl (.there rfl (.there rfl (.there rfl (.there rfl (.there rfl (.there rfl .here)))))))) .nil)) ?_
            refine JE.seq ?_
            refine JC.seq ?_
            refine JC.seq ?_
            refine JC.region ?_
            refine JL.val rfl (Run.fieldAddr (ft := 3) (foff := 0) (off := 0) @Try.underlying80 (by rfl) (@Try.sizeOf3 _) rfl rfl (.tmp (.there rfl .here))) ?_
            refine JL.val rfl (Run.loadB (@Try.isAgg3 _) (.tmp .here) Bb7 (by rfl)) ?_
            refine JL.val rfl (Run.eql (.tmp .here) .const) ?_
            refine JL.val rfl (Run.move (.tmp .here)) ?_
            refine JL.gsplit (dj := 94) (want := true) .here (fun g7B => ?_) (fun g7B => ?_)
            · have g7 := eq_of_beq g7B
              refine JL.gyesb (oj := _) (by rfl) (by rfl) .here g7B ?_
              refine JL.val rfl (Run.fieldAddr (ft := 3) (foff := 1) (off := 1) @Try.underlying80 (by rfl) (@Try.sizeOf3 _) rfl rfl (.tmp (.there rfl (.there rfl (.there rfl (.there rfl (.there rfl .here))))))) ?_
              refine JL.gyesb (oj := _) (by rfl) (by rfl) (.there rfl .here) g7B ?_
              refine JL.val rfl (Run.loadB (@Try.isAgg3 _) (.tmp .here) Bb7 (by rfl)) ?_
              refine JL.gyesb (oj := _) (by rfl) (by rfl) (.there rfl (.there rfl .here)) g7B ?_
              refine JL.val rfl (Run.eql (.tmp .here) .const) ?_
              refine JL.val rfl (Run.pickT (.tmp (.there rfl (.there rfl (.there rfl .here)))) g7B (.tmp .here)) ?_
              refine JL.val rfl (Run.move (.tmp .here)) ?_
              refine JL.gsplit (dj := 99) (want := true) .here (fun g24B => ?_) (fun g24B => ?_)
              · have g24 := eq_of_beq g24B
                refine JL.gyesb (oj := _) (by rfl) (by rfl) .here g24B ?_
                refine JL.val rfl (Run.fieldAddr (ft := 50) (foff := 2) (off := 2) @Try.underlying80 (by rfl) (@Try.sizeOf50 _) rfl rfl (.tmp (.there rfl (.there rfl (.there rfl (.there rfl (.there rfl (.there rfl (.there rfl (.there rfl (.there rfl (.there rfl .here)))))))))))) ?_
                refine JL.gyesb (oj := _) (by rfl) (by rfl) (.there rfl .here) g24B ?_
                refine JL.val rfl (Run.loadB (@Try.isAgg50 _) (.tmp .here) Bb7 (by rfl)) ?_
                refine JL.gyesb (oj := _) (by rfl) (by rfl) (.there rfl (.there rfl .here)) g24B ?_
                refine JL.val rfl (Run.lss (.tmp .here) .const) ?_
                refine JL.val rfl (Run.pickT (.tmp (.there rfl (.there rfl (.there rfl .here)))) g24B (.tmp .here)) ?_
                refine JL.nil ?_
                refine JE.keep (L := _) (.cons .here (.cons (.there rfl (.there rfl (.there rfl (.there rfl (.there rfl (.there rfl (.there rfl (.there rfl (.there rfl (.there rfl (.there rfl (.there rfl (.there rfl .here))))))))))))) (.cons (.there rfl (.there rfl (.there rfl (.there rfl (.there rfl (.there rfl (.there rfl (.there rfl (.there rfl (.there rfl (.there rfl (.there rfl (.there rfl (.there rfl .here)))))))))))))) .nil))) ?_
                refine JE.seq ?_
                refine JC.cond (.tmp .here) (fun g32 => ?_) (fun g32 => ?_)
                · have g32 := of_decide_eq_true g32
                  refine JC.seq ?_
                  refine JC.region ?_
                  refine JL.val rfl (Run.build (places := #[(0, 1), (1, 1), (2, 1), (3, 1), (4, 1)]) (ps := []) @Try.underlying80 (@Try.zeroValue80 _) (by kernel_rfl) .nil) ?_
                  refine JL.storeA (@Try.sizeOf80 _) (.tmp (.there rfl (.there rfl .here))) (.tmp .here) (by rfl) (by rfl) Bb1 rfl ?_
                  intro w88 hc89 hb90
                  replace Bb7 := Bb7.ch hc89 (Nat.ne_of_gt lt_b1_b7)
                  replace hK := hK.own hc89 ge_b1
                  replace Bb1 := hb90; clear hb90
                  refine JL.val rfl (Run.assign .const) ?_
                  refine JL.nil ?_
                  refine JE.seq ?_
                  refine JC.ret ?_
                  refine JE.ret_seq ?_
                  refine JE.retc2 @Try.results30 (.cell (.there rfl (.there rfl (.there rfl .here))) (run_loadVar (@Try.isAgg80 _) (@Try.sizeOf80 _) Bb1 (Nat.le_of_ble_eq_true rfl))) (.tmp .here) ?_
                  exact ⟨congrArg Ending.returned (by rw [readF_21 (by omega) hbe hs h24 ⟨g7, g24, g32⟩]; rfl), hK⟩
                · have g32 := of_decide_eq_false g32
                  refine JC.skip ?_
                  refine JE.seq ?_
                  refine JC.seq ?_
                  refine JC.any (f := 13) (fun w' => Ch No w0 w' ∧ ∃ v, Blk w' b7 80 [.int .i64 ((c.toNat : Int) / 32), .int .i64 ((c.toNat : Int) % 32), .int .u64 (be (r.take t)), .int .i64 (1 + (t : Int)), v]) mixed rfl ?_
                  intro w91 hd92
                  replace Bb1 := Bb1.no hd92
                  replace Bb7 := Bb7.no hd92
                  replace hK := hK.no hd92
                  refine JA.take 0 (by kernel_rfl) (by rfl) (by kernel_rfl) (by kernel_rfl) (L := #[true, false, false, false, false, false, false, false, false, false, false, false, false]) rfl rfl (fun w' hI => Run.fieldAddr (ft := 3) (foff := 0) (off := 0) @Try.underlying80 (by rfl) (@Try.sizeOf3 _) rfl rfl (.tmp (.there rfl (.there rfl .here)))) ?_
                  refine JA.take 1 (by kernel_rfl) (by rfl) (by kernel_rfl) (by kernel_rfl) (L := #[true, true, false, false, false, false, false, false, false, false, false, false, false]) rfl rfl (fun w' hI => Run.loadB (@Try.isAgg3 _) (.tmp .here) (hI.2.choose_spec) (by rfl)) ?_
                  refine JA.take 2 (by kernel_rfl) (by rfl) (by kernel_rfl) (by kernel_rfl) (L := #[true, true, true, false, false, false, false, false, false, false, false, false, false]) rfl rfl (fun w' hI => Run.eql (.tmp .here) .const) ?_
                  refine JA.take 3 (by kernel_rfl) (by rfl) (by kernel_rfl) (by kernel_rfl) (L := #[true, true, true, true, false, false, false, false, false, false, false, false, false]) rfl rfl (fun w' hI => Run.move (.tmp .here)) ?_
                  refine JA.gsplit (dj := 108) (want := false) .here (fun k7B => ?_) (fun k7B => ?_)
                  · have k7 := ne_of_beq_false k7B
                    refine JA.takeg 4 (by kernel_rfl) (by rfl) (by kernel_rfl) (by kernel_rfl) (L := #[true, true, true, true, true, false, false, false, false, false, false, false, false]) rfl rfl (oj := _) (by rfl) (by rfl) .here k7B (fun w' hI => Run.fieldAddr (ft := 3) (foff := 3) (off := 3) @Try.underlying80 (by rfl) (@Try.sizeOf3 _) rfl rfl (.tmp (.there rfl (.there rfl (.there rfl (.there rfl (.there rfl (.there rfl .here)))))))) ?_
                    refine JA.takeg 5 (by kernel_rfl) (by rfl) (by kernel_rfl) (by kernel_rfl) (L := #[true, true, true, true, true, true, false, false, false, false, false, false, false]) rfl rfl (oj := _) (by rfl) (by rfl) (.there rfl .here) k7B (fun w' hI => Run.loadB (@Try.isAgg3 _) (.tmp .here) (hI.2.choose_spec) (by rfl)) ?_
                    refine JA.takeg 6 (by kernel_rfl) (by rfl) (by kernel_rfl) (by kernel_rfl) (L := #[true, true, true, true, true, true, true, false, false, false, false, false, false]) rfl rfl (oj := _) (by rfl) (by rfl) (.there rfl (.there rfl .here)) k7B (fun w' hI => Run.fieldAddr (ft := 50) (foff := 2) (off := 2) @Try.underlying80 (by rfl) (@Try.sizeOf50 _) rfl rfl (.tmp (.there rfl (.there rfl (.there rfl (.there rfl (.there rfl (.there rfl (.there rfl (.there rfl .here)))))))))) ?_
                    refine JA.takeg 7 (by kernel_rfl) (by rfl) (by kernel_rfl) (by kernel_rfl) (L := #[true, true, true, true, true, true, true, true, false, false, false, false, false]) rfl rfl (oj := _) (by rfl) (by rfl) (.there rfl (.there rfl (.there rfl .here))) k7B (fun w' hI => Run.loadB (@Try.isAgg50 _) (.tmp .here) (hI.2.choose_spec) (by rfl)) ?_
                    refine JA.onlycg 8 rfl (by kernel_rfl) (L := #[true, true, true, true, true, true, true, true, true, false, false, false, false]) rfl rfl ⟨hK, _, Bb7⟩ (oj := _) (by rfl) (by rfl) (.there rfl (.there rfl (.there rfl (.there rfl .here)))) k7B (Run.call @Try.call9 (.cons (.tmp .here) .nil)) (rsize_any _ hN0 hN1 _) ?_
                    rintro e w99 ⟨rfl, hcs⟩
                    refine ⟨_, rfl, ?_⟩
                    replace Bb1 := Bb1.no hcs
                    replace Bb7 := Bb7.no hcs
                    replace hK := hK.no hcs
                    refine JA.takeg 9 (by kernel_rfl) (by rfl) (by kernel_rfl) (by kernel_rfl) (L := #[true, true, true, true, true, true, true, true, true, true, false, false, false]) rfl rfl (oj := _) (by rfl) (by rfl) (.there rfl (.there rfl (.there rfl (.there rfl (.there rfl .here))))) k7B (fun w' hI => Run.eql (.tmp (.there rfl (.there rfl (.there rfl .here)))) (.tmp .here)) ?_
                    refine JA.take 10 (by kernel_rfl) (by rfl) (by kernel_rfl) (by kernel_rfl) (L := #[true, true, true, true, true, true, true, true, true, true, true, false, false]) rfl rfl (fun w' hI => Run.pickF (.tmp (.there rfl (.there rfl (.there rfl (.there rfl (.there rfl (.there rfl .here))))))) k7B (.tmp .here)) ?_
                    refine JA.take 11 (by kernel_rfl) (by rfl) (by kernel_rfl) (by kernel_rfl) (L := #[true, true, true, true, true, true, true, true, true, true, true, true, false]) rfl rfl (fun w' hI => Run.fieldAddr (ft := 4) (foff := 4) (off := 4) @Try.underlying80 (by rfl) (@Try.sizeOf4 _) rfl rfl (.tmp (.there rfl (.there rfl (.there rfl (.there rfl (.there rfl (.there rfl (.there rfl (.there rfl (.there rfl (.there rfl (.there rfl (.there rfl (.there rfl .here))))))))))))))) ?_
                    refine JA.storeB 12 rfl (by kernel_rfl) (L := #[true, true, true, true, true, true, true, true, true, true, true, true, true]) rfl ⟨hK, _, Bb7⟩ (@Try.sizeOf4 _) (.tmp .here) (.tmp (.there rfl .here)) (by rfl) (by rfl) Bb7 rfl ?_
                    intro w100 hc101 hb102
                    replace Bb1 := Bb1.ch hc101 (Nat.ne_of_lt lt_b1_b7)
                    replace hK := hK.own hc101 ge_b7
                    replace Bb7 := hb102; clear hb102
                    refine JA.done (by kernel_rfl) ⟨hK, _, Bb7⟩ ?_
                    refine JE.keep (L := _) (.cons (.there rfl (.there rfl (.there rfl (.there rfl (.there rfl (.there rfl (.there rfl (.there rfl (.there rfl (.there rfl (.there rfl (.there rfl (.there rfl .here))))))))))))) (.cons (.there rfl (.there rfl (.there rfl (.there rfl (.there rfl (.there rfl (.there rfl (.there rfl (.there rfl (.there rfl (.there rfl (.there rfl (.there rfl (.there rfl .here)))))))))))))) .nil)) ?_
                    refine JE.seq ?_
                    refine JC.seq ?_
                    refine JC.region ?_
                    refine JL.val rfl (Run.loadA (@Try.isAgg80 _) (@Try.sizeOf80 _) (.tmp (.there rfl .here)) Bb7 rfl) ?_
                    refine JL.storeA (@Try.sizeOf80 _) (.tmp (.there rfl .here)) (.tmp .here) (by rfl) (by rfl) Bb1 rfl ?_
                    intro w103 hc104 hb105
                    replace Bb7 := Bb7.ch hc104 (Nat.ne_of_gt lt_b1_b7)
                    replace hK := hK.own hc104 ge_b1
                    replace Bb1 := hb105; clear hb105
                    refine JL.val rfl (Run.assign .const) ?_
                    refine JL.nil ?_
                    refine JE.seq ?_
                    refine JC.ret ?_
                    refine JE.retc2 @Try.results30 (.cell (.there rfl (.there rfl .here)) (run_loadVar (@Try.isAgg80 _) (@Try.sizeOf80 _) Bb1 (Nat.le_of_ble_eq_true rfl))) (.tmp .here) ?_
                    exact ⟨congrArg Ending.returned (by rw [readF_of h24 h27 hbe hs (fun h => g32 h.2.2) (s := (1 + (t : Int) == sizeI (be (r.take t)))) (by rw [Bool.eq_iff_iff, decide_eq_true_iff, beq_iff_eq]; exact ⟨fun h => h.elim (absurd · k7) id, .inr⟩)]; rfl), hK⟩
                  · have k7 := eq_of_beq k7B
                    refine JA.takegn 4 (by kernel_rfl) (by rfl) (by kernel_rfl) (by kernel_rfl) (L := #[true, true, true, true, true, false, false, false, false, false, false, false, false]) rfl rfl (oj := _) (by rfl) (by rfl) .here k7B ?_
                    refine JA.takegn 5 (by kernel_rfl) (by rfl) (by kernel_rfl) (by kernel_rfl) (L := #[true, true, true, true, true, true, false, false, false, false, false, false, false]) rfl rfl (oj := _) (by rfl) (by rfl) (.there rfl .here) k7B ?_
                    refine JA.takegn 6 (by kernel_rfl) (by rfl) (by kernel_rfl) (by kernel_rfl) (L := #[true, true, true, true, true, true, true, false, false, false, false, false, false]) rfl rfl (oj := _) (by rfl) (by rfl) (.there rfl (.there rfl .here)) k7B ?_
                    refine JA.takegn 7 (by kernel_rfl) (by rfl) (by kernel_rfl) (by kernel_rfl) (L := #[true, true, true, true, true, true, true, true, false, false, false, false, false]) rfl rfl (oj := _) (by rfl) (by rfl) (.there rfl (.there rfl (.there rfl .here))) k7B ?_
                    refine JA.takegn 8 (by kernel_rfl) (by rfl) (by kernel_rfl) (by kernel_rfl) (L := #[true, true, true, true, true, true, true, true, true, false, false, false, false]) rfl rfl (oj := _) (by rfl) (by rfl) (.there rfl (.there rfl (.there rfl (.there rfl .here)))) k7B ?_
                    refine JA.takegn 9 (by kernel_rfl) (by rfl) (by kernel_rfl) (by kernel_rfl) (L := #[true, true, true, true, true, true, true, true, true, true, false, false, false]) rfl rfl (oj := _) (by rfl) (by rfl) (.there rfl (.there rfl (.there rfl (.there rfl (.there rfl .here))))) k7B ?_
                    refine JA.take 10 (by kernel_rfl) (by rfl) (by kernel_rfl) (by kernel_rfl) (L := #[true, true, true, true, true, true, true, true, true, true, true, false, false]) rfl rfl (fun w' hI => Run.pickT (.tmp (.there rfl (.there rfl (.there rfl (.there rfl (.there rfl (.there rfl .here))))))) k7B .const) ?_
                    refine JA.take 11 (by kernel_rfl) (by rfl) (by kernel_rfl) (by kernel_rfl) (L := #[true, true, true, true, true, true, true, true, true, true, true, true, false]) rfl rfl (fun w' hI => Run.fieldAddr (ft := 4) (foff := 4) (off := 4) @Try.underlying80 (by rfl) (@Try.sizeOf4 _) rfl rfl (.tmp (.there rfl (.there rfl (.there rfl (.there rfl (.there rfl (.there rfl (.there rfl (.there rfl (.there rfl (.there rfl (.there rfl (.there rfl (.there rfl .here))))))))))))))) ?_
                    refine JA.storeB 12 rfl (by kernel_rfl) (L := #[true, true, true, true, true, true, true, true, true, true, true, true, true]) rfl ⟨hK, _, Bb7⟩ (@Try.sizeOf4 _) (.tmp .here) (.tmp (.there rfl .here)) (by rfl) (by rfl) Bb7 rfl ?_
                    intro w93 hc94 hb95
                    replace Bb1 := Bb1.ch hc94 (Nat.ne_of_lt lt_b1_b7)
                    replace hK := hK.own hc94 ge_b7
                    replace Bb7 := hb95; clear hb95
                    refine JA.done (by kernel_rfl) ⟨hK, _, Bb7⟩ ?_
                    refine JE.keep (L := _) (.cons (.there rfl (.there rfl (.there rfl (.there rfl (.there rfl (.there rfl (.there rfl (.there rfl (.there rfl (.there rfl (.there rfl (.there rfl (.there rfl .here))))))))))))) (.cons (.there rfl (.there rfl (.there rfl (.there rfl (.there rfl (.there rfl (.there rfl (.there rfl (.there rfl (.there rfl (.there rfl (.there rfl (.there rfl (.there rfl .here)))))))))))))) .nil)) ?_
                    refine JE.seq ?_
                    refine JC.seq ?_
                    refine JC.region ?_
                    refine JL.val rfl (Run.loadA (@Try.isAgg80 _) (@Try.sizeOf80 _) (.tmp (.there rfl .here)) Bb7 rfl) ?_
                    refine JL.storeA (@Try.sizeOf80 _) (.tmp (.there rfl .here)) (.tmp .here) (by rfl) (by rfl) Bb1 rfl ?_
                    intro w96 hc97 hb98
                    replace Bb7 := Bb7.ch hc97 (Nat.ne_of_gt lt_b1_b7)
                    replace hK := hK.own hc97 ge_b1
                    replace Bb1 := hb98; clear hb98
                    refine JL.val rfl (Run.assign .const) ?_
                    refine JL.nil ?_
                    refine JE.seq ?_
                    refine JC.ret ?_
                    refine JE.retc2 @Try.results30 (.cell (.there rfl (.there rfl .here)) (run_loadVar (@Try.isAgg80 _) (@Try.sizeOf80 _) Bb1 (Nat.le_of_ble_eq_true rfl))) (.tmp .here) ?_
                    exact ⟨congrArg Ending.returned (by rw [readF_of h24 h27 hbe hs (fun h => g32 h.2.2) (decide_eq_true (.inl k7))]; rfl), hK⟩
              · have g24 := ne_of_beq_false g24B
                refine JL.gnob rfl (oj := _) (by rfl) (by rfl) .here g24B ?_
                refine JL.gnob rfl (oj := _) (by rfl) (by rfl) (.there rfl .here) g24B ?_
                refine JL.gnob rfl (oj := _) (by rfl) (by rfl) (.there rfl (.there rfl .here)) g24B ?_
                refine JL.val rfl (Run.pickF (.tmp (.there rfl (.there rfl (.there rfl .here)))) g24B .const) ?_
                refine JL.nil ?_
                refine JE.keep (L := _) (.cons .here (.cons (.there rfl (.there rfl (.there rfl (.there rfl (.there rfl (.there rfl (.there rfl (.there rfl (.there rfl (.there rfl (.there rfl (.there rfl (.there rfl .here))))))))))))) (.cons (.there rfl (.there rfl (.there rfl (.there rfl (.there rfl (.there rfl (.there rfl (.there rfl (.there rfl (.there rfl (.there rfl (.there rfl (.there rfl (.there rfl .here)))))))))))))) .nil))) ?_
                refine JE.seq ?_
                refine JC.condF (.tmp .here) (rfl) ?_
                refine JC.skip ?_
                refine JE.seq ?_
                refine JC.seq ?_
                refine JC.any (f := 13) (fun w' => Ch No w0 w' ∧ ∃ v, Blk w' b7 80 [.int .i64 ((c.toNat : Int) / 32), .int .i64 ((c.toNat : Int) % 32), .int .u64 (be (r.take t)), .int .i64 (1 + (t : Int)), v]) mixed rfl ?_
                intro w73 hd74
                replace Bb1 := Bb1.no hd74
                replace Bb7 := Bb7.no hd74
                replace hK := hK.no hd74
                refine JA.take 0 (by kernel_rfl) (by rfl) (by kernel_rfl) (by kernel_rfl) (L := #[true, false, false, false, false, false, false, false, false, false, false, false, false]) rfl rfl (fun w' hI => Run.fieldAddr (ft := 3) (foff := 0) (off := 0) @Try.underlying80 (by rfl) (@Try.sizeOf3 _) rfl rfl (.tmp (.there rfl (.there rfl .here)))) ?_
                refine JA.take 1 (by kernel_rfl) (by rfl) (by kernel_rfl) (by kernel_rfl) (L := #[true, true, false, false, false, false, false, false, false, false, false, false, false]) rfl rfl (fun w' hI => Run.loadB (@Try.isAgg3 _) (.tmp .here) (hI.2.choose_spec) (by rfl)) ?_
                refine JA.take 2 (by kernel_rfl) (by rfl) (by kernel_rfl) (by kernel_rfl) (L := #[true, true, true, false, false, false, false, false, false, false, false, false, false]) rfl rfl (fun w' hI => Run.eql (.tmp .here) .const) ?_
                refine JA.take 3 (by kernel_rfl) (by rfl) (by kernel_rfl) (by kernel_rfl) (L := #[true, true, true, true, false, false, false, false, false, false, false, false, false]) rfl rfl (fun w' hI => Run.move (.tmp .here)) ?_
                refine JA.gsplit (dj := 108) (want := false) .here (fun k7B => ?_) (fun k7B => ?_)
                · have k7 := ne_of_beq_false k7B
                  refine JA.takeg 4 (by kernel_rfl) (by rfl) (by kernel_rfl) (by kernel_rfl) (L := #[true, true, true, true, true, false, false, false, false, false, false, false, false]) rfl rfl (oj := _) (by rfl) (by rfl) .here k7B (fun w' hI => Run.fieldAddr (ft := 3) (foff := 3) (off := 3) @Try.underlying80 (by rfl) (@Try.sizeOf3 _) rfl rfl (.tmp (.there rfl (.there rfl (.there rfl (.there rfl (.there rfl (.there rfl .here)))))))) ?_
                  refine JA.takeg 5 (by kernel_rfl) (by rfl) (by kernel_rfl) (by kernel_rfl) (L := #[true, true, true, true, true, true, false, false, false, false, false, false, false]) rfl rfl (oj := _) (by rfl) (by rfl) (.there rfl .here) k7B (fun w' hI => Run.loadB (@Try.isAgg3 _) (.tmp .here) (hI.2.choose_spec) (by rfl)) ?_
                  refine JA.takeg 6 (by kernel_rfl) (by rfl) (by kernel_rfl) (by kernel_rfl) (L := #[true, true, true, true, true, true, true, false, false, false, false, false, false]) rfl rfl (oj := _) (by rfl) (by rfl) (.there rfl (.there rfl .here)) k7B (fun w' hI => Run.fieldAddr (ft := 50) (foff := 2) (off := 2) @Try.underlying80 (by rfl) (@Try.sizeOf50 _) rfl rfl (.tmp (.there rfl (.there rfl (.there rfl (.there rfl (.there rfl (.there rfl (.there rfl (.there rfl .here)))))))))) ?_
                  refine JA.takeg 7 (by kernel_rfl) (by rfl) (by kernel_rfl) (by kernel_rfl) (L := #[true, true, true, true, true, true, true, true, false, false, false, false, false]) rfl rfl (oj := _) (by rfl) (by rfl) (.there rfl (.there rfl (.there rfl .here))) k7B (fun w' hI => Run.loadB (@Try.isAgg50 _) (.tmp .here) (hI.2.choose_spec) (by rfl)) ?_
                  refine JA.onlycg 8 rfl (by kernel_rfl) (L := #[true, true, true, true, true, true, true, true, true, false, false, false, false]) rfl rfl ⟨hK, _, Bb7⟩ (oj := _) (by rfl) (by rfl) (.there rfl (.there rfl (.there rfl (.there rfl .here)))) k7B (Run.call @Try.call9 (.cons (.tmp .here) .nil)) (rsize_any _ hN0 hN1 _) ?_
                  rintro e w81 ⟨rfl, hcs⟩
                  refine ⟨_, rfl, ?_⟩
                  replace Bb1 := Bb1.no hcs
                  replace Bb7 := Bb7.no hcs
                  replace hK := hK.no hcs
                  refine JA.takeg 9 (by kernel_rfl) (by rfl) (by kernel_rfl) (by kernel_rfl) (L := #[true, true, true, true, true, true, true, true, true, true, false, false, false]) rfl rfl (oj := _) (by rfl) (by rfl) (.there rfl (.there rfl (.there rfl (.there rfl (.there rfl .here))))) k7B (fun w' hI => Run.eql (.tmp (.there rfl (.there rfl (.there rfl .here)))) (.tmp .here)) ?_
                  refine JA.take 10 (by kernel_rfl) (by rfl) (by kernel_rfl) (by kernel_rfl) (L := #[true, true, true, true, true, true, true, true, true, true, true, false, false]) rfl rfl (fun w' hI => Run.pickF (.tmp (.there rfl (.there rfl (.there rfl (.there rfl (.there rfl (.there rfl .here))))))) k7B (.tmp .here)) ?_
                  refine JA.take 11 (by kernel_rfl) (by rfl) (by kernel_rfl) (by kernel_rfl) (L := #[true, true, true, true, true, true, true, true, true, true, true, true, false]) rfl rfl (fun w' hI => Run.fieldAddr (ft := 4) (foff := 4) (off := 4) @Try.underlying80 (by rfl) (@Try.sizeOf4 _) rfl rfl (.tmp (.there rfl (.there rfl (.there rfl (.there rfl (.there rfl (.there rfl (.there rfl (.there rfl (.there rfl (.there rfl (.there rfl (.there rfl (.there rfl .here))))))))))))))) ?_
                  refine JA.storeB 12 rfl (by kernel_rfl) (L := #[true, true, true, true, true, true, true, true, true, true, true, true, true]) rfl ⟨hK, _, Bb7⟩ (@Try.sizeOf4 _) (.tmp .here) (.tmp (.there rfl .here)) (by rfl) (by rfl) Bb7 rfl ?_
                  intro w82 hc83 hb84
                  replace Bb1 := Bb1.ch hc83 (Nat.ne_of_lt lt_b1_b7)
                  replace hK := hK.own hc83 ge_b7
                  replace Bb7 := hb84; clear hb84
                  refine JA.done (by kernel_rfl) ⟨hK, _, Bb7⟩ ?_
                  refine JE.keep (L := _) (.cons (.there rfl (.there rfl (.there rfl (.there rfl (.there rfl (.there rfl (.there rfl (.there rfl (.there rfl (.there rfl (.there rfl (.there rfl (.there rfl .here))))))))))))) (.cons (.there rfl (.there rfl (.there rfl (.there rfl (.there rfl (.there rfl (.there rfl (.there rfl (.there rfl (.there rfl (.there rfl (.there rfl (.there rfl (.there rfl .here)))))))))))))) .nil)) ?_
                  refine JE.seq ?_
                  refine JC.seq ?_
                  refine JC.region ?_
                  refine JL.val rfl (Run.loadA (@Try.isAgg80 _) (@Try.sizeOf80 _) (.tmp (.there rfl .here)) Bb7 rfl) ?_
                  refine JL.storeA (@Try.sizeOf80 _) (.tmp (.there rfl .here)) (.tmp .here) (by rfl) (by rfl) Bb1 rfl ?_
                  intro w85 hc86 hb87
                  replace Bb7 := Bb7.ch hc86 (Nat.ne_of_gt lt_b1_b7)
                  replace hK := hK.own hc86 ge_b1
                  replace Bb1 := hb87; clear hb87
                  refine JL.val rfl (Run.assign .const) ?_
                  refine JL.nil ?_
                  refine JE.seq ?_
                  refine JC.ret ?_
                  refine JE.retc2 @Try.results30 (.cell (.there rfl (.there rfl .here)) (run_loadVar (@Try.isAgg80 _) (@Try.sizeOf80 _) Bb1 (Nat.le_of_ble_eq_true rfl))) (.tmp .here) ?_
                  exact ⟨congrArg Ending.returned (by rw [readF_of h24 h27 hbe hs (fun h => g24 h.2.1) (s := (1 + (t : Int) == sizeI (be (r.take t)))) (by rw [Bool.eq_iff_iff, decide_eq_true_iff, beq_iff_eq]; exact ⟨fun h => h.elim (absurd · k7) id, .inr⟩)]; rfl), hK⟩
                · have k7 := eq_of_beq k7B
                  refine JA.takegn 4 (by kernel_rfl) (by rfl) (by kernel_rfl) (by kernel_rfl) (L := #[true, true, true, true, true, false, false, false, false, false, false, false, false]) rfl rfl (oj := _) (by rfl) (by rfl) .here k7B ?_
                  refine JA.takegn 5 (by kernel_rfl) (by rfl) (by kernel_rfl) (by kernel_rfl) (L := #[true, true, true, true, true, true, false, false, false, false, false, false, false]) rfl rfl (oj := _) (by rfl) (by rfl) (.there rfl .here) k7B ?_
                  refine JA.takegn 6 (by kernel_rfl) (by rfl) (by kernel_rfl) (by kernel_rfl) (L := #[true, true, true, true, true, true, true, false, false, false, false, false, false]) rfl rfl (oj := _) (by rfl) (by rfl) (.there rfl (.there rfl .here)) k7B ?_
                  refine JA.takegn 7 (by kernel_rfl) (by rfl) (by kernel_rfl) (by kernel_rfl) (L := #[true, true, true, true, true, true, true, true, false, false, false, false, false]) rfl rfl (oj := _) (by rfl) (by rfl) (.there rfl (.there rfl (.there rfl .here))) k7B ?_
                  refine JA.takegn 8 (by kernel_rfl) (by rfl) (by kernel_rfl) (by kernel_rfl) (L := #[true, true, true, true, true, true, true, true, true, false, false, false, false]) rfl rfl (oj := _) (by rfl) (by rfl) (.there rfl (.there rfl (.there rfl (.there rfl .here)))) k7B ?_
                  refine JA.takegn 9 (by kernel_rfl) (by rfl) (by kernel_rfl) (by kernel_rfl) (L := #[true, true, true, true, true, true, true, true, true, true, false, false, false]) rfl rfl (oj := _) (by rfl) (by rfl) (.there rfl (.there rfl (.there rfl (.there rfl (.there rfl .here))))) k7B ?_
                  refine JA.take 10 (by kernel_rfl) (by rfl) (by kernel_rfl) (by kernel_rfl) (L := #[true, true, true, true, true, true, true, true, true, true, true, false, false]) rfl rfl (fun w' hI => Run.pickT (.tmp (.there rfl (.there rfl (.there rfl (.there rfl (.there rfl (.there rfl .here))))))) k7B .const) ?_
                  refine JA.take 11 (by kernel_rfl) (by rfl) (by kernel_rfl) (by kernel_rfl) (L := #[true, true, true, true, true, true, true, true, true, true, true, true, false]) rfl rfl (fun w' hI => Run.fieldAddr (ft := 4) (foff := 4) (off := 4) @Try.underlying80 (by rfl) (@Try.sizeOf4 _) rfl rfl (.tmp (.there rfl (.there rfl (.there rfl (.there rfl (.there rfl (.there rfl (.there rfl (.there rfl (.there rfl (.there rfl (.there rfl (.there rfl (.there rfl .here))))))))))))))) ?_
                  refine JA.storeB 12 rfl (by kernel_rfl) (L := #[true, true, true, true, true, true, true, true, true, true, true, true, true]) rfl ⟨hK, _, Bb7⟩ (@Try.sizeOf4 _) (.tmp .here) (.tmp (.there rfl .here)) (by rfl) (by rfl) Bb7 rfl ?_
                  intro w75 hc76 hb77
                  replace Bb1 := Bb1.ch hc76 (Nat.ne_of_lt lt_b1_b7)
                  replace hK := hK.own hc76 ge_b7
                  replace Bb7 := hb77; clear hb77
                  refine JA.done (by kernel_rfl) ⟨hK, _, Bb7⟩ ?_
                  refine JE.keep (L := _) (.cons (.there rfl (.there rfl (.there rfl (.there rfl (.there rfl (.there rfl (.there rfl (.there rfl (.there rfl (.there rfl (.there rfl (.there rfl (.there rfl .here))))))))))))) (.cons (.there rfl (.there rfl (.there rfl (.there rfl (.there rfl (.there rfl (.there rfl (.there rfl (.there rfl (.there rfl (.there rfl (.there rfl (.there rfl (.there rfl .here)))))))))))))) .nil)) ?_
                  refine JE.seq ?_
                  refine JC.seq ?_
                  refine JC.region ?_
                  refine JL.val rfl (Run.loadA (@Try.isAgg80 _) (@Try.sizeOf80 _) (.tmp (.there rfl .here)) Bb7 rfl) ?_
                  refine JL.storeA (@Try.sizeOf80 _) (.tmp (.there rfl .here)) (.tmp .here) (by rfl) (by rfl) Bb1 rfl ?_
                  intro w78 hc79 hb80
                  replace Bb7 := Bb7.ch hc79 (Nat.ne_of_gt lt_b1_b7)
                  replace hK := hK.own hc79 ge_b1
                  replace Bb1 := hb80; clear hb80
                  refine JL.val rfl (Run.assign .const) ?_
                  refine JL.nil ?_
                  refine JE.seq ?_
                  refine JC.ret ?_
                  refine JE.retc2 @Try.results30 (.cell (.there rfl (.there rfl .here)) (run_loadVar (@Try.isAgg80 _) (@Try.sizeOf80 _) Bb1 (Nat.le_of_ble_eq_true rfl))) (.tmp .here) ?_
                  exact ⟨congrArg Ending.returned (by rw [readF_of h24 h27 hbe hs (fun h => g24 h.2.1) (decide_eq_true (.inl k7))]; rfl), hK⟩
            · have g7 := ne_of_beq_false g7B
              refine JL.gnob rfl (oj := _) (by rfl) (by rfl) .here g7B ?_
              refine JL.gnob rfl (oj := _) (by rfl) (by rfl) (.there rfl .here) g7B ?_
              refine JL.gnob rfl (oj := _) (by rfl) (by rfl) (.there rfl (.there rfl .here)) g7B ?_
              refine JL.val rfl (Run.pickF (.tmp (.there rfl (.there rfl (.there rfl .here)))) g7B .const) ?_
              refine JL.val rfl (Run.move (.tmp .here)) ?_
              refine JL.gnob rfl (oj := _) (by rfl) (by rfl) .here rfl ?_
              refine JL.gnob rfl (oj := _) (by rfl) (by rfl) (.there rfl .here) rfl ?_
              refine JL.gnob rfl (oj := _) (by rfl) (by rfl) (.there rfl (.there rfl .here)) rfl ?_
              refine JL.val rfl (Run.pickF (.tmp (.there rfl (.there rfl (.there rfl .here)))) rfl .const) ?_
              refine JL.nil ?_
              refine JE.keep (L := _) (.cons .here (.cons (.there rfl (.there rfl (.there rfl (.there rfl (.there rfl (.there rfl (.there rfl (.there rfl (.there rfl (.there rfl (.there rfl (.there rfl (.there rfl .here))))))))))))) (.cons (.there rfl (.there rfl (.there rfl (.there rfl (.there rfl (.there rfl (.there rfl (.there rfl (.there rfl (.there rfl (.there rfl (.there rfl (.there rfl (.there rfl .here)))))))))))))) .nil))) ?_
              refine JE.seq ?_
              refine JC.condF (.tmp .here) (rfl) ?_
              refine JC.skip ?_
              refine JE.seq ?_
              refine JC.seq ?_
              refine JC.any (f := 13) (fun w' => Ch No w0 w' ∧ ∃ v, Blk w' b7 80 [.int .i64 ((c.toNat : Int) / 32), .int .i64 ((c.toNat : Int) % 32), .int .u64 (be (r.take t)), .int .i64 (1 + (t : Int)), v]) mixed rfl ?_
              intro w58 hd59
              replace Bb1 := Bb1.no hd59
              replace Bb7 := Bb7.no hd59
              replace hK := hK.no hd59
              refine JA.take 0 (by kernel_rfl) (by rfl) (by kernel_rfl) (by kernel_rfl) (L := #[true, false, false, false, false, false, false, false, false, false, false, false, false]) rfl rfl (fun w' hI => Run.fieldAddr (ft := 3) (foff := 0) (off := 0) @Try.underlying80 (by rfl) (@Try.sizeOf3 _) rfl rfl (.tmp (.there rfl (.there rfl .here)))) ?_
              refine JA.take 1 (by kernel_rfl) (by rfl) (by kernel_rfl) (by kernel_rfl) (L := #[true, true, false, false, false, false, false, false, false, false, false, false, false]) rfl rfl (fun w' hI => Run.loadB (@Try.isAgg3 _) (.tmp .here) (hI.2.choose_spec) (by rfl)) ?_
              refine JA.take 2 (by kernel_rfl) (by rfl) (by kernel_rfl) (by kernel_rfl) (L := #[true, true, true, false, false, false, false, false, false, false, false, false, false]) rfl rfl (fun w' hI => Run.eql (.tmp .here) .const) ?_
              refine JA.take 3 (by kernel_rfl) (by rfl) (by kernel_rfl) (by kernel_rfl) (L := #[true, true, true, true, false, false, false, false, false, false, false, false, false]) rfl rfl (fun w' hI => Run.move (.tmp .here)) ?_
              refine JA.gsplit (dj := 108) (want := false) .here (fun k7B => ?_) (fun k7B => ?_)
              · have k7 := ne_of_beq_false k7B
                refine JA.takeg 4 (by kernel_rfl) (by rfl) (by kernel_rfl) (by kernel_rfl) (L := #[true, true, true, true, true, false, false, false, false, false, false, false, false]) rfl rfl (oj := _) (by rfl) (by rfl) .here k7B (fun w' hI => Run.fieldAddr (ft := 3) (foff := 3) (off := 3) @Try.underlying80 (by rfl) (@Try.sizeOf3 _) rfl rfl (.tmp (.there rfl (.there rfl (.there rfl (.there rfl (.there rfl (.there rfl .here)))))))) ?_
                refine JA.takeg 5 (by kernel_rfl) (by rfl) (by kernel_rfl) (by kernel_rfl) (L := #[true, true, true, true, true, true, false, false, false, false, false, false, false]) rfl rfl (oj := _) (by rfl) (by rfl) (.there rfl .here) k7B (fun w' hI => Run.loadB (@Try.isAgg3 _) (.tmp .here) (hI.2.choose_spec) (by rfl)) ?_
                refine JA.takeg 6 (by kernel_rfl) (by rfl) (by kernel_rfl) (by kernel_rfl) (L := #[true, true, true, true, true, true, true, false, false, false, false, false, false]) rfl rfl (oj := _) (by rfl) (by rfl) (.there rfl (.there rfl .here)) k7B (fun w' hI => Run.fieldAddr (ft := 50) (foff := 2) (off := 2) @Try.underlying80 (by rfl) (@Try.sizeOf50 _) rfl rfl (.tmp (.there rfl (.there rfl (.there rfl (.there rfl (.there rfl (.there rfl (.there rfl (.there rfl .here)))))))))) ?_
                refine JA.takeg 7 (by kernel_rfl) (by rfl) (by kernel_rfl) (by kernel_rfl) (L := #[true, true, true, true, true, true, true, true, false, false, false, false, false]) rfl rfl (oj := _) (by rfl) (by rfl) (.there rfl (.there rfl (.there rfl .here))) k7B (fun w' hI => Run.loadB (@Try.isAgg50 _) (.tmp .here) (hI.2.choose_spec) (by rfl)) ?_
                refine JA.onlycg 8 rfl (by kernel_rfl) (L := #[true, true, true, true, true, true, true, true, true, false, false, false, false]) rfl rfl ⟨hK, _, Bb7⟩ (oj := _) (by rfl) (by rfl) (.there rfl (.there rfl (.there rfl (.there rfl .here)))) k7B (Run.call @Try.call9 (.cons (.tmp .here) .nil)) (rsize_any _ hN0 hN1 _) ?_
                rintro e w66 ⟨rfl, hcs⟩
                refine ⟨_, rfl, ?_⟩
                replace Bb1 := Bb1.no hcs
                replace Bb7 := Bb7.no hcs
                replace hK := hK.no hcs
                refine JA.takeg 9 (by kernel_rfl) (by rfl) (by kernel_rfl) (by kernel_rfl) (L := #[true, true, true, true, true, true, true, true, true, true, false, false, false]) rfl rfl (oj := _) (by rfl) (by rfl) (.there rfl (.there rfl (.there rfl (.there rfl (.there rfl .here))))) k7B (fun w' hI => Run.eql (.tmp (.there rfl (.there rfl (.there rfl .here)))) (.tmp .here)) ?_
                refine JA.take 10 (by kernel_rfl) (by rfl) (by kernel_rfl) (by kernel_rfl) (L := #[true, true, true, true, true, true, true, true, true, true, true, false, false]) rfl rfl (fun w' hI => Run.pickF (.tmp (.there rfl (.there rfl (.there rfl (.there rfl (.there rfl (.there rfl .here))))))) k7B (.tmp .here)) ?_
                refine JA.take 11 (by kernel_rfl) (by rfl) (by kernel_rfl) (by kernel_rfl) (L := #[true, true, true, true, true, true, true, true, true, true, true, true, false]) rfl rfl (fun w' hI => Run.fieldAddr (ft := 4) (foff := 4) (off := 4) @Try.underlying80 (by rfl) (@Try.sizeOf4 _) rfl rfl (.tmp (.there rfl (.there rfl (.there rfl (.there rfl (.there rfl (.there rfl (.there rfl (.there rfl (.there rfl (.there rfl (.there rfl (.there rfl (.there rfl .here))))))))))))))) ?_
                refine JA.storeB 12 rfl (by kernel_rfl) (L := #[true, true, true, true, true, true, true, true, true, true, true, true, true]) rfl ⟨hK, _, Bb7⟩ (@Try.sizeOf4 _) (.tmp .here) (.tmp (.there rfl .here)) (by rfl) (by rfl) Bb7 rfl ?_
                intro w67 hc68 hb69
                replace Bb1 := Bb1.ch hc68 (Nat.ne_of_lt lt_b1_b7)
                replace hK := hK.own hc68 ge_b7
                replace Bb7 := hb69; clear hb69
                refine JA.done (by kernel_rfl) ⟨hK, _, Bb7⟩ ?_
                refine JE.keep (L := _) (.cons (.there rfl (.there rfl (.there rfl (.there rfl (.there rfl (.there rfl (.there rfl (.there rfl (.there rfl (.there rfl (.there rfl (.there rfl (.there rfl .here))))))))))))) (.cons (.there rfl (.there rfl (.there rfl (.there rfl (.there rfl (.there rfl (.there rfl (.there rfl (.there rfl (.there rfl (.there rfl (.there rfl (.there rfl (.there rfl .here)))))))))))))) .nil)) ?_
                refine JE.seq ?_
                refine JC.seq ?_
                refine JC.region ?_
                refine JL.val rfl (Run.loadA (@Try.isAgg80 _) (@Try.sizeOf80 _) (.tmp (.there rfl .here)) Bb7 rfl) ?_
                refine JL.storeA (@Try.sizeOf80 _) (.tmp (.there rfl .here)) (.tmp .here) (by rfl) (by rfl) Bb1 rfl ?_
                intro w70 hc71 hb72
                replace Bb7 := Bb7.ch hc71 (Nat.ne_of_gt lt_b1_b7)
                replace hK := hK.own hc71 ge_b1
                replace Bb1 := hb72; clear hb72
                refine JL.val rfl (Run.assign .const) ?_
                refine JL.nil ?_
                refine JE.seq ?_
                refine JC.ret ?_
                refine JE.retc2 @Try.results30 (.cell (.there rfl (.there rfl .here)) (run_loadVar (@Try.isAgg80 _) (@Try.sizeOf80 _) Bb1 (Nat.le_of_ble_eq_true rfl))) (.tmp .here) ?_
                exact ⟨congrArg Ending.returned (by rw [readF_of h24 h27 hbe hs (fun h => g7 h.1) (s := (1 + (t : Int) == sizeI (be (r.take t)))) (by rw [Bool.eq_iff_iff, decide_eq_true_iff, beq_iff_eq]; exact ⟨fun h => h.elim (absurd · k7) id, .inr⟩)]; rfl), hK⟩
              · have k7 := eq_of_beq k7B
                refine JA.takegn 4 (by kernel_rfl) (by rfl) (by kernel_rfl) (by kernel_rfl) (L := #[true, true, true, true, true, false, false, false, false, false, false, false, false]) rfl rfl (oj := _) (by rfl) (by rfl) .here k7B ?_
                refine JA.takegn 5 (by kernel_rfl) (by rfl) (by kernel_rfl) (by kernel_rfl) (L := #[true, true, true, true, true, true, false, false, false, false, false, false, false]) rfl rfl (oj := _) (by rfl) (by rfl) (.there rfl .here) k7B ?_
                refine JA.takegn 6 (by kernel_rfl) (by rfl) (by kernel_rfl) (by kernel_rfl) (L := #[true, true, true, true, true, true, true, false, false, false, false, false, false]) rfl rfl (oj := _) (by rfl) (by rfl) (.there rfl (.there rfl .here)) k7B ?_
                refine JA.takegn 7 (by kernel_rfl) (by rfl) (by kernel_rfl) (by kernel_rfl) (L := #[true, true, true, true, true, true, true, true, false, false, false, false, false]) rfl rfl (oj := _) (by rfl) (by rfl) (.there rfl (.there rfl (.there rfl .here))) k7B ?_
                refine JA.takegn 8 (by kernel_rfl) (by rfl) (by kernel_rfl) (by kernel_rfl) (L := #[true, true, true, true, true, true, true, true, true, false, false, false, false]) rfl rfl (oj := _) (by rfl) (by rfl) (.there rfl (.there rfl (.there rfl (.there rfl .here)))) k7B ?_
                refine JA.takegn 9 (by kernel_rfl) (by rfl) (by kernel_rfl) (by kernel_rfl) (L := #[true, true, true, true, true, true, true, true, true, true, false, false, false]) rfl rfl (oj := _) (by rfl) (by rfl) (.there rfl (.there rfl (.there rfl (.there rfl (.there rfl .here))))) k7B ?_
                refine JA.take 10 (by kernel_rfl) (by rfl) (by kernel_rfl) (by kernel_rfl) (L := #[true, true, true, true, true, true, true, true, true, true, true, false, false]) rfl rfl (fun w' hI => Run.pickT (.tmp (.there rfl (.there rfl (.there rfl (.there rfl (.there rfl (.there rfl .here))))))) k7B .const) ?_
                refine JA.take 11 (by kernel_rfl) (by rfl) (by kernel_rfl) (by kernel_rfl) (L := #[true, true, true, true, true, true, true, true, true, true, true, true, false]) rfl rfl (fun w' hI => Run.fieldAddr (ft := 4) (foff := 4) (off := 4) @Try.underlying80 (by rfl) (@Try.sizeOf4 _) rfl rfl (.tmp (.there rfl (.there rfl (.there rfl (.there rfl (.there rfl (.there rfl (.there rfl (.there rfl (.there rfl (.there rfl (.there rfl (.there rfl (.there rfl .here))))))))))))))) ?_
                refine JA.storeB 12 rfl (by kernel_rfl) (L := #[true, true, true, true, true, true, true, true, true, true, true, true, true]) rfl ⟨hK, _, Bb7⟩ (@Try.sizeOf4 _) (.tmp .here) (.tmp (.there rfl .here)) (by rfl) (by rfl) Bb7 rfl ?_
                intro w60 hc61 hb62
                replace Bb1 := Bb1.ch hc61 (Nat.ne_of_lt lt_b1_b7)
                replace hK := hK.own hc61 ge_b7
                replace Bb7 := hb62; clear hb62
                refine JA.done (by kernel_rfl) ⟨hK, _, Bb7⟩ ?_
                refine JE.keep (L := _) (.cons (.there rfl (.there rfl (.there rfl (.there rfl (.there rfl (.there rfl (.there rfl (.there rfl (.there rfl (.there rfl (.there rfl (.there rfl (.there rfl .here))))))))))))) (.cons (.there rfl (.there rfl (.there rfl (.there rfl (.there rfl (.there rfl (.there rfl (.there rfl (.there rfl (.there rfl (.there rfl (.there rfl (.there rfl (.there rfl .here)))))))))))))) .nil)) ?_
                refine JE.seq ?_
                refine JC.seq ?_
                refine JC.region ?_
                refine JL.val rfl (Run.loadA (@Try.isAgg80 _) (@Try.sizeOf80 _) (.tmp (.there rfl .here)) Bb7 rfl) ?_
                refine JL.storeA (@Try.sizeOf80 _) (.tmp (.there rfl .here)) (.tmp .here) (by rfl) (by rfl) Bb1 rfl ?_
                intro w63 hc64 hb65
                replace Bb7 := Bb7.ch hc64 (Nat.ne_of_gt lt_b1_b7)
                replace hK := hK.own hc64 ge_b1
                replace Bb1 := hb65; clear hb65
                refine JL.val rfl (Run.assign .const) ?_
                refine JL.nil ?_
                refine JE.seq ?_
                refine JC.ret ?_
                refine JE.retc2 @Try.results30 (.cell (.there rfl (.there rfl .here)) (run_loadVar (@Try.isAgg80 _) (@Try.sizeOf80 _) Bb1 (Nat.le_of_ble_eq_true rfl))) (.tmp .here) ?_
                exact ⟨congrArg Ending.returned (by rw [readF_of h24 h27 hbe hs (fun h => g7 h.1) (decide_eq_true (.inl k7))]; rfl), hK⟩


theorem rread_any {w : World} {v : Value} {l : List UInt8} (h : SlB w v l) : Calls Try.prog 30 #[v] w fun e w' => e = .returned (readF l) ∧ Ch No w w' := by
  rcases h with ⟨rfl, rfl⟩ | ⟨b, o, s, cap, rfl, h1, h2, hs, hb⟩
  · exact rread_nil _ _ _
  · cases l with
    | nil => exact rread_nil _ _ _
    | cons c r =>
      obtain rfl := hs (by simp)
      exact rread_cons b o cap c r h1 h2 w hb
theorem rread_is {w : World} {v : Value} {l : List UInt8} {r : Value} (h : SlB w v l) (hr : readF l = r) : Calls Try.prog 30 #[v] w fun e w' => e = .returned r ∧ Ch No w w' := hr ▸ rread_any h
theorem readF_form (l : List UInt8) : ∃ m i n u s e, readF l = rHead m i n u s e := by
  rcases readF_ways l with ⟨c, _, h, _⟩ | ⟨c, r, n, u, s, _, h, _⟩
  · exact ⟨_, _, _, _, _, _, h⟩
  · exact ⟨_, _, _, _, _, _, h⟩

set_option maxHeartbeats 2000000 in
theorem reads_any {a b : Value} {l : List UInt8} (w0 : World) (h1 : SlB w0 a l) (h2 : SlB w0 b l) :
    Calls Try.prog 13 #[a, b] w0 fun e w' => e = .returned (.bool true) ∧ Ch No w0 w' := by
  have hK : Ch No w0 w0 := Ch.refl w0
  obtain ⟨m, i, n, u, s, e0, hr⟩ := readF_form l
  refine calls @Try.func13 rfl @Try.ntmps13 rfl ?_
  show JC _ _ _ _ _ [(0, a), (1, b)] _
  refine JC.seq ?_
  refine JC.region ?_
  refine JL.val rfl (Run.assign .const) ?_
  refine JL.nil ?_
  refine JE.seq ?_
  refine JC.seq ?_
  refine JC.region ?_
  refine JL.val rfl (Run.move (.tmp (.there rfl .here))) ?_
  refine JL.call rfl (Run.call @Try.call21 (.cons (.tmp .here) .nil)) (read_is h1 hr) ?_
  rintro e w1 ⟨rfl, hc1⟩
  refine JRet.ret ?_
  replace hK := hK.no hc1
  refine JL.val rfl (Run.move (.tmp .here)) ?_
  refine JL.val rfl (Run.extract (.tmp .here) (by rfl)) ?_
  refine JL.val rfl (Run.extract (.tmp (.there rfl .here)) (by rfl)) ?_
  refine JL.alloc rfl (@Try.zeroValue66 _) ?_
  intro b2 w3 hg4 hc5 Bb2
  have ge_b2 : _ ≤ b2 := Nat.le_trans hK.size hg4
  replace hK := hK.no hc5
  refine JL.storeA (@Try.sizeOf66 _) (.tmp .here) (.tmp (.there rfl (.there rfl .here))) (by rfl) (by rfl) Bb2 rfl ?_
  intro w6 hc7 hb8
  replace hK := hK.own hc7 ge_b2
  replace Bb2 := hb8; clear hb8
  refine JL.val rfl (Run.assign (.tmp (.there rfl .here))) ?_
  refine JL.nil ?_
  refine JE.seq ?_
  refine JC.seq ?_
  refine JC.region ?_
  refine JL.val rfl (Run.move (.tmp (.there rfl (.there rfl (.there rfl (.there rfl (.there rfl (.there rfl (.there rfl (.there rfl (.there rfl .here))))))))))) ?_
  refine JL.call rfl (Run.call @Try.call30 (.cons (.tmp .here) .nil)) (rread_is (h2.no hK) hr) ?_
  rintro e w9 ⟨rfl, hc2⟩
  refine JRet.ret ?_
  replace Bb2 := Bb2.no hc2
  replace hK := hK.no hc2
  refine JL.val rfl (Run.move (.tmp .here)) ?_
  refine JL.val rfl (Run.extract (.tmp .here) (by rfl)) ?_
  refine JL.val rfl (Run.extract (.tmp (.there rfl .here)) (by rfl)) ?_
  refine JL.alloc rfl (@Try.zeroValue80 _) ?_
  intro b10 w11 hg12 hc13 Bb10
  have lt_b2_b10 : b2 < b10 := Nat.lt_of_lt_of_le Bb2.lt hg12
  have ge_b10 : _ ≤ b10 := Nat.le_trans hK.size hg12
  replace Bb2 := Bb2.no hc13
  replace hK := hK.no hc13
  refine JL.storeA (@Try.sizeOf80 _) (.tmp .here) (.tmp (.there rfl (.there rfl .here))) (by rfl) (by rfl) Bb10 rfl ?_
  intro w14 hc15 hb16
  replace Bb2 := Bb2.ch hc15 (Nat.ne_of_lt lt_b2_b10)
  replace hK := hK.own hc15 ge_b10
  replace Bb10 := hb16; clear hb16
  refine JL.val rfl (Run.assign (.tmp (.there rfl .here))) ?_
  refine JL.nil ?_
  refine JE.keep (L := _) (.cons .here (.cons (.there rfl .here) (.cons (.there rfl (.there rfl (.there rfl (.there rfl (.there rfl (.there rfl (.there rfl .here))))))) (.cons (.there rfl (.there rfl (.there rfl (.there rfl (.there rfl (.there rfl (.there rfl (.there rfl .here)))))))) (.cons (.there rfl (.there rfl (.there rfl (.there rfl (.there rfl (.there rfl (.there rfl (.there rfl (.there rfl (.there rfl (.there rfl (.there rfl (.there rfl (.there rfl .here)))))))))))))) .nil))))) ?_
  refine JE.seq ?_
  refine JC.seq ?_
  refine JC.region ?_
  refine JL.val rfl (Run.move (.tmp (.there rfl (.there rfl .here)))) ?_
  refine JL.call rfl (Run.call @Try.call22 (.cons (.tmp .here) .nil)) (num_any _ _) ?_
  rintro e w14 ⟨rfl, rfl⟩
  refine JRet.ret ?_
  refine JL.val rfl (Run.move (.tmp (.there rfl (.there rfl .here)))) ?_
  refine JL.val rfl (Run.eql (.tmp (.there rfl .here)) (.tmp .here)) ?_
  refine JL.val rfl (Run.move (.tmp .here)) ?_
  refine JL.gyesb (oj := _) (by rfl) (by rfl) .here (by simp) ?_
  refine JL.val rfl (Run.fieldAddr (ft := 3) (foff := 0) (off := 0) @Try.underlying66 (by rfl) (@Try.sizeOf3 _) rfl rfl (.tmp (.there rfl (.there rfl (.there rfl (.there rfl (.there rfl (.there rfl (.there rfl (.there rfl .here)))))))))) ?_
  refine JL.gyesb (oj := _) (by rfl) (by rfl) (.there rfl .here) (by simp) ?_
  refine JL.val rfl (Run.loadB (@Try.isAgg3 _) (.tmp .here) Bb2 (by rfl)) ?_
  refine JL.gyesb (oj := _) (by rfl) (by rfl) (.there rfl (.there rfl .here)) (by simp) ?_
  refine JL.val rfl (Run.fieldAddr (ft := 3) (foff := 0) (off := 0) @Try.underlying80 (by rfl) (@Try.sizeOf3 _) rfl rfl (.tmp (.there rfl (.there rfl (.there rfl (.there rfl (.there rfl (.there rfl (.there rfl (.there rfl .here)))))))))) ?_
  refine JL.gyesb (oj := _) (by rfl) (by rfl) (.there rfl (.there rfl (.there rfl .here))) (by simp) ?_
  refine JL.val rfl (Run.loadB (@Try.isAgg3 _) (.tmp .here) Bb10 (by rfl)) ?_
  refine JL.gyesb (oj := _) (by rfl) (by rfl) (.there rfl (.there rfl (.there rfl (.there rfl .here)))) (by simp) ?_
  refine JL.val rfl (Run.eql (.tmp (.there rfl (.there rfl .here))) (.tmp .here)) ?_
  refine JL.val rfl (Run.pickT (.tmp (.there rfl (.there rfl (.there rfl (.there rfl (.there rfl .here)))))) (by simp) (.tmp .here)) ?_
  refine JL.val rfl (Run.move (.tmp .here)) ?_
  refine JL.gyesb (oj := _) (by rfl) (by rfl) .here (by simp) ?_
  refine JL.val rfl (Run.fieldAddr (ft := 3) (foff := 1) (off := 1) @Try.underlying66 (by rfl) (@Try.sizeOf3 _) rfl rfl (.tmp (.there rfl (.there rfl (.there rfl (.there rfl (.there rfl (.there rfl (.there rfl (.there rfl (.there rfl (.there rfl (.there rfl (.there rfl (.there rfl (.there rfl (.there rfl .here))))))))))))))))) ?_
  refine JL.gyesb (oj := _) (by rfl) (by rfl) (.there rfl .here) (by simp) ?_
  refine JL.val rfl (Run.loadB (@Try.isAgg3 _) (.tmp .here) Bb2 (by rfl)) ?_
  refine JL.gyesb (oj := _) (by rfl) (by rfl) (.there rfl (.there rfl .here)) (by simp) ?_
  refine JL.val rfl (Run.fieldAddr (ft := 3) (foff := 1) (off := 1) @Try.underlying80 (by rfl) (@Try.sizeOf3 _) rfl rfl (.tmp (.there rfl (.there rfl (.there rfl (.there rfl (.there rfl (.there rfl (.there rfl (.there rfl (.there rfl (.there rfl (.there rfl (.there rfl (.there rfl (.there rfl (.there rfl .here))))))))))))))))) ?_
  refine JL.gyesb (oj := _) (by rfl) (by rfl) (.there rfl (.there rfl (.there rfl .here))) (by simp) ?_
  refine JL.val rfl (Run.loadB (@Try.isAgg3 _) (.tmp .here) Bb10 (by rfl)) ?_
  refine JL.gyesb (oj := _) (by rfl) (by rfl) (.there rfl (.there rfl (.there rfl (.there rfl .here)))) (by simp) ?_
  refine JL.val rfl (Run.eql (.tmp (.there rfl (.there rfl .here))) (.tmp .here)) ?_
  refine JL.val rfl (Run.pickT (.tmp (.there rfl (.there rfl (.there rfl (.there rfl (.there rfl .here)))))) (by simp) (.tmp .here)) ?_
  refine JL.val rfl (Run.move (.tmp .here)) ?_
  refine JL.gyesb (oj := _) (by rfl) (by rfl) .here (by simp) ?_
  refine JL.val rfl (Run.fieldAddr (ft := 50) (foff := 2) (off := 2) @Try.underlying66 (by rfl) (@Try.sizeOf50 _) rfl rfl (.tmp (.there rfl (.there rfl (.there rfl (.there rfl (.there rfl (.there rfl (.there rfl (.there rfl (.there rfl (.there rfl (.there rfl (.there rfl (.there rfl (.there rfl (.there rfl (.there rfl (.there rfl (.there rfl (.there rfl (.there rfl (.there rfl (.there rfl .here)))))))))))))))))))))))) ?_
  refine JL.gyesb (oj := _) (by rfl) (by rfl) (.there rfl .here) (by simp) ?_
  refine JL.val rfl (Run.loadB (@Try.isAgg50 _) (.tmp .here) Bb2 (by rfl)) ?_
  refine JL.gyesb (oj := _) (by rfl) (by rfl) (.there rfl (.there rfl .here)) (by simp) ?_
  refine JL.val rfl (Run.fieldAddr (ft := 50) (foff := 2) (off := 2) @Try.underlying80 (by rfl) (@Try.sizeOf50 _) rfl rfl (.tmp (.there rfl (.there rfl (.there rfl (.there rfl (.there rfl (.there rfl (.there rfl (.there rfl (.there rfl (.there rfl (.there rfl (.there rfl (.there rfl (.there rfl (.there rfl (.there rfl (.there rfl (.there rfl (.there rfl (.there rfl (.there rfl (.there rfl .here)))))))))))))))))))))))) ?_
  refine JL.gyesb (oj := _) (by rfl) (by rfl) (.there rfl (.there rfl (.there rfl .here))) (by simp) ?_
  refine JL.val rfl (Run.loadB (@Try.isAgg50 _) (.tmp .here) Bb10 (by rfl)) ?_
  refine JL.gyesb (oj := _) (by rfl) (by rfl) (.there rfl (.there rfl (.there rfl (.there rfl .here)))) (by simp) ?_
  refine JL.val rfl (Run.eql (.tmp (.there rfl (.there rfl .here))) (.tmp .here)) ?_
  refine JL.val rfl (Run.pickT (.tmp (.there rfl (.there rfl (.there rfl (.there rfl (.there rfl .here)))))) (by simp) (.tmp .here)) ?_
  refine JL.val rfl (Run.move (.tmp .here)) ?_
  refine JL.gyesb (oj := _) (by rfl) (by rfl) .here (by simp) ?_
  refine JL.val rfl (Run.fieldAddr (ft := 3) (foff := 3) (off := 3) @Try.underlying66 (by rfl) (@Try.sizeOf3 _) rfl rfl (.tmp (.there rfl (.there rfl (.there rfl (.there rfl (.there rfl (.there rfl (.there rfl (.there rfl (.there rfl (.there rfl (.there rfl (.there rfl (.there rfl (.there rfl (.there rfl (.there rfl (.there rfl (.there rfl (.there rfl (.there rfl (.there rfl (.there rfl (.there rfl (.there rfl (.there rfl (.there rfl (.there rfl (.there rfl (.there rfl .here))))))))))))))))))))))))))))))) ?_
  refine JL.gyesb (oj := _) (by rfl) (by rfl) (.there rfl .here) (by simp) ?_
  refine JL.val rfl (Run.loadB (@Try.isAgg3 _) (.tmp .here) Bb2 (by rfl)) ?_
  refine JL.gyesb (oj := _) (by rfl) (by rfl) (.there rfl (.there rfl .here)) (by simp) ?_
  refine JL.val rfl (Run.fieldAddr (ft := 3) (foff := 3) (off := 3) @Try.underlying80 (by rfl) (@Try.sizeOf3 _) rfl rfl (.tmp (.there rfl (.there rfl (.there rfl (.there rfl (.there rfl (.there rfl (.there rfl (.there rfl (.there rfl (.there rfl (.there rfl (.there rfl (.there rfl (.there rfl (.there rfl (.there rfl (.there rfl (.there rfl (.there rfl (.there rfl (.there rfl (.there rfl (.there rfl (.there rfl (.there rfl (.there rfl (.there rfl (.there rfl (.there rfl .here))))))))))))))))))))))))))))))) ?_
  refine JL.gyesb (oj := _) (by rfl) (by rfl) (.there rfl (.there rfl (.there rfl .here))) (by simp) ?_
  refine JL.val rfl (Run.loadB (@Try.isAgg3 _) (.tmp .here) Bb10 (by rfl)) ?_
  refine JL.gyesb (oj := _) (by rfl) (by rfl) (.there rfl (.there rfl (.there rfl (.there rfl .here)))) (by simp) ?_
  refine JL.val rfl (Run.eql (.tmp (.there rfl (.there rfl .here))) (.tmp .here)) ?_
  refine JL.val rfl (Run.pickT (.tmp (.there rfl (.there rfl (.there rfl (.there rfl (.there rfl .here)))))) (by simp) (.tmp .here)) ?_
  refine JL.val rfl (Run.move (.tmp .here)) ?_
  refine JL.gyesb (oj := _) (by rfl) (by rfl) .here (by simp) ?_
  refine JL.val rfl (Run.fieldAddr (ft := 4) (foff := 4) (off := 4) @Try.underlying66 (by rfl) (@Try.sizeOf4 _) rfl rfl (.tmp (.there rfl (.there rfl (.there rfl (.there rfl (.there rfl (.there rfl (.there rfl (.there rfl (.there rfl (.there rfl (.there rfl (.there rfl (.there rfl (.there rfl (.there rfl (.there rfl (.there rfl (.there rfl (.there rfl (.there rfl (.there rfl (.there rfl (.there rfl (.there rfl (.there rfl (.there rfl (.there rfl (.there rfl (.there rfl (.there rfl (.there rfl (.there rfl (.there rfl (.there rfl (.there rfl (.there rfl .here)))))))))))))))))))))))))))))))))))))) ?_
  refine JL.gyesb (oj := _) (by rfl) (by rfl) (.there rfl .here) (by simp) ?_
  refine JL.val rfl (Run.loadB (@Try.isAgg4 _) (.tmp .here) Bb2 (by rfl)) ?_
  refine JL.gyesb (oj := _) (by rfl) (by rfl) (.there rfl (.there rfl .here)) (by simp) ?_
  refine JL.val rfl (Run.fieldAddr (ft := 4) (foff := 4) (off := 4) @Try.underlying80 (by rfl) (@Try.sizeOf4 _) rfl rfl (.tmp (.there rfl (.there rfl (.there rfl (.there rfl (.there rfl (.there rfl (.there rfl (.there rfl (.there rfl (.there rfl (.there rfl (.there rfl (.there rfl (.there rfl (.there rfl (.there rfl (.there rfl (.there rfl (.there rfl (.there rfl (.there rfl (.there rfl (.there rfl (.there rfl (.there rfl (.there rfl (.there rfl (.there rfl (.there rfl (.there rfl (.there rfl (.there rfl (.there rfl (.there rfl (.there rfl (.there rfl .here)))))))))))))))))))))))))))))))))))))) ?_
  refine JL.gyesb (oj := _) (by rfl) (by rfl) (.there rfl (.there rfl (.there rfl .here))) (by simp) ?_
  refine JL.val rfl (Run.loadB (@Try.isAgg4 _) (.tmp .here) Bb10 (by rfl)) ?_
  refine JL.gyesb (oj := _) (by rfl) (by rfl) (.there rfl (.there rfl (.there rfl (.there rfl .here)))) (by simp) ?_
  refine JL.val rfl (Run.eqb @Try.underlying4 (.tmp (.there rfl (.there rfl .here))) (.tmp .here)) ?_
  refine JL.val rfl (Run.pickT (.tmp (.there rfl (.there rfl (.there rfl (.there rfl (.there rfl .here)))))) (by simp) (.tmp .here)) ?_
  refine JL.val rfl (Run.assign (.tmp .here)) ?_
  refine JL.nil ?_
  refine JE.keep (L := _) (.cons .here .nil) ?_
  refine JE.seq ?_
  refine JC.ret ?_
  refine JE.ret1 @Try.results13 .here ?_
  exact ⟨congrArg (fun b => Ending.returned (.bool b)) (by simp), hK⟩

end Go.Proofs.Ytggngmmbpkoooaa.Hd
