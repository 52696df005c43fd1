/- Contracts of the functions of the statement HeadBack, for every input. -/
import Derived.Test.YtggngmmbpkoooaaHdL
import Derived.Test.YtggngmmbpkoooaaHdN
import Derived.Test.YtggngmmbpkoooaaEngEq
namespace Go.Proofs.Ytggngmmbpkoooaa.Hd
open Go Go.Proofs.Ytggngmmbpkoooaa.Eng
set_option linter.unusedVariables false
set_option linter.unusedSimpArgs false
set_option maxRecDepth 4000
theorem slb_cons {w : World} {v : Value} {c : UInt8} {r : List UInt8} (h : SlB w v (c :: r)) : ∃ b o cap, v = .slice (some ⟨b, o, none⟩) (c :: r).length cap ∧ (c :: r).length ≤ cap ∧ cap ≤ 9223372036854775807 ∧ Bs w b o (c :: r) := by
  rcases h with ⟨_, h⟩ | ⟨b, o, s, cap, hv, h1, h2, hs, hb⟩
  · cases h
  · obtain rfl := hs (by simp)
    exact ⟨b, o, cap, hv, h1, h2, hb⟩
/-- A slice of slices of bytes, none of them longer than the machine's memory. -/
def BsAt (w : World) (a : Option Addr) (ls : List (List UInt8)) : Prop := ls.length ≤ 9223372036854775807 ∧
  ∀ i (h : i < ls.length), ∃ b o v, a = some ⟨b, o, none⟩ ∧ w.cell? ⟨b, o + i * 1, none⟩ = some v ∧ SlB w v ls[i] ∧ ls[i].length ≤ 140737488351232

set_option maxHeartbeats 2000000 in
theorem mark_any (i : Int) (h0 : 0 ≤ i) (h1 : i < 70) (w : World) :
    Calls Try.prog 29 #[.int .i64 i] w fun e w' => e = .returned (.int .u8 (165 - i)) ∧ w' = w := by
  refine calls @Try.func29 rfl @Try.ntmps29 rfl ?_
  show JC _ _ _ _ _ [(0, .int .i64 i)] _
  refine JC.seq ?_
  refine JC.region ?_
  refine JL.val rfl (Run.assign .const) ?_
  refine JL.nil ?_
  refine JE.seq ?_
  refine JC.seq ?_
  refine JC.region ?_
  refine JL.val rfl (Run.move (.tmp (.there rfl .here))) ?_
  refine JL.val rfl (Run.sub .const (.tmp .here) (wrap_i64 (by omega))) ?_
  refine JL.val rfl (Run.conv @Try.underlying3 @Try.underlying5 (.tmp .here) ((IntKind.wrap_u8 _).trans (Int.emod_eq_of_lt (by omega) (by omega)))) ?_
  refine JL.val rfl (Run.assign (.tmp .here)) ?_
  refine JL.nil ?_
  refine JE.seq ?_
  refine JC.ret ?_
  refine JE.ret1 @Try.results29 .here ?_
  exact ⟨rfl, rfl⟩

set_option maxHeartbeats 2000000 in
theorem lend_any {v : Value} {l : List UInt8} (w0 : World) (h : SlB w0 v l) (hl : l.length ≤ 140737488351232) :
    Calls Try.prog 12 #[v] w0 fun e w' => ∃ v', e = .returned v' ∧ SlB w' v' l ∧ Ch No w0 w' := by
  have hK : Ch No w0 w0 := Ch.refl w0
  obtain ⟨a, cap, rfl⟩ := h.slice
  refine calls @Try.func12 rfl @Try.ntmps12 rfl ?_
  show JC _ _ _ _ _ [(0, .slice a l.length cap)] _
  refine JC.seq ?_
  refine JC.region ?_
  refine JL.val rfl (Run.assign .const) ?_
  refine JL.nil ?_
  refine JE.seq ?_
  refine JC.seq ?_
  refine JC.region ?_
  refine JL.val rfl (Run.move (.tmp (.there rfl .here))) ?_
  refine JL.val rfl (Run.len @Try.underlying53 (.tmp .here)) ?_
  refine JL.val rfl (Run.add (.tmp .here) .const (show IntKind.i64.wrap ((l.length : Int) + 70) = ((l.length + 70 : Nat) : Int) from (wrap_i64 (by omega)).trans (by simp))) ?_
  refine JL.mk rfl .const (.tmp .here) (run_mkB (c := l.length + 70) @Try.underlying53 info_u8 (by omega)) ?_
  intro b1 w2 hg3 hc4 Bb1
  have ge_b1 : _ ≤ b1 := Nat.le_trans hK.size hg3
  replace hK := hK.no hc4
  have hO : Owns _ w0.heap.size 5 1 (.slice (some ⟨b1, 0, none⟩) 0 (l.length + 70)) 0 [] := Owns.ofBlk (cs := List.replicate (l.length + 70) (.int .u8 0)) Bb1 ge_b1 (by simp) (by omega) (by omega)
  refine JL.val rfl (Run.assign (.tmp .here)) ?_
  refine JL.nil ?_
  refine JE.seq ?_
  refine JC.seq ?_
  refine JC.region ?_
  refine JL.val rfl (Run.move (.tmp .here)) ?_
  refine JL.val rfl (Run.move (.tmp (.there rfl (.there rfl (.there rfl (.there rfl (.there rfl (.there rfl (.there rfl .here))))))))) ?_
  refine JL.appendS rfl @Try.underlying53 @Try.underlying53 (.inr ⟨_, rfl⟩) info_u8 (by rfl) (by decide) (.tmp (.there rfl .here)) hO (.tmp .here) ((Src.ofSlB (h.no hK))) (by simp) (bv_one _) (hK.size) (by omega) ?_
  intro v5 w6 hO8 hc7
  replace hK := hK.ownv hO hc7 (by omega)
  replace hO := hO8; clear hO8
  rw [List.nil_append, Nat.zero_add] at hO
  have hO2 : Owns w6 w0.heap.size 5 1 v5 (l.length + 0) ((l ++ []).map bv) := by rw [List.append_nil]; exact hO
  clear hO
  refine JL.val rfl (Run.assign (.tmp .here)) ?_
  refine JL.nil ?_
  refine JE.keep (L := _) (.cons .here (.cons (.there rfl (.there rfl (.there rfl (.there rfl (.there rfl (.there rfl (.there rfl (.there rfl (.there rfl .here))))))))) (.cons (.there rfl (.there rfl (.there rfl (.there rfl (.there rfl (.there rfl (.there rfl (.there rfl (.there rfl (.there rfl .here)))))))))) .nil))) ?_
  refine JE.seq ?_
  refine JC.seq ?_
  refine JC.seq ?_
  refine JC.region ?_
  refine JL.val rfl (Run.assign .const) ?_
  refine JL.nil ?_
  refine JE.seq ?_
  refine JC.block ?_
  refine JC.loop (α := Nat × Value × List UInt8) (fun ⟨i, v, ms⟩ => [(0, .slice a l.length cap), (3, v), (4, .int .i64 (i : Int))]) (fun ⟨i, v, ms⟩ w => i ≤ 70 ∧ ms.length = i ∧ Owns w w0.heap.size 5 1 v (l.length + i) ((l ++ ms).map bv) ∧ Ch No w0 w) (fun ⟨i, v, ms⟩ => 70 - i) (0, _, []) ⟨by omega, rfl, hO2, hK⟩ (.cons (.there rfl (.there rfl (.there rfl .here))) (.cons (.there rfl .here) (.conse .here (rfl) .nil))) ?_
  rintro ⟨i, v, ms⟩ w9 m10 ⟨hi, hms, hO, hK⟩ hmu11
  show JC _ _ _ _ _ [(0, .slice a l.length cap), (3, v), (4, .int .i64 (i : Int))] _
  refine JC.seq ?_
  refine JC.seq ?_
  refine JC.region ?_
  refine JL.val rfl (Run.move (.tmp (.there rfl (.there rfl .here)))) ?_
  refine JL.val rfl (Run.lss (.tmp .here) .const) ?_
  refine JL.nil ?_
  refine JE.seq ?_
  refine JC.cond (.tmp .here) (fun h70 => ?_) (fun h70 => ?_)
  · have h70 := of_decide_eq_true h70
    refine JC.skip ?_
    refine JE.seq ?_
    refine JC.seq ?_
    refine JC.block ?_
    refine JC.region ?_
    refine JL.val rfl (Run.move (.tmp (.there rfl (.there rfl (.there rfl .here))))) ?_
    refine JL.val rfl (Run.move (.tmp (.there rfl (.there rfl (.there rfl (.there rfl (.there rfl .here))))))) ?_
    refine JL.call rfl (Run.call @Try.call29 (.cons (.tmp .here) .nil)) (mark_any _ (by omega) (by omega) _) ?_
    rintro e w9 ⟨rfl, rfl⟩
    refine JRet.ret ?_
    refine JL.lit (os := [.tmp 18]) rfl @Try.underlying53 (@Try.sizeOf5 _) (@Try.zeroValue5 _) (by rfl) (by rfl) rfl rfl (by rfl) (.cons (.tmp .here) .nil) (by simp [Value.cells]) ?_
    intro b12 w13 hg14 hc15 Bb12
    have ge_b12 : _ ≤ b12 := Nat.le_trans hK.size hg14
    replace hO := hO.no hc15
    replace hK := hK.no hc15
    refine JL.appendS rfl @Try.underlying53 @Try.underlying53 (.inr ⟨_, rfl⟩) info_u8 (by rfl) (by decide) (.tmp (.there rfl (.there rfl (.there rfl .here)))) hO (.tmp .here) ((Src.ofBlk Bb12 rfl)) (by simp) (by intro u hu; simp at hu; subst hu; rfl) (hK.size) (by omega) ?_
    intro v16 w17 hO19 hc18
    replace hK := hK.ownv hO hc18 (by omega)
    clear Bb12
    replace hO := hO19; clear hO19
    rw [one_bv (by omega) (by omega)] at hO
    have hO2 : Owns w17 w0.heap.size 5 1 v16 (l.length + (i + 1)) ((l ++ (ms ++ [u8 (165 - (i : Int))])).map bv) := by rw [← Nat.add_assoc]; simpa using hO
    refine JL.val rfl (Run.assign (.tmp .here)) ?_
    refine JL.nil ?_
    refine JE.blk ?_
    refine JE.seq ?_
    refine JC.region ?_
    refine JL.val rfl (Run.move (.tmp (.there rfl (.there rfl (.there rfl (.there rfl (.there rfl (.there rfl (.there rfl (.there rfl (.there rfl (.there rfl .here)))))))))))) ?_
    refine JL.val rfl (Run.add (.tmp .here) .const (wrap_i64 (by omega))) ?_
    refine JL.val rfl (Run.assign (.tmp .here)) ?_
    refine JL.nil ?_
    exact JE.again (i + 1, v16, ms ++ [u8 (165 - (i : Int))]) (.cons (.there rfl (.there rfl (.there rfl (.there rfl (.there rfl (.there rfl (.there rfl (.there rfl (.there rfl (.there rfl (.there rfl .here))))))))))) (.cons (.there rfl (.there rfl (.there rfl .here))) (.conse .here (rfl) .nil))) (⟨by omega, by simp [hms], hO2, hK⟩) (by simp only [hmu11]; omega)
  · have h70 := of_decide_eq_false h70
    obtain rfl : i = 70 := by omega
    obtain ⟨lb, lcap, rfl, hl1, hl2, hl3, hl4⟩ := hO.some (by omega)
    refine JC.exit ?_
    refine JE.exit_seq ?_
    refine JE.exit_seq ?_
    refine JE.exit_here ?_
    refine JE.seq ?_
    refine JC.seq ?_
    refine JC.region ?_
    refine JL.val rfl (Run.move (.tmp (.there rfl (.there rfl (.there rfl .here))))) ?_
    refine JL.val rfl (Run.move (.tmp (.there rfl (.there rfl (.there rfl .here))))) ?_
    refine JL.val rfl (Run.len @Try.underlying53 (.tmp .here)) ?_
    refine JL.sliceS (L := 0) (H := l.length) (M := lcap) rfl @Try.underlying53 (@Try.sizeOf5 _) (.tmp (.there rfl (.there rfl .here))) (fun a ha => by simp only [Option.map, (show Ev _ _ _ from (.tmp .here)).eq ha]; exact bounds_h (by rfl) (by omega)) (by omega) ?_
    intro o1 ho1
    refine JL.val rfl (Run.assign (.tmp .here)) ?_
    refine JL.nil ?_
    refine JE.keep (L := _) (.cons .here .nil) ?_
    refine JE.seq ?_
    refine JC.ret ?_
    refine JE.ret1 @Try.results12 .here ?_
    exact ⟨_, rfl, by
      refine SlB.ofBs ?_ (by simp) (by omega) (by omega)
      have hb := (Bs.ofOwns hO).take (k := l.length)
      rw [List.take_left] at hb
      rw [ho1 (by omega), Nat.zero_mul, Nat.add_zero]; exact hb, hK⟩

set_option maxHeartbeats 2000000 in
theorem back_any {a : Option Addr} {cap : Nat} {ls : List (List UInt8)} (w0 : World) (hA : BsAt w0 a ls) :
    Calls Try.prog 5 #[.slice a ls.length cap] w0 fun e w' => e = .returned (.bool true) ∧ Ch No w0 w' := by
  have hK : Ch No w0 w0 := Ch.refl w0
  refine calls @Try.func5 rfl @Try.ntmps5 rfl ?_
  show JC _ _ _ _ _ [(0, .slice a ls.length cap)] _
  refine JC.seq ?_
  refine JC.region ?_
  refine JL.val rfl (Run.assign .const) ?_
  refine JL.nil ?_
  refine JE.seq ?_
  refine JC.seq ?_
  refine JC.seq ?_
  refine JC.region ?_
  refine JL.val rfl (Run.assign .const) ?_
  refine JL.nil ?_
  refine JE.seq ?_
  refine JC.block ?_
  refine JC.loop (α := Nat) (fun i => [(0, .slice a ls.length cap), (3, .int .i64 (i : Int))]) (fun i w => i ≤ ls.length ∧ Ch No w0 w) (fun i => ls.length - i) 0 ⟨Nat.zero_le _, hK⟩ (.cons (.there rfl (.there rfl .here)) (.conse .here (rfl) .nil)) ?_
  rintro i w1 m2 ⟨hi, hK⟩ hmu3
  show JC _ _ _ _ _ [(0, .slice a ls.length cap), (3, .int .i64 (i : Int))] _
  have hal := hA.1
  refine JC.seq ?_
  refine JC.seq ?_
  refine JC.region ?_
  refine JL.val rfl (Run.move (.tmp (.there rfl .here))) ?_
  refine JL.val rfl (Run.move (.tmp (.there rfl .here))) ?_
  refine JL.val rfl (Run.len @Try.underlying23 (.tmp .here)) ?_
  refine JL.val rfl (Run.lss (.tmp (.there rfl (.there rfl .here))) (.tmp .here)) ?_
  refine JL.nil ?_
  refine JE.seq ?_
  refine JC.cond (.tmp .here) (fun hlt => ?_) (fun hlt => ?_)
  · have hlt := of_decide_eq_true hlt
    have hil : i < ls.length := by omega
    obtain ⟨b, o, v, rfl, hcell, hsl, hlen⟩ := hA.2 i hil
    obtain ⟨L, hL⟩ : ∃ L, L = ls[i] := ⟨_, rfl⟩
    rw [← hL] at hsl hlen
    rcases readF_ways L with ⟨c, hc0, hr, hn⟩ | ⟨c, r, n, u, s, rfl, hr, hu1, hu9, hul, hn0, hn1, hru, hcut, hsame, h31⟩
    · obtain ⟨a1, cap1, rfl⟩ := hsl.slice
      refine JC.skip ?_
      refine JE.seq ?_
      refine JC.seq ?_
      refine JC.block ?_
      refine JC.seq ?_
      refine JC.region ?_
      refine JL.val rfl (Run.move (.tmp (.there rfl (.there rfl (.there rfl (.there rfl .here)))))) ?_
      refine JL.val rfl (Run.move (.tmp (.there rfl (.there rfl (.there rfl (.there rfl (.there rfl (.there rfl .here)))))))) ?_
      refine JL.val rfl (Run.indexAddr (m := i) @Try.underlying23 (@Try.sizeOf53 _) (.tmp (.there rfl .here)) (.tmp .here) (rfl) (by omega) rfl) ?_
      refine JL.val rfl (Run.load (@Try.isAgg53 _) (.tmp .here) (by first | exact (hK.cell hcell) | exact ((hb2.no hK) 0 c rfl))) ?_
      refine JL.call rfl (Run.call @Try.call12 (.cons (.tmp .here) .nil)) (lend_any _ (hsl.no hK) hlen) ?_
      rintro e w5 ⟨v1, rfl, hs1, hc1⟩
      refine JRet.ret ?_
      replace hK := hK.no hc1
      refine JL.call rfl (Run.call @Try.call21 (.cons (.tmp .here) .nil)) (read_is hs1 hr) ?_
      rintro e w6 ⟨rfl, hc2⟩
      refine JRet.ret ?_
      replace hK := hK.no hc2
      refine JL.val rfl (Run.move (.tmp .here)) ?_
      refine JL.val rfl (Run.extract (.tmp .here) (by rfl)) ?_
      refine JL.val rfl (Run.extract (.tmp (.there rfl .here)) (by rfl)) ?_
      refine JL.alloc rfl (@Try.zeroValue66 _) ?_
      intro b7 w8 hg9 hc10 Bb7
      have ge_b7 : _ ≤ b7 := Nat.le_trans hK.size hg9
      replace hK := hK.no hc10
      refine JL.storeA (@Try.sizeOf66 _) (.tmp .here) (.tmp (.there rfl (.there rfl .here))) (by rfl) (by rfl) Bb7 rfl ?_
      intro w11 hc12 hb13
      replace hK := hK.own hc12 ge_b7
      replace Bb7 := hb13; clear hb13
      refine JL.val rfl (Run.assign (.tmp (.there rfl .here))) ?_
      refine JL.nil ?_
      refine JE.seq ?_
      refine JC.seq ?_
      refine JC.seq ?_
      refine JC.region ?_
      refine JL.val rfl (Run.move (.tmp .here)) ?_
      refine JL.call rfl (Run.call @Try.call22 (.cons (.tmp .here) .nil)) (num_any _ _) ?_
      rintro e w11 ⟨rfl, rfl⟩
      refine JRet.ret ?_
      refine JL.val rfl (Run.neq (.tmp .here) .const) ?_
      refine JL.nil ?_
      refine JE.seq ?_
      refine JC.condT (.tmp .here) (bne_iff_ne.2 hc0) ?_
      refine JC.seq ?_
      refine JC.seq ?_
      refine JC.region ?_
      refine JL.val rfl (Run.loadA (@Try.isAgg66 _) (@Try.sizeOf66 _) (.tmp (.there rfl (.there rfl (.there rfl (.there rfl .here))))) Bb7 rfl) ?_
      refine JL.val rfl (Run.build (places := #[(0, 1), (1, 1), (2, 1), (3, 1), (4, 1)]) (ps := []) @Try.underlying66 (@Try.zeroValue66 _) (by kernel_rfl) .nil) ?_
      refine JL.val rfl (Run.neA @Try.underlying66 (by kernel_rfl) (by kernel_rfl) (.tmp (.there rfl .here)) (.tmp .here) (.cons (by kernel_rfl) (@Try.isAgg3 _) rfl rfl (eqI @Try.underlying3) (.cons (by kernel_rfl) (@Try.isAgg3 _) rfl rfl (eqI @Try.underlying3) (.cons (by kernel_rfl) (@Try.isAgg50 _) rfl rfl (eqI @Try.underlying50) (.cons (by kernel_rfl) (@Try.isAgg3 _) rfl rfl (eqI @Try.underlying3) (.cons (by kernel_rfl) (@Try.isAgg4 _) rfl rfl (eqB @Try.underlying4) .nil)))))) ?_
      refine JL.val rfl (Run.move (.tmp .here)) ?_
      refine JL.gyesb (oj := _) (by rfl) (by rfl) .here (by decide) ?_
      refine JL.val rfl (Run.move (.tmp (.there rfl (.there rfl (.there rfl (.there rfl (.there rfl (.there rfl (.there rfl .here))))))))) ?_
      refine JL.gyesb (oj := _) (by rfl) (by rfl) (.there rfl .here) (by decide) ?_
      refine JL.call rfl (Run.call @Try.call22 (.cons (.tmp .here) .nil)) (num_any _ _) ?_
      rintro e w11 ⟨rfl, rfl⟩
      refine JRet.ret ?_
      refine JL.gyesb (oj := _) (by rfl) (by rfl) (.there rfl (.there rfl .here)) (by decide) ?_
      refine JL.val rfl (Run.eql (.tmp .here) .const) ?_
      refine JL.gyesb (oj := _) (by rfl) (by rfl) (.there rfl (.there rfl (.there rfl .here))) (by decide) ?_
      refine JL.val rfl (Run.move (.tmp .here)) ?_
      refine JL.gsplit (dj := 38) (want := true) .here (fun g20B => ?_) (fun g20B => ?_)
      · refine JL.gyesb (oj := _) (by rfl) (by rfl) .here g20B ?_
        refine JL.val rfl (Run.move (.tmp (.there rfl (.there rfl (.there rfl (.there rfl (.there rfl (.there rfl (.there rfl (.there rfl (.there rfl (.there rfl (.there rfl (.there rfl (.there rfl (.there rfl (.there rfl (.there rfl (.there rfl (.there rfl (.there rfl (.there rfl (.there rfl (.there rfl (.there rfl (.there rfl (.there rfl (.there rfl .here)))))))))))))))))))))))))))) ?_
        refine JL.gyesb (oj := _) (by rfl) (by rfl) (.there rfl .here) g20B ?_
        refine JL.val rfl (Run.move (.tmp (.there rfl (.there rfl (.there rfl (.there rfl (.there rfl (.there rfl (.there rfl (.there rfl (.there rfl (.there rfl (.there rfl (.there rfl (.there rfl (.there rfl (.there rfl (.there rfl (.there rfl (.there rfl (.there rfl (.there rfl (.there rfl (.there rfl (.there rfl (.there rfl (.there rfl (.there rfl (.there rfl (.there rfl .here)))))))))))))))))))))))))))))) ?_
        refine JL.gyesb (oj := _) (by rfl) (by rfl) (.there rfl (.there rfl .here)) g20B ?_
        refine JL.val rfl (Run.indexAddr (m := i) @Try.underlying23 (@Try.sizeOf53 _) (.tmp (.there rfl .here)) (.tmp .here) (rfl) (by omega) rfl) ?_
        refine JL.gyesb (oj := _) (by rfl) (by rfl) (.there rfl (.there rfl (.there rfl .here))) g20B ?_
        refine JL.val rfl (Run.load (@Try.isAgg53 _) (.tmp .here) (by first | exact (hK.cell hcell) | exact ((hb2.no hK) 0 c rfl))) ?_
        refine JL.gyesb (oj := _) (by rfl) (by rfl) (.there rfl (.there rfl (.there rfl (.there rfl .here)))) g20B ?_
        refine JL.val rfl (Run.len @Try.underlying53 (.tmp .here)) ?_
        refine JL.gyesb (oj := _) (by rfl) (by rfl) (.there rfl (.there rfl (.there rfl (.there rfl (.there rfl .here))))) g20B ?_
        refine JL.val rfl (Run.gtr (.tmp .here) .const) ?_
        refine JL.gyesb (oj := _) (by rfl) (by rfl) (.there rfl (.there rfl (.there rfl (.there rfl (.there rfl (.there rfl (.there rfl (.there rfl (.there rfl (.there rfl .here)))))))))) (by decide) ?_
        refine JL.val rfl (Run.pickT (.tmp (.there rfl (.there rfl (.there rfl (.there rfl (.there rfl (.there rfl .here))))))) g20B (.tmp .here)) ?_
        refine JL.val rfl (Run.pickF (.tmp (.there rfl (.there rfl (.there rfl (.there rfl (.there rfl (.there rfl (.there rfl (.there rfl (.there rfl (.there rfl (.there rfl .here)))))))))))) (by decide) (.tmp .here)) ?_
        refine JL.nil ?_
        refine JE.seq ?_
        refine JC.condF (.tmp .here) (decide_eq_false (fun h => hn ⟨eq_of_beq g20B, by omega⟩)) ?_
        refine JC.skip ?_
        refine JE.seq ?_
        refine JC.exit ?_
        refine JE.exit_seq ?_
        refine JE.exit_here ?_
        refine JE.seq ?_
        refine JC.region ?_
        refine JL.val rfl (Run.move (.tmp (.there rfl (.there rfl (.there rfl (.there rfl (.there rfl (.there rfl (.there rfl (.there rfl (.there rfl (.there rfl (.there rfl (.there rfl (.there rfl (.there rfl (.there rfl (.there rfl (.there rfl (.there rfl (.there rfl (.there rfl (.there rfl (.there rfl (.there rfl (.there rfl (.there rfl (.there rfl (.there rfl (.there rfl (.there rfl (.there rfl (.there rfl (.there rfl (.there rfl (.there rfl (.there rfl .here))))))))))))))))))))))))))))))))))))) ?_
        refine JL.val rfl (Run.add (.tmp .here) .const (wrap_i64 (by omega))) ?_
        refine JL.val rfl (Run.assign (.tmp .here)) ?_
        refine JL.nil ?_
        exact JE.again (i + 1) (.cons (.there rfl (.there rfl (.there rfl (.there rfl (.there rfl (.there rfl (.there rfl (.there rfl (.there rfl (.there rfl (.there rfl (.there rfl (.there rfl (.there rfl (.there rfl (.there rfl (.there rfl (.there rfl (.there rfl (.there rfl (.there rfl (.there rfl (.there rfl (.there rfl (.there rfl (.there rfl (.there rfl (.there rfl (.there rfl (.there rfl (.there rfl (.there rfl (.there rfl (.there rfl (.there rfl (.there rfl (.there rfl .here))))))))))))))))))))))))))))))))))))) (.conse .here (rfl) .nil)) (⟨by omega, hK⟩) (by simp only [hmu3]; omega)
      · refine JL.gnob rfl (oj := _) (by rfl) (by rfl) .here g20B ?_
        refine JL.gnob rfl (oj := _) (by rfl) (by rfl) (.there rfl .here) g20B ?_
        refine JL.gnob rfl (oj := _) (by rfl) (by rfl) (.there rfl (.there rfl .here)) g20B ?_
        refine JL.gnob rfl (oj := _) (by rfl) (by rfl) (.there rfl (.there rfl (.there rfl .here))) g20B ?_
        refine JL.gnob rfl (oj := _) (by rfl) (by rfl) (.there rfl (.there rfl (.there rfl (.there rfl .here)))) g20B ?_
        refine JL.gnob rfl (oj := _) (by rfl) (by rfl) (.there rfl (.there rfl (.there rfl (.there rfl (.there rfl .here))))) g20B ?_
        refine JL.gyesb (oj := _) (by rfl) (by rfl) (.there rfl (.there rfl (.there rfl (.there rfl (.there rfl (.there rfl (.there rfl (.there rfl (.there rfl (.there rfl .here)))))))))) (by decide) ?_
        refine JL.val rfl (Run.pickF (.tmp (.there rfl (.there rfl (.there rfl (.there rfl (.there rfl (.there rfl .here))))))) g20B .const) ?_
        refine JL.val rfl (Run.pickF (.tmp (.there rfl (.there rfl (.there rfl (.there rfl (.there rfl (.there rfl (.there rfl (.there rfl (.there rfl (.there rfl (.there rfl .here)))))))))))) (by decide) (.tmp .here)) ?_
        refine JL.nil ?_
        refine JE.seq ?_
        refine JC.condF (.tmp .here) (rfl) ?_
        refine JC.skip ?_
        refine JE.seq ?_
        refine JC.exit ?_
        refine JE.exit_seq ?_
        refine JE.exit_here ?_
        refine JE.seq ?_
        refine JC.region ?_
        refine JL.val rfl (Run.move (.tmp (.there rfl (.there rfl (.there rfl (.there rfl (.there rfl (.there rfl (.there rfl (.there rfl (.there rfl (.there rfl (.there rfl (.there rfl (.there rfl (.there rfl (.there rfl (.there rfl (.there rfl (.there rfl (.there rfl (.there rfl (.there rfl (.there rfl (.there rfl (.there rfl (.there rfl (.there rfl (.there rfl (.there rfl (.there rfl (.there rfl (.there rfl (.there rfl (.there rfl (.there rfl (.there rfl .here))))))))))))))))))))))))))))))))))))) ?_
        refine JL.val rfl (Run.add (.tmp .here) .const (wrap_i64 (by omega))) ?_
        refine JL.val rfl (Run.assign (.tmp .here)) ?_
        refine JL.nil ?_
        exact JE.again (i + 1) (.cons (.there rfl (.there rfl (.there rfl (.there rfl (.there rfl (.there rfl (.there rfl (.there rfl (.there rfl (.there rfl (.there rfl (.there rfl (.there rfl (.there rfl (.there rfl (.there rfl (.there rfl (.there rfl (.there rfl (.there rfl (.there rfl (.there rfl (.there rfl (.there rfl (.there rfl (.there rfl (.there rfl (.there rfl (.there rfl (.there rfl (.there rfl (.there rfl (.there rfl (.there rfl (.there rfl (.there rfl (.there rfl .here))))))))))))))))))))))))))))))))))))) (.conse .here (rfl) .nil)) (⟨by omega, hK⟩) (by simp only [hmu3]; omega)
    · obtain ⟨b2, o2, cap2, rfl, hcl, hcm, hb2⟩ := slb_cons hsl
      have hcb := bv_lt c
      obtain ⟨hcb0, hcb1⟩ := hcb
      have hlc : (c :: r).length = r.length + 1 := rfl
      refine JC.skip ?_
      refine JE.seq ?_
      refine JC.seq ?_
      refine JC.block ?_
      refine JC.seq ?_
      refine JC.region ?_
      refine JL.val rfl (Run.move (.tmp (.there rfl (.there rfl (.there rfl (.there rfl .here)))))) ?_
      refine JL.val rfl (Run.move (.tmp (.there rfl (.there rfl (.there rfl (.there rfl (.there rfl (.there rfl .here)))))))) ?_
      refine JL.val rfl (Run.indexAddr (m := i) @Try.underlying23 (@Try.sizeOf53 _) (.tmp (.there rfl .here)) (.tmp .here) (rfl) (by omega) rfl) ?_
      refine JL.val rfl (Run.load (@Try.isAgg53 _) (.tmp .here) (by first | exact (hK.cell hcell) | exact ((hb2.no hK) 0 c rfl))) ?_
      refine JL.call rfl (Run.call @Try.call12 (.cons (.tmp .here) .nil)) (lend_any _ (hsl.no hK) hlen) ?_
      rintro e w14 ⟨v1, rfl, hs1, hc1⟩
      refine JRet.ret ?_
      replace hK := hK.no hc1
      refine JL.call rfl (Run.call @Try.call21 (.cons (.tmp .here) .nil)) (read_is hs1 hr) ?_
      rintro e w15 ⟨rfl, hc2⟩
      refine JRet.ret ?_
      replace hK := hK.no hc2
      refine JL.val rfl (Run.move (.tmp .here)) ?_
      refine JL.val rfl (Run.extract (.tmp .here) (by rfl)) ?_
      refine JL.val rfl (Run.extract (.tmp (.there rfl .here)) (by rfl)) ?_
      refine JL.alloc rfl (@Try.zeroValue66 _) ?_
      intro b16 w17 hg18 hc19 Bb16
      have ge_b16 : _ ≤ b16 := Nat.le_trans hK.size hg18
      replace hK := hK.no hc19
      refine JL.storeA (@Try.sizeOf66 _) (.tmp .here) (.tmp (.there rfl (.there rfl .here))) (by rfl) (by rfl) Bb16 rfl ?_
      intro w20 hc21 hb22
      replace hK := hK.own hc21 ge_b16
      replace Bb16 := hb22; clear hb22
      refine JL.val rfl (Run.assign (.tmp (.there rfl .here))) ?_
      refine JL.nil ?_
      refine JE.seq ?_
      refine JC.seq ?_
      refine JC.seq ?_
      refine JC.region ?_
      refine JL.val rfl (Run.move (.tmp .here)) ?_
      refine JL.call rfl (Run.call @Try.call22 (.cons (.tmp .here) .nil)) (num_any _ _) ?_
      rintro e w20 ⟨rfl, rfl⟩
      refine JRet.ret ?_
      refine JL.val rfl (Run.neq (.tmp .here) .const) ?_
      refine JL.nil ?_
      refine JE.seq ?_
      refine JC.condF (.tmp .here) (by decide) ?_
      refine JC.skip ?_
      refine JE.seq ?_
      refine JC.seq ?_
      refine JC.seq ?_
      refine JC.stillc mixed (by kernel_rfl) ?_
      intro w23 hd24
      replace Bb16 := Bb16.no hd24
      replace hK := hK.no hd24
      refine JS.val rfl (Run.fieldAddr (ft := 3) (foff := 3) (off := 3) @Try.underlying66 (by rfl) (@Try.sizeOf3 _) rfl rfl (.tmp (.there rfl (.there rfl (.there rfl (.there rfl .here)))))) ?_
      refine JS.val rfl (Run.loadB (@Try.isAgg3 _) (.tmp .here) Bb16 (by rfl)) ?_
      refine JS.val rfl (Run.lss (.tmp .here) .const) ?_
      refine JS.val rfl (Run.move (.tmp .here)) ?_
      refine JS.gyesb (oj := _) (by rfl) (by rfl) .here (by simp <;> omega) ?_
      refine JS.val rfl (Run.fieldAddr (ft := 3) (foff := 3) (off := 3) @Try.underlying66 (by rfl) (@Try.sizeOf3 _) rfl rfl (.tmp (.there rfl (.there rfl (.there rfl (.there rfl (.there rfl (.there rfl (.there rfl (.there rfl .here)))))))))) ?_
      refine JS.gyesb (oj := _) (by rfl) (by rfl) (.there rfl .here) (by simp <;> omega) ?_
      refine JS.val rfl (Run.loadB (@Try.isAgg3 _) (.tmp .here) Bb16 (by rfl)) ?_
      refine JS.gyesb (oj := _) (by rfl) (by rfl) (.there rfl (.there rfl .here)) (by simp <;> omega) ?_
      refine JS.val rfl (Run.gtr (.tmp .here) .const) ?_
      refine JS.val rfl (Run.pickF (.tmp (.there rfl (.there rfl (.there rfl .here)))) (by simp <;> omega) (.tmp .here)) ?_
      refine JS.val rfl (Run.move (.tmp .here)) ?_
      refine JS.gyesb (oj := _) (by rfl) (by rfl) .here (by simp <;> omega) ?_
      refine JS.val rfl (Run.fieldAddr (ft := 3) (foff := 3) (off := 3) @Try.underlying66 (by rfl) (@Try.sizeOf3 _) rfl rfl (.tmp (.there rfl (.there rfl (.there rfl (.there rfl (.there rfl (.there rfl (.there rfl (.there rfl (.there rfl (.there rfl (.there rfl (.there rfl (.there rfl .here))))))))))))))) ?_
      refine JS.gyesb (oj := _) (by rfl) (by rfl) (.there rfl .here) (by simp <;> omega) ?_
      refine JS.val rfl (Run.loadB (@Try.isAgg3 _) (.tmp .here) Bb16 (by rfl)) ?_
      refine JS.gyesb (oj := _) (by rfl) (by rfl) (.there rfl (.there rfl .here)) (by simp <;> omega) ?_
      refine JS.val rfl (Run.move (.tmp (.there rfl (.there rfl (.there rfl (.there rfl (.there rfl (.there rfl (.there rfl (.there rfl (.there rfl (.there rfl (.there rfl (.there rfl (.there rfl (.there rfl (.there rfl (.there rfl (.there rfl (.there rfl (.there rfl (.there rfl (.there rfl (.there rfl (.there rfl (.there rfl (.there rfl (.there rfl (.there rfl (.there rfl (.there rfl .here))))))))))))))))))))))))))))))) ?_
      refine JS.gyesb (oj := _) (by rfl) (by rfl) (.there rfl (.there rfl (.there rfl .here))) (by simp <;> omega) ?_
      refine JS.val rfl (Run.move (.tmp (.there rfl (.there rfl (.there rfl (.there rfl (.there rfl (.there rfl (.there rfl (.there rfl (.there rfl (.there rfl (.there rfl (.there rfl (.there rfl (.there rfl (.there rfl (.there rfl (.there rfl (.there rfl (.there rfl (.there rfl (.there rfl (.there rfl (.there rfl (.there rfl (.there rfl (.there rfl (.there rfl (.there rfl (.there rfl (.there rfl (.there rfl .here))))))))))))))))))))))))))))))))) ?_
      refine JS.gyesb (oj := _) (by rfl) (by rfl) (.there rfl (.there rfl (.there rfl (.there rfl .here)))) (by simp <;> omega) ?_
      refine JS.val rfl (Run.indexAddr (m := i) @Try.underlying23 (@Try.sizeOf53 _) (.tmp (.there rfl .here)) (.tmp .here) (rfl) (by omega) rfl) ?_
      refine JS.gyesb (oj := _) (by rfl) (by rfl) (.there rfl (.there rfl (.there rfl (.there rfl (.there rfl .here))))) (by simp <;> omega) ?_
      refine JS.val rfl (Run.load (@Try.isAgg53 _) (.tmp .here) (by first | exact (hK.cell hcell) | exact ((hb2.no hK) 0 c rfl))) ?_
      refine JS.gyesb (oj := _) (by rfl) (by rfl) (.there rfl (.there rfl (.there rfl (.there rfl (.there rfl (.there rfl .here)))))) (by simp <;> omega) ?_
      refine JS.val rfl (Run.len @Try.underlying53 (.tmp .here)) ?_
      refine JS.gyesb (oj := _) (by rfl) (by rfl) (.there rfl (.there rfl (.there rfl (.there rfl (.there rfl (.there rfl (.there rfl .here))))))) (by simp <;> omega) ?_
      refine JS.val rfl (Run.gtr (.tmp (.there rfl (.there rfl (.there rfl (.there rfl (.there rfl .here)))))) (.tmp .here)) ?_
      refine JS.val rfl (Run.pickF (.tmp (.there rfl (.there rfl (.there rfl (.there rfl (.there rfl (.there rfl (.there rfl (.there rfl .here))))))))) (by simp <;> omega) (.tmp .here)) ?_
      refine JS.val rfl (Run.move (.tmp .here)) ?_
      refine JS.gyesb (oj := _) (by rfl) (by rfl) .here (by simp <;> omega) ?_
      refine JS.val rfl (Run.fieldAddr (ft := 3) (foff := 0) (off := 0) @Try.underlying66 (by rfl) (@Try.sizeOf3 _) rfl rfl (.tmp (.there rfl (.there rfl (.there rfl (.there rfl (.there rfl (.there rfl (.there rfl (.there rfl (.there rfl (.there rfl (.there rfl (.there rfl (.there rfl (.there rfl (.there rfl (.there rfl (.there rfl (.there rfl (.there rfl (.there rfl (.there rfl (.there rfl (.there rfl .here))))))))))))))))))))))))) ?_
      refine JS.gyesb (oj := _) (by rfl) (by rfl) (.there rfl .here) (by simp <;> omega) ?_
      refine JS.val rfl (Run.loadB (@Try.isAgg3 _) (.tmp .here) Bb16 (by rfl)) ?_
      refine JS.gyesb (oj := _) (by rfl) (by rfl) (.there rfl (.there rfl .here)) (by simp <;> omega) ?_
      refine JS.val rfl (Run.move (.tmp (.there rfl (.there rfl (.there rfl (.there rfl (.there rfl (.there rfl (.there rfl (.there rfl (.there rfl (.there rfl (.there rfl (.there rfl (.there rfl (.there rfl (.there rfl (.there rfl (.there rfl (.there rfl (.there rfl (.there rfl (.there rfl (.there rfl (.there rfl (.there rfl (.there rfl (.there rfl (.there rfl (.there rfl (.there rfl (.there rfl (.there rfl (.there rfl (.there rfl (.there rfl (.there rfl (.there rfl (.there rfl (.there rfl (.there rfl .here))))))))))))))))))))))))))))))))))))))))) ?_
      refine JS.gyesb (oj := _) (by rfl) (by rfl) (.there rfl (.there rfl (.there rfl .here))) (by simp <;> omega) ?_
      refine JS.val rfl (Run.move (.tmp (.there rfl (.there rfl (.there rfl (.there rfl (.there rfl (.there rfl (.there rfl (.there rfl (.there rfl (.there rfl (.there rfl (.there rfl (.there rfl (.there rfl (.there rfl (.there rfl (.there rfl (.there rfl (.there rfl (.there rfl (.there rfl (.there rfl (.there rfl (.there rfl (.there rfl (.there rfl (.there rfl (.there rfl (.there rfl (.there rfl (.there rfl (.there rfl (.there rfl (.there rfl (.there rfl (.there rfl (.there rfl (.there rfl (.there rfl (.there rfl (.there rfl .here))))))))))))))))))))))))))))))))))))))))))) ?_
      refine JS.gyesb (oj := _) (by rfl) (by rfl) (.there rfl (.there rfl (.there rfl (.there rfl .here)))) (by simp <;> omega) ?_
      refine JS.val rfl (Run.indexAddr (m := i) @Try.underlying23 (@Try.sizeOf53 _) (.tmp (.there rfl .here)) (.tmp .here) (rfl) (by omega) rfl) ?_
      refine JS.gyesb (oj := _) (by rfl) (by rfl) (.there rfl (.there rfl (.there rfl (.there rfl (.there rfl .here))))) (by simp <;> omega) ?_
      refine JS.val rfl (Run.load (@Try.isAgg53 _) (.tmp .here) (by first | exact (hK.cell hcell) | exact ((hb2.no hK) 0 c rfl))) ?_
      refine JS.gyesb (oj := _) (by rfl) (by rfl) (.there rfl (.there rfl (.there rfl (.there rfl (.there rfl (.there rfl .here)))))) (by simp <;> omega) ?_
      refine JS.val rfl (Run.indexAddr (m := 0) @Try.underlying53 (@Try.sizeOf5 _) (.tmp .here) .const (rfl) (by omega) rfl) ?_
      refine JS.gyesb (oj := _) (by rfl) (by rfl) (.there rfl (.there rfl (.there rfl (.there rfl (.there rfl (.there rfl (.there rfl .here))))))) (by simp <;> omega) ?_
      refine JS.val rfl (Run.load (@Try.isAgg5 _) (.tmp .here) (by first | exact (hK.cell hcell) | exact ((hb2.no hK) 0 c rfl))) ?_
      refine JS.gyesb (oj := _) (by rfl) (by rfl) (.there rfl (.there rfl (.there rfl (.there rfl (.there rfl (.there rfl (.there rfl (.there rfl .here)))))))) (by simp <;> omega) ?_
      refine JS.val rfl (Run.shr (m := 32) (.tmp .here) .const (by decide) (by decide)) ?_
      refine JS.gyesb (oj := _) (by rfl) (by rfl) (.there rfl (.there rfl (.there rfl (.there rfl (.there rfl (.there rfl (.there rfl (.there rfl (.there rfl .here))))))))) (by simp <;> omega) ?_
      refine JS.val rfl (Run.conv @Try.underlying5 @Try.underlying3 (.tmp .here) (wrap_i64 (by omega))) ?_
      refine JS.gyesb (oj := _) (by rfl) (by rfl) (.there rfl (.there rfl (.there rfl (.there rfl (.there rfl (.there rfl (.there rfl (.there rfl (.there rfl (.there rfl .here)))))))))) (by simp <;> omega) ?_
      refine JS.val rfl (Run.neq (.tmp (.there rfl (.there rfl (.there rfl (.there rfl (.there rfl (.there rfl (.there rfl (.there rfl .here))))))))) (.tmp .here)) ?_
      refine JS.val rfl (Run.pickF (.tmp (.there rfl (.there rfl (.there rfl (.there rfl (.there rfl (.there rfl (.there rfl (.there rfl (.there rfl (.there rfl (.there rfl .here)))))))))))) (by simp <;> omega) (.tmp .here)) ?_
      refine JS.val rfl (Run.move (.tmp .here)) ?_
      refine JS.gyesb (oj := _) (by rfl) (by rfl) .here (by simp <;> omega) ?_
      refine JS.val rfl (Run.fieldAddr (ft := 3) (foff := 1) (off := 1) @Try.underlying66 (by rfl) (@Try.sizeOf3 _) rfl rfl (.tmp (.there rfl (.there rfl (.there rfl (.there rfl (.there rfl (.there rfl (.there rfl (.there rfl (.there rfl (.there rfl (.there rfl (.there rfl (.there rfl (.there rfl (.there rfl (.there rfl (.there rfl (.there rfl (.there rfl (.there rfl (.there rfl (.there rfl (.there rfl (.there rfl (.there rfl (.there rfl (.there rfl (.there rfl (.there rfl (.there rfl (.there rfl (.there rfl (.there rfl (.there rfl (.there rfl (.there rfl .here)))))))))))))))))))))))))))))))))))))) ?_
      refine JS.gyesb (oj := _) (by rfl) (by rfl) (.there rfl .here) (by simp <;> omega) ?_
      refine JS.val rfl (Run.loadB (@Try.isAgg3 _) (.tmp .here) Bb16 (by rfl)) ?_
      refine JS.gyesb (oj := _) (by rfl) (by rfl) (.there rfl (.there rfl .here)) (by simp <;> omega) ?_
      refine JS.val rfl (Run.move (.tmp (.there rfl (.there rfl (.there rfl (.there rfl (.there rfl (.there rfl (.there rfl (.there rfl (.there rfl (.there rfl (.there rfl (.there rfl (.there rfl (.there rfl (.there rfl (.there rfl (.there rfl (.there rfl (.there rfl (.there rfl (.there rfl (.there rfl (.there rfl (.there rfl (.there rfl (.there rfl (.there rfl (.there rfl (.there rfl (.there rfl (.there rfl (.there rfl (.there rfl (.there rfl (.there rfl (.there rfl (.there rfl (.there rfl (.there rfl (.there rfl (.there rfl (.there rfl (.there rfl (.there rfl (.there rfl (.there rfl (.there rfl (.there rfl (.there rfl (.there rfl (.there rfl (.there rfl .here)))))))))))))))))))))))))))))))))))))))))))))))))))))) ?_
      refine JS.gyesb (oj := _) (by rfl) (by rfl) (.there rfl (.there rfl (.there rfl .here))) (by simp <;> omega) ?_
      refine JS.val rfl (Run.move (.tmp (.there rfl (.there rfl (.there rfl (.there rfl (.there rfl (.there rfl (.there rfl (.there rfl (.there rfl (.there rfl (.there rfl (.there rfl (.there rfl (.there rfl (.there rfl (.there rfl (.there rfl (.there rfl (.there rfl (.there rfl (.there rfl (.there rfl (.there rfl (.there rfl (.there rfl (.there rfl (.there rfl (.there rfl (.there rfl (.there rfl (.there rfl (.there rfl (.there rfl (.there rfl (.there rfl (.there rfl (.there rfl (.there rfl (.there rfl (.there rfl (.there rfl (.there rfl (.there rfl (.there rfl (.there rfl (.there rfl (.there rfl (.there rfl (.there rfl (.there rfl (.there rfl (.there rfl (.there rfl (.there rfl .here)))))))))))))))))))))))))))))))))))))))))))))))))))))))) ?_
      refine JS.gyesb (oj := _) (by rfl) (by rfl) (.there rfl (.there rfl (.there rfl (.there rfl .here)))) (by simp <;> omega) ?_
      refine JS.val rfl (Run.indexAddr (m := i) @Try.underlying23 (@Try.sizeOf53 _) (.tmp (.there rfl .here)) (.tmp .here) (rfl) (by omega) rfl) ?_
      refine JS.gyesb (oj := _) (by rfl) (by rfl) (.there rfl (.there rfl (.there rfl (.there rfl (.there rfl .here))))) (by simp <;> omega) ?_
      refine JS.val rfl (Run.load (@Try.isAgg53 _) (.tmp .here) (by first | exact (hK.cell hcell) | exact ((hb2.no hK) 0 c rfl))) ?_
      refine JS.gyesb (oj := _) (by rfl) (by rfl) (.there rfl (.there rfl (.there rfl (.there rfl (.there rfl (.there rfl .here)))))) (by simp <;> omega) ?_
      refine JS.val rfl (Run.indexAddr (m := 0) @Try.underlying53 (@Try.sizeOf5 _) (.tmp .here) .const (rfl) (by omega) rfl) ?_
      refine JS.gyesb (oj := _) (by rfl) (by rfl) (.there rfl (.there rfl (.there rfl (.there rfl (.there rfl (.there rfl (.there rfl .here))))))) (by simp <;> omega) ?_
      refine JS.val rfl (Run.load (@Try.isAgg5 _) (.tmp .here) (by first | exact (hK.cell hcell) | exact ((hb2.no hK) 0 c rfl))) ?_
      refine JS.gyesb (oj := _) (by rfl) (by rfl) (.there rfl (.there rfl (.there rfl (.there rfl (.there rfl (.there rfl (.there rfl (.there rfl .here)))))))) (by simp <;> omega) ?_
      refine JS.val rfl (Run.bitop (.tmp .here) .const (by simp) (and_u8 5 (by decide) (p := 32) (by decide) (by decide) (by omega) (by omega))) ?_
      refine JS.gyesb (oj := _) (by rfl) (by rfl) (.there rfl (.there rfl (.there rfl (.there rfl (.there rfl (.there rfl (.there rfl (.there rfl (.there rfl .here))))))))) (by simp <;> omega) ?_
      refine JS.val rfl (Run.conv @Try.underlying5 @Try.underlying3 (.tmp .here) (wrap_i64 (by omega))) ?_
      refine JS.gyesb (oj := _) (by rfl) (by rfl) (.there rfl (.there rfl (.there rfl (.there rfl (.there rfl (.there rfl (.there rfl (.there rfl (.there rfl (.there rfl .here)))))))))) (by simp <;> omega) ?_
      refine JS.val rfl (Run.neq (.tmp (.there rfl (.there rfl (.there rfl (.there rfl (.there rfl (.there rfl (.there rfl (.there rfl .here))))))))) (.tmp .here)) ?_
      refine JS.val rfl (Run.pickF (.tmp (.there rfl (.there rfl (.there rfl (.there rfl (.there rfl (.there rfl (.there rfl (.there rfl (.there rfl (.there rfl (.there rfl .here)))))))))))) (by simp <;> omega) (.tmp .here)) ?_
      refine JS.nil ?_
      refine JE.seq ?_
      refine JC.condF (.tmp .here) (by simp) ?_
      have htu : ((c :: r).take u).length = u := by rw [List.length_take]; omega
      refine JC.skip ?_
      refine JE.seq ?_
      refine JC.seq ?_
      have hkhS27 := hK
      have hS27 : Ch No w23 w23 := Ch.refl _
      have szhS27 := hK.size
      refine JC.any (f := 10) (fun w' => Ch No w23 w') mixed rfl ?_
      intro w25 hd26
      replace hS27 := hS27.no hd26
      replace hK := hK.no hd26
      refine JA.take 1 (by kernel_rfl) (by rfl) (by kernel_rfl) (by kernel_rfl) (L := #[false, true, false, false, false, false, false, false, false, false]) rfl rfl (fun w' hI => Run.move (.tmp (.there rfl (.there rfl (.there rfl (.there rfl (.there rfl (.there rfl (.there rfl (.there rfl (.there rfl (.there rfl (.there rfl (.there rfl (.there rfl (.there rfl (.there rfl (.there rfl (.there rfl (.there rfl (.there rfl (.there rfl (.there rfl (.there rfl (.there rfl (.there rfl (.there rfl (.there rfl (.there rfl (.there rfl (.there rfl (.there rfl (.there rfl (.there rfl (.there rfl (.there rfl (.there rfl (.there rfl (.there rfl (.there rfl (.there rfl (.there rfl (.there rfl (.there rfl (.there rfl (.there rfl (.there rfl (.there rfl (.there rfl (.there rfl (.there rfl (.there rfl (.there rfl (.there rfl (.there rfl (.there rfl (.there rfl (.there rfl (.there rfl (.there rfl (.there rfl (.there rfl (.there rfl (.there rfl .here)))))))))))))))))))))))))))))))))))))))))))))))))))))))))))))))) ?_
      refine JA.take 2 (by kernel_rfl) (by rfl) (by kernel_rfl) (by kernel_rfl) (L := #[false, true, true, false, false, false, false, false, false, false]) rfl rfl (fun w' hI => Run.move (.tmp (.there rfl (.there rfl (.there rfl (.there rfl (.there rfl (.there rfl (.there rfl (.there rfl (.there rfl (.there rfl (.there rfl (.there rfl (.there rfl (.there rfl (.there rfl (.there rfl (.there rfl (.there rfl (.there rfl (.there rfl (.there rfl (.there rfl (.there rfl (.there rfl (.there rfl (.there rfl (.there rfl (.there rfl (.there rfl (.there rfl (.there rfl (.there rfl (.there rfl (.there rfl (.there rfl (.there rfl (.there rfl (.there rfl (.there rfl (.there rfl (.there rfl (.there rfl (.there rfl (.there rfl (.there rfl (.there rfl (.there rfl (.there rfl (.there rfl (.there rfl (.there rfl (.there rfl (.there rfl (.there rfl (.there rfl (.there rfl (.there rfl (.there rfl (.there rfl (.there rfl (.there rfl (.there rfl (.there rfl (.there rfl .here)))))))))))))))))))))))))))))))))))))))))))))))))))))))))))))))))) ?_
      refine JA.take 3 (by kernel_rfl) (by rfl) (by kernel_rfl) (by kernel_rfl) (L := #[false, true, true, true, false, false, false, false, false, false]) rfl rfl (fun w' hI => Run.indexAddr (m := i) @Try.underlying23 (@Try.sizeOf53 _) (.tmp (.there rfl .here)) (.tmp .here) (rfl) (by omega) rfl) ?_
      refine JA.take 4 (by kernel_rfl) (by rfl) (by kernel_rfl) (by kernel_rfl) (L := #[false, true, true, true, true, false, false, false, false, false]) rfl rfl (fun w' hI => Run.load (@Try.isAgg53 _) (.tmp .here) (by first | exact ((hkhS27.no hI).cell hcell) | exact ((hb2.no (hkhS27.no hI)) 0 c rfl))) ?_
      refine JA.take 5 (by kernel_rfl) (by rfl) (by kernel_rfl) (by kernel_rfl) (L := #[false, true, true, true, true, true, false, false, false, false]) rfl rfl (fun w' hI => Run.fieldAddr (ft := 3) (foff := 3) (off := 3) @Try.underlying66 (by rfl) (@Try.sizeOf3 _) rfl rfl (.tmp (.there rfl (.there rfl (.there rfl (.there rfl (.there rfl (.there rfl (.there rfl (.there rfl (.there rfl (.there rfl (.there rfl (.there rfl (.there rfl (.there rfl (.there rfl (.there rfl (.there rfl (.there rfl (.there rfl (.there rfl (.there rfl (.there rfl (.there rfl (.there rfl (.there rfl (.there rfl (.there rfl (.there rfl (.there rfl (.there rfl (.there rfl (.there rfl (.there rfl (.there rfl (.there rfl (.there rfl (.there rfl (.there rfl (.there rfl (.there rfl (.there rfl (.there rfl (.there rfl (.there rfl (.there rfl (.there rfl (.there rfl (.there rfl (.there rfl (.there rfl (.there rfl (.there rfl .here)))))))))))))))))))))))))))))))))))))))))))))))))))))) ?_
      refine JA.take 6 (by kernel_rfl) (by rfl) (by kernel_rfl) (by kernel_rfl) (L := #[false, true, true, true, true, true, true, false, false, false]) rfl rfl (fun w' hI => Run.loadB (@Try.isAgg3 _) (.tmp .here) (Bb16.no hI) (by rfl)) ?_
      refine JA.sliceS 7 (L := 0) (H := u) (M := cap2) (B := #[false, true, true, true, true, true, true, true, false, false]) (by kernel_rfl) (by rfl) (by kernel_rfl) (by kernel_rfl) rfl rfl @Try.underlying53 (fun w => @Try.sizeOf5 w) (.tmp (.there rfl (.there rfl .here))) (fun w a ha => by simp only [Option.map, (show Ev _ _ _ from (.tmp .here)).eq ha]; exact bounds_h (by rfl) (by omega)) (by omega) ?_
      intro o3 ho3
      refine JA.lit0 0 rfl (by kernel_rfl) (L := #[true, true, true, true, true, true, true, true, false, false]) rfl rfl hS27 @Try.underlying53 (@Try.sizeOf5 _) ?_
      intro b28 w29 hg30 hc31 Bb28
      have gehS27_b28 : w23.heap.size ≤ b28 := Nat.le_trans hS27.size hg30
      have ge_b28 : _ ≤ b28 := Nat.le_trans hK.size hg30
      replace hS27 := hS27.no hc31
      replace hK := hK.no hc31
      have hO32 : Owns _ w23.heap.size 5 1 (.slice (some ⟨b28, 0, none⟩) 0 0) 0 [] := Owns.ofBlk (cs := []) Bb28 (by omega) (by rfl) (by omega) (by omega)
      have hs3 : SlB w29 (.slice (some ⟨b2, o3, none⟩) (u - 0) (cap2 - 0)) ((c :: r).take u) := SlB.ofBs (by rw [ho3 (by omega)]; simpa using (hb2.no hK).take (k := u)) (by omega) (by omega) (by omega)
      refine JA.appendS 8 rfl (by kernel_rfl) (L := #[true, true, true, true, true, true, true, true, true, false]) rfl rfl hS27 @Try.underlying53 @Try.underlying53 (.inr ⟨_, rfl⟩) info_u8 (by rfl) (by decide) (.tmp .here) hO32 (.tmp (.there rfl .here)) ((Src.ofSlB hs3)) (by simp) (bv_one _) (hS27.size) (by omega) ?_
      intro v33 w34 hO36 hc35
      replace hS27 := hS27.ownv hO32 hc35 (by omega)
      replace hK := hK.ownv hO32 hc35 (by omega)
      replace hO32 := hO36; clear hO36
      rw [Nat.zero_add, htu, List.nil_append] at hO32
      obtain ⟨lb, lcap, rfl, hl1, hl2, hl3, hl4⟩ := hO32.some (by omega)
      have hs2 := SlB.ofOwns hO32
      have hb3 := Bs.ofOwns hO32
      clear hO32
      refine JA.take 9 (by kernel_rfl) (by rfl) (by kernel_rfl) (by kernel_rfl) (L := #[true, true, true, true, true, true, true, true, true, true]) rfl rfl (fun w' hI => Run.assign (.tmp .here)) ?_
      refine JA.done (by kernel_rfl) hS27 ?_
      replace Bb16 := Bb16.no hS27
      refine JE.seq ?_
      refine JC.seq ?_
      refine JC.region ?_
      refine JL.val rfl (Run.move (.tmp .here)) ?_
      refine JL.call rfl (Run.call @Try.call21 (.cons (.tmp .here) .nil)) (read_is hs2 hru) ?_
      rintro e w37 ⟨rfl, hc3⟩
      refine JRet.ret ?_
      replace Bb16 := Bb16.no hc3
      replace hs2 := hs2.no hc3
      replace hb3 := hb3.no hc3
      replace hK := hK.no hc3
      have hY : Ch No w37 w37 := Ch.refl _
      have szhY := hK.size
      refine JL.val rfl (Run.move (.tmp .here)) ?_
      refine JL.val rfl (Run.extract (.tmp .here) (by rfl)) ?_
      refine JL.val rfl (Run.extract (.tmp (.there rfl .here)) (by rfl)) ?_
      refine JL.alloc rfl (@Try.zeroValue66 _) ?_
      intro b38 w39 hg40 hc41 Bb38
      have gehY_b38 : w37.heap.size ≤ b38 := Nat.le_trans hY.size hg40
      have ge_b38 : _ ≤ b38 := Nat.le_trans hK.size hg40
      replace hY := hY.no hc41
      replace hK := hK.no hc41
      refine JL.storeA (@Try.sizeOf66 _) (.tmp .here) (.tmp (.there rfl (.there rfl .here))) (by rfl) (by rfl) Bb38 rfl ?_
      intro w42 hc43 hb44
      replace hY := hY.own hc43 (by omega)
      replace hK := hK.own hc43 ge_b38
      replace Bb38 := hb44; clear hb44
      refine JL.val rfl (Run.assign (.tmp (.there rfl .here))) ?_
      refine JL.nil ?_
      refine JE.seq ?_
      refine JC.seq ?_
      refine JC.seq ?_
      refine JC.region ?_
      refine JL.val rfl (Run.move (.tmp .here)) ?_
      replace Bb16 := Bb16.no hY
      replace hs2 := hs2.no hY
      replace hb3 := hb3.no hY
      refine JL.call rfl (Run.call @Try.call22 (.cons (.tmp .here) .nil)) (num_any _ _) ?_
      rintro e w42 ⟨rfl, rfl⟩
      refine JRet.ret ?_
      refine JL.val rfl (Run.neq (.tmp .here) .const) ?_
      refine JL.val rfl (Run.move (.tmp .here)) ?_
      refine JL.gyesb (oj := _) (by rfl) (by rfl) .here (by decide) ?_
      refine JL.val rfl (Run.loadA (@Try.isAgg66 _) (@Try.sizeOf66 _) (.tmp (.there rfl (.there rfl (.there rfl (.there rfl (.there rfl .here)))))) Bb38 rfl) ?_
      refine JL.gyesb (oj := _) (by rfl) (by rfl) (.there rfl .here) (by decide) ?_
      refine JL.val rfl (Run.loadA (@Try.isAgg66 _) (@Try.sizeOf66 _) (.tmp (.there rfl (.there rfl (.there rfl (.there rfl (.there rfl (.there rfl (.there rfl (.there rfl (.there rfl (.there rfl (.there rfl (.there rfl (.there rfl (.there rfl (.there rfl (.there rfl (.there rfl (.there rfl (.there rfl (.there rfl (.there rfl (.there rfl (.there rfl (.there rfl (.there rfl (.there rfl (.there rfl (.there rfl (.there rfl (.there rfl (.there rfl (.there rfl (.there rfl (.there rfl (.there rfl (.there rfl (.there rfl (.there rfl (.there rfl (.there rfl (.there rfl (.there rfl (.there rfl (.there rfl (.there rfl (.there rfl (.there rfl (.there rfl (.there rfl (.there rfl (.there rfl (.there rfl (.there rfl (.there rfl (.there rfl (.there rfl (.there rfl (.there rfl (.there rfl (.there rfl (.there rfl (.there rfl (.there rfl (.there rfl (.there rfl (.there rfl (.there rfl (.there rfl (.there rfl (.there rfl .here))))))))))))))))))))))))))))))))))))))))))))))))))))))))))))))))))))))) Bb16 rfl) ?_
      refine JL.gyesb (oj := _) (by rfl) (by rfl) (.there rfl (.there rfl .here)) (by decide) ?_
      refine JL.val rfl (Run.neA @Try.underlying66 (by kernel_rfl) (by kernel_rfl) (.tmp (.there rfl .here)) (.tmp .here) (.cons (by kernel_rfl) (@Try.isAgg3 _) rfl rfl (eqI @Try.underlying3) (.cons (by kernel_rfl) (@Try.isAgg3 _) rfl rfl (eqI @Try.underlying3) (.cons (by kernel_rfl) (@Try.isAgg50 _) rfl rfl (eqI @Try.underlying50) (.cons (by kernel_rfl) (@Try.isAgg3 _) rfl rfl (eqI @Try.underlying3) (.cons (by kernel_rfl) (@Try.isAgg4 _) rfl rfl (eqB @Try.underlying4) .nil)))))) ?_
      refine JL.val rfl (Run.pickF (.tmp (.there rfl (.there rfl (.there rfl .here)))) (by decide) (.tmp .here)) ?_
      refine JL.nil ?_
      refine JE.seq ?_
      refine JC.condF (.tmp .here) (by simp) ?_
      refine JC.skip ?_
      refine JE.seq ?_
      refine JC.seq ?_
      refine JC.seq ?_
      refine JC.region ?_
      refine JL.val rfl (Run.assign .const) ?_
      refine JL.nil ?_
      refine JE.seq ?_
      refine JC.block ?_
      refine JC.loop (α := Nat) (fun k => [(0, .slice (some ⟨b, o, none⟩) ls.length cap), (3, .int .i64 (i : Int)), (4, .pointer (some ⟨b16, 0, none⟩)), (6, .slice (some ⟨lb, 0, none⟩) u lcap), (9, .int .i64 (k : Int))]) (fun k w => k ≤ u ∧ Blk w b16 66 [.int .i64 ((c.toNat : Int) / 32), .int .i64 ((c.toNat : Int) % 32), .int .u64 n, .int .i64 (u : Int), .bool s] ∧ SlB w (.slice (some ⟨lb, 0, none⟩) u lcap) ((c :: r).take u) ∧ Bs w lb 0 ((c :: r).take u) ∧ Ch No w0 w) (fun k => u - k) 0 ⟨Nat.zero_le _, Bb16, hs2, hb3, hK⟩ (.cons (.there rfl (.there rfl (.there rfl (.there rfl (.there rfl (.there rfl (.there rfl (.there rfl (.there rfl (.there rfl (.there rfl (.there rfl (.there rfl (.there rfl (.there rfl (.there rfl (.there rfl (.there rfl (.there rfl (.there rfl (.there rfl (.there rfl (.there rfl (.there rfl (.there rfl (.there rfl (.there rfl (.there rfl (.there rfl (.there rfl (.there rfl (.there rfl (.there rfl (.there rfl (.there rfl (.there rfl (.there rfl (.there rfl (.there rfl (.there rfl (.there rfl (.there rfl (.there rfl (.there rfl (.there rfl (.there rfl (.there rfl (.there rfl (.there rfl (.there rfl (.there rfl (.there rfl (.there rfl (.there rfl (.there rfl (.there rfl (.there rfl (.there rfl (.there rfl (.there rfl (.there rfl (.there rfl (.there rfl (.there rfl (.there rfl (.there rfl (.there rfl (.there rfl (.there rfl (.there rfl (.there rfl (.there rfl (.there rfl (.there rfl (.there rfl (.there rfl (.there rfl (.there rfl (.there rfl (.there rfl (.there rfl (.there rfl (.there rfl (.there rfl (.there rfl (.there rfl (.there rfl (.there rfl .here)))))))))))))))))))))))))))))))))))))))))))))))))))))))))))))))))))))))))))))))))))))))) (.cons (.there rfl (.there rfl (.there rfl (.there rfl (.there rfl (.there rfl (.there rfl (.there rfl (.there rfl (.there rfl (.there rfl (.there rfl (.there rfl (.there rfl (.there rfl (.there rfl (.there rfl (.there rfl (.there rfl (.there rfl (.there rfl (.there rfl (.there rfl (.there rfl (.there rfl (.there rfl (.there rfl (.there rfl (.there rfl (.there rfl (.there rfl (.there rfl (.there rfl (.there rfl (.there rfl (.there rfl (.there rfl (.there rfl (.there rfl (.there rfl (.there rfl (.there rfl (.there rfl (.there rfl (.there rfl (.there rfl (.there rfl (.there rfl (.there rfl (.there rfl (.there rfl (.there rfl (.there rfl (.there rfl (.there rfl (.there rfl (.there rfl (.there rfl (.there rfl (.there rfl (.there rfl (.there rfl (.there rfl (.there rfl (.there rfl (.there rfl (.there rfl (.there rfl (.there rfl (.there rfl (.there rfl (.there rfl (.there rfl (.there rfl (.there rfl (.there rfl (.there rfl (.there rfl (.there rfl (.there rfl (.there rfl (.there rfl (.there rfl (.there rfl (.there rfl (.there rfl (.there rfl (.there rfl (.there rfl .here))))))))))))))))))))))))))))))))))))))))))))))))))))))))))))))))))))))))))))))))))))))))) (.cons (.there rfl (.there rfl (.there rfl (.there rfl (.there rfl (.there rfl (.there rfl (.there rfl (.there rfl (.there rfl (.there rfl (.there rfl (.there rfl (.there rfl (.there rfl (.there rfl (.there rfl (.there rfl (.there rfl (.there rfl (.there rfl (.there rfl (.there rfl (.there rfl (.there rfl (.there rfl (.there rfl (.there rfl (.there rfl (.there rfl (.there rfl (.there rfl (.there rfl (.there rfl (.there rfl (.there rfl (.there rfl (.there rfl (.there rfl (.there rfl (.there rfl (.there rfl (.there rfl (.there rfl (.there rfl (.there rfl (.there rfl (.there rfl (.there rfl (.there rfl (.there rfl (.there rfl (.there rfl (.there rfl (.there rfl (.there rfl (.there rfl (.there rfl (.there rfl (.there rfl (.there rfl (.there rfl (.there rfl (.there rfl (.there rfl (.there rfl (.there rfl (.there rfl (.there rfl (.there rfl (.there rfl (.there rfl (.there rfl (.there rfl .here)))))))))))))))))))))))))))))))))))))))))))))))))))))))))))))))))))))))))) (.cons (.there rfl (.there rfl (.there rfl (.there rfl (.there rfl (.there rfl (.there rfl (.there rfl (.there rfl (.there rfl (.there rfl (.there rfl (.there rfl (.there rfl (.there rfl (.there rfl .here)))))))))))))))) (.conse .here (rfl) .nil))))) ?_
      rintro k w45 m46 ⟨hk, Bb16, hs2, hb3, hK⟩ hmu47
      show JC _ _ _ _ _ [(0, .slice (some ⟨b, o, none⟩) ls.length cap), (3, .int .i64 (i : Int)), (4, .pointer (some ⟨b16, 0, none⟩)), (6, .slice (some ⟨lb, 0, none⟩) u lcap), (9, .int .i64 (k : Int))] _
      refine JC.seq ?_
      refine JC.seq ?_
      refine JC.region ?_
      refine JL.val rfl (Run.move (.tmp (.there rfl (.there rfl (.there rfl (.there rfl .here)))))) ?_
      refine JL.val rfl (Run.fieldAddr (ft := 3) (foff := 3) (off := 3) @Try.underlying66 (by rfl) (@Try.sizeOf3 _) rfl rfl (.tmp (.there rfl (.there rfl (.there rfl .here))))) ?_
      refine JL.val rfl (Run.loadB (@Try.isAgg3 _) (.tmp .here) Bb16 (by rfl)) ?_
      refine JL.val rfl (Run.lss (.tmp (.there rfl (.there rfl .here))) (.tmp .here)) ?_
      refine JL.nil ?_
      refine JE.seq ?_
      refine JC.cond (.tmp .here) (fun hku => ?_) (fun hku => ?_)
      · have hku := of_decide_eq_true hku
        refine JC.skip ?_
        refine JE.seq ?_
        refine JC.seq ?_
        refine JC.block ?_
        refine JC.seq ?_
        refine JC.region ?_
        refine JL.val rfl (Run.move (.tmp (.there rfl (.there rfl (.there rfl (.there rfl (.there rfl (.there rfl (.there rfl .here))))))))) ?_
        refine JL.val rfl (Run.move (.tmp (.there rfl (.there rfl (.there rfl (.there rfl (.there rfl (.there rfl (.there rfl (.there rfl (.there rfl .here))))))))))) ?_
        refine JL.val rfl (Run.move (.tmp (.there rfl (.there rfl (.there rfl (.there rfl (.there rfl (.there rfl (.there rfl (.there rfl (.there rfl (.there rfl .here)))))))))))) ?_
        refine JL.sliceS (L := 0) (H := k) (M := k) rfl @Try.underlying53 (@Try.sizeOf5 _) (.tmp (.there rfl (.there rfl .here))) (fun a ha => by simp only [Option.map, (show Ev _ _ _ from (.tmp (.there rfl .here))).eq ha, (show Ev _ _ _ from (.tmp .here)).eq ha]; exact bounds_hm (by rfl) (by rfl) (by omega) (by omega)) (by omega) ?_
        intro o4 ho4
        have hs4 : SlB w45 (.slice (some ⟨lb, o4, none⟩) (k - 0) (k - 0)) ((c :: r).take k) := by
          have hb4 := hb3.take (k := k)
          rw [List.take_take, Nat.min_eq_left (by omega)] at hb4
          refine SlB.ofBs ?_ (by rw [List.length_take]; omega) (by omega) (by omega)
          rcases Nat.eq_zero_or_pos k with hk0 | hk0
          · subst hk0; exact Bs.nil _ _ _
          · rw [ho4 hk0]; exact hb4
        refine JL.call rfl (Run.call @Try.call21 (.cons (.tmp .here) .nil)) (read_is hs4 (hcut k (by omega))) ?_
        rintro e w48 ⟨rfl, hc4⟩
        refine JRet.ret ?_
        replace Bb16 := Bb16.no hc4
        replace hs2 := hs2.no hc4
        replace hb3 := hb3.no hc4
        replace hK := hK.no hc4
        have hZ : Ch No w48 w48 := Ch.refl _
        have szhZ := hK.size
        refine JL.val rfl (Run.move (.tmp .here)) ?_
        refine JL.val rfl (Run.extract (.tmp .here) (by rfl)) ?_
        refine JL.val rfl (Run.extract (.tmp (.there rfl .here)) (by rfl)) ?_
        refine JL.alloc rfl (@Try.zeroValue66 _) ?_
        intro b49 w50 hg51 hc52 Bb49
        have gehZ_b49 : w48.heap.size ≤ b49 := Nat.le_trans hZ.size hg51
        have ge_b49 : _ ≤ b49 := Nat.le_trans hK.size hg51
        replace hZ := hZ.no hc52
        replace hK := hK.no hc52
        refine JL.storeA (@Try.sizeOf66 _) (.tmp .here) (.tmp (.there rfl (.there rfl .here))) (by rfl) (by rfl) Bb49 rfl ?_
        intro w53 hc54 hb55
        replace hZ := hZ.own hc54 (by omega)
        replace hK := hK.own hc54 ge_b49
        replace Bb49 := hb55; clear hb55
        refine JL.val rfl (Run.assign (.tmp (.there rfl .here))) ?_
        refine JL.nil ?_
        refine JE.seq ?_
        refine JC.seq ?_
        refine JC.region ?_
        refine JL.val rfl (Run.move (.tmp .here)) ?_
        refine JL.call rfl (Run.call @Try.call22 (.cons (.tmp .here) .nil)) (num_any _ _) ?_
        rintro e w53 ⟨rfl, rfl⟩
        refine JRet.ret ?_
        refine JL.val rfl (Run.neq (.tmp .here) .const) ?_
        refine JL.nil ?_
        refine JE.seq ?_
        refine JC.condF (.tmp .here) (by decide) ?_
        replace Bb16 := Bb16.no hZ
        replace hs2 := hs2.no hZ
        replace hb3 := hb3.no hZ
        refine JC.skip ?_
        refine JE.blk ?_
        refine JE.seq ?_
        refine JC.region ?_
        refine JL.val rfl (Run.move (.tmp (.there rfl (.there rfl (.there rfl (.there rfl (.there rfl (.there rfl (.there rfl (.there rfl (.there rfl (.there rfl (.there rfl (.there rfl (.there rfl (.there rfl (.there rfl (.there rfl (.there rfl (.there rfl (.there rfl (.there rfl (.there rfl .here))))))))))))))))))))))) ?_
        refine JL.val rfl (Run.add (.tmp .here) .const (wrap_i64 (by omega))) ?_
        refine JL.val rfl (Run.assign (.tmp .here)) ?_
        refine JL.nil ?_
        exact JE.again (k + 1) (.cons (.there rfl (.there rfl (.there rfl (.there rfl (.there rfl (.there rfl (.there rfl (.there rfl (.there rfl (.there rfl (.there rfl (.there rfl (.there rfl (.there rfl (.there rfl (.there rfl (.there rfl (.there rfl (.there rfl (.there rfl .here)))))))))))))))))))) (.cons (.there rfl (.there rfl (.there rfl (.there rfl (.there rfl (.there rfl (.there rfl (.there rfl (.there rfl (.there rfl (.there rfl (.there rfl (.there rfl (.there rfl (.there rfl (.there rfl (.there rfl (.there rfl (.there rfl (.there rfl (.there rfl .here))))))))))))))))))))) (.cons (.there rfl (.there rfl (.there rfl (.there rfl (.there rfl (.there rfl (.there rfl (.there rfl (.there rfl (.there rfl (.there rfl (.there rfl (.there rfl (.there rfl (.there rfl (.there rfl (.there rfl (.there rfl (.there rfl (.there rfl (.there rfl (.there rfl .here)))))))))))))))))))))) (.cons (.there rfl (.there rfl (.there rfl (.there rfl (.there rfl (.there rfl (.there rfl (.there rfl (.there rfl (.there rfl (.there rfl (.there rfl (.there rfl (.there rfl (.there rfl (.there rfl (.there rfl (.there rfl (.there rfl (.there rfl (.there rfl (.there rfl (.there rfl .here))))))))))))))))))))))) (.conse .here (rfl) .nil))))) (⟨by omega, Bb16, hs2, hb3, hK⟩) (by simp only [hmu47]; omega)
      · have hku := of_decide_eq_false hku
        refine JC.exit ?_
        refine JE.exit_seq ?_
        refine JE.exit_seq ?_
        refine JE.exit_here ?_
        refine JE.seq ?_
        refine JC.seq ?_
        have hkhS58 := hK
        have hS58 : Ch No w45 w45 := Ch.refl _
        have szhS58 := hK.size
        refine JC.any (f := 10) (fun w' => Ch No w45 w') mixed rfl ?_
        intro w56 hd57
        replace hS58 := hS58.no hd57
        replace hK := hK.no hd57
        refine JA.take 0 (by kernel_rfl) (by rfl) (by kernel_rfl) (by kernel_rfl) (L := #[true, false, false, false, false, false, false, false, false, false]) rfl rfl (fun w' hI => Run.fieldAddr (ft := 3) (foff := 0) (off := 0) @Try.underlying66 (by rfl) (@Try.sizeOf3 _) rfl rfl (.tmp (.there rfl (.there rfl (.there rfl (.there rfl (.there rfl (.there rfl .here)))))))) ?_
        refine JA.take 1 (by kernel_rfl) (by rfl) (by kernel_rfl) (by kernel_rfl) (L := #[true, true, false, false, false, false, false, false, false, false]) rfl rfl (fun w' hI => Run.loadB (@Try.isAgg3 _) (.tmp .here) (Bb16.no hI) (by rfl)) ?_
        refine JA.take 2 (by kernel_rfl) (by rfl) (by kernel_rfl) (by kernel_rfl) (L := #[true, true, true, false, false, false, false, false, false, false]) rfl rfl (fun w' hI => Run.fieldAddr (ft := 50) (foff := 2) (off := 2) @Try.underlying66 (by rfl) (@Try.sizeOf50 _) rfl rfl (.tmp (.there rfl (.there rfl (.there rfl (.there rfl (.there rfl (.there rfl (.there rfl (.there rfl .here)))))))))) ?_
        refine JA.take 3 (by kernel_rfl) (by rfl) (by kernel_rfl) (by kernel_rfl) (L := #[true, true, true, true, false, false, false, false, false, false]) rfl rfl (fun w' hI => Run.loadB (@Try.isAgg50 _) (.tmp .here) (Bb16.no hI) (by rfl)) ?_
        refine JA.take 6 (by kernel_rfl) (by rfl) (by kernel_rfl) (by kernel_rfl) (L := #[true, true, true, true, false, false, true, false, false, false]) rfl rfl (fun w' hI => Run.move (.tmp (.there rfl (.there rfl (.there rfl (.there rfl (.there rfl (.there rfl (.there rfl (.there rfl (.there rfl (.there rfl (.there rfl .here))))))))))))) ?_
        refine JA.take 7 (by kernel_rfl) (by rfl) (by kernel_rfl) (by kernel_rfl) (L := #[true, true, true, true, false, false, true, true, false, false]) rfl rfl (fun w' hI => Run.bytesStr @Try.underlying53 @Try.underlying9 @Try.underlying5 (.tmp .here) (hs2.no hI)) ?_
        refine JA.onlyc 4 rfl (by kernel_rfl) (L := #[true, true, true, true, true, false, true, true, false, false]) rfl rfl hS58 (Run.call @Try.call6 (.cons (.tmp (.there rfl (.there rfl (.there rfl (.there rfl .here))))) (.cons (.tmp (.there rfl (.there rfl .here))) .nil))) (lay_any _ _ (by omega) (by omega) hn0 _) ?_
        rintro e w59 ⟨v5, rfl, hO5, hc5⟩
        refine ⟨_, rfl, ?_⟩
        replace hS58 := hS58.no hc5
        replace hK := hK.no hc5
        rw [layB_bv (by omega) (by omega) hn0] at hO5
        have hsL : SlB w59 v5 (layB ((c.toNat : Int) / 32) n) := SlB.ofOwns hO5
        refine JA.only 5 rfl (by kernel_rfl) (L := #[true, true, true, true, true, true, true, true, false, false]) rfl rfl hS58 (Run.bytesStr @Try.underlying53 @Try.underlying9 @Try.underlying5 (.tmp .here) hsL) ?_
        refine JA.take 8 (by kernel_rfl) (by rfl) (by kernel_rfl) (by kernel_rfl) (L := #[true, true, true, true, true, true, true, true, true, false]) rfl rfl (fun w' hI => Run.eqS (s := layB ((c.toNat : Int) / 32) n) (t := (c :: r).take u) (.tmp .here) (.tmp (.there rfl (.there rfl .here)))) ?_
        refine JA.take 9 (by kernel_rfl) (by rfl) (by kernel_rfl) (by kernel_rfl) (L := #[true, true, true, true, true, true, true, true, true, true]) rfl rfl (fun w' hI => Run.assign (.tmp .here)) ?_
        refine JA.done (by kernel_rfl) hS58 ?_
        replace Bb16 := Bb16.no hS58
        replace hs2 := hs2.no hS58
        replace hb3 := hb3.no hS58
        refine JE.seq ?_
        refine JC.seq ?_
        refine JC.region ?_
        refine JL.val rfl (Run.fieldAddr (ft := 3) (foff := 0) (off := 0) @Try.underlying66 (by rfl) (@Try.sizeOf3 _) rfl rfl (.tmp (.there rfl (.there rfl (.there rfl (.there rfl (.there rfl (.there rfl (.there rfl (.there rfl (.there rfl (.there rfl (.there rfl (.there rfl (.there rfl (.there rfl (.there rfl (.there rfl .here)))))))))))))))))) ?_
        refine JL.val rfl (Run.loadB (@Try.isAgg3 _) (.tmp .here) Bb16 (by rfl)) ?_
        refine JL.val rfl (Run.neq (.tmp .here) .const) ?_
        refine JL.val rfl (Run.move (.tmp .here)) ?_
        refine JL.gsplit (dj := 142) (want := true) .here (fun g7B => ?_) (fun g7B => ?_)
        · have g7 := bne_iff_ne.1 g7B
          refine JL.gyesb (oj := _) (by rfl) (by rfl) .here g7B ?_
          refine JL.val rfl (Run.fieldAddr (ft := 3) (foff := 1) (off := 1) @Try.underlying66 (by rfl) (@Try.sizeOf3 _) rfl rfl (.tmp (.there rfl (.there rfl (.there rfl (.there rfl (.there rfl (.there rfl (.there rfl (.there rfl (.there rfl (.there rfl (.there rfl (.there rfl (.there rfl (.there rfl (.there rfl (.there rfl (.there rfl (.there rfl (.there rfl (.there rfl .here)))))))))))))))))))))) ?_
          refine JL.gyesb (oj := _) (by rfl) (by rfl) (.there rfl .here) g7B ?_
          refine JL.val rfl (Run.loadB (@Try.isAgg3 _) (.tmp .here) Bb16 (by rfl)) ?_
          refine JL.gyesb (oj := _) (by rfl) (by rfl) (.there rfl (.there rfl .here)) g7B ?_
          refine JL.val rfl (Run.lss (.tmp .here) .const) ?_
          refine JL.val rfl (Run.pickT (.tmp (.there rfl (.there rfl (.there rfl .here)))) g7B (.tmp .here)) ?_
          refine JL.val rfl (Run.move (.tmp .here)) ?_
          refine JL.gsplit (dj := 147) (want := true) .here (fun g28B => ?_) (fun g28B => ?_)
          · have g28 := of_decide_eq_true g28B
            have hsm := hsame g7 g28
            refine JL.gyesb (oj := _) (by rfl) (by rfl) .here g28B ?_
            refine JL.val rfl (Run.move (.tmp (.there rfl (.there rfl (.there rfl (.there rfl (.there rfl (.there rfl (.there rfl (.there rfl (.there rfl .here))))))))))) ?_
            refine JL.gyesb (oj := _) (by rfl) (by rfl) (.there rfl .here) g28B ?_
            refine JL.val rfl (Run.fieldAddr (ft := 4) (foff := 4) (off := 4) @Try.underlying66 (by rfl) (@Try.sizeOf4 _) rfl rfl (.tmp (.there rfl (.there rfl (.there rfl (.there rfl (.there rfl (.there rfl (.there rfl (.there rfl (.there rfl (.there rfl (.there rfl (.there rfl (.there rfl (.there rfl (.there rfl (.there rfl (.there rfl (.there rfl (.there rfl (.there rfl (.there rfl (.there rfl (.there rfl (.there rfl (.there rfl (.there rfl .here)))))))))))))))))))))))))))) ?_
            refine JL.gyesb (oj := _) (by rfl) (by rfl) (.there rfl (.there rfl .here)) g28B ?_
            refine JL.val rfl (Run.loadB (@Try.isAgg4 _) (.tmp .here) Bb16 (by rfl)) ?_
            refine JL.gyesb (oj := _) (by rfl) (by rfl) (.there rfl (.there rfl (.there rfl .here))) g28B ?_
            refine JL.val rfl (Run.neb @Try.underlying4 (.tmp (.there rfl (.there rfl .here))) (.tmp .here)) ?_
            refine JL.val rfl (Run.pickT (.tmp (.there rfl (.there rfl (.there rfl (.there rfl .here))))) g28B (.tmp .here)) ?_
            refine JL.val rfl (Run.move (.tmp .here)) ?_
            refine JL.gyesb (oj := _) (by rfl) (by rfl) .here (by rw [hsm]; simp) ?_
            refine JL.val rfl (Run.fieldAddr (ft := 3) (foff := 1) (off := 1) @Try.underlying66 (by rfl) (@Try.sizeOf3 _) rfl rfl (.tmp (.there rfl (.there rfl (.there rfl (.there rfl (.there rfl (.there rfl (.there rfl (.there rfl (.there rfl (.there rfl (.there rfl (.there rfl (.there rfl (.there rfl (.there rfl (.there rfl (.there rfl (.there rfl (.there rfl (.there rfl (.there rfl (.there rfl (.there rfl (.there rfl (.there rfl (.there rfl (.there rfl (.there rfl (.there rfl (.there rfl (.there rfl .here))))))))))))))))))))))))))))))))) ?_
            refine JL.gyesb (oj := _) (by rfl) (by rfl) (.there rfl .here) (by rw [hsm]; simp) ?_
            refine JL.val rfl (Run.loadB (@Try.isAgg3 _) (.tmp .here) Bb16 (by rfl)) ?_
            refine JL.gyesb (oj := _) (by rfl) (by rfl) (.there rfl (.there rfl .here)) (by rw [hsm]; simp) ?_
            refine JL.val rfl (Run.eql (.tmp .here) .const) ?_
            refine JL.gyesb (oj := _) (by rfl) (by rfl) (.there rfl (.there rfl (.there rfl .here))) (by rw [hsm]; simp) ?_
            refine JL.val rfl (Run.move (.tmp .here)) ?_
            refine JL.gsplit (dj := 157) (want := true) .here (fun g31B => ?_) (fun g31B => ?_)
            · obtain ⟨hz0, hz1⟩ := h31 (eq_of_beq g31B)
              refine JL.gyesb (oj := _) (by rfl) (by rfl) .here g31B ?_
              refine JL.val rfl (Run.fieldAddr (ft := 50) (foff := 2) (off := 2) @Try.underlying66 (by rfl) (@Try.sizeOf50 _) rfl rfl (.tmp (.there rfl (.there rfl (.there rfl (.there rfl (.there rfl (.there rfl (.there rfl (.there rfl (.there rfl (.there rfl (.there rfl (.there rfl (.there rfl (.there rfl (.there rfl (.there rfl (.there rfl (.there rfl (.there rfl (.there rfl (.there rfl (.there rfl (.there rfl (.there rfl (.there rfl (.there rfl (.there rfl (.there rfl (.there rfl (.there rfl (.there rfl (.there rfl (.there rfl (.there rfl (.there rfl .here))))))))))))))))))))))))))))))))))))) ?_
              refine JL.gyesb (oj := _) (by rfl) (by rfl) (.there rfl .here) g31B ?_
              refine JL.val rfl (Run.loadB (@Try.isAgg50 _) (.tmp .here) Bb16 (by rfl)) ?_
              refine JL.gyesb (oj := _) (by rfl) (by rfl) (.there rfl (.there rfl .here)) g31B ?_
              refine JL.val rfl (Run.neq (.tmp .here) .const) ?_
              refine JL.gyesb (oj := _) (by rfl) (by rfl) (.there rfl (.there rfl (.there rfl .here))) g31B ?_
              refine JL.val rfl (Run.move (.tmp .here)) ?_
              refine JL.gyesb (oj := _) (by rfl) (by rfl) .here (by simp [hz0]) ?_
              refine JL.val rfl (Run.fieldAddr (ft := 3) (foff := 3) (off := 3) @Try.underlying66 (by rfl) (@Try.sizeOf3 _) rfl rfl (.tmp (.there rfl (.there rfl (.there rfl (.there rfl (.there rfl (.there rfl (.there rfl (.there rfl (.there rfl (.there rfl (.there rfl (.there rfl (.there rfl (.there rfl (.there rfl (.there rfl (.there rfl (.there rfl (.there rfl (.there rfl (.there rfl (.there rfl (.there rfl (.there rfl (.there rfl (.there rfl (.there rfl (.there rfl (.there rfl (.there rfl (.there rfl (.there rfl (.there rfl (.there rfl (.there rfl (.there rfl (.there rfl (.there rfl (.there rfl .here))))))))))))))))))))))))))))))))))))))))) ?_
              refine JL.gyesb (oj := _) (by rfl) (by rfl) (.there rfl .here) (by simp [hz0]) ?_
              refine JL.val rfl (Run.loadB (@Try.isAgg3 _) (.tmp .here) Bb16 (by rfl)) ?_
              refine JL.gyesb (oj := _) (by rfl) (by rfl) (.there rfl (.there rfl .here)) (by simp [hz0]) ?_
              refine JL.val rfl (Run.neq (.tmp .here) .const) ?_
              refine JL.gyesb (oj := _) (by rfl) (by rfl) (.there rfl (.there rfl (.there rfl (.there rfl (.there rfl (.there rfl (.there rfl .here))))))) g31B ?_
              refine JL.val rfl (Run.pickF (.tmp (.there rfl (.there rfl (.there rfl .here)))) (by simp [hz0]) (.tmp .here)) ?_
              refine JL.gyesb (oj := _) (by rfl) (by rfl) (.there rfl (.there rfl (.there rfl (.there rfl (.there rfl (.there rfl (.there rfl (.there rfl (.there rfl (.there rfl (.there rfl (.there rfl .here)))))))))))) (by rw [hsm]; simp) ?_
              refine JL.val rfl (Run.pickT (.tmp (.there rfl (.there rfl (.there rfl (.there rfl (.there rfl (.there rfl (.there rfl (.there rfl .here))))))))) g31B (.tmp .here)) ?_
              refine JL.val rfl (Run.pickF (.tmp (.there rfl (.there rfl (.there rfl (.there rfl (.there rfl (.there rfl (.there rfl (.there rfl (.there rfl (.there rfl (.there rfl (.there rfl (.there rfl .here)))))))))))))) (by rw [hsm]; simp) (.tmp .here)) ?_
              refine JL.nil ?_
              refine JE.seq ?_
              refine JC.condF (.tmp .here) (by simp [hz1]) ?_
              refine JC.skip ?_
              refine JE.blk ?_
              refine JE.seq ?_
              refine JC.region ?_
              refine JL.val rfl (Run.move (.tmp (.there rfl (.there rfl (.there rfl (.there rfl (.there rfl (.there rfl (.there rfl (.there rfl (.there rfl (.there rfl (.there rfl (.there rfl (.there rfl (.there rfl (.there rfl (.there rfl (.there rfl (.there rfl (.there rfl (.there rfl (.there rfl (.there rfl (.there rfl (.there rfl (.there rfl (.there rfl (.there rfl (.there rfl (.there rfl (.there rfl (.there rfl (.there rfl (.there rfl (.there rfl (.there rfl (.there rfl (.there rfl (.there rfl (.there rfl (.there rfl (.there rfl (.there rfl (.there rfl (.there rfl .here)))))))))))))))))))))))))))))))))))))))))))))) ?_
              refine JL.val rfl (Run.add (.tmp .here) .const (wrap_i64 (by omega))) ?_
              refine JL.val rfl (Run.assign (.tmp .here)) ?_
              refine JL.nil ?_
              exact JE.again (i + 1) (.cons (.there rfl (.there rfl (.there rfl (.there rfl (.there rfl (.there rfl (.there rfl (.there rfl (.there rfl (.there rfl (.there rfl (.there rfl (.there rfl (.there rfl (.there rfl (.there rfl (.there rfl (.there rfl (.there rfl (.there rfl (.there rfl (.there rfl (.there rfl (.there rfl (.there rfl (.there rfl (.there rfl (.there rfl (.there rfl (.there rfl (.there rfl (.there rfl (.there rfl (.there rfl (.there rfl (.there rfl (.there rfl (.there rfl (.there rfl (.there rfl (.there rfl (.there rfl (.there rfl (.there rfl (.there rfl (.there rfl .here)))))))))))))))))))))))))))))))))))))))))))))) (.conse .here (rfl) .nil)) (⟨by omega, hK⟩) (by simp only [hmu3]; omega)
            · refine JL.gnob rfl (oj := _) (by rfl) (by rfl) .here g31B ?_
              refine JL.gnob rfl (oj := _) (by rfl) (by rfl) (.there rfl .here) g31B ?_
              refine JL.gnob rfl (oj := _) (by rfl) (by rfl) (.there rfl (.there rfl .here)) g31B ?_
              refine JL.gnob rfl (oj := _) (by rfl) (by rfl) (.there rfl (.there rfl (.there rfl .here))) g31B ?_
              refine JL.gund rfl (oj := _) (by rfl) (by rfl) .here ?_
              refine JL.gund rfl (oj := _) (by rfl) (by rfl) (.there rfl .here) ?_
              refine JL.gund rfl (oj := _) (by rfl) (by rfl) (.there rfl (.there rfl .here)) ?_
              refine JL.gnob rfl (oj := _) (by rfl) (by rfl) (.there rfl (.there rfl (.there rfl (.there rfl (.there rfl (.there rfl (.there rfl .here))))))) g31B ?_
              refine JL.gyesb (oj := _) (by rfl) (by rfl) (.there rfl (.there rfl (.there rfl (.there rfl (.there rfl (.there rfl (.there rfl (.there rfl (.there rfl (.there rfl (.there rfl (.there rfl .here)))))))))))) (by rw [hsm]; simp) ?_
              refine JL.val rfl (Run.pickF (.tmp (.there rfl (.there rfl (.there rfl (.there rfl (.there rfl (.there rfl (.there rfl (.there rfl .here))))))))) g31B .const) ?_
              refine JL.val rfl (Run.pickF (.tmp (.there rfl (.there rfl (.there rfl (.there rfl (.there rfl (.there rfl (.there rfl (.there rfl (.there rfl (.there rfl (.there rfl (.there rfl (.there rfl .here)))))))))))))) (by rw [hsm]; simp) (.tmp .here)) ?_
              refine JL.nil ?_
              refine JE.seq ?_
              refine JC.condF (.tmp .here) (rfl) ?_
              refine JC.skip ?_
              refine JE.blk ?_
              refine JE.seq ?_
              refine JC.region ?_
              refine JL.val rfl (Run.move (.tmp (.there rfl (.there rfl (.there rfl (.there rfl (.there rfl (.there rfl (.there rfl (.there rfl (.there rfl (.there rfl (.there rfl (.there rfl (.there rfl (.there rfl (.there rfl (.there rfl (.there rfl (.there rfl (.there rfl (.there rfl (.there rfl (.there rfl (.there rfl (.there rfl (.there rfl (.there rfl (.there rfl (.there rfl (.there rfl (.there rfl (.there rfl (.there rfl (.there rfl (.there rfl (.there rfl (.there rfl (.there rfl (.there rfl (.there rfl (.there rfl (.there rfl (.there rfl (.there rfl (.there rfl .here)))))))))))))))))))))))))))))))))))))))))))))) ?_
              refine JL.val rfl (Run.add (.tmp .here) .const (wrap_i64 (by omega))) ?_
              refine JL.val rfl (Run.assign (.tmp .here)) ?_
              refine JL.nil ?_
              exact JE.again (i + 1) (.cons (.there rfl (.there rfl (.there rfl (.there rfl (.there rfl (.there rfl (.there rfl (.there rfl (.there rfl (.there rfl (.there rfl (.there rfl (.there rfl (.there rfl (.there rfl (.there rfl (.there rfl (.there rfl (.there rfl (.there rfl (.there rfl (.there rfl (.there rfl (.there rfl (.there rfl (.there rfl (.there rfl (.there rfl (.there rfl (.there rfl (.there rfl (.there rfl (.there rfl (.there rfl (.there rfl (.there rfl (.there rfl (.there rfl (.there rfl (.there rfl (.there rfl (.there rfl (.there rfl (.there rfl (.there rfl (.there rfl .here)))))))))))))))))))))))))))))))))))))))))))))) (.conse .here (rfl) .nil)) (⟨by omega, hK⟩) (by simp only [hmu3]; omega)
          · refine JL.gnob rfl (oj := _) (by rfl) (by rfl) .here g28B ?_
            refine JL.gnob rfl (oj := _) (by rfl) (by rfl) (.there rfl .here) g28B ?_
            refine JL.gnob rfl (oj := _) (by rfl) (by rfl) (.there rfl (.there rfl .here)) g28B ?_
            refine JL.gnob rfl (oj := _) (by rfl) (by rfl) (.there rfl (.there rfl (.there rfl .here))) g28B ?_
            refine JL.val rfl (Run.pickF (.tmp (.there rfl (.there rfl (.there rfl (.there rfl .here))))) g28B .const) ?_
            refine JL.val rfl (Run.move (.tmp .here)) ?_
            refine JL.gyesb (oj := _) (by rfl) (by rfl) .here rfl ?_
            refine JL.val rfl (Run.fieldAddr (ft := 3) (foff := 1) (off := 1) @Try.underlying66 (by rfl) (@Try.sizeOf3 _) rfl rfl (.tmp (.there rfl (.there rfl (.there rfl (.there rfl (.there rfl (.there rfl (.there rfl (.there rfl (.there rfl (.there rfl (.there rfl (.there rfl (.there rfl (.there rfl (.there rfl (.there rfl (.there rfl (.there rfl (.there rfl (.there rfl (.there rfl (.there rfl (.there rfl (.there rfl (.there rfl (.there rfl (.there rfl (.there rfl (.there rfl (.there rfl (.there rfl .here))))))))))))))))))))))))))))))))) ?_
            refine JL.gyesb (oj := _) (by rfl) (by rfl) (.there rfl .here) rfl ?_
            refine JL.val rfl (Run.loadB (@Try.isAgg3 _) (.tmp .here) Bb16 (by rfl)) ?_
            refine JL.gyesb (oj := _) (by rfl) (by rfl) (.there rfl (.there rfl .here)) rfl ?_
            refine JL.val rfl (Run.eql (.tmp .here) .const) ?_
            refine JL.gyesb (oj := _) (by rfl) (by rfl) (.there rfl (.there rfl (.there rfl .here))) rfl ?_
            refine JL.val rfl (Run.move (.tmp .here)) ?_
            refine JL.gsplit (dj := 157) (want := true) .here (fun g31B => ?_) (fun g31B => ?_)
            · obtain ⟨hz0, hz1⟩ := h31 (eq_of_beq g31B)
              refine JL.gyesb (oj := _) (by rfl) (by rfl) .here g31B ?_
              refine JL.val rfl (Run.fieldAddr (ft := 50) (foff := 2) (off := 2) @Try.underlying66 (by rfl) (@Try.sizeOf50 _) rfl rfl (.tmp (.there rfl (.there rfl (.there rfl (.there rfl (.there rfl (.there rfl (.there rfl (.there rfl (.there rfl (.there rfl (.there rfl (.there rfl (.there rfl (.there rfl (.there rfl (.there rfl (.there rfl (.there rfl (.there rfl (.there rfl (.there rfl (.there rfl (.there rfl (.there rfl (.there rfl (.there rfl (.there rfl (.there rfl (.there rfl (.there rfl (.there rfl (.there rfl (.there rfl (.there rfl (.there rfl .here))))))))))))))))))))))))))))))))))))) ?_
              refine JL.gyesb (oj := _) (by rfl) (by rfl) (.there rfl .here) g31B ?_
              refine JL.val rfl (Run.loadB (@Try.isAgg50 _) (.tmp .here) Bb16 (by rfl)) ?_
              refine JL.gyesb (oj := _) (by rfl) (by rfl) (.there rfl (.there rfl .here)) g31B ?_
              refine JL.val rfl (Run.neq (.tmp .here) .const) ?_
              refine JL.gyesb (oj := _) (by rfl) (by rfl) (.there rfl (.there rfl (.there rfl .here))) g31B ?_
              refine JL.val rfl (Run.move (.tmp .here)) ?_
              refine JL.gyesb (oj := _) (by rfl) (by rfl) .here (by simp [hz0]) ?_
              refine JL.val rfl (Run.fieldAddr (ft := 3) (foff := 3) (off := 3) @Try.underlying66 (by rfl) (@Try.sizeOf3 _) rfl rfl (.tmp (.there rfl (.there rfl (.there rfl (.there rfl (.there rfl (.there rfl (.there rfl (.there rfl (.there rfl (.there rfl (.there rfl (.there rfl (.there rfl (.there rfl (.there rfl (.there rfl (.there rfl (.there rfl (.there rfl (.there rfl (.there rfl (.there rfl (.there rfl (.there rfl (.there rfl (.there rfl (.there rfl (.there rfl (.there rfl (.there rfl (.there rfl (.there rfl (.there rfl (.there rfl (.there rfl (.there rfl (.there rfl (.there rfl (.there rfl .here))))))))))))))))))))))))))))))))))))))))) ?_
              refine JL.gyesb (oj := _) (by rfl) (by rfl) (.there rfl .here) (by simp [hz0]) ?_
              refine JL.val rfl (Run.loadB (@Try.isAgg3 _) (.tmp .here) Bb16 (by rfl)) ?_
              refine JL.gyesb (oj := _) (by rfl) (by rfl) (.there rfl (.there rfl .here)) (by simp [hz0]) ?_
              refine JL.val rfl (Run.neq (.tmp .here) .const) ?_
              refine JL.gyesb (oj := _) (by rfl) (by rfl) (.there rfl (.there rfl (.there rfl (.there rfl (.there rfl (.there rfl (.there rfl .here))))))) g31B ?_
              refine JL.val rfl (Run.pickF (.tmp (.there rfl (.there rfl (.there rfl .here)))) (by simp [hz0]) (.tmp .here)) ?_
              refine JL.gyesb (oj := _) (by rfl) (by rfl) (.there rfl (.there rfl (.there rfl (.there rfl (.there rfl (.there rfl (.there rfl (.there rfl (.there rfl (.there rfl (.there rfl (.there rfl .here)))))))))))) rfl ?_
              refine JL.val rfl (Run.pickT (.tmp (.there rfl (.there rfl (.there rfl (.there rfl (.there rfl (.there rfl (.there rfl (.there rfl .here))))))))) g31B (.tmp .here)) ?_
              refine JL.val rfl (Run.pickF (.tmp (.there rfl (.there rfl (.there rfl (.there rfl (.there rfl (.there rfl (.there rfl (.there rfl (.there rfl (.there rfl (.there rfl (.there rfl (.there rfl .here)))))))))))))) rfl (.tmp .here)) ?_
              refine JL.nil ?_
              refine JE.seq ?_
              refine JC.condF (.tmp .here) (by simp [hz1]) ?_
              refine JC.skip ?_
              refine JE.blk ?_
              refine JE.seq ?_
              refine JC.region ?_
              refine JL.val rfl (Run.move (.tmp (.there rfl (.there rfl (.there rfl (.there rfl (.there rfl (.there rfl (.there rfl (.there rfl (.there rfl (.there rfl (.there rfl (.there rfl (.there rfl (.there rfl (.there rfl (.there rfl (.there rfl (.there rfl (.there rfl (.there rfl (.there rfl (.there rfl (.there rfl (.there rfl (.there rfl (.there rfl (.there rfl (.there rfl (.there rfl (.there rfl (.there rfl (.there rfl (.there rfl (.there rfl (.there rfl (.there rfl (.there rfl (.there rfl (.there rfl (.there rfl (.there rfl (.there rfl (.there rfl (.there rfl .here)))))))))))))))))))))))))))))))))))))))))))))) ?_
              refine JL.val rfl (Run.add (.tmp .here) .const (wrap_i64 (by omega))) ?_
              refine JL.val rfl (Run.assign (.tmp .here)) ?_
              refine JL.nil ?_
              exact JE.again (i + 1) (.cons (.there rfl (.there rfl (.there rfl (.there rfl (.there rfl (.there rfl (.there rfl (.there rfl (.there rfl (.there rfl (.there rfl (.there rfl (.there rfl (.there rfl (.there rfl (.there rfl (.there rfl (.there rfl (.there rfl (.there rfl (.there rfl (.there rfl (.there rfl (.there rfl (.there rfl (.there rfl (.there rfl (.there rfl (.there rfl (.there rfl (.there rfl (.there rfl (.there rfl (.there rfl (.there rfl (.there rfl (.there rfl (.there rfl (.there rfl (.there rfl (.there rfl (.there rfl (.there rfl (.there rfl (.there rfl (.there rfl .here)))))))))))))))))))))))))))))))))))))))))))))) (.conse .here (rfl) .nil)) (⟨by omega, hK⟩) (by simp only [hmu3]; omega)
            · refine JL.gnob rfl (oj := _) (by rfl) (by rfl) .here g31B ?_
              refine JL.gnob rfl (oj := _) (by rfl) (by rfl) (.there rfl .here) g31B ?_
              refine JL.gnob rfl (oj := _) (by rfl) (by rfl) (.there rfl (.there rfl .here)) g31B ?_
              refine JL.gnob rfl (oj := _) (by rfl) (by rfl) (.there rfl (.there rfl (.there rfl .here))) g31B ?_
              refine JL.gund rfl (oj := _) (by rfl) (by rfl) .here ?_
              refine JL.gund rfl (oj := _) (by rfl) (by rfl) (.there rfl .here) ?_
              refine JL.gund rfl (oj := _) (by rfl) (by rfl) (.there rfl (.there rfl .here)) ?_
              refine JL.gnob rfl (oj := _) (by rfl) (by rfl) (.there rfl (.there rfl (.there rfl (.there rfl (.there rfl (.there rfl (.there rfl .here))))))) g31B ?_
              refine JL.gyesb (oj := _) (by rfl) (by rfl) (.there rfl (.there rfl (.there rfl (.there rfl (.there rfl (.there rfl (.there rfl (.there rfl (.there rfl (.there rfl (.there rfl (.there rfl .here)))))))))))) rfl ?_
              refine JL.val rfl (Run.pickF (.tmp (.there rfl (.there rfl (.there rfl (.there rfl (.there rfl (.there rfl (.there rfl (.there rfl .here))))))))) g31B .const) ?_
              refine JL.val rfl (Run.pickF (.tmp (.there rfl (.there rfl (.there rfl (.there rfl (.there rfl (.there rfl (.there rfl (.there rfl (.there rfl (.there rfl (.there rfl (.there rfl (.there rfl .here)))))))))))))) rfl (.tmp .here)) ?_
              refine JL.nil ?_
              refine JE.seq ?_
              refine JC.condF (.tmp .here) (rfl) ?_
              refine JC.skip ?_
              refine JE.blk ?_
              refine JE.seq ?_
              refine JC.region ?_
              refine JL.val rfl (Run.move (.tmp (.there rfl (.there rfl (.there rfl (.there rfl (.there rfl (.there rfl (.there rfl (.there rfl (.there rfl (.there rfl (.there rfl (.there rfl (.there rfl (.there rfl (.there rfl (.there rfl (.there rfl (.there rfl (.there rfl (.there rfl (.there rfl (.there rfl (.there rfl (.there rfl (.there rfl (.there rfl (.there rfl (.there rfl (.there rfl (.there rfl (.there rfl (.there rfl (.there rfl (.there rfl (.there rfl (.there rfl (.there rfl (.there rfl (.there rfl (.there rfl (.there rfl (.there rfl (.there rfl (.there rfl .here)))))))))))))))))))))))))))))))))))))))))))))) ?_
              refine JL.val rfl (Run.add (.tmp .here) .const (wrap_i64 (by omega))) ?_
              refine JL.val rfl (Run.assign (.tmp .here)) ?_
              refine JL.nil ?_
              exact JE.again (i + 1) (.cons (.there rfl (.there rfl (.there rfl (.there rfl (.there rfl (.there rfl (.there rfl (.there rfl (.there rfl (.there rfl (.there rfl (.there rfl (.there rfl (.there rfl (.there rfl (.there rfl (.there rfl (.there rfl (.there rfl (.there rfl (.there rfl (.there rfl (.there rfl (.there rfl (.there rfl (.there rfl (.there rfl (.there rfl (.there rfl (.there rfl (.there rfl (.there rfl (.there rfl (.there rfl (.there rfl (.there rfl (.there rfl (.there rfl (.there rfl (.there rfl (.there rfl (.there rfl (.there rfl (.there rfl (.there rfl (.there rfl .here)))))))))))))))))))))))))))))))))))))))))))))) (.conse .here (rfl) .nil)) (⟨by omega, hK⟩) (by simp only [hmu3]; omega)
        · refine JL.gnob rfl (oj := _) (by rfl) (by rfl) .here g7B ?_
          refine JL.gnob rfl (oj := _) (by rfl) (by rfl) (.there rfl .here) g7B ?_
          refine JL.gnob rfl (oj := _) (by rfl) (by rfl) (.there rfl (.there rfl .here)) g7B ?_
          refine JL.val rfl (Run.pickF (.tmp (.there rfl (.there rfl (.there rfl .here)))) g7B .const) ?_
          refine JL.val rfl (Run.move (.tmp .here)) ?_
          refine JL.gnob rfl (oj := _) (by rfl) (by rfl) .here rfl ?_
          refine JL.gnob rfl (oj := _) (by rfl) (by rfl) (.there rfl .here) rfl ?_
          refine JL.gnob rfl (oj := _) (by rfl) (by rfl) (.there rfl (.there rfl .here)) rfl ?_
          refine JL.gnob rfl (oj := _) (by rfl) (by rfl) (.there rfl (.there rfl (.there rfl .here))) rfl ?_
          refine JL.val rfl (Run.pickF (.tmp (.there rfl (.there rfl (.there rfl (.there rfl .here))))) rfl .const) ?_
          refine JL.val rfl (Run.move (.tmp .here)) ?_
          refine JL.gyesb (oj := _) (by rfl) (by rfl) .here rfl ?_
          refine JL.val rfl (Run.fieldAddr (ft := 3) (foff := 1) (off := 1) @Try.underlying66 (by rfl) (@Try.sizeOf3 _) rfl rfl (.tmp (.there rfl (.there rfl (.there rfl (.there rfl (.there rfl (.there rfl (.there rfl (.there rfl (.there rfl (.there rfl (.there rfl (.there rfl (.there rfl (.there rfl (.there rfl (.there rfl (.there rfl (.there rfl (.there rfl (.there rfl (.there rfl (.there rfl (.there rfl (.there rfl (.there rfl (.there rfl (.there rfl (.there rfl (.there rfl (.there rfl (.there rfl .here))))))))))))))))))))))))))))))))) ?_
          refine JL.gyesb (oj := _) (by rfl) (by rfl) (.there rfl .here) rfl ?_
          refine JL.val rfl (Run.loadB (@Try.isAgg3 _) (.tmp .here) Bb16 (by rfl)) ?_
          refine JL.gyesb (oj := _) (by rfl) (by rfl) (.there rfl (.there rfl .here)) rfl ?_
          refine JL.val rfl (Run.eql (.tmp .here) .const) ?_
          refine JL.gyesb (oj := _) (by rfl) (by rfl) (.there rfl (.there rfl (.there rfl .here))) rfl ?_
          refine JL.val rfl (Run.move (.tmp .here)) ?_
          refine JL.gsplit (dj := 157) (want := true) .here (fun g31B => ?_) (fun g31B => ?_)
          · obtain ⟨hz0, hz1⟩ := h31 (eq_of_beq g31B)
            refine JL.gyesb (oj := _) (by rfl) (by rfl) .here g31B ?_
            refine JL.val rfl (Run.fieldAddr (ft := 50) (foff := 2) (off := 2) @Try.underlying66 (by rfl) (@Try.sizeOf50 _) rfl rfl (.tmp (.there rfl (.there rfl (.there rfl (.there rfl (.there rfl (.there rfl (.there rfl (.there rfl (.there rfl (.there rfl (.there rfl (.there rfl (.there rfl (.there rfl (.there rfl (.there rfl (.there rfl (.there rfl (.there rfl (.there rfl (.there rfl (.there rfl (.there rfl (.there rfl (.there rfl (.there rfl (.there rfl (.there rfl (.there rfl (.there rfl (.there rfl (.there rfl (.there rfl (.there rfl (.there rfl .here))))))))))))))))))))))))))))))))))))) ?_
            refine JL.gyesb (oj := _) (by rfl) (by rfl) (.there rfl .here) g31B ?_
            refine JL.val rfl (Run.loadB (@Try.isAgg50 _) (.tmp .here) Bb16 (by rfl)) ?_
            refine JL.gyesb (oj := _) (by rfl) (by rfl) (.there rfl (.there rfl .here)) g31B ?_
            refine JL.val rfl (Run.neq (.tmp .here) .const) ?_
            refine JL.gyesb (oj := _) (by rfl) (by rfl) (.there rfl (.there rfl (.there rfl .here))) g31B ?_
            refine JL.val rfl (Run.move (.tmp .here)) ?_
            refine JL.gyesb (oj := _) (by rfl) (by rfl) .here (by simp [hz0]) ?_
            refine JL.val rfl (Run.fieldAddr (ft := 3) (foff := 3) (off := 3) @Try.underlying66 (by rfl) (@Try.sizeOf3 _) rfl rfl (.tmp (.there rfl (.there rfl (.there rfl (.there rfl (.there rfl (.there rfl (.there rfl (.there rfl (.there rfl (.there rfl (.there rfl (.there rfl (.there rfl (.there rfl (.there rfl (.there rfl (.there rfl (.there rfl (.there rfl (.there rfl (.there rfl (.there rfl (.there rfl (.there rfl (.there rfl (.there rfl (.there rfl (.there rfl (.there rfl (.there rfl (.there rfl (.there rfl (.there rfl (.there rfl (.there rfl (.there rfl (.there rfl (.there rfl (.there rfl .here))))))))))))))))))))))))))))))))))))))))) ?_
            refine JL.gyesb (oj := _) (by rfl) (by rfl) (.there rfl .here) (by simp [hz0]) ?_
            refine JL.val rfl (Run.loadB (@Try.isAgg3 _) (.tmp .here) Bb16 (by rfl)) ?_
            refine JL.gyesb (oj := _) (by rfl) (by rfl) (.there rfl (.there rfl .here)) (by simp [hz0]) ?_
            refine JL.val rfl (Run.neq (.tmp .here) .const) ?_
            refine JL.gyesb (oj := _) (by rfl) (by rfl) (.there rfl (.there rfl (.there rfl (.there rfl (.there rfl (.there rfl (.there rfl .here))))))) g31B ?_
            refine JL.val rfl (Run.pickF (.tmp (.there rfl (.there rfl (.there rfl .here)))) (by simp [hz0]) (.tmp .here)) ?_
            refine JL.gyesb (oj := _) (by rfl) (by rfl) (.there rfl (.there rfl (.there rfl (.there rfl (.there rfl (.there rfl (.there rfl (.there rfl (.there rfl (.there rfl (.there rfl (.there rfl .here)))))))))))) rfl ?_
            refine JL.val rfl (Run.pickT (.tmp (.there rfl (.there rfl (.there rfl (.there rfl (.there rfl (.there rfl (.there rfl (.there rfl .here))))))))) g31B (.tmp .here)) ?_
            refine JL.val rfl (Run.pickF (.tmp (.there rfl (.there rfl (.there rfl (.there rfl (.there rfl (.there rfl (.there rfl (.there rfl (.there rfl (.there rfl (.there rfl (.there rfl (.there rfl .here)))))))))))))) rfl (.tmp .here)) ?_
            refine JL.nil ?_
            refine JE.seq ?_
            refine JC.condF (.tmp .here) (by simp [hz1]) ?_
            refine JC.skip ?_
            refine JE.blk ?_
            refine JE.seq ?_
            refine JC.region ?_
            refine JL.val rfl (Run.move (.tmp (.there rfl (.there rfl (.there rfl (.there rfl (.there rfl (.there rfl (.there rfl (.there rfl (.there rfl (.there rfl (.there rfl (.there rfl (.there rfl (.there rfl (.there rfl (.there rfl (.there rfl (.there rfl (.there rfl (.there rfl (.there rfl (.there rfl (.there rfl (.there rfl (.there rfl (.there rfl (.there rfl (.there rfl (.there rfl (.there rfl (.there rfl (.there rfl (.there rfl (.there rfl (.there rfl (.there rfl (.there rfl (.there rfl (.there rfl (.there rfl (.there rfl (.there rfl (.there rfl (.there rfl .here)))))))))))))))))))))))))))))))))))))))))))))) ?_
            refine JL.val rfl (Run.add (.tmp .here) .const (wrap_i64 (by omega))) ?_
            refine JL.val rfl (Run.assign (.tmp .here)) ?_
            refine JL.nil ?_
            exact JE.again (i + 1) (.cons (.there rfl (.there rfl (.there rfl (.there rfl (.there rfl (.there rfl (.there rfl (.there rfl (.there rfl (.there rfl (.there rfl (.there rfl (.there rfl (.there rfl (.there rfl (.there rfl (.there rfl (.there rfl (.there rfl (.there rfl (.there rfl (.there rfl (.there rfl (.there rfl (.there rfl (.there rfl (.there rfl (.there rfl (.there rfl (.there rfl (.there rfl (.there rfl (.there rfl (.there rfl (.there rfl (.there rfl (.there rfl (.there rfl (.there rfl (.there rfl (.there rfl (.there rfl (.there rfl (.there rfl (.there rfl (.there rfl .here)))))))))))))))))))))))))))))))))))))))))))))) (.conse .here (rfl) .nil)) (⟨by omega, hK⟩) (by simp only [hmu3]; omega)
          · refine JL.gnob rfl (oj := _) (by rfl) (by rfl) .here g31B ?_
            refine JL.gnob rfl (oj := _) (by rfl) (by rfl) (.there rfl .here) g31B ?_
            refine JL.gnob rfl (oj := _) (by rfl) (by rfl) (.there rfl (.there rfl .here)) g31B ?_
            refine JL.gnob rfl (oj := _) (by rfl) (by rfl) (.there rfl (.there rfl (.there rfl .here))) g31B ?_
            refine JL.gund rfl (oj := _) (by rfl) (by rfl) .here ?_
            refine JL.gund rfl (oj := _) (by rfl) (by rfl) (.there rfl .here) ?_
            refine JL.gund rfl (oj := _) (by rfl) (by rfl) (.there rfl (.there rfl .here)) ?_
            refine JL.gnob rfl (oj := _) (by rfl) (by rfl) (.there rfl (.there rfl (.there rfl (.there rfl (.there rfl (.there rfl (.there rfl .here))))))) g31B ?_
            refine JL.gyesb (oj := _) (by rfl) (by rfl) (.there rfl (.there rfl (.there rfl (.there rfl (.there rfl (.there rfl (.there rfl (.there rfl (.there rfl (.there rfl (.there rfl (.there rfl .here)))))))))))) rfl ?_
            refine JL.val rfl (Run.pickF (.tmp (.there rfl (.there rfl (.there rfl (.there rfl (.there rfl (.there rfl (.there rfl (.there rfl .here))))))))) g31B .const) ?_
            refine JL.val rfl (Run.pickF (.tmp (.there rfl (.there rfl (.there rfl (.there rfl (.there rfl (.there rfl (.there rfl (.there rfl (.there rfl (.there rfl (.there rfl (.there rfl (.there rfl .here)))))))))))))) rfl (.tmp .here)) ?_
            refine JL.nil ?_
            refine JE.seq ?_
            refine JC.condF (.tmp .here) (rfl) ?_
            refine JC.skip ?_
            refine JE.blk ?_
            refine JE.seq ?_
            refine JC.region ?_
            refine JL.val rfl (Run.move (.tmp (.there rfl (.there rfl (.there rfl (.there rfl (.there rfl (.there rfl (.there rfl (.there rfl (.there rfl (.there rfl (.there rfl (.there rfl (.there rfl (.there rfl (.there rfl (.there rfl (.there rfl (.there rfl (.there rfl (.there rfl (.there rfl (.there rfl (.there rfl (.there rfl (.there rfl (.there rfl (.there rfl (.there rfl (.there rfl (.there rfl (.there rfl (.there rfl (.there rfl (.there rfl (.there rfl (.there rfl (.there rfl (.there rfl (.there rfl (.there rfl (.there rfl (.there rfl (.there rfl (.there rfl .here)))))))))))))))))))))))))))))))))))))))))))))) ?_
            refine JL.val rfl (Run.add (.tmp .here) .const (wrap_i64 (by omega))) ?_
            refine JL.val rfl (Run.assign (.tmp .here)) ?_
            refine JL.nil ?_
            exact JE.again (i + 1) (.cons (.there rfl (.there rfl (.there rfl (.there rfl (.there rfl (.there rfl (.there rfl (.there rfl (.there rfl (.there rfl (.there rfl (.there rfl (.there rfl (.there rfl (.there rfl (.there rfl (.there rfl (.there rfl (.there rfl (.there rfl (.there rfl (.there rfl (.there rfl (.there rfl (.there rfl (.there rfl (.there rfl (.there rfl (.there rfl (.there rfl (.there rfl (.there rfl (.there rfl (.there rfl (.there rfl (.there rfl (.there rfl (.there rfl (.there rfl (.there rfl (.there rfl (.there rfl (.there rfl (.there rfl (.there rfl (.there rfl .here)))))))))))))))))))))))))))))))))))))))))))))) (.conse .here (rfl) .nil)) (⟨by omega, hK⟩) (by simp only [hmu3]; omega)
  · have hlt := of_decide_eq_false hlt
    refine JC.exit ?_
    refine JE.exit_seq ?_
    refine JE.exit_seq ?_
    refine JE.exit_here ?_
    refine JE.seq ?_
    refine JC.seq ?_
    refine JC.region ?_
    refine JL.call rfl (Run.call @Try.call17 .nil) (lays_any _) ?_
    rintro e w4 ⟨rfl, hc1⟩
    refine JRet.ret ?_
    replace hK := hK.no hc1
    refine JL.val rfl (Run.assign (.tmp .here)) ?_
    refine JL.nil ?_
    refine JE.keep (L := _) (.cons .here .nil) ?_
    refine JE.seq ?_
    refine JC.ret ?_
    refine JE.ret1 @Try.results5 .here ?_
    exact ⟨rfl, hK⟩

end Go.Proofs.Ytggngmmbpkoooaa.Hd
