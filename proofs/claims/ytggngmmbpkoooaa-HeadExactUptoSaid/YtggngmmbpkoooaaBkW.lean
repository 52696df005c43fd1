/- Contracts of the book's own functions that take a list of bytes, for every input. -/
import Derived.Test.YtggngmmbpkoooaaBk
namespace Go.Proofs.Ytggngmmbpkoooaa.Bk
open Go Go.Proofs.Ytggngmmbpkoooaa.Eng Go.Proofs.Ytggngmmbpkoooaa.Hd
set_option linter.unusedVariables false
set_option linter.unusedSimpArgs false
set_option maxRecDepth 4000
theorem info_sl : (Try.prog.info? 53).map (fun i => (i.zero, i.size, i.bytes)) = some (some (.slice none 0 0), 1, 24) := by kernel_rfl
theorem info_int : (Try.prog.info? 3).map (fun i => (i.zero, i.size, i.bytes)) = some (some (.int .i64 0), 1, 8) := by kernel_rfl
def AtLeast (w : World) (base : Nat) : Prop := base ≤ w.heap.size
theorem AtLeast.no {w w' : World} {base : Nat} (h : AtLeast w base) (hc : Ch No w w') : AtLeast w' base := Nat.le_trans h hc.size
theorem AtLeast.up {S : Nat → Prop} {w w' : World} {base : Nat} (h : AtLeast w base) (hc : Ch S w w') : AtLeast w' base := Nat.le_trans h hc.size
theorem bv_at8 {m j : Nat} (hj : j % 2 = 0) : bv (at8 m j) = .int .u8 (1 + (m : Int) % 251) := by unfold at8; rw [if_pos hj, ← one_bv (by omega) (by omega)]
theorem bv_at8' {m j : Nat} (hj : ¬ j % 2 = 0) : bv (at8 m j) = .int .u8 (1 + (7 * (m : Int) + (m : Int) / 251) % 251) := by unfold at8; rw [if_neg hj, ← one_bv (by omega) (by omega)]
theorem owns_set {w' : World} {base b n cap i : Nat} {T : TypeId} {cs ys : List Value} {v : Value} (hB : Blk w' b T (cs.set i v)) (hl : cs.length = cap) (hn : n ≤ cap) (hc : cap ≤ 9223372036854775807) (ht : cs.take n = ys) (hb : base ≤ b) : Owns w' base T 1 (.slice (some ⟨b, 0, none⟩) n cap) n (ys.set i v) := by
  refine ⟨by rw [← ht]; simp; omega, .inr ⟨b, cap, _, rfl, hb, hB, by simpa using hl, hn, hc, ?_⟩⟩
  rw [Nat.mul_one, List.take_set, ht]
theorem owns_pos {w : World} {base n n' cap : Nat} {T : TypeId} {a : Option Addr} {xs : List Value} (h : Owns w base T 1 (.slice a n' cap) n xs) (h0 : 0 < n) : ∃ b, a = some ⟨b, 0, none⟩ ∧ n' = n := by
  rcases h.2 with ⟨_, hn⟩ | ⟨b, cap', cs, hv, _⟩
  · omega
  · cases hv; exact ⟨b, rfl, rfl⟩
theorem owns_form {w : World} {base n : Nat} {T : TypeId} {v : Value} {xs : List Value} (h : Owns w base T 1 v n xs) : ∃ a cap, v = .slice a n cap := by
  rcases h.2 with ⟨hv, hn⟩ | ⟨b, cap', cs, hv, _⟩
  · subst hn; exact ⟨_, _, hv⟩
  · exact ⟨_, _, hv⟩
theorem mark_set {m i n : Nat} {xs : List Value} (hi : i < n) (hn : xs.length = n) : (((row m i).map bv ++ xs.drop i).set i (bv (at8 m i))) = (row m (i + 1)).map bv ++ xs.drop (i + 1) := by
  rw [List.set_append, if_neg (by simp [row_len]), row_succ, List.map_append, List.append_assoc]
  congr 1
  rw [List.drop_eq_getElem_cons (by omega), show i - ((row m i).map bv).length = 0 from by simp [row_len]]
  rfl

set_option maxHeartbeats 4000000 in
theorem at_any (m k : Nat) (hm : m ≤ 274877906944) (hk0 : k ≤ 9223372036854775807) (w : World) :
    Calls Try.prog 33 #[.int .i64 (m : Int), .int .i64 (k : Int)] w fun e w' => e = .returned (bv (at8 m k)) ∧ w' = w := by
  refine calls @Try.func33 rfl @Try.ntmps33 rfl ?_
  show JC _ _ _ _ _ [(0, .int .i64 (m : Int)), (1, .int .i64 (k : Int))] _
  refine JC.seq ?_
  refine JC.region ?_
  refine JL.val rfl (Run.assign .const) ?_
  refine JL.nil ?_
  refine JE.seq ?_
  refine JC.seq ?_
  refine JC.seq ?_
  refine JC.region ?_
  refine JL.val rfl (Run.move (.tmp (.there rfl (.there rfl .here)))) ?_
  refine JL.val rfl (Run.rem (.tmp .here) .const (by decide) (Int.tmod_eq_emod_of_nonneg (by omega))) ?_
  refine JL.val rfl (Run.eql (.tmp .here) .const) ?_
  refine JL.nil ?_
  refine JE.seq ?_
  refine JC.cond (.tmp .here) (fun h2 => ?_) (fun h2 => ?_)
  · have h2 := eq_of_beq h2
    have hk : k % 2 = 0 := by omega
    refine JC.seq ?_
    refine JC.region ?_
    refine JL.val rfl (Run.move (.tmp (.there rfl (.there rfl (.there rfl (.there rfl .here)))))) ?_
    refine JL.val rfl (Run.rem (.tmp .here) .const (by decide) (Int.tmod_eq_emod_of_nonneg (by omega))) ?_
    refine JL.val rfl (Run.add .const (.tmp .here) (wrap_i64 (by omega))) ?_
    refine JL.val rfl (Run.conv @Try.underlying3 @Try.underlying5 (.tmp .here) ((IntKind.wrap_u8 _).trans (Int.emod_eq_of_lt (by omega) (by omega)))) ?_
    refine JL.val rfl (Run.assign (.tmp .here)) ?_
    refine JL.nil ?_
    refine JE.keep (L := _) (.cons .here (.cons (.there rfl (.there rfl (.there rfl (.there rfl (.there rfl (.there rfl (.there rfl (.there rfl (.there rfl .here))))))))) .nil)) ?_
    refine JE.seq ?_
    refine JC.ret ?_
    refine JE.ret_seq ?_
    refine JE.ret1 @Try.results33 .here ?_
    exact ⟨by rw [bv_at8 hk], rfl⟩
  · have h2 := ne_of_beq_false h2
    have hk : ¬ k % 2 = 0 := by omega
    refine JC.skip ?_
    refine JE.seq ?_
    refine JC.seq ?_
    refine JC.region ?_
    refine JL.val rfl (Run.move (.tmp (.there rfl (.there rfl (.there rfl (.there rfl .here)))))) ?_
    refine JL.val rfl (Run.mul .const (.tmp .here) (wrap_i64 (by omega))) ?_
    refine JL.val rfl (Run.move (.tmp (.there rfl (.there rfl (.there rfl (.there rfl (.there rfl (.there rfl .here)))))))) ?_
    refine JL.val rfl (Run.quo (.tmp .here) .const (by decide) (show IntKind.i64.wrap (Int.tdiv (m : Int) 251) = (m : Int) / 251 from by rw [Int.tdiv_eq_ediv_of_nonneg (by omega)]; exact wrap_i64 (by omega))) ?_
    refine JL.val rfl (Run.add (.tmp (.there rfl (.there rfl .here))) (.tmp .here) (wrap_i64 (by omega))) ?_
    refine JL.val rfl (Run.rem (.tmp .here) .const (by decide) (Int.tmod_eq_emod_of_nonneg (by omega))) ?_
    refine JL.val rfl (Run.add .const (.tmp .here) (wrap_i64 (by omega))) ?_
    refine JL.val rfl (Run.conv @Try.underlying3 @Try.underlying5 (.tmp .here) ((IntKind.wrap_u8 _).trans (Int.emod_eq_of_lt (by omega) (by omega)))) ?_
    refine JL.val rfl (Run.assign (.tmp .here)) ?_
    refine JL.nil ?_
    refine JE.keep (L := _) (.cons .here .nil) ?_
    refine JE.seq ?_
    refine JC.ret ?_
    refine JE.ret1 @Try.results33 .here ?_
    exact ⟨by rw [bv_at8' hk], rfl⟩

set_option maxHeartbeats 4000000 in
theorem tight_any {bb n : Nat} {v1 v2 : Value} {s : BookS} (w0 : World) (B : Blk w0 bb 46 (bookCells v1 v2 s)) (hn : n ≤ 1125899906842624) (hu : s.used ≤ 16777216) :
    Calls Try.prog 34 #[.pointer (some ⟨bb, 0, none⟩), .int .i64 (n : Int)] w0 fun e w' => ∃ b s', e = .returned (.bool b) ∧ (b = true ∧ s' = s ∨ b = false ∧ s' = { s with used := s.used + n } ∧ s.used + n ≤ 16777216) ∧ Ch (One bb) w0 w' ∧ Blk w' bb 46 (bookCells v1 v2 s') := by
  have hK : Ch (One bb) w0 w0 := Ch.refl w0
  refine calls @Try.func34 rfl @Try.ntmps34 rfl ?_
  show JC _ _ _ _ _ [(0, .pointer (some ⟨bb, 0, none⟩)), (1, .int .i64 (n : Int))] _
  refine JC.seq ?_
  refine JC.region ?_
  refine JL.val rfl (Run.assign .const) ?_
  refine JL.nil ?_
  refine JE.seq ?_
  refine JC.seq ?_
  refine JC.seq ?_
  refine JC.region ?_
  refine JL.val rfl (Run.move (.tmp (.there rfl .here))) ?_
  refine JL.val rfl (Run.nilPtr (.tmp .here)) ?_
  refine JL.val rfl (Run.fieldAddr (ft := 3) (foff := 56) (off := 56) @Try.underlying46 (by rfl) (@Try.sizeOf3 _) rfl rfl (.tmp .here)) ?_
  refine JL.val rfl (Run.loadB (@Try.isAgg3 _) (.tmp .here) B (by rfl)) ?_
  refine JL.val rfl (Run.move (.tmp (.there rfl (.there rfl (.there rfl (.there rfl (.there rfl (.there rfl .here)))))))) ?_
  refine JL.val rfl (Run.add (.tmp (.there rfl .here)) (.tmp .here) (wrap_i64 (by omega))) ?_
  refine JL.val rfl (Run.gtr (.tmp .here) .const) ?_
  refine JL.nil ?_
  refine JE.seq ?_
  refine JC.cond (.tmp .here) (fun hg => ?_) (fun hg => ?_)
  · have hg := of_decide_eq_true hg
    refine JC.seq ?_
    refine JC.region ?_
    refine JL.val rfl (Run.assign .const) ?_
    refine JL.nil ?_
    refine JE.keep (L := _) (.cons .here (.cons (.there rfl (.there rfl (.there rfl (.there rfl (.there rfl (.there rfl (.there rfl (.there rfl (.there rfl .here))))))))) (.cons (.there rfl (.there rfl (.there rfl (.there rfl (.there rfl (.there rfl (.there rfl (.there rfl (.there rfl (.there rfl .here)))))))))) .nil))) ?_
    refine JE.seq ?_
    refine JC.ret ?_
    refine JE.ret_seq ?_
    refine JE.ret1 @Try.results34 .here ?_
    exact ⟨true, s, rfl, .inl ⟨rfl, rfl⟩, hK, B⟩
  · have hg := of_decide_eq_false hg
    refine JC.skip ?_
    refine JE.seq ?_
    refine JC.seq ?_
    refine JC.region ?_
    refine JL.val rfl (Run.move (.tmp (.there rfl (.there rfl (.there rfl (.there rfl (.there rfl (.there rfl (.there rfl (.there rfl .here)))))))))) ?_
    refine JL.val rfl (Run.move (.tmp (.there rfl (.there rfl (.there rfl (.there rfl (.there rfl (.there rfl (.there rfl (.there rfl (.there rfl .here))))))))))) ?_
    refine JL.val rfl (Run.nilPtr (.tmp .here)) ?_
    refine JL.val rfl (Run.fieldAddr (ft := 3) (foff := 56) (off := 56) @Try.underlying46 (by rfl) (@Try.sizeOf3 _) rfl rfl (.tmp .here)) ?_
    refine JL.val rfl (Run.loadB (@Try.isAgg3 _) (.tmp .here) B (by rfl)) ?_
    refine JL.val rfl (Run.move (.tmp (.there rfl (.there rfl (.there rfl (.there rfl (.there rfl (.there rfl (.there rfl (.there rfl (.there rfl (.there rfl (.there rfl (.there rfl (.there rfl (.there rfl .here)))))))))))))))) ?_
    refine JL.val rfl (Run.add (.tmp (.there rfl .here)) (.tmp .here) (wrap_i64 (by omega))) ?_
    refine JL.val rfl (Run.nilPtr (.tmp (.there rfl (.there rfl (.there rfl (.there rfl (.there rfl (.there rfl .here)))))))) ?_
    refine JL.val rfl (Run.fieldAddr (ft := 3) (foff := 56) (off := 56) @Try.underlying46 (by rfl) (@Try.sizeOf3 _) rfl rfl (.tmp .here)) ?_
    refine JL.storeB (@Try.sizeOf3 _) (.tmp .here) (.tmp (.there rfl (.there rfl .here))) (by rfl) (by rfl) B rfl ?_
    intro w1 hc2 hb3
    replace B := hb3; clear hb3
    refine JL.nil ?_
    refine JE.keep (L := _) (.cons (.there rfl (.there rfl (.there rfl (.there rfl (.there rfl (.there rfl (.there rfl (.there rfl (.there rfl (.there rfl (.there rfl (.there rfl (.there rfl (.there rfl (.there rfl (.there rfl .here)))))))))))))))) .nil) ?_
    refine JE.seq ?_
    refine JC.seq ?_
    refine JC.region ?_
    refine JL.val rfl (Run.assign .const) ?_
    refine JL.nil ?_
    refine JE.seq ?_
    refine JC.ret ?_
    refine JE.ret1 @Try.results34 .here ?_
    exact ⟨false, { s with used := s.used + n }, rfl, .inr ⟨rfl, rfl, by omega⟩, hK.trans hc2, B⟩

set_option maxHeartbeats 4000000 in
theorem bytes_any {ρ : Nat → Role} {bb base n : Nat} {v1 v2 xv : Value} {s : BookS} {xs : List Value} (w0 : World) (C : Core w0 ρ bb v1 v2 s.L s.L s) (K : All w0 ρ s.L) (R : Roles w0 base ρ) (G : AtLeast w0 base) (hX : Owns w0 0 5 1 xv n xs) (hF : ∀ k, ownB xv k → base ≤ k ∧ ρ k ≠ .book ∧ ∀ m, ρ k ≠ .list m) (hn : n ≤ 1099511627776) (h3 : s.turn + 1 ≤ 274877906944) (h4 : s.used ≤ 16777216) (hLn : s.L.length ≤ 2748779069440) :
    Calls Try.prog 28 #[.pointer (some ⟨bb, 0, none⟩), xv] w0 fun e w' => ∃ v1' v2' s' ρ', e = .returned (.tuple #[]) ∧ Core w' ρ' bb v1' v2' s'.L s'.L s' ∧ All w' ρ' s'.L ∧ Roles w' base ρ' ∧ (∀ k, k < w0.heap.size → ¬ ownB xv k → ρ' k = ρ k) ∧ Ch (fun k => ρ k = .book ∨ ownB xv k) w0 w' ∧ s'.turn = s.turn + 1 ∧ s'.done = s.done ∧ s'.at_ = s.at_ ∧ s'.used ≤ 16777216 ∧ (s'.L = s.L ∨ s'.L = s.L ++ [(xv, s.turn + 1)]) := by
  obtain ⟨a, cap, rfl⟩ := owns_form hX
  have hxl : xs.length = n := by have := hX.1; omega
  have B := C.B
  obtain ⟨m, hm⟩ : ∃ m, m = s.turn + 1 := ⟨_, rfl⟩
  refine calls @Try.func28 rfl @Try.ntmps28 rfl ?_
  show JC _ _ _ _ _ [(0, .pointer (some ⟨bb, 0, none⟩)), (1, .slice a n cap)] _
  refine JC.seq ?_
  refine JC.region ?_
  refine JL.val rfl (Run.move (.tmp .here)) ?_
  refine JL.val rfl (Run.nilPtr (.tmp .here)) ?_
  refine JL.val rfl (Run.fieldAddr (ft := 3) (foff := 54) (off := 54) @Try.underlying46 (by rfl) (@Try.sizeOf3 _) rfl rfl (.tmp .here)) ?_
  refine JL.val rfl (Run.loadB (@Try.isAgg3 _) (.tmp .here) B (by rfl)) ?_
  refine JL.val rfl (Run.add (.tmp .here) .const (wrap_i64 (by omega))) ?_
  refine JL.val rfl (Run.nilPtr (.tmp (.there rfl (.there rfl (.there rfl (.there rfl .here)))))) ?_
  refine JL.val rfl (Run.fieldAddr (ft := 3) (foff := 54) (off := 54) @Try.underlying46 (by rfl) (@Try.sizeOf3 _) rfl rfl (.tmp .here)) ?_
  refine JL.storeB (@Try.sizeOf3 _) (.tmp .here) (.tmp (.there rfl (.there rfl .here))) (by rfl) (by rfl) B rfl ?_
  intro w1 hc2 hb3
  replace B := hb3; clear hb3
  refine JL.nil ?_
  refine JE.keep (L := _) (.cons (.there rfl (.there rfl (.there rfl (.there rfl (.there rfl (.there rfl (.there rfl .here))))))) (.cons (.there rfl (.there rfl (.there rfl (.there rfl (.there rfl (.there rfl (.there rfl (.there rfl .here)))))))) .nil)) ?_
  refine JE.seq ?_
  refine JC.seq ?_
  refine JC.region ?_
  refine JL.val rfl (Run.move (.tmp .here)) ?_
  refine JL.val rfl (Run.nilPtr (.tmp .here)) ?_
  refine JL.val rfl (Run.fieldAddr (ft := 3) (foff := 54) (off := 54) @Try.underlying46 (by rfl) (@Try.sizeOf3 _) rfl rfl (.tmp .here)) ?_
  refine JL.val rfl (Run.loadB (@Try.isAgg3 _) (.tmp .here) B (by rfl)) ?_
  refine JL.val rfl (Run.assign (.tmp .here)) ?_
  refine JL.nil ?_
  refine JE.seq ?_
  refine JC.seq ?_
  refine JC.seq ?_
  refine JC.region ?_
  refine JL.val rfl (Run.assign .const) ?_
  refine JL.nil ?_
  refine JE.seq ?_
  refine JC.block ?_
  have hXB := owns_ne hX C.B rfl
  have B1 : Blk w1 bb 46 (bookCells v1 v2 { s with turn := s.turn + 1 }) := B
  have o1w := C.o1.ch hc2 (fun k hk hs => by have hs2 : k = bb := hs; subst hs2; exact owns_ne C.o1 C.B rfl hk)
  have o2w := C.o2.ch hc2 (fun k hk hs => by have hs2 : k = bb := hs; subst hs2; exact owns_ne C.o2 C.B rfl hk)
  replace C : Core w1 ρ bb v1 v2 s.L s.L { s with turn := s.turn + 1 } := ⟨B1, C.rb, o1w, C.i1, o2w, C.i2⟩
  replace K := K.ch hc2 (fun k m hk => by have hk2 : k = bb := hk; rw [hk2, C.rb]; exact fun h => by cases h)
  replace R := R.up hc2.size
  have hX1 := hX.ch hc2 (fun k hk hs => by have hs2 : k = bb := hs; subst hs2; exact hXB hk)
  replace G := G.up hc2
  have hK1 : Ch (fun k => ρ k = .book ∨ ownB (.slice a n cap) k) w0 w1 := hc2.mono (fun k hk => by have hk2 : k = bb := hk; rw [hk2]; exact .inl C.rb)
  clear B B1 o1w o2w hXB
  have hX0 : Owns w1 0 5 1 (.slice a n cap) n ((row m 0).map bv ++ xs.drop 0) := by simpa [row] using hX1
  refine JC.loop (α := Nat) (fun i => [(0, .pointer (some ⟨bb, 0, none⟩)), (1, .slice a n cap), (4, .int .i64 (m : Int)), (5, .int .i64 (i : Int))]) (fun i w => i ≤ n ∧ Owns w 0 5 1 (.slice a n cap) n ((row m i).map bv ++ xs.drop i) ∧ Ch (ownB (.slice a n cap)) w1 w) (fun i => n - i) 0 ⟨Nat.zero_le _, hX0, Ch.refl _⟩ (.cons (.there rfl (.there rfl (.there rfl (.there rfl (.there rfl (.there rfl .here)))))) (.cons (.there rfl (.there rfl (.there rfl (.there rfl (.there rfl (.there rfl (.there rfl .here))))))) (.conse (.there rfl .here) (by rw [hm]; rfl) (.conse .here (rfl) .nil)))) ?_
  rintro i w4 m5 ⟨hi, hO, hKx⟩ hmu6
  show JC _ _ _ _ _ [(0, .pointer (some ⟨bb, 0, none⟩)), (1, .slice a n cap), (4, .int .i64 (m : Int)), (5, .int .i64 (i : Int))] _
  refine JC.seq ?_
  refine JC.seq ?_
  refine JC.region ?_
  refine JL.val rfl (Run.move (.tmp (.there rfl (.there rfl (.there rfl .here))))) ?_
  refine JL.val rfl (Run.move (.tmp (.there rfl (.there rfl .here)))) ?_
  refine JL.val rfl (Run.len @Try.underlying53 (.tmp .here)) ?_
  refine JL.val rfl (Run.lss (.tmp (.there rfl (.there rfl .here))) (.tmp .here)) ?_
  refine JL.nil ?_
  refine JE.seq ?_
  refine JC.cond (.tmp .here) (fun hlt => ?_) (fun hlt => ?_)
  · have hlt := of_decide_eq_true hlt
    have hin : i < n := by omega
    obtain ⟨b, rfl, -⟩ := owns_pos hO (by omega)
    refine JC.skip ?_
    refine JE.seq ?_
    refine JC.seq ?_
    refine JC.block ?_
    refine JC.region ?_
    refine JL.val rfl (Run.move (.tmp (.there rfl (.there rfl (.there rfl (.there rfl (.there rfl .here))))))) ?_
    refine JL.val rfl (Run.move (.tmp (.there rfl (.there rfl (.there rfl (.there rfl (.there rfl (.there rfl (.there rfl (.there rfl .here)))))))))) ?_
    refine JL.val rfl (Run.move (.tmp (.there rfl (.there rfl (.there rfl (.there rfl (.there rfl (.there rfl (.there rfl (.there rfl .here)))))))))) ?_
    refine JL.val rfl (Run.move (.tmp (.there rfl (.there rfl (.there rfl (.there rfl (.there rfl (.there rfl (.there rfl (.there rfl (.there rfl (.there rfl .here)))))))))))) ?_
    refine JL.call rfl (Run.call @Try.call33 (.cons (.tmp (.there rfl .here)) (.cons (.tmp .here) .nil))) (at_any m i (by omega) (by omega) _) ?_
    rintro e w4 ⟨rfl, rfl⟩
    refine JRet.ret ?_
    obtain ⟨cs, hB, hcl, hcn, hcm, hct⟩ := owns_blk hO
    refine JL.val rfl (Run.indexAddr (m := i) @Try.underlying53 (@Try.sizeOf5 _) (.tmp (.there rfl (.there rfl (.there rfl (.there rfl .here))))) (.tmp (.there rfl (.there rfl (.there rfl .here)))) (rfl) (by omega) rfl) ?_
    refine JL.storeB (j := 0 + i * 1) (@Try.sizeOf5 _) (.tmp .here) (.tmp (.there rfl .here)) (by rfl) (by rfl) hB (by rw [Nat.blt_eq]; omega) ?_
    intro w7 hc8 hb9
    replace hB := hb9; clear hb9
    rw [show 0 + i * 1 = i from by omega] at hB
    have hO2 := owns_set (base := 0) hB hcl hcn hcm hct (Nat.zero_le _)
    rw [mark_set hin hxl] at hO2
    have hK2 := hKx.trans hc8
    refine JL.nil ?_
    refine JE.blk ?_
    refine JE.seq ?_
    refine JC.region ?_
    refine JL.val rfl (Run.move (.tmp (.there rfl (.there rfl (.there rfl (.there rfl (.there rfl (.there rfl (.there rfl (.there rfl (.there rfl (.there rfl (.there rfl (.there rfl (.there rfl .here))))))))))))))) ?_
    refine JL.val rfl (Run.add (.tmp .here) .const (wrap_i64 (by omega))) ?_
    refine JL.val rfl (Run.assign (.tmp .here)) ?_
    refine JL.nil ?_
    exact JE.again (i + 1) (.cons (.there rfl (.there rfl (.there rfl (.there rfl (.there rfl (.there rfl (.there rfl (.there rfl (.there rfl (.there rfl (.there rfl (.there rfl (.there rfl .here))))))))))))) (.cons (.there rfl (.there rfl (.there rfl (.there rfl (.there rfl (.there rfl (.there rfl (.there rfl (.there rfl (.there rfl (.there rfl (.there rfl (.there rfl (.there rfl .here)))))))))))))) (.cons (.there rfl (.there rfl (.there rfl (.there rfl (.there rfl (.there rfl (.there rfl (.there rfl (.there rfl (.there rfl (.there rfl (.there rfl (.there rfl (.there rfl (.there rfl .here))))))))))))))) (.conse .here (rfl) .nil)))) (⟨by omega, hO2, hK2⟩) (by simp only [hmu6]; omega)
  · have hlt := of_decide_eq_false hlt
    obtain rfl : i = n := by omega
    rw [List.drop_of_length_le (by omega), List.append_nil] at hO
    have hne : ∀ k, ownB (.slice a i cap) k → ρ k ≠ .book ∧ ∀ m, ρ k ≠ .list m := fun k hk => (hF k hk).2
    replace C := C.ch hKx (fun k hk => (hne k hk).1)
    replace K := K.ch hKx (fun k m hk => (hne k hk).2 m)
    replace R := R.up hKx.size
    replace G := G.up hKx
    replace hK1 := hK1.trans (hKx.mono (fun k hk => .inr hk))
    refine JC.exit ?_
    refine JE.exit_seq ?_
    refine JE.exit_seq ?_
    refine JE.exit_here ?_
    refine JE.seq ?_
    refine JC.seq ?_
    refine JC.seq ?_
    refine JC.region ?_
    refine JL.val rfl (Run.move (.tmp (.there rfl (.there rfl (.there rfl (.there rfl .here)))))) ?_
    refine JL.val rfl (Run.move (.tmp (.there rfl (.there rfl (.there rfl (.there rfl (.there rfl (.there rfl .here)))))))) ?_
    refine JL.val rfl (Run.len @Try.underlying53 (.tmp .here)) ?_
    refine JL.val rfl (Run.mul .const (.tmp .here) (wrap_i64 (by omega))) ?_
    refine JL.val rfl (Run.add .const (.tmp .here) (show IntKind.i64.wrap (1200 + 3 * (i : Int)) = ((1200 + 3 * i : Nat) : Int) from (wrap_i64 (by omega)).trans (by simp))) ?_
    refine JL.call rfl (Run.call @Try.call34 (.cons (.tmp (.there rfl (.there rfl (.there rfl (.there rfl .here))))) (.cons (.tmp .here) .nil))) (tight_any _ C.B (n := 1200 + 3 * i) (by omega) h4) ?_
    rintro e w10 ⟨tb, s2, rfl, ht, hct, hBt⟩
    refine JRet.ret ?_
    have hXB := owns_ne hO C.B rfl
    have o1w := C.o1.ch hct (fun k hk hs => by have hs2 : k = bb := hs; subst hs2; exact owns_ne C.o1 C.B rfl hk)
    have o2w := C.o2.ch hct (fun k hk hs => by have hs2 : k = bb := hs; subst hs2; exact owns_ne C.o2 C.B rfl hk)
    replace K := K.ch hct (fun k m hk => by have hk2 : k = bb := hk; rw [hk2, C.rb]; exact fun h => by cases h)
    replace R := R.up hct.size
    replace hO := hO.ch hct (fun k hk hs => by have hs2 : k = bb := hs; subst hs2; exact hXB hk)
    replace G := G.up hct
    replace hK1 := hK1.trans (hct.mono (fun k hk => by have hk2 : k = bb := hk; rw [hk2]; exact .inl C.rb))
    replace C : Core w10 ρ bb v1 v2 s.L s.L s2 := ⟨hBt, C.rb, o1w, C.i1, o2w, C.i2⟩
    clear hBt o1w o2w hXB
    refine JL.nil ?_
    refine JE.keep (L := _) (.cons .here (.cons (.there rfl (.there rfl (.there rfl (.there rfl (.there rfl (.there rfl (.there rfl (.there rfl (.there rfl (.there rfl .here)))))))))) (.cons (.there rfl (.there rfl (.there rfl (.there rfl (.there rfl (.there rfl (.there rfl (.there rfl (.there rfl (.there rfl (.there rfl .here))))))))))) (.cons (.there rfl (.there rfl (.there rfl (.there rfl (.there rfl (.there rfl (.there rfl (.there rfl (.there rfl (.there rfl (.there rfl (.there rfl .here)))))))))))) .nil)))) ?_
    refine JE.seq ?_
    refine JC.cond (.tmp .here) (fun htb => ?_) (fun htb => ?_)
    · have hs2 : s2 = { s with turn := s.turn + 1 } := by
        rcases ht with ⟨_, h⟩ | ⟨h, _⟩
        · exact h
        · rw [h] at htb; cases htb
      subst hs2
      refine JC.ret ?_
      refine JE.ret_seq ?_
      refine JE.ret0 @Try.results28 ?_
      exact ⟨v1, v2, { s with turn := s.turn + 1 }, ρ, rfl, C, K, R, fun _ _ _ => rfl, hK1, rfl, rfl, rfl, h4, .inl rfl⟩
    · obtain ⟨hs2, hu2⟩ : s2 = { s with turn := s.turn + 1, used := s.used + (1200 + 3 * i) } ∧ s.used + (1200 + 3 * i) ≤ 16777216 := by
        rcases ht with ⟨h, _⟩ | ⟨_, h⟩
        · rw [h] at htb; cases htb
        · exact h
      subst hs2
      obtain ⟨ρa, hρa⟩ : ∃ ρa, ρa = setR ρ (Value.slice a i cap) (.list m) := ⟨_, rfl⟩
      replace C : Core _ ρa _ _ _ _ _ _ := C.role (fun k _ hk => by rw [hρa, setR_not (fun h => (hne k h).1 hk)]; exact hk)
      replace K : All _ ρa _ := K.role (fun k m2 _ hk => by rw [hρa, setR_not (fun h => (hne k h).2 m2 hk)]; exact hk)
      replace R : Roles w10 base ρa := by rw [hρa]; exact R.set (Nat.le_refl _) (fun k hk => ⟨(hF k hk).1, (hO.ge k hk).2⟩)
      have KX : Kept w10 ρa ((Value.slice a i cap), m) := Kept.made hO (fun k hk => by rw [hρa]; exact setR_own hk)
      replace K : All w10 ρa (s.L ++ [((Value.slice a i cap), m)]) := fun e he => by
        rcases List.mem_append.1 he with he | he
        · exact K e he
        · rw [List.mem_singleton.1 he]; exact KX
      have hsz0 := hK1.size
      have hra : ∀ k, ρa k = .book → ρ k = .book ∨ ownB (Value.slice a i cap) k := fun k hk => by
        by_cases h : ownB (Value.slice a i cap) k
        · exact .inr h
        · rw [hρa, setR_not h] at hk; exact .inl hk
      have hrb : ∀ k, ¬ ownB (Value.slice a i cap) k → ρa k = ρ k := fun k hk => by rw [hρa, setR_not hk]
      clear hO KX
      refine JC.skip ?_
      refine JE.seq ?_
      refine JC.seq ?_
      refine JC.region ?_
      refine JL.val rfl (Run.move (.tmp (.there rfl .here))) ?_
      refine JL.val rfl (Run.move (.tmp (.there rfl (.there rfl .here)))) ?_
      refine JL.val rfl (Run.nilPtr (.tmp .here)) ?_
      refine JL.val rfl (Run.fieldAddr (ft := 23) (foff := 0) (off := 0) @Try.underlying46 (by rfl) (@Try.sizeOf23 _) rfl rfl (.tmp .here)) ?_
      refine JL.val rfl (Run.loadB (@Try.isAgg23 _) (.tmp .here) (C.B) (by rfl)) ?_
      refine JL.val rfl (Run.move (.tmp (.there rfl (.there rfl (.there rfl (.there rfl (.there rfl (.there rfl (.there rfl .here))))))))) ?_
      refine JL.lit (os := [.tmp 40]) rfl @Try.underlying23 (@Try.sizeOf53 _) (@Try.zeroValue53 _) (by rfl) (by rfl) rfl rfl (by rfl) (.cons (.tmp .here) .nil) (by simp [Value.cells]) ?_
      intro b12 w13 hg14 hc15 Bb12
      replace C := C.no hc15
      replace K := K.no hc15
      replace R := R.no hc15
      replace G := G.no hc15
      replace hK1 := hK1.no hc15
      refine JL.append2 rfl @Try.underlying23 @Try.underlying23 info_sl (by rfl) (by decide) (.tmp (.there rfl (.there rfl .here))) C.o1 (.tmp .here) Bb12 (by rfl) (by rfl) (Nat.zero_le _) (by omega) ?_
      intro v16 w17 hO18 hc19 hx20
      obtain ⟨av16, cv16, rfl⟩ := owns_form hO18
      have hBs := C.B.ch hc19 (owns_ne C.o1 C.B rfl)
      have hz1 := hK1.size
      refine JL.val rfl (Run.nilPtr (.tmp (.there rfl (.there rfl (.there rfl (.there rfl (.there rfl (.there rfl (.there rfl .here))))))))) ?_
      refine JL.val rfl (Run.fieldAddr (ft := 23) (foff := 0) (off := 0) @Try.underlying46 (by rfl) (@Try.sizeOf23 _) rfl rfl (.tmp .here)) ?_
      refine JL.storeB (@Try.sizeOf23 _) (.tmp .here) (.tmp (.there rfl (.there rfl .here))) (by rfl) (by rfl) hBs rfl ?_
      intro w21 hc22 hb23
      replace hBs := hb23; clear hb23
      refine JL.nil ?_
      refine JE.keep (L := _) (.cons (.there rfl (.there rfl (.there rfl (.there rfl (.there rfl (.there rfl (.there rfl (.there rfl (.there rfl (.there rfl (.there rfl .here))))))))))) (.cons (.there rfl (.there rfl (.there rfl (.there rfl (.there rfl (.there rfl (.there rfl (.there rfl (.there rfl (.there rfl (.there rfl (.there rfl (.there rfl .here))))))))))))) .nil)) ?_
      refine JE.seq ?_
      refine JC.region ?_
      refine JL.val rfl (Run.move (.tmp .here)) ?_
      refine JL.val rfl (Run.move (.tmp (.there rfl .here))) ?_
      refine JL.val rfl (Run.nilPtr (.tmp .here)) ?_
      refine JL.val rfl (Run.fieldAddr (ft := 27) (foff := 1) (off := 1) @Try.underlying46 (by rfl) (@Try.sizeOf27 _) rfl rfl (.tmp .here)) ?_
      refine JL.val rfl (Run.loadB (@Try.isAgg27 _) (.tmp .here) hBs (by rfl)) ?_
      refine JL.val rfl (Run.move (.tmp (.there rfl (.there rfl (.there rfl (.there rfl (.there rfl (.there rfl .here)))))))) ?_
      obtain ⟨C2, K2, R2, hag1, hp1⟩ := core_put1 (x := (Value.slice a i cap)) (mm := m) C K R G hO18 hc19 hx20 hc22 hBs
      replace hK1 := hK1.comp hp1 (fun k hk _ => hra k hk)
      have hsz1 := hK1.size
      replace G := G.up hp1
      clear C K R
      rename Core _ _ _ _ _ _ _ _ => C
      rename All _ _ _ => K
      rename Roles _ _ _ => R
      clear hBs
      refine JL.lit (os := [.tmp 50]) rfl @Try.underlying27 (@Try.sizeOf3 _) (@Try.zeroValue3 _) (by rfl) (by rfl) rfl rfl (by rfl) (.cons (.tmp .here) .nil) (by simp [Value.cells]) ?_
      intro b24 w25 hg26 hc27 Bb24
      replace C := C.no hc27
      replace K := K.no hc27
      replace R := R.no hc27
      replace G := G.no hc27
      replace hK1 := hK1.no hc27
      refine JL.append2 rfl @Try.underlying27 @Try.underlying27 info_int (by rfl) (by decide) (.tmp (.there rfl (.there rfl .here))) C.o2 (.tmp .here) Bb24 (by rfl) (by rfl) (Nat.zero_le _) (by omega) ?_
      intro v28 w29 hO30 hc31 hx32
      obtain ⟨av28, cv28, rfl⟩ := owns_form hO30
      have hBs := C.B.ch hc31 (owns_ne C.o2 C.B rfl)
      have hz2 := hK1.size
      refine JL.val rfl (Run.nilPtr (.tmp (.there rfl (.there rfl (.there rfl (.there rfl (.there rfl (.there rfl (.there rfl .here))))))))) ?_
      refine JL.val rfl (Run.fieldAddr (ft := 27) (foff := 1) (off := 1) @Try.underlying46 (by rfl) (@Try.sizeOf27 _) rfl rfl (.tmp .here)) ?_
      refine JL.storeB (@Try.sizeOf27 _) (.tmp .here) (.tmp (.there rfl (.there rfl .here))) (by rfl) (by rfl) hBs rfl ?_
      intro w33 hc34 hb35
      replace hBs := hb35; clear hb35
      refine JL.nil ?_
      refine JE.keep (L := _) .nil ?_
      obtain ⟨C2, K2, R2, hag2, hp2⟩ := core_put2 (x := (Value.slice a i cap)) (mm := m) C K R G hO30 hc31 hx32 hc34 hBs
      replace hK1 := hK1.comp hp2 (fun k hk hlt => hra k (by rw [← hag1 k (by omega)]; exact hk))
      refine JE.end0 @Try.results28 ?_
      exact ⟨_, _, { s with L := s.L ++ [((Value.slice a i cap), m)], turn := s.turn + 1, used := s.used + (1200 + 3 * i) }, _, rfl, ⟨C2.B, C2.rb, C2.o1, C2.i1, C2.o2, C2.i2⟩, K2, R2, fun k hk hx => by rw [hag2 k (by omega), hag1 k (by omega)]; exact hrb k hx, hK1, rfl, rfl, rfl, hu2, .inr (by rw [hm])⟩

end Go.Proofs.Ytggngmmbpkoooaa.Bk
