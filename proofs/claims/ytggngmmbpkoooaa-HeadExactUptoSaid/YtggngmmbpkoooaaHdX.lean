/- HeadExact. -/
import Derived.Test.YtggngmmbpkoooaaEngLd
import Derived.Test.YtggngmmbpkoooaaHdS
namespace Go.Proofs.Ytggngmmbpkoooaa.Bk
open Go Go.Proofs.Ytggngmmbpkoooaa.Eng Go.Proofs.Ytggngmmbpkoooaa.Hd
set_option linter.unusedVariables false
set_option linter.unusedSimpArgs false
set_option maxRecDepth 4000
/-- what any major and argument are laid as. -/
def layT (m n : Int) : List UInt8 := if 0 ≤ m ∧ m ≤ 7 then layB m n else []
theorem lay_tot (m n : Int) (h0 : 0 ≤ n) (hn : n < 18446744073709551616) (w : World) : Calls Try.prog 6 #[.int .i64 m, .int .u64 n] w fun e w' => ∃ v, e = .returned v ∧ Owns w' w.heap.size 5 1 v (elen v) ((layT m n).map bv) ∧ elen v ≤ 9 ∧ Ch No w w' := by
  by_cases hm : 0 ≤ m ∧ m ≤ 7
  · refine (lay_any m n hm.1 hm.2 h0 w).mono fun e w' ⟨v, he, hO, hc⟩ => ?_
    obtain ⟨a, cap, rfl⟩ := owns_form hO
    have hl : ((layI m n).length : Int) ≤ 9 := by rw [lay_size h0 hn m]; have := behind_bd (infoI n); unfold sizeI; omega
    refine ⟨_, he, ?_, by show (layI m n).length ≤ 9; omega, hc⟩
    rw [layB_bv hm.1 hm.2 h0] at hO
    unfold layT; rw [if_pos hm]; exact hO
  · refine (lay_out m n (by omega) w).mono fun e w' ⟨he, hc⟩ => ?_
    refine ⟨_, he, ?_, Nat.zero_le _, hc⟩
    unfold layT; rw [if_neg hm]; exact Owns.nil _ _ _ _
theorem rlay_tot (m n : Int) (h0 : 0 ≤ n) (hn : n < 18446744073709551616) (w : World) : Calls Try.prog 7 #[.int .i64 m, .int .u64 n] w fun e w' => ∃ v, e = .returned v ∧ SlB w' v (layT m n) ∧ (∀ k, ownB v k → w.heap.size ≤ k ∧ k < w'.heap.size) ∧ Ch No w w' := by
  by_cases hm : 0 ≤ m ∧ m ≤ 7
  · refine (rlay_any m n hm.1 hm.2 h0 hn w).mono fun e w' ⟨v, he, hs, hk, hc⟩ => ⟨v, he, ?_, hk, hc⟩
    unfold layT; rw [if_pos hm]; exact hs
  · refine (rlay_out m n (by omega) w).mono fun e w' ⟨he, hc⟩ => ⟨_, he, ?_, fun k hk => hk.elim, hc⟩
    unfold layT; rw [if_neg hm]; exact .inl ⟨rfl, rfl⟩
/-- where the statement stands: the book, the answers, their blocks. -/
structure St (w0 w : World) (ρ : Nat → Role) (bb tb : Nat) (v1 v2 g1 g2 : Value) (s : BookS) (G : List Ent) : Prop where
  C : Core w ρ bb v1 v2 s.L s.L s
  K : All w ρ s.L
  R : Roles w w0.heap.size ρ
  Gb : AtLeast w w0.heap.size
  H : Num s
  D : LateOk w ρ tb g1 g2 G G
  E : Ents w ρ G
  hEl : ∀ (j : Nat) e, G[j]? = some e → elen e.1 ≤ 1099511627776
  ch : Ch No w0 w
theorem St.no {w0 w w' : World} {ρ : Nat → Role} {bb tb : Nat} {v1 v2 g1 g2 : Value} {s : BookS} {G : List Ent} (h : St w0 w ρ bb tb v1 v2 g1 g2 s G) (hc : Ch No w w') : St w0 w' ρ bb tb v1 v2 g1 g2 s G :=
  ⟨h.C.no hc, h.K.no hc, h.R.no hc, h.Gb.no hc, h.H, h.D.no hc, h.E.no hc, h.hEl, h.ch.no hc⟩
theorem st_add {w0 w : World} {ρ : Nat → Role} {bb tb : Nat} {v1 v2 g1 g2 xv yv : Value} {s : BookS} {G : List Ent} {l : List UInt8} (Z : St w0 w ρ bb tb v1 v2 g1 g2 s G) (hX : Owns w 0 5 1 xv (elen xv) (l.map bv)) (hf : ∀ k, ownB xv k → ρ k = .none ∧ w0.heap.size ≤ k) (hY : SlB w yv l) (hYr : ∀ k, ownB yv k → ¬ isL ρ k) (hx9 : elen xv ≤ 9) (hG : G.length ≤ 1099511627776) :
    Calls Try.prog 10 #[.pointer (some ⟨tb, 0, none⟩), xv, yv] w fun e w' => e = .returned (.tuple #[]) ∧ ∃ g1' g2' y' ρ', St w0 w' ρ' bb tb v1 v2 g1' g2' s (G ++ [(xv, y', l)]) ∧ (∀ k, k < w.heap.size → ¬ ownB xv k → ρ' k = ρ k) ∧ Ch (isL ρ) w w' := by
  obtain ⟨ρ1, hρ⟩ : ∃ r, r = setR ρ xv (.fresh G.length) := ⟨_, rfl⟩
  have hr : ∀ k, ρ k ≠ .none → ρ1 k = ρ k := fun k hk => by rw [hρ]; exact setR_not (fun h => hk (hf k h).1)
  have hl : l.length = elen xv := by have := hX.1; simpa using this
  have C1 : Core w ρ1 bb v1 v2 s.L s.L s := Z.C.role (fun k _ hk => (hr k (by rw [hk]; exact fun h => (by cases h))).trans hk)
  have K1 : All w ρ1 s.L := Z.K.role (fun k m _ hk => (hr k (by rw [hk]; exact fun h => (by cases h))).trans hk)
  have R1 : Roles w w0.heap.size ρ1 := by rw [hρ]; exact Z.R.set (Nat.le_refl _) (fun k hk => ⟨(hf k hk).2, (hX.ge k hk).2⟩)
  have D1 : LateOk w ρ1 tb g1 g2 G G := Z.D.role (fun k _ hk => hr k (by rcases hk with h | h | h <;> rw [h] <;> exact fun h => (by cases h)))
  have E1 : Ents w ρ1 G := Z.E.role (fun k hk => (hr k (by rw [hk]; exact fun h => (by cases h))).trans hk) (fun k i hk => (hr k (by rw [hk]; exact fun h => (by cases h))).trans hk)
  have hLr : ∀ k, isL ρ1 k → isL ρ k := fun k hk => by
    by_cases h : ownB xv k
    · exfalso; have h2 : ρ1 k = .fresh G.length := by rw [hρ]; exact setR_own h
      exact (isL_of hk).2 _ h2
    · have h2 : ρ1 k = ρ k := by rw [hρ]; exact setR_not h
      unfold isL at hk ⊢; rw [← h2]; exact hk
  refine (add_any w D1 E1 R1 Z.Gb hX (fun k hk => by rw [hρ]; exact setR_own hk) hY (fun k hk h => hYr k hk (hLr k h)) hG (by omega)).mono fun e w' ⟨g1', g2', y', ρ', he, D2, E2, R2, G2, hag, hch⟩ => ?_
  have hnb : ∀ k, isL ρ1 k → ρ1 k ≠ .book := fun k hk => by rcases hk with h | h | h <;> rw [h] <;> exact fun h => (by cases h)
  have hnl : ∀ k m, isL ρ1 k → ρ1 k ≠ .list m := fun k m hk => by rcases hk with h | h | h <;> rw [h] <;> exact fun h => (by cases h)
  have hne : ∀ k r, ρ1 k = r → r ≠ .none → k < w.heap.size := fun k r h hn => (R1 k (by rw [h]; exact hn)).2
  have C2 := (C1.ch hch hnb).role (ρ' := ρ') (fun k _ hk => (hag k (hne k _ hk (fun h => (by cases h)))).trans hk)
  have K2 := (K1.ch hch (fun k m hk => hnl k m hk)).role (ρ' := ρ') (fun k m _ hk => (hag k (hne k _ hk (fun h => (by cases h)))).trans hk)
  refine ⟨he, g1', g2', y', ρ', ⟨C2, K2, R2, G2, Z.H, D2, E2, fun j e hj => ?_, ?_⟩, fun k hk hx => (hag k hk).trans (by rw [hρ]; exact setR_not hx), hch.mono hLr⟩
  · by_cases hlt : j < G.length
    · rw [List.getElem?_append_left hlt] at hj; exact Z.hEl j e hj
    · rw [List.getElem?_append_right (by omega)] at hj
      have hz : j - G.length = 0 := by have := (List.getElem?_eq_some_iff.1 hj).1; simp at this; omega
      rw [hz] at hj; simp at hj; subst hj; show elen xv ≤ _; omega
  · refine Z.ch.comp hch (fun k hk hlt => ?_)
    have := (R1 k (by rcases hk with h | h | h <;> rw [h] <;> exact fun h => (by cases h))).1
    omega
theorem st_settle {w0 w : World} {ρ : Nat → Role} {bb tb : Nat} {v1 v2 g1 g2 : Value} {s : BookS} {G : List Ent} (n : Int) (Z : St w0 w ρ bb tb v1 v2 g1 g2 s G) (hG : G.length ≤ 1099511627776) (hT : s.turn + G.length ≤ 274877906944) :
    Calls Try.prog 11 #[.pointer (some ⟨tb, 0, none⟩), .pointer (some ⟨bb, 0, none⟩), .int .i64 n] w fun e w' => e = .returned (.bool true) ∧ ∃ v1' v2' g1' g2' s' ρ' G', St w0 w' ρ' bb tb v1' v2' g1' g2' s' G' ∧ (∀ k, k < w.heap.size → ρ k = .none → ρ' k = .none) ∧ Ch (isS ρ) w w' ∧ s'.turn + G'.length ≤ s.turn + G.length ∧ (G' = G ∨ G' = []) := by
  refine (settle_any w Z.C Z.K Z.R Z.Gb Z.H Z.D Z.E hG hT Z.hEl (n := n)).mono fun e w' ⟨v1', v2', g1', g2', s', ρ', G', he, C2, K2, R2, G2, H2, D2, E2, hag, hch, ht, hGG⟩ => ?_
  refine ⟨he, v1', v2', g1', g2', s', ρ', G', ⟨C2, K2, R2, G2, H2, D2, E2, ?_, ?_⟩, fun k hk hn => (hag k hk (fun i => by rw [hn]; exact fun h => (by cases h))).trans hn, hch, ht, hGG⟩
  · rcases hGG with rfl | rfl
    · exact Z.hEl
    · intro j e hj; simp at hj
  · refine Z.ch.comp hch (fun k hk hlt => ?_)
    have := (Z.R k hk.1).1
    omega
theorem St.one {w0 w w' : World} {ρ : Nat → Role} {bb tb b : Nat} {v1 v2 g1 g2 : Value} {s : BookS} {G : List Ent} (h : St w0 w ρ bb tb v1 v2 g1 g2 s G) (hc : Ch (One b) w w') (hr : ρ b = .none) (hb : w0.heap.size ≤ b) : St w0 w' ρ bb tb v1 v2 g1 g2 s G := by
  have hn : ∀ k, One b k → ρ k = .none := fun k hk => by have h2 : k = b := hk; rw [h2]; exact hr
  exact ⟨h.C.ch hc (fun k hk => by rw [hn k hk]; exact fun h => (by cases h)), h.K.ch hc (fun k m hk => by rw [hn k hk]; exact fun h => (by cases h)), h.R.up hc.size, h.Gb.up hc, h.H, h.D.ch hc (fun k hk => by rw [hn k hk]; exact ⟨fun h => (by cases h), fun h => (by cases h), fun h => (by cases h)⟩), h.E.ch hc (fun k hk => by rw [hn k hk]; exact ⟨fun h => (by cases h), fun i h => (by cases h)⟩), h.hEl, h.ch.own hc hb⟩
theorem lent_lt {w : World} {b cap : Nat} {l : List UInt8} (h : Lent w b cap l) : b < w.heap.size := by obtain ⟨_, _, cs, hB, _⟩ := h; exact hB.lt
theorem lent_slb2 {w : World} {b cap n : Nat} {l : List UInt8} (h : Lent w b cap l) (hn : l.length = n) : SlB w (.slice (some ⟨b, 0, none⟩) n cap) l := hn ▸ lent_slb h
theorem intact_len {lb cap n : Nat} {b : Value} {l : List UInt8} (w0 : World) (hL : Lent w0 lb cap l) (hs : SlB w0 b l) (hn : l.length = n) : Calls Try.prog 14 #[.slice (some ⟨lb, 0, none⟩) n cap, b] w0 fun e w' => e = .returned (.bool true) ∧ Ch No w0 w' := hn ▸ intact_any w0 hL hs
def s00 : BookS := ⟨[], 0, 0, 0, 0⟩

set_option maxHeartbeats 4000000 in
theorem exact_any {a b : Option Addr} {ca cb : Nat} {as_ : List (Int × Int)} {bs : List (List UInt8)} (w0 : World) (hA : ArgsAt w0 a as_) (hB : BsAt w0 b bs) (hsm : as_.length ≤ 1048576) :
    Calls Try.prog 3 #[.agg #[.slice a as_.length ca, .slice b bs.length cb]] w0 fun e w' => e = .returned (.bool true) ∧ Ch No w0 w' := by
  have hK : Ch No w0 w0 := Ch.refl w0
  refine calls @Try.func3 rfl @Try.ntmps3 rfl ?_
  show JC _ _ _ _ _ [(0, .agg #[.slice a as_.length ca, .slice b bs.length cb])] _
  refine JC.seq ?_
  refine JC.region ?_
  refine JL.box rfl (.tmp .here) ?_
  intro b1 w2 hg3 hc4 Bb1
  have ge_b1 : _ ≤ b1 := Nat.le_trans hK.size hg3
  replace hK := hK.no hc4
  refine JL.val rfl (Run.assign .const) ?_
  refine JL.nil ?_
  refine JE.seq ?_
  refine JC.seq ?_
  refine JC.region ?_
  refine JL.val rfl (Run.build (places := #[(0, 1), (1, 1), (2, 1), (3, 1), (4, 1), (5, 1), (6, 1), (7, 1), (8, 1), (9, 1), (10, 1), (11, 1), (12, 1), (13, 1), (14, 1), (15, 1), (16, 1), (17, 1), (18, 1), (19, 1), (20, 1), (21, 1), (22, 1), (23, 1), (24, 1), (25, 1), (26, 1), (27, 1), (28, 1), (29, 1), (30, 1), (31, 1), (32, 1), (33, 1), (34, 1), (35, 1), (36, 1), (37, 1), (38, 1), (39, 1), (40, 1), (41, 1), (42, 1), (43, 1), (44, 1), (45, 1), (46, 1), (47, 1), (48, 1), (49, 1), (50, 1), (51, 1), (52, 1), (53, 1), (54, 1), (55, 1), (56, 1)]) (ps := []) @Try.underlying46 (@Try.zeroValue46 _) (by kernel_rfl) .nil) ?_
  refine JL.box rfl (.tmp .here) ?_
  intro b5 w6 hg7 hc8 Bb5
  have lt_b1_b5 : b1 < b5 := Nat.lt_of_lt_of_le Bb1.lt hg7
  have ge_b5 : _ ≤ b5 := Nat.le_trans hK.size hg7
  replace Bb1 := Bb1.no hc8
  replace hK := hK.no hc8
  refine JL.val rfl (Run.assign (.tmp .here)) ?_
  refine JL.nil ?_
  refine JE.seq ?_
  refine JC.seq ?_
  refine JC.region ?_
  refine JL.val rfl (Run.build (places := #[(0, 1), (1, 1)]) (ps := []) @Try.underlying49 (@Try.zeroValue49 _) (by kernel_rfl) .nil) ?_
  refine JL.box rfl (.tmp .here) ?_
  intro b9 w10 hg11 hc12 Bb9
  have lt_b1_b9 : b1 < b9 := Nat.lt_of_lt_of_le Bb1.lt hg11
  have lt_b5_b9 : b5 < b9 := Nat.lt_of_lt_of_le Bb5.lt hg11
  have ge_b9 : _ ≤ b9 := Nat.le_trans hK.size hg11
  replace Bb1 := Bb1.no hc12
  replace Bb5 := Bb5.no hc12
  replace hK := hK.no hc12
  refine JL.val rfl (Run.assign (.tmp .here)) ?_
  refine JL.nil ?_
  refine JE.seq ?_
  refine JC.seq ?_
  refine JC.seq ?_
  refine JC.region ?_
  refine JL.val rfl (Run.assign .const) ?_
  refine JL.nil ?_
  refine JE.seq ?_
  refine JC.block ?_
  have C0 : Blk w10 b5 46 (bookCells (.slice none 0 0) (.slice none 0 0) s00) := Bb5
  have D0 : Blk w10 b9 49 [.slice none 0 0, .slice none 0 0] := Bb9
  have P0 : Blk w10 b1 25 [.slice a as_.length ca, .slice b bs.length cb] := Bb1
  obtain ⟨ρ0, hρ0⟩ : ∃ r : Nat → Role, r = fun k => if k = b5 then .book else if k = b9 then .late else .none := ⟨_, rfl⟩
  have hb1 : ρ0 b5 = .book := by rw [hρ0]; simp
  have hb2 : ρ0 b9 = .late := by rw [hρ0]; show (if _ then _ else _) = _; rw [if_neg (by omega), if_pos rfl]
  have hbp : ρ0 b1 = .none := by rw [hρ0]; show (if _ then _ else _) = _; rw [if_neg (by omega), if_neg (by omega)]
  have R0 : Roles w10 w0.heap.size ρ0 := fun k hk => by
    have h1 := C0.lt
    have h2 := D0.lt
    by_cases e1 : k = b5
    · subst e1; exact ⟨ge_b5, h1⟩
    · by_cases e2 : k = b9
      · subst e2; exact ⟨ge_b9, h2⟩
      · rw [hρ0] at hk; simp [e1, e2] at hk
  have Z : St w0 w10 ρ0 b5 b9 (.slice none 0 0) (.slice none 0 0) (.slice none 0 0) (.slice none 0 0) s00 [] := ⟨⟨C0, hb1, Owns.nil _ _ _ _, fun k hk => hk.elim, Owns.nil _ _ _ _, fun k hk => hk.elim⟩, fun e he => by simp [s00] at he, R0, hK.size, ⟨by simp [s00], by simp [s00], by simp [s00], by simp [s00], fun e he => by simp [s00] at he, fun i e _ he => by simp [s00] at he⟩, ⟨D0, hb2, Owns.nil _ _ _ _, fun k hk => hk.elim, Owns.nil _ _ _ _, fun k hk => hk.elim⟩, fun i e he => by simp at he, fun i e he => by simp at he, hK⟩
  refine JC.loop (α := Nat × BookS × (Nat → Role) × Value × Value × Value × Value × List Ent) (fun ⟨i, s, ρ, v1, v2, g1, g2, G⟩ => [(1, .pointer (some ⟨b1, 0, none⟩)), (2, .bool false), (3, .pointer (some ⟨b5, 0, none⟩)), (4, .pointer (some ⟨b9, 0, none⟩)), (5, .int .i64 (i : Int))]) (fun ⟨i, s, ρ, v1, v2, g1, g2, G⟩ w => i ≤ as_.length ∧ St w0 w ρ b5 b9 v1 v2 g1 g2 s G ∧ Blk w b1 25 [.slice a as_.length ca, .slice b bs.length cb] ∧ ρ b1 = .none ∧ s.turn + G.length ≤ 2 * i) (fun ⟨i, s, ρ, v1, v2, g1, g2, G⟩ => as_.length - i) (0, s00, ρ0, _, _, _, _, []) ⟨Nat.zero_le _, Z, P0, hbp, by simp [s00]⟩ (.cons (.there rfl (.there rfl (.there rfl (.there rfl (.there rfl (.there rfl (.there rfl (.there rfl .here)))))))) (.cons (.there rfl (.there rfl (.there rfl (.there rfl (.there rfl (.there rfl (.there rfl .here))))))) (.cons (.there rfl (.there rfl (.there rfl (.there rfl .here)))) (.cons (.there rfl .here) (.conse .here (rfl) .nil))))) ?_
  rintro ⟨i, s, ρ, v1, v2, g1, g2, G⟩ w13 m14 ⟨hi, Z, P0, hbp, hTT⟩ hmu15
  show JC _ _ _ _ _ [(1, .pointer (some ⟨b1, 0, none⟩)), (2, .bool false), (3, .pointer (some ⟨b5, 0, none⟩)), (4, .pointer (some ⟨b9, 0, none⟩)), (5, .int .i64 (i : Int))] _
  refine JC.seq ?_
  refine JC.seq ?_
  refine JC.region ?_
  refine JL.val rfl (Run.move (.tmp (.there rfl (.there rfl (.there rfl (.there rfl .here)))))) ?_
  refine JL.val rfl (Run.fieldAddr (ft := 22) (foff := 0) (off := 0) @Try.underlying25 (by rfl) (@Try.sizeOf22 _) rfl rfl (.tmp (.there rfl .here))) ?_
  refine JL.val rfl (Run.loadB (@Try.isAgg22 _) (.tmp .here) P0 (by rfl)) ?_
  refine JL.val rfl (Run.len @Try.underlying22 (.tmp .here)) ?_
  refine JL.val rfl (Run.lss (.tmp (.there rfl (.there rfl (.there rfl .here)))) (.tmp .here)) ?_
  refine JL.nil ?_
  refine JE.seq ?_
  refine JC.cond (.tmp .here) (fun hlt => ?_) (fun hlt => ?_)
  · have hlt := of_decide_eq_true hlt
    have hil : i < as_.length := by omega
    obtain ⟨ab, ao, rfl, hc1, hc2, hn0, hn1⟩ := hA.2 i hil
    obtain ⟨m, hm⟩ : ∃ m, m = as_[i].1 := ⟨_, rfl⟩
    obtain ⟨n, hn⟩ : ∃ n, n = as_[i].2 := ⟨_, rfl⟩
    rw [← hm] at hc1
    rw [← hn] at hc2 hn0 hn1
    refine JC.skip ?_
    refine JE.seq ?_
    refine JC.seq ?_
    refine JC.block ?_
    refine JC.seq ?_
    refine JC.region ?_
    refine JL.val rfl (Run.fieldAddr (ft := 22) (foff := 0) (off := 0) @Try.underlying25 (by rfl) (@Try.sizeOf22 _) rfl rfl (.tmp (.there rfl (.there rfl (.there rfl (.there rfl (.there rfl .here))))))) ?_
    refine JL.val rfl (Run.loadB (@Try.isAgg22 _) (.tmp .here) P0 (by rfl)) ?_
    refine JL.val rfl (Run.move (.tmp (.there rfl (.there rfl (.there rfl (.there rfl (.there rfl (.there rfl (.there rfl (.there rfl (.there rfl (.there rfl (.there rfl .here))))))))))))) ?_
    refine JL.val rfl (Run.indexAddr (m := i) @Try.underlying22 (@Try.sizeOf52 _) (.tmp (.there rfl .here)) (.tmp .here) (rfl) (by omega) rfl) ?_
    refine JL.val rfl (Run.loadN (news := [.int .i64 m, .int .u64 n]) (@Try.isAgg52 _) (@Try.sizeOf52 _) (.tmp .here) rfl (two_cells (Z.ch.cell hc1) (Z.ch.cell hc2))) ?_
    have hS : Ch No w13 w13 := Ch.refl _
    refine JL.alloc rfl (@Try.zeroValue52 _) ?_
    intro b35 w36 hg37 hc38 Bb35
    have gehS_b35 : w13.heap.size ≤ b35 := Nat.le_trans hS.size hg37
    replace hS := hS.no hc38
    refine JL.storeA (@Try.sizeOf52 _) (.tmp .here) (.tmp (.there rfl .here)) (by rfl) (by rfl) Bb35 rfl ?_
    intro w39 hc40 hb41
    replace hS := hS.own hc40 (by omega)
    replace Bb35 := hb41; clear hb41
    refine JL.nil ?_
    refine JE.seq ?_
    refine JC.seq ?_
    replace Z := Z.no hS
    replace P0 := P0.no hS
    refine JC.region ?_
    refine JL.val rfl (Run.fieldAddr (ft := 3) (foff := 0) (off := 0) @Try.underlying52 (by rfl) (@Try.sizeOf3 _) rfl rfl (.tmp .here)) ?_
    refine JL.val rfl (Run.loadB (@Try.isAgg3 _) (.tmp .here) Bb35 (by rfl)) ?_
    refine JL.val rfl (Run.fieldAddr (ft := 50) (foff := 1) (off := 1) @Try.underlying52 (by rfl) (@Try.sizeOf50 _) rfl rfl (.tmp (.there rfl (.there rfl .here)))) ?_
    refine JL.val rfl (Run.loadB (@Try.isAgg50 _) (.tmp .here) Bb35 (by rfl)) ?_
    have hf1 : ∀ k, w39.heap.size ≤ k → ρ k = .none ∧ w0.heap.size ≤ k := fun k hk => ⟨by
      by_cases h : ρ k = .none
      · exact h
      · exact absurd (Z.R k h).2 (by omega), Nat.le_trans Z.Gb hk⟩
    have hp1 := P0.lt
    refine JL.call rfl (Run.call @Try.call6 (.cons (.tmp (.there rfl (.there rfl .here))) (.cons (.tmp .here) .nil))) (lay_tot m n hn0 hn1 _) ?_
    rintro e w42 ⟨x1, rfl, hX1, hx1, hc3⟩
    refine JRet.ret ?_
    replace Z := Z.no hc3
    replace P0 := P0.no hc3
    replace Bb35 := Bb35.no hc3
    refine JL.val rfl (Run.assign (.tmp .here)) ?_
    refine JL.nil ?_
    refine JE.seq ?_
    refine JC.seq ?_
    refine JC.region ?_
    refine JL.val rfl (Run.fieldAddr (ft := 3) (foff := 0) (off := 0) @Try.underlying52 (by rfl) (@Try.sizeOf3 _) rfl rfl (.tmp (.there rfl (.there rfl (.there rfl (.there rfl (.there rfl (.there rfl .here)))))))) ?_
    refine JL.val rfl (Run.loadB (@Try.isAgg3 _) (.tmp .here) Bb35 (by rfl)) ?_
    refine JL.val rfl (Run.fieldAddr (ft := 50) (foff := 1) (off := 1) @Try.underlying52 (by rfl) (@Try.sizeOf50 _) rfl rfl (.tmp (.there rfl (.there rfl (.there rfl (.there rfl (.there rfl (.there rfl (.there rfl (.there rfl .here)))))))))) ?_
    refine JL.val rfl (Run.loadB (@Try.isAgg50 _) (.tmp .here) Bb35 (by rfl)) ?_
    have hf2 : ∀ k, w42.heap.size ≤ k → ρ k = .none ∧ w0.heap.size ≤ k := fun k hk => ⟨by
      by_cases h : ρ k = .none
      · exact h
      · exact absurd (Z.R k h).2 (by omega), Nat.le_trans Z.Gb hk⟩
    have hp2 := P0.lt
    have hl12 : ∀ k, ownB x1 k → k < w42.heap.size := fun k hk => (hX1.ge k hk).2
    refine JL.call rfl (Run.call @Try.call6 (.cons (.tmp (.there rfl (.there rfl .here))) (.cons (.tmp .here) .nil))) (lay_tot m n hn0 hn1 _) ?_
    rintro e w43 ⟨x2, rfl, hX2, hx2, hc4⟩
    refine JRet.ret ?_
    replace Z := Z.no hc4
    replace P0 := P0.no hc4
    replace Bb35 := Bb35.no hc4
    replace hX1 := hX1.no hc4
    refine JL.val rfl (Run.assign (.tmp .here)) ?_
    refine JL.nil ?_
    refine JE.seq ?_
    refine JC.seq ?_
    refine JC.region ?_
    refine JL.val rfl (Run.fieldAddr (ft := 3) (foff := 0) (off := 0) @Try.underlying52 (by rfl) (@Try.sizeOf3 _) rfl rfl (.tmp (.there rfl (.there rfl (.there rfl (.there rfl (.there rfl (.there rfl (.there rfl (.there rfl (.there rfl (.there rfl (.there rfl (.there rfl .here)))))))))))))) ?_
    refine JL.val rfl (Run.loadB (@Try.isAgg3 _) (.tmp .here) Bb35 (by rfl)) ?_
    refine JL.val rfl (Run.fieldAddr (ft := 50) (foff := 1) (off := 1) @Try.underlying52 (by rfl) (@Try.sizeOf50 _) rfl rfl (.tmp (.there rfl (.there rfl (.there rfl (.there rfl (.there rfl (.there rfl (.there rfl (.there rfl (.there rfl (.there rfl (.there rfl (.there rfl (.there rfl (.there rfl .here)))))))))))))))) ?_
    refine JL.val rfl (Run.loadB (@Try.isAgg50 _) (.tmp .here) Bb35 (by rfl)) ?_
    have hf3 : ∀ k, w43.heap.size ≤ k → ρ k = .none ∧ w0.heap.size ≤ k := fun k hk => ⟨by
      by_cases h : ρ k = .none
      · exact h
      · exact absurd (Z.R k h).2 (by omega), Nat.le_trans Z.Gb hk⟩
    have hp3 := P0.lt
    have hl13 : ∀ k, ownB x1 k → k < w43.heap.size := fun k hk => (hX1.ge k hk).2
    have hl23 : ∀ k, ownB x2 k → k < w43.heap.size := fun k hk => (hX2.ge k hk).2
    refine JL.call rfl (Run.call @Try.call7 (.cons (.tmp (.there rfl (.there rfl .here))) (.cons (.tmp .here) .nil))) (rlay_tot m n hn0 hn1 _) ?_
    rintro e w44 ⟨y, rfl, hY, hYk, hc5⟩
    refine JRet.ret ?_
    replace Z := Z.no hc5
    replace P0 := P0.no hc5
    replace Bb35 := Bb35.no hc5
    replace hX1 := hX1.no hc5
    replace hX2 := hX2.no hc5
    have hK5 : Ch No w44 w44 := Ch.refl _
    refine JL.val rfl (Run.assign (.tmp .here)) ?_
    refine JL.nil ?_
    refine JE.seq ?_
    refine JC.seq ?_
    refine JC.seq ?_
    have hS47 : Ch No w44 w44 := Ch.refl _
    refine JC.any (f := 21) (fun w' => Ch No w44 w') mixed rfl ?_
    intro w45 hd46
    replace hS47 := hS47.no hd46
    refine JA.take 0 (by kernel_rfl) (by rfl) (by kernel_rfl) (by kernel_rfl) (L := #[true, false, false, false, false, false, false, false, false, false, false, false, false, false, false, false, false, false, false, false, false]) rfl rfl (fun w' hI => Run.move (.tmp (.there rfl (.there rfl (.there rfl (.there rfl (.there rfl (.there rfl (.there rfl (.there rfl (.there rfl (.there rfl (.there rfl (.there rfl .here)))))))))))))) ?_
    refine JA.take 1 (by kernel_rfl) (by rfl) (by kernel_rfl) (by kernel_rfl) (L := #[true, true, false, false, false, false, false, false, false, false, false, false, false, false, false, false, false, false, false, false, false]) rfl rfl (fun w' hI => Run.bytesStr @Try.underlying53 @Try.underlying9 @Try.underlying5 (.tmp .here) (SlB.ofOwns (hX1.no hI))) ?_
    refine JA.take 2 (by kernel_rfl) (by rfl) (by kernel_rfl) (by kernel_rfl) (L := #[true, true, true, false, false, false, false, false, false, false, false, false, false, false, false, false, false, false, false, false, false]) rfl rfl (fun w' hI => Run.move (.tmp (.there rfl (.there rfl .here)))) ?_
    refine JA.take 3 (by kernel_rfl) (by rfl) (by kernel_rfl) (by kernel_rfl) (L := #[true, true, true, true, false, false, false, false, false, false, false, false, false, false, false, false, false, false, false, false, false]) rfl rfl (fun w' hI => Run.bytesStr @Try.underlying53 @Try.underlying9 @Try.underlying5 (.tmp .here) (hY.no hI)) ?_
    refine JA.take 4 (by kernel_rfl) (by rfl) (by kernel_rfl) (by kernel_rfl) (L := #[true, true, true, true, true, false, false, false, false, false, false, false, false, false, false, false, false, false, false, false, false]) rfl rfl (fun w' hI => Run.neS (s := layT m n) (t := layT m n) (.tmp (.there rfl (.there rfl .here))) (.tmp .here)) ?_
    refine JA.take 5 (by kernel_rfl) (by rfl) (by kernel_rfl) (by kernel_rfl) (L := #[true, true, true, true, true, true, false, false, false, false, false, false, false, false, false, false, false, false, false, false, false]) rfl rfl (fun w' hI => Run.move (.tmp .here)) ?_
    refine JA.takeg 6 (by kernel_rfl) (by rfl) (by kernel_rfl) (by kernel_rfl) (L := #[true, true, true, true, true, true, true, false, false, false, false, false, false, false, false, false, false, false, false, false, false]) rfl rfl (oj := _) (by rfl) (by rfl) .here (by simp) (fun w' hI => Run.move (.tmp (.there rfl (.there rfl (.there rfl (.there rfl (.there rfl (.there rfl (.there rfl (.there rfl (.there rfl (.there rfl (.there rfl (.there rfl .here)))))))))))))) ?_
    refine JA.takeg 7 (by kernel_rfl) (by rfl) (by kernel_rfl) (by kernel_rfl) (L := #[true, true, true, true, true, true, true, true, false, false, false, false, false, false, false, false, false, false, false, false, false]) rfl rfl (oj := _) (by rfl) (by rfl) (.there rfl .here) (by simp) (fun w' hI => Run.bytesStr @Try.underlying53 @Try.underlying9 @Try.underlying5 (.tmp .here) (SlB.ofOwns (hX2.no hI))) ?_
    refine JA.takeg 8 (by kernel_rfl) (by rfl) (by kernel_rfl) (by kernel_rfl) (L := #[true, true, true, true, true, true, true, true, true, false, false, false, false, false, false, false, false, false, false, false, false]) rfl rfl (oj := _) (by rfl) (by rfl) (.there rfl (.there rfl .here)) (by simp) (fun w' hI => Run.move (.tmp (.there rfl (.there rfl (.there rfl (.there rfl (.there rfl (.there rfl (.there rfl (.there rfl .here)))))))))) ?_
    refine JA.takeg 9 (by kernel_rfl) (by rfl) (by kernel_rfl) (by kernel_rfl) (L := #[true, true, true, true, true, true, true, true, true, true, false, false, false, false, false, false, false, false, false, false, false]) rfl rfl (oj := _) (by rfl) (by rfl) (.there rfl (.there rfl (.there rfl .here))) (by simp) (fun w' hI => Run.bytesStr @Try.underlying53 @Try.underlying9 @Try.underlying5 (.tmp .here) (hY.no hI)) ?_
    refine JA.takeg 10 (by kernel_rfl) (by rfl) (by kernel_rfl) (by kernel_rfl) (L := #[true, true, true, true, true, true, true, true, true, true, true, false, false, false, false, false, false, false, false, false, false]) rfl rfl (oj := _) (by rfl) (by rfl) (.there rfl (.there rfl (.there rfl (.there rfl .here)))) (by simp) (fun w' hI => Run.neS (s := layT m n) (t := layT m n) (.tmp (.there rfl (.there rfl .here))) (.tmp .here)) ?_
    refine JA.take 11 (by kernel_rfl) (by rfl) (by kernel_rfl) (by kernel_rfl) (L := #[true, true, true, true, true, true, true, true, true, true, true, true, false, false, false, false, false, false, false, false, false]) rfl rfl (fun w' hI => Run.pickF (.tmp (.there rfl (.there rfl (.there rfl (.there rfl (.there rfl .here)))))) (by simp) (.tmp .here)) ?_
    refine JA.take 12 (by kernel_rfl) (by rfl) (by kernel_rfl) (by kernel_rfl) (L := #[true, true, true, true, true, true, true, true, true, true, true, true, true, false, false, false, false, false, false, false, false]) rfl rfl (fun w' hI => Run.move (.tmp .here)) ?_
    refine JA.takeg 13 (by kernel_rfl) (by rfl) (by kernel_rfl) (by kernel_rfl) (L := #[true, true, true, true, true, true, true, true, true, true, true, true, true, true, false, false, false, false, false, false, false]) rfl rfl (oj := _) (by rfl) (by rfl) .here (by simp) (fun w' hI => Run.fieldAddr (ft := 50) (foff := 1) (off := 1) @Try.underlying52 (by rfl) (@Try.sizeOf50 _) rfl rfl (.tmp (.there rfl (.there rfl (.there rfl (.there rfl (.there rfl (.there rfl (.there rfl (.there rfl (.there rfl (.there rfl (.there rfl (.there rfl (.there rfl (.there rfl (.there rfl (.there rfl (.there rfl (.there rfl (.there rfl (.there rfl (.there rfl (.there rfl (.there rfl (.there rfl (.there rfl (.there rfl (.there rfl (.there rfl (.there rfl (.there rfl (.there rfl .here))))))))))))))))))))))))))))))))) ?_
    refine JA.takeg 14 (by kernel_rfl) (by rfl) (by kernel_rfl) (by kernel_rfl) (L := #[true, true, true, true, true, true, true, true, true, true, true, true, true, true, true, false, false, false, false, false, false]) rfl rfl (oj := _) (by rfl) (by rfl) (.there rfl .here) (by simp) (fun w' hI => Run.loadB (@Try.isAgg50 _) (.tmp .here) (Bb35.no hI) (by rfl)) ?_
    refine JA.takecg 15 (by kernel_rfl) (by rfl) (by kernel_rfl) (by kernel_rfl) (L := #[true, true, true, true, true, true, true, true, true, true, true, true, true, true, true, true, false, false, false, false, false]) rfl rfl (oj := _) (by rfl) (by rfl) (.there rfl (.there rfl .here)) (by simp) (fun w' hI => Run.call @Try.call8 (.cons (.tmp .here) .nil)) (fun w' hI => size_any n hn0 _) ?_
    refine JA.takeg 16 (by kernel_rfl) (by rfl) (by kernel_rfl) (by kernel_rfl) (L := #[true, true, true, true, true, true, true, true, true, true, true, true, true, true, true, true, true, false, false, false, false]) rfl rfl (oj := _) (by rfl) (by rfl) (.there rfl (.there rfl (.there rfl .here))) (by simp) (fun w' hI => Run.fieldAddr (ft := 50) (foff := 1) (off := 1) @Try.underlying52 (by rfl) (@Try.sizeOf50 _) rfl rfl (.tmp (.there rfl (.there rfl (.there rfl (.there rfl (.there rfl (.there rfl (.there rfl (.there rfl (.there rfl (.there rfl (.there rfl (.there rfl (.there rfl (.there rfl (.there rfl (.there rfl (.there rfl (.there rfl (.there rfl (.there rfl (.there rfl (.there rfl (.there rfl (.there rfl (.there rfl (.there rfl (.there rfl (.there rfl (.there rfl (.there rfl (.there rfl (.there rfl (.there rfl (.there rfl .here)))))))))))))))))))))))))))))))))))) ?_
    refine JA.takeg 17 (by kernel_rfl) (by rfl) (by kernel_rfl) (by kernel_rfl) (L := #[true, true, true, true, true, true, true, true, true, true, true, true, true, true, true, true, true, true, false, false, false]) rfl rfl (oj := _) (by rfl) (by rfl) (.there rfl (.there rfl (.there rfl (.there rfl .here)))) (by simp) (fun w' hI => Run.loadB (@Try.isAgg50 _) (.tmp .here) (Bb35.no hI) (by rfl)) ?_
    refine JA.onlycg 18 rfl (by kernel_rfl) (L := #[true, true, true, true, true, true, true, true, true, true, true, true, true, true, true, true, true, true, true, false, false]) rfl rfl hS47 (oj := _) (by rfl) (by rfl) (.there rfl (.there rfl (.there rfl (.there rfl (.there rfl .here))))) (by simp) (Run.call @Try.call9 (.cons (.tmp .here) .nil)) (rsize_any n hn0 hn1 _) ?_
    rintro e w48 ⟨rfl, hcs⟩
    refine ⟨_, rfl, ?_⟩
    replace hS47 := hS47.no hcs
    refine JA.takeg 19 (by kernel_rfl) (by rfl) (by kernel_rfl) (by kernel_rfl) (L := #[true, true, true, true, true, true, true, true, true, true, true, true, true, true, true, true, true, true, true, true, false]) rfl rfl (oj := _) (by rfl) (by rfl) (.there rfl (.there rfl (.there rfl (.there rfl (.there rfl (.there rfl .here)))))) (by simp) (fun w' hI => Run.neq (.tmp (.there rfl (.there rfl (.there rfl .here)))) (.tmp .here)) ?_
    refine JA.take 20 (by kernel_rfl) (by rfl) (by kernel_rfl) (by kernel_rfl) (L := #[true, true, true, true, true, true, true, true, true, true, true, true, true, true, true, true, true, true, true, true, true]) rfl rfl (fun w' hI => Run.pickF (.tmp (.there rfl (.there rfl (.there rfl (.there rfl (.there rfl (.there rfl (.there rfl .here)))))))) (by simp) (.tmp .here)) ?_
    refine JA.done (by kernel_rfl) hS47 ?_
    replace Z := Z.no hS47
    replace P0 := P0.no hS47
    replace Bb35 := Bb35.no hS47
    replace hX1 := hX1.no hS47
    replace hX2 := hX2.no hS47
    replace hY := hY.no hS47
    replace hK5 := hK5.no hS47
    refine JE.seq ?_
    refine JC.condF (.tmp .here) (by simp) ?_
    have hG0 : G.length ≤ 2097152 := by omega
    have hY1 : ∀ k, ownB y k → ρ k = .none := fun k hk => (hf3 k (hYk k hk).1).1
    have hnL : ∀ k, ρ k = .none → ¬ isL ρ k := fun k hk h => by rcases h with h | h | h <;> rw [hk] at h <;> cases h
    refine JC.skip ?_
    refine JE.seq ?_
    refine JC.seq ?_
    refine JC.region ?_
    refine JL.val rfl (Run.move (.tmp (.there rfl (.there rfl (.there rfl (.there rfl (.there rfl (.there rfl (.there rfl (.there rfl (.there rfl (.there rfl (.there rfl (.there rfl (.there rfl (.there rfl (.there rfl (.there rfl (.there rfl (.there rfl (.there rfl (.there rfl (.there rfl (.there rfl (.there rfl (.there rfl (.there rfl (.there rfl (.there rfl (.there rfl (.there rfl (.there rfl (.there rfl (.there rfl (.there rfl (.there rfl (.there rfl (.there rfl (.there rfl (.there rfl (.there rfl (.there rfl (.there rfl (.there rfl (.there rfl (.there rfl (.there rfl (.there rfl (.there rfl (.there rfl (.there rfl (.there rfl (.there rfl (.there rfl (.there rfl .here))))))))))))))))))))))))))))))))))))))))))))))))))))))) ?_
    refine JL.val rfl (Run.move (.tmp (.there rfl (.there rfl (.there rfl (.there rfl (.there rfl (.there rfl (.there rfl (.there rfl (.there rfl (.there rfl (.there rfl (.there rfl (.there rfl (.there rfl (.there rfl (.there rfl (.there rfl (.there rfl (.there rfl (.there rfl (.there rfl (.there rfl (.there rfl (.there rfl (.there rfl (.there rfl (.there rfl (.there rfl (.there rfl (.there rfl (.there rfl (.there rfl (.there rfl (.there rfl .here)))))))))))))))))))))))))))))))))))) ?_
    refine JL.val rfl (Run.move (.tmp (.there rfl (.there rfl (.there rfl (.there rfl (.there rfl (.there rfl (.there rfl (.there rfl (.there rfl (.there rfl (.there rfl (.there rfl (.there rfl (.there rfl (.there rfl (.there rfl (.there rfl (.there rfl (.there rfl (.there rfl (.there rfl (.there rfl (.there rfl .here))))))))))))))))))))))))) ?_
    have hza := Z.R
    have hXa := hX1.ge
    have hXb := hX2.ge
    have hPa := P0.lt
    refine JL.call rfl (Run.call @Try.call10 (.cons (.tmp (.there rfl (.there rfl .here))) (.cons (.tmp (.there rfl .here)) (.cons (.tmp .here) .nil)))) (st_add Z (hX1.mono (Nat.zero_le _)) (fun k hk => hf1 k (hX1.ge k hk).1) hY (fun k hk => hnL k (hY1 k hk)) hx1 (by omega)) ?_
    rintro e w49 ⟨rfl, g3, g4, y3, ρ2, Z2, hag, hch⟩
    refine JRet.ret ?_
    have hysz : ∀ k, ownB y k → k < w48.heap.size := fun k hk => Nat.lt_of_lt_of_le (hYk k hk).2 hK5.size
    replace P0 := P0.ch hch (hnL _ hbp)
    have hbp2 : ρ2 b1 = .none := (hag _ hPa (fun h => by have := (hXa _ h).1; omega)).trans hbp
    replace hX2 := hX2.ch hch (fun k hk => hnL k (hf2 k (hXb k hk).1).1)
    replace hY := hY.ch hch (fun k hk => hnL k (hY1 k hk))
    have hx2r : ∀ k, ownB x2 k → ρ2 k = .none ∧ w0.heap.size ≤ k := fun k hk => ⟨(hag k (hXb k hk).2 (fun h => by have := hl12 k h; have := (hXb k hk).1; omega)).trans (hf2 k (hXb k hk).1).1, (hf2 k (hXb k hk).1).2⟩
    have hnL2 : ∀ k, ρ2 k = .none → ¬ isL ρ2 k := fun k hk h => by rcases h with h | h | h <;> rw [hk] at h <;> cases h
    have hy2r : ∀ k, ownB y k → ρ2 k = .none := fun k hk => (hag k (hysz k hk) (fun h => by have := hl13 k h; have := (hYk k hk).1; omega)).trans (hY1 k hk)
    refine JL.nil ?_
    refine JE.seq ?_
    refine JC.seq ?_
    refine JC.region ?_
    refine JL.val rfl (Run.move (.tmp (.there rfl (.there rfl (.there rfl (.there rfl (.there rfl (.there rfl (.there rfl (.there rfl (.there rfl (.there rfl (.there rfl (.there rfl (.there rfl (.there rfl (.there rfl (.there rfl (.there rfl (.there rfl (.there rfl (.there rfl (.there rfl (.there rfl (.there rfl (.there rfl (.there rfl (.there rfl (.there rfl (.there rfl (.there rfl (.there rfl (.there rfl (.there rfl (.there rfl (.there rfl (.there rfl (.there rfl (.there rfl (.there rfl (.there rfl (.there rfl (.there rfl (.there rfl (.there rfl (.there rfl (.there rfl (.there rfl (.there rfl (.there rfl (.there rfl (.there rfl (.there rfl (.there rfl (.there rfl (.there rfl (.there rfl (.there rfl (.there rfl .here))))))))))))))))))))))))))))))))))))))))))))))))))))))))))) ?_
    refine JL.val rfl (Run.move (.tmp (.there rfl (.there rfl (.there rfl (.there rfl (.there rfl (.there rfl (.there rfl (.there rfl (.there rfl (.there rfl (.there rfl (.there rfl (.there rfl (.there rfl (.there rfl (.there rfl (.there rfl (.there rfl (.there rfl (.there rfl (.there rfl (.there rfl (.there rfl (.there rfl (.there rfl (.there rfl (.there rfl (.there rfl (.there rfl (.there rfl (.there rfl (.there rfl .here)))))))))))))))))))))))))))))))))) ?_
    refine JL.val rfl (Run.move (.tmp (.there rfl (.there rfl (.there rfl (.there rfl (.there rfl (.there rfl (.there rfl (.there rfl (.there rfl (.there rfl (.there rfl (.there rfl (.there rfl (.there rfl (.there rfl (.there rfl (.there rfl (.there rfl (.there rfl (.there rfl (.there rfl (.there rfl (.there rfl (.there rfl (.there rfl (.there rfl (.there rfl .here))))))))))))))))))))))))))))) ?_
    have hPb := P0.lt
    have hXc := hX2.ge
    have hl23b : ∀ k, ownB x2 k → ρ2 k = .none := fun k hk => (hx2r k hk).1
    refine JL.call rfl (Run.call @Try.call10 (.cons (.tmp (.there rfl (.there rfl .here))) (.cons (.tmp (.there rfl .here)) (.cons (.tmp .here) .nil)))) (st_add Z2 (hX2.mono (Nat.zero_le _)) hx2r hY (fun k hk => hnL2 k (hy2r k hk)) hx2 (by simp; omega)) ?_
    rintro e w50 ⟨rfl, g5, g6, y4, ρ3, Z3, hag2, hch2⟩
    refine JRet.ret ?_
    replace P0 := P0.ch hch2 (hnL2 _ hbp2)
    have hbp3 : ρ3 b1 = .none := (hag2 _ hPb (fun h => by have := (hXc _ h).1; omega)).trans hbp2
    clear Z Z2 hX1 hX2 hY hag hag2 hch hch2
    refine JL.nil ?_
    refine JE.seq ?_
    refine JC.seq ?_
    refine JC.region ?_
    refine JL.val rfl (Run.move (.tmp (.there rfl (.there rfl (.there rfl (.there rfl (.there rfl (.there rfl (.there rfl (.there rfl (.there rfl (.there rfl (.there rfl (.there rfl (.there rfl (.there rfl (.there rfl (.there rfl (.there rfl (.there rfl (.there rfl (.there rfl (.there rfl (.there rfl (.there rfl (.there rfl (.there rfl (.there rfl (.there rfl (.there rfl (.there rfl (.there rfl (.there rfl (.there rfl (.there rfl (.there rfl (.there rfl (.there rfl (.there rfl (.there rfl (.there rfl (.there rfl (.there rfl (.there rfl (.there rfl (.there rfl (.there rfl (.there rfl (.there rfl (.there rfl (.there rfl (.there rfl (.there rfl (.there rfl (.there rfl (.there rfl (.there rfl (.there rfl (.there rfl (.there rfl (.there rfl (.there rfl (.there rfl (.there rfl .here)))))))))))))))))))))))))))))))))))))))))))))))))))))))))))))))) ?_
    refine JL.val rfl (Run.lss (.tmp .here) .const) ?_
    refine JL.val rfl (Run.move (.tmp .here)) ?_
    refine JL.gsplit (dj := 75) (want := true) .here (fun g2kB => ?_) (fun g2kB => ?_)
    · refine JL.gyesb (oj := _) (by rfl) (by rfl) .here g2kB ?_
      refine JL.val rfl (Run.move (.tmp (.there rfl (.there rfl (.there rfl (.there rfl (.there rfl (.there rfl (.there rfl (.there rfl (.there rfl (.there rfl (.there rfl (.there rfl (.there rfl (.there rfl (.there rfl (.there rfl (.there rfl (.there rfl (.there rfl (.there rfl (.there rfl (.there rfl (.there rfl (.there rfl (.there rfl (.there rfl (.there rfl (.there rfl (.there rfl (.there rfl (.there rfl (.there rfl (.there rfl (.there rfl (.there rfl (.there rfl (.there rfl (.there rfl (.there rfl (.there rfl (.there rfl (.there rfl (.there rfl (.there rfl (.there rfl (.there rfl (.there rfl (.there rfl (.there rfl (.there rfl (.there rfl (.there rfl (.there rfl (.there rfl (.there rfl (.there rfl (.there rfl (.there rfl (.there rfl (.there rfl (.there rfl (.there rfl (.there rfl (.there rfl .here)))))))))))))))))))))))))))))))))))))))))))))))))))))))))))))))))) ?_
      refine JL.gyesb (oj := _) (by rfl) (by rfl) (.there rfl .here) g2kB ?_
      refine JL.val rfl (Run.move (.tmp (.there rfl (.there rfl (.there rfl (.there rfl (.there rfl (.there rfl (.there rfl (.there rfl (.there rfl (.there rfl (.there rfl (.there rfl (.there rfl (.there rfl (.there rfl (.there rfl (.there rfl (.there rfl (.there rfl (.there rfl (.there rfl (.there rfl (.there rfl (.there rfl (.there rfl (.there rfl (.there rfl (.there rfl (.there rfl (.there rfl (.there rfl (.there rfl (.there rfl (.there rfl (.there rfl (.there rfl (.there rfl (.there rfl (.there rfl (.there rfl (.there rfl (.there rfl (.there rfl (.there rfl (.there rfl (.there rfl (.there rfl (.there rfl (.there rfl (.there rfl (.there rfl (.there rfl (.there rfl (.there rfl (.there rfl (.there rfl (.there rfl (.there rfl (.there rfl (.there rfl (.there rfl (.there rfl (.there rfl (.there rfl .here)))))))))))))))))))))))))))))))))))))))))))))))))))))))))))))))))) ?_
      refine JL.gyesb (oj := _) (by rfl) (by rfl) (.there rfl (.there rfl .here)) g2kB ?_
      have hPc := P0.lt
      refine JL.call rfl (Run.call @Try.call11 (.cons (.tmp (.there rfl .here)) (.cons (.tmp .here) (.cons .const .nil)))) (st_settle 8 Z3 (by simp; omega) (by simp; omega)) ?_
      rintro e w51 ⟨rfl, v3, v4, g7, g8, s2, ρ4, G2, Z4, hag4, hch4, ht4, -⟩
      refine JRet.ret ?_
      replace P0 := P0.ch hch4 (fun h => h.1 hbp3)
      have hbp4 := hag4 _ hPc hbp3
      clear Z3
      refine JL.gyesb (oj := _) (by rfl) (by rfl) (.there rfl (.there rfl (.there rfl .here))) g2kB ?_
      refine JL.val rfl (Run.not (.tmp .here)) ?_
      refine JL.val rfl (Run.pickT (.tmp (.there rfl (.there rfl (.there rfl (.there rfl .here))))) g2kB (.tmp .here)) ?_
      refine JL.nil ?_
      refine JE.seq ?_
      refine JC.condF (.tmp .here) (rfl) ?_
      refine JC.skip ?_
      refine JE.blk ?_
      refine JE.seq ?_
      refine JC.region ?_
      refine JL.val rfl (Run.move (.tmp (.there rfl (.there rfl (.there rfl (.there rfl (.there rfl (.there rfl (.there rfl (.there rfl (.there rfl (.there rfl (.there rfl (.there rfl (.there rfl (.there rfl (.there rfl (.there rfl (.there rfl (.there rfl (.there rfl (.there rfl (.there rfl (.there rfl (.there rfl (.there rfl (.there rfl (.there rfl (.there rfl (.there rfl (.there rfl (.there rfl (.there rfl (.there rfl (.there rfl (.there rfl (.there rfl (.there rfl (.there rfl (.there rfl (.there rfl (.there rfl (.there rfl (.there rfl (.there rfl (.there rfl (.there rfl (.there rfl (.there rfl (.there rfl (.there rfl (.there rfl (.there rfl (.there rfl (.there rfl (.there rfl (.there rfl (.there rfl (.there rfl (.there rfl (.there rfl (.there rfl (.there rfl (.there rfl (.there rfl (.there rfl (.there rfl (.there rfl (.there rfl (.there rfl (.there rfl (.there rfl .here)))))))))))))))))))))))))))))))))))))))))))))))))))))))))))))))))))))))) ?_
      refine JL.val rfl (Run.add (.tmp .here) .const (wrap_i64 (by omega))) ?_
      refine JL.val rfl (Run.assign (.tmp .here)) ?_
      refine JL.nil ?_
      exact JE.again (i + 1, s2, ρ4, v3, v4, g7, g8, G2) (.cons (.there rfl (.there rfl (.there rfl (.there rfl (.there rfl (.there rfl (.there rfl (.there rfl (.there rfl (.there rfl (.there rfl (.there rfl (.there rfl (.there rfl (.there rfl (.there rfl (.there rfl (.there rfl (.there rfl (.there rfl (.there rfl (.there rfl (.there rfl (.there rfl (.there rfl (.there rfl (.there rfl (.there rfl (.there rfl (.there rfl (.there rfl (.there rfl (.there rfl (.there rfl (.there rfl (.there rfl (.there rfl (.there rfl (.there rfl (.there rfl (.there rfl (.there rfl (.there rfl (.there rfl (.there rfl (.there rfl (.there rfl (.there rfl (.there rfl (.there rfl (.there rfl (.there rfl (.there rfl (.there rfl (.there rfl (.there rfl (.there rfl (.there rfl (.there rfl (.there rfl (.there rfl (.there rfl (.there rfl (.there rfl (.there rfl (.there rfl (.there rfl (.there rfl (.there rfl .here))))))))))))))))))))))))))))))))))))))))))))))))))))))))))))))))))))) (.cons (.there rfl (.there rfl (.there rfl (.there rfl (.there rfl (.there rfl (.there rfl (.there rfl (.there rfl (.there rfl (.there rfl (.there rfl (.there rfl (.there rfl (.there rfl (.there rfl (.there rfl (.there rfl (.there rfl (.there rfl (.there rfl (.there rfl (.there rfl (.there rfl (.there rfl (.there rfl (.there rfl (.there rfl (.there rfl (.there rfl (.there rfl (.there rfl (.there rfl (.there rfl (.there rfl (.there rfl (.there rfl (.there rfl (.there rfl (.there rfl (.there rfl (.there rfl (.there rfl (.there rfl (.there rfl (.there rfl (.there rfl (.there rfl (.there rfl (.there rfl (.there rfl (.there rfl (.there rfl (.there rfl (.there rfl (.there rfl (.there rfl (.there rfl (.there rfl (.there rfl (.there rfl (.there rfl (.there rfl (.there rfl (.there rfl (.there rfl (.there rfl (.there rfl (.there rfl (.there rfl .here)))))))))))))))))))))))))))))))))))))))))))))))))))))))))))))))))))))) (.cons (.there rfl (.there rfl (.there rfl (.there rfl (.there rfl (.there rfl (.there rfl (.there rfl (.there rfl (.there rfl (.there rfl (.there rfl (.there rfl (.there rfl (.there rfl (.there rfl (.there rfl (.there rfl (.there rfl (.there rfl (.there rfl (.there rfl (.there rfl (.there rfl (.there rfl (.there rfl (.there rfl (.there rfl (.there rfl (.there rfl (.there rfl (.there rfl (.there rfl (.there rfl (.there rfl (.there rfl (.there rfl (.there rfl (.there rfl (.there rfl (.there rfl (.there rfl (.there rfl (.there rfl (.there rfl (.there rfl (.there rfl (.there rfl (.there rfl (.there rfl (.there rfl (.there rfl (.there rfl (.there rfl (.there rfl (.there rfl (.there rfl (.there rfl (.there rfl (.there rfl (.there rfl (.there rfl (.there rfl (.there rfl (.there rfl (.there rfl (.there rfl (.there rfl (.there rfl (.there rfl (.there rfl .here))))))))))))))))))))))))))))))))))))))))))))))))))))))))))))))))))))))) (.cons (.there rfl (.there rfl (.there rfl (.there rfl (.there rfl (.there rfl (.there rfl (.there rfl (.there rfl (.there rfl (.there rfl (.there rfl (.there rfl (.there rfl (.there rfl (.there rfl (.there rfl (.there rfl (.there rfl (.there rfl (.there rfl (.there rfl (.there rfl (.there rfl (.there rfl (.there rfl (.there rfl (.there rfl (.there rfl (.there rfl (.there rfl (.there rfl (.there rfl (.there rfl (.there rfl (.there rfl (.there rfl (.there rfl (.there rfl (.there rfl (.there rfl (.there rfl (.there rfl (.there rfl (.there rfl (.there rfl (.there rfl (.there rfl (.there rfl (.there rfl (.there rfl (.there rfl (.there rfl (.there rfl (.there rfl (.there rfl (.there rfl (.there rfl (.there rfl (.there rfl (.there rfl (.there rfl (.there rfl (.there rfl (.there rfl (.there rfl (.there rfl (.there rfl (.there rfl (.there rfl (.there rfl (.there rfl .here)))))))))))))))))))))))))))))))))))))))))))))))))))))))))))))))))))))))) (.conse .here (rfl) .nil))))) (⟨by omega, Z4, P0, hbp4, by simp at ht4; omega⟩) (by simp only [hmu15]; omega)
    · refine JL.gnob rfl (oj := _) (by rfl) (by rfl) .here g2kB ?_
      refine JL.gnob rfl (oj := _) (by rfl) (by rfl) (.there rfl .here) g2kB ?_
      refine JL.gnob rfl (oj := _) (by rfl) (by rfl) (.there rfl (.there rfl .here)) g2kB ?_
      refine JL.gnob rfl (oj := _) (by rfl) (by rfl) (.there rfl (.there rfl (.there rfl .here))) g2kB ?_
      refine JL.val rfl (Run.pickF (.tmp (.there rfl (.there rfl (.there rfl (.there rfl .here))))) g2kB .const) ?_
      refine JL.nil ?_
      refine JE.seq ?_
      refine JC.condF (.tmp .here) (rfl) ?_
      refine JC.skip ?_
      refine JE.blk ?_
      refine JE.seq ?_
      refine JC.region ?_
      refine JL.val rfl (Run.move (.tmp (.there rfl (.there rfl (.there rfl (.there rfl (.there rfl (.there rfl (.there rfl (.there rfl (.there rfl (.there rfl (.there rfl (.there rfl (.there rfl (.there rfl (.there rfl (.there rfl (.there rfl (.there rfl (.there rfl (.there rfl (.there rfl (.there rfl (.there rfl (.there rfl (.there rfl (.there rfl (.there rfl (.there rfl (.there rfl (.there rfl (.there rfl (.there rfl (.there rfl (.there rfl (.there rfl (.there rfl (.there rfl (.there rfl (.there rfl (.there rfl (.there rfl (.there rfl (.there rfl (.there rfl (.there rfl (.there rfl (.there rfl (.there rfl (.there rfl (.there rfl (.there rfl (.there rfl (.there rfl (.there rfl (.there rfl (.there rfl (.there rfl (.there rfl (.there rfl (.there rfl (.there rfl (.there rfl (.there rfl (.there rfl (.there rfl (.there rfl (.there rfl (.there rfl (.there rfl (.there rfl .here)))))))))))))))))))))))))))))))))))))))))))))))))))))))))))))))))))))))) ?_
      refine JL.val rfl (Run.add (.tmp .here) .const (wrap_i64 (by omega))) ?_
      refine JL.val rfl (Run.assign (.tmp .here)) ?_
      refine JL.nil ?_
      exact JE.again (i + 1, s, ρ3, v1, v2, g5, g6, _) (.cons (.there rfl (.there rfl (.there rfl (.there rfl (.there rfl (.there rfl (.there rfl (.there rfl (.there rfl (.there rfl (.there rfl (.there rfl (.there rfl (.there rfl (.there rfl (.there rfl (.there rfl (.there rfl (.there rfl (.there rfl (.there rfl (.there rfl (.there rfl (.there rfl (.there rfl (.there rfl (.there rfl (.there rfl (.there rfl (.there rfl (.there rfl (.there rfl (.there rfl (.there rfl (.there rfl (.there rfl (.there rfl (.there rfl (.there rfl (.there rfl (.there rfl (.there rfl (.there rfl (.there rfl (.there rfl (.there rfl (.there rfl (.there rfl (.there rfl (.there rfl (.there rfl (.there rfl (.there rfl (.there rfl (.there rfl (.there rfl (.there rfl (.there rfl (.there rfl (.there rfl (.there rfl (.there rfl (.there rfl (.there rfl (.there rfl (.there rfl (.there rfl (.there rfl (.there rfl .here))))))))))))))))))))))))))))))))))))))))))))))))))))))))))))))))))))) (.cons (.there rfl (.there rfl (.there rfl (.there rfl (.there rfl (.there rfl (.there rfl (.there rfl (.there rfl (.there rfl (.there rfl (.there rfl (.there rfl (.there rfl (.there rfl (.there rfl (.there rfl (.there rfl (.there rfl (.there rfl (.there rfl (.there rfl (.there rfl (.there rfl (.there rfl (.there rfl (.there rfl (.there rfl (.there rfl (.there rfl (.there rfl (.there rfl (.there rfl (.there rfl (.there rfl (.there rfl (.there rfl (.there rfl (.there rfl (.there rfl (.there rfl (.there rfl (.there rfl (.there rfl (.there rfl (.there rfl (.there rfl (.there rfl (.there rfl (.there rfl (.there rfl (.there rfl (.there rfl (.there rfl (.there rfl (.there rfl (.there rfl (.there rfl (.there rfl (.there rfl (.there rfl (.there rfl (.there rfl (.there rfl (.there rfl (.there rfl (.there rfl (.there rfl (.there rfl (.there rfl .here)))))))))))))))))))))))))))))))))))))))))))))))))))))))))))))))))))))) (.cons (.there rfl (.there rfl (.there rfl (.there rfl (.there rfl (.there rfl (.there rfl (.there rfl (.there rfl (.there rfl (.there rfl (.there rfl (.there rfl (.there rfl (.there rfl (.there rfl (.there rfl (.there rfl (.there rfl (.there rfl (.there rfl (.there rfl (.there rfl (.there rfl (.there rfl (.there rfl (.there rfl (.there rfl (.there rfl (.there rfl (.there rfl (.there rfl (.there rfl (.there rfl (.there rfl (.there rfl (.there rfl (.there rfl (.there rfl (.there rfl (.there rfl (.there rfl (.there rfl (.there rfl (.there rfl (.there rfl (.there rfl (.there rfl (.there rfl (.there rfl (.there rfl (.there rfl (.there rfl (.there rfl (.there rfl (.there rfl (.there rfl (.there rfl (.there rfl (.there rfl (.there rfl (.there rfl (.there rfl (.there rfl (.there rfl (.there rfl (.there rfl (.there rfl (.there rfl (.there rfl (.there rfl .here))))))))))))))))))))))))))))))))))))))))))))))))))))))))))))))))))))))) (.cons (.there rfl (.there rfl (.there rfl (.there rfl (.there rfl (.there rfl (.there rfl (.there rfl (.there rfl (.there rfl (.there rfl (.there rfl (.there rfl (.there rfl (.there rfl (.there rfl (.there rfl (.there rfl (.there rfl (.there rfl (.there rfl (.there rfl (.there rfl (.there rfl (.there rfl (.there rfl (.there rfl (.there rfl (.there rfl (.there rfl (.there rfl (.there rfl (.there rfl (.there rfl (.there rfl (.there rfl (.there rfl (.there rfl (.there rfl (.there rfl (.there rfl (.there rfl (.there rfl (.there rfl (.there rfl (.there rfl (.there rfl (.there rfl (.there rfl (.there rfl (.there rfl (.there rfl (.there rfl (.there rfl (.there rfl (.there rfl (.there rfl (.there rfl (.there rfl (.there rfl (.there rfl (.there rfl (.there rfl (.there rfl (.there rfl (.there rfl (.there rfl (.there rfl (.there rfl (.there rfl (.there rfl (.there rfl .here)))))))))))))))))))))))))))))))))))))))))))))))))))))))))))))))))))))))) (.conse .here (rfl) .nil))))) (⟨by omega, Z3, P0, hbp3, by simp; omega⟩) (by simp only [hmu15]; omega)
  · have hlt := of_decide_eq_false hlt
    refine JC.exit ?_
    refine JE.exit_seq ?_
    refine JE.exit_seq ?_
    refine JE.exit_here ?_
    refine JE.seq ?_
    refine JC.seq ?_
    refine JC.seq ?_
    refine JC.region ?_
    refine JL.val rfl (Run.assign .const) ?_
    refine JL.nil ?_
    refine JE.seq ?_
    refine JC.block ?_
    refine JC.loop (α := Nat) (fun j => [(1, .pointer (some ⟨b1, 0, none⟩)), (2, .bool false), (3, .pointer (some ⟨b5, 0, none⟩)), (4, .pointer (some ⟨b9, 0, none⟩)), (10, .int .i64 (j : Int))]) (fun j w => j ≤ bs.length ∧ St w0 w ρ b5 b9 v1 v2 g1 g2 s G ∧ Blk w b1 25 [.slice a as_.length ca, .slice b bs.length cb]) (fun j => bs.length - j) 0 ⟨Nat.zero_le _, Z, P0⟩ (.cons (.there rfl (.there rfl (.there rfl (.there rfl (.there rfl (.there rfl .here)))))) (.cons (.there rfl (.there rfl (.there rfl (.there rfl (.there rfl (.there rfl (.there rfl .here))))))) (.cons (.there rfl (.there rfl (.there rfl (.there rfl (.there rfl (.there rfl (.there rfl (.there rfl .here)))))))) (.cons (.there rfl (.there rfl (.there rfl (.there rfl (.there rfl (.there rfl (.there rfl (.there rfl (.there rfl .here))))))))) (.conse .here (rfl) .nil))))) ?_
    rintro j w16 m17 ⟨hj, Z, P0⟩ hmu18
    show JC _ _ _ _ _ [(1, .pointer (some ⟨b1, 0, none⟩)), (2, .bool false), (3, .pointer (some ⟨b5, 0, none⟩)), (4, .pointer (some ⟨b9, 0, none⟩)), (10, .int .i64 (j : Int))] _
    refine JC.seq ?_
    refine JC.seq ?_
    refine JC.region ?_
    refine JL.val rfl (Run.move (.tmp (.there rfl (.there rfl (.there rfl (.there rfl .here)))))) ?_
    refine JL.val rfl (Run.fieldAddr (ft := 23) (foff := 1) (off := 1) @Try.underlying25 (by rfl) (@Try.sizeOf23 _) rfl rfl (.tmp (.there rfl .here))) ?_
    refine JL.val rfl (Run.loadB (@Try.isAgg23 _) (.tmp .here) P0 (by rfl)) ?_
    refine JL.val rfl (Run.len @Try.underlying23 (.tmp .here)) ?_
    refine JL.val rfl (Run.lss (.tmp (.there rfl (.there rfl (.there rfl .here)))) (.tmp .here)) ?_
    refine JL.nil ?_
    refine JE.seq ?_
    refine JC.cond (.tmp .here) (fun hlt2 => ?_) (fun hlt2 => ?_)
    · have hlt2 := of_decide_eq_true hlt2
      have hbl := hB.1
      have hjl : j < bs.length := by omega
      obtain ⟨qb, qo, qv, rfl, hcB, hsl, hlen⟩ := hB.2 j hjl
      obtain ⟨l, hl⟩ : ∃ l, l = bs[j] := ⟨_, rfl⟩
      rw [← hl] at hsl hlen
      refine JC.skip ?_
      refine JE.seq ?_
      refine JC.seq ?_
      refine JC.block ?_
      refine JC.seq ?_
      refine JC.region ?_
      refine JL.val rfl (Run.fieldAddr (ft := 23) (foff := 1) (off := 1) @Try.underlying25 (by rfl) (@Try.sizeOf23 _) rfl rfl (.tmp (.there rfl (.there rfl (.there rfl (.there rfl (.there rfl .here))))))) ?_
      refine JL.val rfl (Run.loadB (@Try.isAgg23 _) (.tmp .here) P0 (by rfl)) ?_
      refine JL.val rfl (Run.move (.tmp (.there rfl (.there rfl (.there rfl (.there rfl (.there rfl (.there rfl (.there rfl (.there rfl (.there rfl (.there rfl (.there rfl .here))))))))))))) ?_
      refine JL.val rfl (Run.indexAddr (m := j) @Try.underlying23 (@Try.sizeOf53 _) (.tmp (.there rfl .here)) (.tmp .here) (rfl) (by omega) rfl) ?_
      refine JL.val rfl (Run.load (@Try.isAgg53 _) (.tmp .here) (by first | exact (Z.ch.cell hcB))) ?_
      have hfz : ∀ k, w16.heap.size ≤ k → ρ k = .none ∧ w0.heap.size ≤ k := fun k hk => ⟨by
        by_cases h : ρ k = .none
        · exact h
        · exact absurd (Z.R k h).2 (by omega), Nat.le_trans Z.Gb hk⟩
      have hPl := P0.lt
      refine JL.call rfl (Run.call @Try.call12 (.cons (.tmp .here) .nil)) (lent_any _ (hsl.no Z.ch) hlen) ?_
      rintro e w19 ⟨lb, lcap, rfl, hL, hlb, hc1⟩
      refine JRet.ret ?_
      replace Z := Z.no hc1
      replace P0 := P0.no hc1
      refine JL.val rfl (Run.assign (.tmp .here)) ?_
      refine JL.nil ?_
      refine JE.seq ?_
      refine JC.seq ?_
      refine JC.seq ?_
      refine JC.region ?_
      refine JL.val rfl (Run.move (.tmp .here)) ?_
      refine JL.val rfl (Run.fieldAddr (ft := 23) (foff := 1) (off := 1) @Try.underlying25 (by rfl) (@Try.sizeOf23 _) rfl rfl (.tmp (.there rfl (.there rfl (.there rfl (.there rfl (.there rfl (.there rfl (.there rfl (.there rfl (.there rfl (.there rfl (.there rfl (.there rfl (.there rfl .here))))))))))))))) ?_
      refine JL.val rfl (Run.loadB (@Try.isAgg23 _) (.tmp .here) P0 (by rfl)) ?_
      refine JL.val rfl (Run.move (.tmp (.there rfl (.there rfl (.there rfl (.there rfl (.there rfl (.there rfl (.there rfl (.there rfl (.there rfl (.there rfl (.there rfl (.there rfl (.there rfl (.there rfl (.there rfl (.there rfl (.there rfl (.there rfl (.there rfl .here))))))))))))))))))))) ?_
      refine JL.val rfl (Run.indexAddr (m := j) @Try.underlying23 (@Try.sizeOf53 _) (.tmp (.there rfl .here)) (.tmp .here) (rfl) (by omega) rfl) ?_
      refine JL.val rfl (Run.load (@Try.isAgg53 _) (.tmp .here) (by first | exact (Z.ch.cell hcB))) ?_
      refine JL.call rfl (Run.call @Try.call13 (.cons (.tmp (.there rfl (.there rfl (.there rfl (.there rfl (.there rfl .here)))))) (.cons (.tmp .here) .nil))) (reads_any _ (lent_slb2 hL rfl) (hsl.no Z.ch)) ?_
      rintro e w21 ⟨rfl, hcr20⟩
      refine JRet.ret ?_
      replace Z := Z.no hcr20
      replace P0 := P0.no hcr20
      replace hL := hL.no hcr20
      refine JL.val rfl (Run.not (.tmp .here)) ?_
      refine JL.val rfl (Run.move (.tmp .here)) ?_
      refine JL.gyesb (oj := _) (by rfl) (by rfl) .here rfl ?_
      refine JL.val rfl (Run.move (.tmp (.there rfl (.there rfl (.there rfl (.there rfl (.there rfl (.there rfl (.there rfl (.there rfl (.there rfl .here))))))))))) ?_
      refine JL.gyesb (oj := _) (by rfl) (by rfl) (.there rfl .here) rfl ?_
      refine JL.val rfl (Run.fieldAddr (ft := 23) (foff := 1) (off := 1) @Try.underlying25 (by rfl) (@Try.sizeOf23 _) rfl rfl (.tmp (.there rfl (.there rfl (.there rfl (.there rfl (.there rfl (.there rfl (.there rfl (.there rfl (.there rfl (.there rfl (.there rfl (.there rfl (.there rfl (.there rfl (.there rfl (.there rfl (.there rfl (.there rfl (.there rfl (.there rfl (.there rfl (.there rfl .here)))))))))))))))))))))))) ?_
      refine JL.gyesb (oj := _) (by rfl) (by rfl) (.there rfl (.there rfl .here)) rfl ?_
      refine JL.val rfl (Run.loadB (@Try.isAgg23 _) (.tmp .here) P0 (by rfl)) ?_
      refine JL.gyesb (oj := _) (by rfl) (by rfl) (.there rfl (.there rfl (.there rfl .here))) rfl ?_
      refine JL.val rfl (Run.move (.tmp (.there rfl (.there rfl (.there rfl (.there rfl (.there rfl (.there rfl (.there rfl (.there rfl (.there rfl (.there rfl (.there rfl (.there rfl (.there rfl (.there rfl (.there rfl (.there rfl (.there rfl (.there rfl (.there rfl (.there rfl (.there rfl (.there rfl (.there rfl (.there rfl (.there rfl (.there rfl (.there rfl (.there rfl .here)))))))))))))))))))))))))))))) ?_
      refine JL.gyesb (oj := _) (by rfl) (by rfl) (.there rfl (.there rfl (.there rfl (.there rfl .here)))) rfl ?_
      refine JL.val rfl (Run.indexAddr (m := j) @Try.underlying23 (@Try.sizeOf53 _) (.tmp (.there rfl .here)) (.tmp .here) (rfl) (by omega) rfl) ?_
      refine JL.gyesb (oj := _) (by rfl) (by rfl) (.there rfl (.there rfl (.there rfl (.there rfl (.there rfl .here))))) rfl ?_
      refine JL.val rfl (Run.load (@Try.isAgg53 _) (.tmp .here) (by first | exact (Z.ch.cell hcB))) ?_
      refine JL.gyesb (oj := _) (by rfl) (by rfl) (.there rfl (.there rfl (.there rfl (.there rfl (.there rfl (.there rfl .here)))))) rfl ?_
      refine JL.call rfl (Run.call @Try.call13 (.cons (.tmp (.there rfl (.there rfl (.there rfl (.there rfl (.there rfl .here)))))) (.cons (.tmp .here) .nil))) (reads_any _ (lent_slb2 hL rfl) (hsl.no Z.ch)) ?_
      rintro e w23 ⟨rfl, hcr22⟩
      refine JRet.ret ?_
      replace Z := Z.no hcr22
      replace P0 := P0.no hcr22
      replace hL := hL.no hcr22
      refine JL.gyesb (oj := _) (by rfl) (by rfl) (.there rfl (.there rfl (.there rfl (.there rfl (.there rfl (.there rfl (.there rfl .here))))))) rfl ?_
      refine JL.val rfl (Run.not (.tmp .here)) ?_
      refine JL.val rfl (Run.pickF (.tmp (.there rfl (.there rfl (.there rfl (.there rfl (.there rfl (.there rfl (.there rfl (.there rfl .here))))))))) rfl (.tmp .here)) ?_
      refine JL.val rfl (Run.move (.tmp .here)) ?_
      refine JL.gyesb (oj := _) (by rfl) (by rfl) .here rfl ?_
      refine JL.val rfl (Run.move (.tmp (.there rfl (.there rfl (.there rfl (.there rfl (.there rfl (.there rfl (.there rfl (.there rfl (.there rfl (.there rfl (.there rfl (.there rfl (.there rfl (.there rfl (.there rfl (.there rfl (.there rfl (.there rfl (.there rfl .here))))))))))))))))))))) ?_
      refine JL.gyesb (oj := _) (by rfl) (by rfl) (.there rfl .here) rfl ?_
      refine JL.val rfl (Run.fieldAddr (ft := 23) (foff := 1) (off := 1) @Try.underlying25 (by rfl) (@Try.sizeOf23 _) rfl rfl (.tmp (.there rfl (.there rfl (.there rfl (.there rfl (.there rfl (.there rfl (.there rfl (.there rfl (.there rfl (.there rfl (.there rfl (.there rfl (.there rfl (.there rfl (.there rfl (.there rfl (.there rfl (.there rfl (.there rfl (.there rfl (.there rfl (.there rfl (.there rfl (.there rfl (.there rfl (.there rfl (.there rfl (.there rfl (.there rfl (.there rfl (.there rfl (.there rfl .here)))))))))))))))))))))))))))))))))) ?_
      refine JL.gyesb (oj := _) (by rfl) (by rfl) (.there rfl (.there rfl .here)) rfl ?_
      refine JL.val rfl (Run.loadB (@Try.isAgg23 _) (.tmp .here) P0 (by rfl)) ?_
      refine JL.gyesb (oj := _) (by rfl) (by rfl) (.there rfl (.there rfl (.there rfl .here))) rfl ?_
      refine JL.val rfl (Run.move (.tmp (.there rfl (.there rfl (.there rfl (.there rfl (.there rfl (.there rfl (.there rfl (.there rfl (.there rfl (.there rfl (.there rfl (.there rfl (.there rfl (.there rfl (.there rfl (.there rfl (.there rfl (.there rfl (.there rfl (.there rfl (.there rfl (.there rfl (.there rfl (.there rfl (.there rfl (.there rfl (.there rfl (.there rfl (.there rfl (.there rfl (.there rfl (.there rfl (.there rfl (.there rfl (.there rfl (.there rfl (.there rfl (.there rfl .here)))))))))))))))))))))))))))))))))))))))) ?_
      refine JL.gyesb (oj := _) (by rfl) (by rfl) (.there rfl (.there rfl (.there rfl (.there rfl .here)))) rfl ?_
      refine JL.val rfl (Run.indexAddr (m := j) @Try.underlying23 (@Try.sizeOf53 _) (.tmp (.there rfl .here)) (.tmp .here) (rfl) (by omega) rfl) ?_
      refine JL.gyesb (oj := _) (by rfl) (by rfl) (.there rfl (.there rfl (.there rfl (.there rfl (.there rfl .here))))) rfl ?_
      refine JL.val rfl (Run.load (@Try.isAgg53 _) (.tmp .here) (by first | exact (Z.ch.cell hcB))) ?_
      refine JL.gyesb (oj := _) (by rfl) (by rfl) (.there rfl (.there rfl (.there rfl (.there rfl (.there rfl (.there rfl .here)))))) rfl ?_
      refine JL.call rfl (Run.call @Try.call14 (.cons (.tmp (.there rfl (.there rfl (.there rfl (.there rfl (.there rfl .here)))))) (.cons (.tmp .here) .nil))) (intact_len _ hL (hsl.no Z.ch) rfl) ?_
      rintro e w25 ⟨rfl, hcr24⟩
      refine JRet.ret ?_
      replace Z := Z.no hcr24
      replace P0 := P0.no hcr24
      replace hL := hL.no hcr24
      refine JL.gyesb (oj := _) (by rfl) (by rfl) (.there rfl (.there rfl (.there rfl (.there rfl (.there rfl (.there rfl (.there rfl .here))))))) rfl ?_
      refine JL.val rfl (Run.not (.tmp .here)) ?_
      refine JL.val rfl (Run.pickF (.tmp (.there rfl (.there rfl (.there rfl (.there rfl (.there rfl (.there rfl (.there rfl (.there rfl .here))))))))) rfl (.tmp .here)) ?_
      refine JL.nil ?_
      refine JE.seq ?_
      refine JC.condF (.tmp .here) (rfl) ?_
      refine JC.skip ?_
      refine JE.seq ?_
      refine JC.seq ?_
      refine JC.region ?_
      refine JL.val rfl (Run.fieldAddr (ft := 23) (foff := 1) (off := 1) @Try.underlying25 (by rfl) (@Try.sizeOf23 _) rfl rfl (.tmp (.there rfl (.there rfl (.there rfl (.there rfl (.there rfl (.there rfl (.there rfl (.there rfl (.there rfl (.there rfl (.there rfl (.there rfl (.there rfl (.there rfl (.there rfl (.there rfl (.there rfl (.there rfl (.there rfl (.there rfl (.there rfl (.there rfl (.there rfl (.there rfl (.there rfl (.there rfl (.there rfl (.there rfl (.there rfl (.there rfl (.there rfl (.there rfl (.there rfl (.there rfl (.there rfl (.there rfl (.there rfl (.there rfl (.there rfl (.there rfl .here)))))))))))))))))))))))))))))))))))))))))) ?_
      refine JL.val rfl (Run.loadB (@Try.isAgg23 _) (.tmp .here) P0 (by rfl)) ?_
      refine JL.val rfl (Run.move (.tmp (.there rfl (.there rfl (.there rfl (.there rfl (.there rfl (.there rfl (.there rfl (.there rfl (.there rfl (.there rfl (.there rfl (.there rfl (.there rfl (.there rfl (.there rfl (.there rfl (.there rfl (.there rfl (.there rfl (.there rfl (.there rfl (.there rfl (.there rfl (.there rfl (.there rfl (.there rfl (.there rfl (.there rfl (.there rfl (.there rfl (.there rfl (.there rfl (.there rfl (.there rfl (.there rfl (.there rfl (.there rfl (.there rfl (.there rfl (.there rfl (.there rfl (.there rfl (.there rfl (.there rfl (.there rfl (.there rfl .here)))))))))))))))))))))))))))))))))))))))))))))))) ?_
      refine JL.val rfl (Run.indexAddr (m := j) @Try.underlying23 (@Try.sizeOf53 _) (.tmp (.there rfl .here)) (.tmp .here) (rfl) (by omega) rfl) ?_
      refine JL.val rfl (Run.load (@Try.isAgg53 _) (.tmp .here) (by first | exact (Z.ch.cell hcB))) ?_
      have hlbw := lent_lt hL
      refine JL.call rfl (Run.call @Try.call15 (.cons (.tmp .here) .nil)) (other_any _ (hsl.no Z.ch) hlen) ?_
      rintro e w26 ⟨v5, l2, rfl, hs2, hl2, hk2, hc2⟩
      refine JRet.ret ?_
      replace Z := Z.no hc2
      replace P0 := P0.no hc2
      replace hL := hL.no hc2
      refine JL.val rfl (Run.assign (.tmp .here)) ?_
      refine JL.nil ?_
      refine JE.seq ?_
      refine JC.seq ?_
      refine JC.region ?_
      refine JL.val rfl (Run.move (.tmp (.there rfl (.there rfl (.there rfl (.there rfl (.there rfl (.there rfl (.there rfl (.there rfl (.there rfl (.there rfl (.there rfl (.there rfl (.there rfl (.there rfl (.there rfl (.there rfl (.there rfl (.there rfl (.there rfl (.there rfl (.there rfl (.there rfl (.there rfl (.there rfl (.there rfl (.there rfl (.there rfl (.there rfl (.there rfl (.there rfl (.there rfl (.there rfl (.there rfl (.there rfl (.there rfl .here))))))))))))))))))))))))))))))))))))) ?_
      refine JL.val rfl (Run.move (.tmp (.there rfl .here))) ?_
      have hne : ∀ k, ownB v5 k → k ≠ lb := fun k hk => by have := hk2 k hk; omega
      refine JL.call rfl (Run.call @Try.call16 (.cons (.tmp (.there rfl .here)) (.cons (.tmp .here) .nil))) (into_any _ hL hs2 hl2 hne) ?_
      rintro e w27 ⟨rfl, hL2, hci⟩
      refine JRet.ret ?_
      replace Z := Z.one hci (hfz lb hlb).1 (hfz lb hlb).2
      replace P0 := P0.ch hci (fun h => by have h2 : _ = lb := h; omega)
      replace hs2 := hs2.ch hci (fun k hk h => hne k hk h)
      clear hL
      refine JL.nil ?_
      refine JE.seq ?_
      refine JC.seq ?_
      refine JC.region ?_
      refine JL.val rfl (Run.move (.tmp (.there rfl (.there rfl (.there rfl (.there rfl (.there rfl (.there rfl (.there rfl (.there rfl (.there rfl (.there rfl (.there rfl (.there rfl (.there rfl (.there rfl (.there rfl (.there rfl (.there rfl (.there rfl (.there rfl (.there rfl (.there rfl (.there rfl (.there rfl (.there rfl (.there rfl (.there rfl (.there rfl (.there rfl (.there rfl (.there rfl (.there rfl (.there rfl (.there rfl (.there rfl (.there rfl (.there rfl (.there rfl (.there rfl .here)))))))))))))))))))))))))))))))))))))))) ?_
      refine JL.val rfl (Run.move (.tmp (.there rfl (.there rfl (.there rfl (.there rfl .here)))))) ?_
      refine JL.call rfl (Run.call @Try.call13 (.cons (.tmp (.there rfl .here)) (.cons (.tmp .here) .nil))) (reads_any _ (lent_slb2 hL2 hl2) hs2) ?_
      rintro e w29 ⟨rfl, hcr28⟩
      refine JRet.ret ?_
      replace Z := Z.no hcr28
      replace P0 := P0.no hcr28
      replace hs2 := hs2.no hcr28
      replace hL2 := hL2.no hcr28
      refine JL.val rfl (Run.not (.tmp .here)) ?_
      refine JL.val rfl (Run.move (.tmp .here)) ?_
      refine JL.gyesb (oj := _) (by rfl) (by rfl) .here rfl ?_
      refine JL.val rfl (Run.move (.tmp (.there rfl (.there rfl (.there rfl (.there rfl (.there rfl (.there rfl (.there rfl (.there rfl (.there rfl (.there rfl (.there rfl (.there rfl (.there rfl (.there rfl (.there rfl (.there rfl (.there rfl (.there rfl (.there rfl (.there rfl (.there rfl (.there rfl (.there rfl (.there rfl (.there rfl (.there rfl (.there rfl (.there rfl (.there rfl (.there rfl (.there rfl (.there rfl (.there rfl (.there rfl (.there rfl (.there rfl (.there rfl (.there rfl (.there rfl (.there rfl (.there rfl (.there rfl (.there rfl .here))))))))))))))))))))))))))))))))))))))))))))) ?_
      refine JL.gyesb (oj := _) (by rfl) (by rfl) (.there rfl .here) rfl ?_
      refine JL.val rfl (Run.move (.tmp (.there rfl (.there rfl (.there rfl (.there rfl (.there rfl (.there rfl (.there rfl (.there rfl (.there rfl .here))))))))))) ?_
      refine JL.gyesb (oj := _) (by rfl) (by rfl) (.there rfl (.there rfl .here)) rfl ?_
      refine JL.call rfl (Run.call @Try.call14 (.cons (.tmp (.there rfl .here)) (.cons (.tmp .here) .nil))) (intact_len _ hL2 hs2 hl2) ?_
      rintro e w31 ⟨rfl, hcr30⟩
      refine JRet.ret ?_
      replace Z := Z.no hcr30
      replace P0 := P0.no hcr30
      replace hs2 := hs2.no hcr30
      replace hL2 := hL2.no hcr30
      refine JL.gyesb (oj := _) (by rfl) (by rfl) (.there rfl (.there rfl (.there rfl .here))) rfl ?_
      refine JL.val rfl (Run.not (.tmp .here)) ?_
      refine JL.val rfl (Run.pickF (.tmp (.there rfl (.there rfl (.there rfl (.there rfl .here))))) rfl (.tmp .here)) ?_
      refine JL.nil ?_
      refine JE.seq ?_
      refine JC.condF (.tmp .here) (rfl) ?_
      refine JC.skip ?_
      refine JE.blk ?_
      refine JE.seq ?_
      refine JC.region ?_
      refine JL.val rfl (Run.move (.tmp (.there rfl (.there rfl (.there rfl (.there rfl (.there rfl (.there rfl (.there rfl (.there rfl (.there rfl (.there rfl (.there rfl (.there rfl (.there rfl (.there rfl (.there rfl (.there rfl (.there rfl (.there rfl (.there rfl (.there rfl (.there rfl (.there rfl (.there rfl (.there rfl (.there rfl (.there rfl (.there rfl (.there rfl (.there rfl (.there rfl (.there rfl (.there rfl (.there rfl (.there rfl (.there rfl (.there rfl (.there rfl (.there rfl (.there rfl (.there rfl (.there rfl (.there rfl (.there rfl (.there rfl (.there rfl (.there rfl (.there rfl (.there rfl (.there rfl (.there rfl (.there rfl (.there rfl (.there rfl (.there rfl (.there rfl (.there rfl (.there rfl (.there rfl (.there rfl (.there rfl (.there rfl (.there rfl (.there rfl (.there rfl .here)))))))))))))))))))))))))))))))))))))))))))))))))))))))))))))))))) ?_
      refine JL.val rfl (Run.add (.tmp .here) .const (wrap_i64 (by omega))) ?_
      refine JL.val rfl (Run.assign (.tmp .here)) ?_
      refine JL.nil ?_
      exact JE.again (j + 1) (.cons (.there rfl (.there rfl (.there rfl (.there rfl (.there rfl (.there rfl (.there rfl (.there rfl (.there rfl (.there rfl (.there rfl (.there rfl (.there rfl (.there rfl (.there rfl (.there rfl (.there rfl (.there rfl (.there rfl (.there rfl (.there rfl (.there rfl (.there rfl (.there rfl (.there rfl (.there rfl (.there rfl (.there rfl (.there rfl (.there rfl (.there rfl (.there rfl (.there rfl (.there rfl (.there rfl (.there rfl (.there rfl (.there rfl (.there rfl (.there rfl (.there rfl (.there rfl (.there rfl (.there rfl (.there rfl (.there rfl (.there rfl (.there rfl (.there rfl (.there rfl (.there rfl (.there rfl (.there rfl (.there rfl (.there rfl (.there rfl (.there rfl (.there rfl (.there rfl (.there rfl (.there rfl (.there rfl (.there rfl .here))))))))))))))))))))))))))))))))))))))))))))))))))))))))))))))) (.cons (.there rfl (.there rfl (.there rfl (.there rfl (.there rfl (.there rfl (.there rfl (.there rfl (.there rfl (.there rfl (.there rfl (.there rfl (.there rfl (.there rfl (.there rfl (.there rfl (.there rfl (.there rfl (.there rfl (.there rfl (.there rfl (.there rfl (.there rfl (.there rfl (.there rfl (.there rfl (.there rfl (.there rfl (.there rfl (.there rfl (.there rfl (.there rfl (.there rfl (.there rfl (.there rfl (.there rfl (.there rfl (.there rfl (.there rfl (.there rfl (.there rfl (.there rfl (.there rfl (.there rfl (.there rfl (.there rfl (.there rfl (.there rfl (.there rfl (.there rfl (.there rfl (.there rfl (.there rfl (.there rfl (.there rfl (.there rfl (.there rfl (.there rfl (.there rfl (.there rfl (.there rfl (.there rfl (.there rfl (.there rfl .here)))))))))))))))))))))))))))))))))))))))))))))))))))))))))))))))) (.cons (.there rfl (.there rfl (.there rfl (.there rfl (.there rfl (.there rfl (.there rfl (.there rfl (.there rfl (.there rfl (.there rfl (.there rfl (.there rfl (.there rfl (.there rfl (.there rfl (.there rfl (.there rfl (.there rfl (.there rfl (.there rfl (.there rfl (.there rfl (.there rfl (.there rfl (.there rfl (.there rfl (.there rfl (.there rfl (.there rfl (.there rfl (.there rfl (.there rfl (.there rfl (.there rfl (.there rfl (.there rfl (.there rfl (.there rfl (.there rfl (.there rfl (.there rfl (.there rfl (.there rfl (.there rfl (.there rfl (.there rfl (.there rfl (.there rfl (.there rfl (.there rfl (.there rfl (.there rfl (.there rfl (.there rfl (.there rfl (.there rfl (.there rfl (.there rfl (.there rfl (.there rfl (.there rfl (.there rfl (.there rfl (.there rfl .here))))))))))))))))))))))))))))))))))))))))))))))))))))))))))))))))) (.cons (.there rfl (.there rfl (.there rfl (.there rfl (.there rfl (.there rfl (.there rfl (.there rfl (.there rfl (.there rfl (.there rfl (.there rfl (.there rfl (.there rfl (.there rfl (.there rfl (.there rfl (.there rfl (.there rfl (.there rfl (.there rfl (.there rfl (.there rfl (.there rfl (.there rfl (.there rfl (.there rfl (.there rfl (.there rfl (.there rfl (.there rfl (.there rfl (.there rfl (.there rfl (.there rfl (.there rfl (.there rfl (.there rfl (.there rfl (.there rfl (.there rfl (.there rfl (.there rfl (.there rfl (.there rfl (.there rfl (.there rfl (.there rfl (.there rfl (.there rfl (.there rfl (.there rfl (.there rfl (.there rfl (.there rfl (.there rfl (.there rfl (.there rfl (.there rfl (.there rfl (.there rfl (.there rfl (.there rfl (.there rfl (.there rfl (.there rfl .here)))))))))))))))))))))))))))))))))))))))))))))))))))))))))))))))))) (.conse .here (rfl) .nil))))) (⟨by omega, Z, P0⟩) (by simp only [hmu18]; omega)
    · have hlt2 := of_decide_eq_false hlt2
      refine JC.exit ?_
      refine JE.exit_seq ?_
      refine JE.exit_seq ?_
      refine JE.exit_here ?_
      refine JE.seq ?_
      refine JC.seq ?_
      refine JC.region ?_
      refine JL.call rfl (Run.call @Try.call17 .nil) (lays_any _) ?_
      rintro e w32 ⟨rfl, hc1⟩
      refine JRet.ret ?_
      replace Z := Z.no hc1
      replace P0 := P0.no hc1
      refine JL.val rfl (Run.move (.tmp .here)) ?_
      refine JL.gyesb (oj := _) (by rfl) (by rfl) .here rfl ?_
      refine JL.val rfl (Run.move (.tmp (.there rfl (.there rfl (.there rfl (.there rfl (.there rfl (.there rfl (.there rfl (.there rfl (.there rfl (.there rfl .here)))))))))))) ?_
      refine JL.gyesb (oj := _) (by rfl) (by rfl) (.there rfl .here) rfl ?_
      refine JL.val rfl (Run.move (.tmp (.there rfl (.there rfl (.there rfl (.there rfl (.there rfl (.there rfl (.there rfl (.there rfl (.there rfl (.there rfl .here)))))))))))) ?_
      refine JL.gyesb (oj := _) (by rfl) (by rfl) (.there rfl (.there rfl .here)) rfl ?_
      refine JL.call rfl (Run.call @Try.call11 (.cons (.tmp (.there rfl .here)) (.cons (.tmp .here) (.cons .const .nil)))) (st_settle 0 Z (by omega) (by omega)) ?_
      rintro e w33 ⟨rfl, v3, v4, g7, g8, s2, ρ4, G2, Z4, hag4, hch4, ht4, -⟩
      refine JRet.ret ?_
      refine JL.val rfl (Run.pickT (.tmp (.there rfl (.there rfl (.there rfl .here)))) rfl (.tmp .here)) ?_
      refine JL.val rfl (Run.move (.tmp .here)) ?_
      refine JL.gyesb (oj := _) (by rfl) (by rfl) .here rfl ?_
      refine JL.val rfl (Run.move (.tmp (.there rfl (.there rfl (.there rfl (.there rfl (.there rfl (.there rfl (.there rfl (.there rfl (.there rfl (.there rfl (.there rfl (.there rfl (.there rfl (.there rfl .here)))))))))))))))) ?_
      refine JL.gyesb (oj := _) (by rfl) (by rfl) (.there rfl .here) rfl ?_
      refine JL.call rfl (Run.call @Try.call18 (.cons (.tmp .here) .nil)) (look_any _ Z4.C Z4.K Z4.R Z4.Gb Z4.H) ?_
      rintro e w34 ⟨u3, u4, s3, ρ5, rfl, C5, K5, R5, G5, hag5, hch5, ht5, hu5, H5⟩
      refine JRet.ret ?_
      refine JL.val rfl (Run.pickT (.tmp (.there rfl (.there rfl .here))) rfl (.tmp .here)) ?_
      refine JL.val rfl (Run.assign (.tmp .here)) ?_
      refine JL.nil ?_
      refine JE.keep (L := _) (.cons .here .nil) ?_
      refine JE.seq ?_
      refine JC.ret ?_
      refine JE.ret1 @Try.results3 .here ?_
      exact ⟨rfl, Z4.ch.comp hch5 (fun k hk hlt => by have := (Z4.R k (isB_none hk)).1; omega)⟩

end Go.Proofs.Ytggngmmbpkoooaa.Bk
