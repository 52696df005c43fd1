/- The engine, reflected: operations are carried out by the kernel on what is known of the frame and of memory; one rule for a whole list of operations. Over any program. -/
import Derived.Test.YtodeldmdbeocfaaGreatDoorEngOps
import Derived.Orders
namespace Go.Proofs.YtodeldmdbeocfaaGreatDoor.Eng
open Go
set_option linter.unusedVariables false
set_option linter.unusedSimpArgs false

/-! ## What is known of memory: blocks that are known whole -/
abbrev Hp := List (Nat × TypeId × List Value)
/-- What is settled: cells that no one turns any more. -/
abbrev Fz := Nat → Nat → Option Value
def Fz.le (φ ψ : Fz) : Prop := ∀ b o v, φ b o = some v → ψ b o = some v
def Agree (w : World) (φ : Fz) : Prop := ∀ b o v, φ b o = some v → w.cell? ⟨b, o, none⟩ = some v
structure Mem (B : World) (pre : List Nat) (φ : Fz) (H : Hp) (w : World) : Prop where
  ch : Ch (fun k => k ∈ pre) B w
  blk : ∀ x ∈ H, Blk w x.1 x.2.1 x.2.2
  nodup : (H.map (·.1)).Nodup
  own : ∀ x ∈ H, x.1 ∈ pre ∨ B.heap.size ≤ x.1
  agree : Agree w φ
  apart : ∀ x ∈ H, ∀ o, φ x.1 o = none
abbrev Names (H : Hp) : Nat → Prop := fun k => k ∈ H.map (·.1)

theorem cell_lt {w : World} {a : Addr} {v : Value} (h : w.cell? a = some v) : a.block < w.heap.size := by
  unfold World.cell? at h
  cases hb : w.heap[a.block]? with
  | none => rw [hb] at h; cases h
  | some o => exact (Array.getElem?_eq_some_iff.1 hb).1
theorem cell_ch {S : Nat → Prop} {w w' : World} {a : Addr} {v : Value} (h : w.cell? a = some v) (hc : Ch S w w') (hs : ¬ S a.block) : w'.cell? a = some v := by
  have hlt := cell_lt h
  unfold World.cell? at h ⊢
  rw [hc.block _ hlt hs]; exact h
theorem Agree.ch {S : Nat → Prop} {w w' : World} {φ : Fz} (h : Agree w φ) (hc : Ch S w w') (hs : ∀ b, S b → ∀ o, φ b o = none) : Agree w' φ := fun b o v hv =>
  cell_ch (h b o v hv) hc (fun s => by rw [hs b s o] at hv; cases hv)
theorem Agree.no {w w' : World} {φ : Fz} (h : Agree w φ) (hc : Ch No w w') : Agree w' φ := h.ch hc (fun _ s => s.elim)
theorem Agree.none (w : World) : Agree w (fun _ _ => Option.none) := fun _ _ _ h => by cases h
/-- All cells of a world. -/
def cellsOf (w : World) : Fz := fun b o => w.cell? ⟨b, o, none⟩
theorem Agree.of (w : World) : Agree w (cellsOf w) := fun _ _ _ h => h
theorem Fz.le.refl (φ : Fz) : Fz.le φ φ := fun _ _ _ h => h
theorem Fz.le.trans {φ ψ χ : Fz} (h : Fz.le φ ψ) (k : Fz.le ψ χ) : Fz.le φ χ := fun b o v hv => k b o v (h b o v hv)
theorem Mem.nil {w : World} {φ : Fz} (pre : List Nat) (h : Agree w φ) : Mem w pre φ [] w := ⟨Ch.refl w, by simp, by simp, by simp, h, by simp⟩
theorem Mem.init (w : World) : Mem w [] (cellsOf w) [] w := Mem.nil [] (Agree.of w)
theorem Mem.no {B w w' : World} {pre : List Nat} {φ : Fz} {H : Hp} (h : Mem B pre φ H w) (hc : Ch No w w') : Mem B pre φ H w' :=
  ⟨h.ch.no hc, fun x hx => (h.blk x hx).no hc, h.nodup, h.own, h.agree.no hc, h.apart⟩
theorem Mem.old {B w : World} {pre : List Nat} {φ : Fz} {H : Hp} {a : Addr} {v : Value} (h : Mem B pre φ H w) (hs : a.spot = none) (hv : φ a.block a.off = some v) : w.cell? a = some v := by
  have := h.agree _ _ _ hv
  obtain ⟨b, o, s⟩ := a
  simp only at hs; subst hs; exact this

/-! ## Carrying out -/
inductive Hint where
  | own (i : Nat)
  | ownx (i : Nat)
  | old (v : Value)
structure XS where
  H : Hp
  hints : List Hint := []
  fresh : List Nat := []
  eqs : List (Nat × Nat) := []
  olds : List (Addr × Value) := []
  ones : List Value := []

def hrun {α : Type} (P : Program) (q : Bool) : Sem α → XS → Option (α × XS)
  | .pure a, s => some (a, s)
  | .program k, s => hrun P q (k P) s
  | .mark _ k, s => hrun P q k s
  | .load _ a k, s =>
    match s.hints with
    | .own i :: hs => match s.H[i]?, a.spot with
      | some (b, _, cs), none => match cs[a.off]? with
        | some v => hrun P q (k v) { s with hints := hs, eqs := (a.block, b) :: s.eqs }
        | none => none
      | _, _ => none
    | .old v :: hs => hrun P q (k v) { s with hints := hs, olds := (a, v) :: s.olds }
    | _ => none
  | .store _ a v k, s =>
    if q then none else
    match s.hints with
    | .own i :: hs => match s.H[i]?, a.spot with
      | some (b, T, cs), none => if Nat.blt a.off cs.length && one1 v then hrun P q k { s with hints := hs, H := s.H.set i (b, T, cs.set a.off v), eqs := (a.block, b) :: s.eqs } else none
      | _, _ => none
    | .ownx i :: hs => match s.H[i]?, a.spot with
      | some (b, T, cs), none => if Nat.blt a.off cs.length then hrun P q k { s with hints := hs, H := s.H.set i (b, T, cs.set a.off v), eqs := (a.block, b) :: s.eqs, ones := v :: s.ones } else none
      | _, _ => none
    | _ => none
  | .new (.cells c T fz) k, s =>
    if q then none else
    match fz.1, fz.2, s.fresh with
    | 0, 0, b :: fr => hrun P q (k b) { s with H := s.H ++ [(b, T, c.toList)], fresh := fr }
    | _, _, _ => none
  | .frozen a k, s =>
    match s.hints with
    | .own i :: hs => match s.H[i]?, a.spot with
      | some (b, _, cs), none => if Nat.blt a.off cs.length then hrun P q (k false) { s with hints := hs, eqs := (a.block, b) :: s.eqs } else none
      | _, _ => none
    | _ => none
  | .shape r k, s =>
    match s.hints with
    | .own i :: hs => match s.H[i]? with
      | some (b, T, cs) => hrun P q (k (some (T, cs.length))) { s with hints := hs, eqs := (r, b) :: s.eqs }
      | none => none
    | _ => none
  | .freeze _ n k, s => if Nat.beq n 0 then hrun P q k s else none
  | _, _ => none

def AllEq (l : List (Nat × Nat)) : Prop := ∀ p ∈ l, p.1 = p.2
def Olds (φ : Fz) (l : List (Addr × Value)) : Prop := ∀ p ∈ l, p.1.spot = none ∧ φ p.1.block p.1.off = some p.2
def Ones (l : List Value) : Prop := ∀ v ∈ l, one1 v = true
structure XOk (φ : Fz) (s : XS) : Prop where
  eqs : AllEq s.eqs
  olds : Olds φ s.olds
  ones : Ones s.ones
def Fresh (fr : List Nat) (w : World) : Prop := ∀ i b, fr[i]? = some b → b = w.heap.size + i

theorem mem_set {α : Type} {l : List α} {i : Nat} {x y : α} (h : y ∈ l.set i x) : y = x ∨ ∃ j, j ≠ i ∧ l[j]? = some y := by
  obtain ⟨j, hj⟩ := List.getElem?_of_mem h
  rw [List.getElem?_set] at hj
  split at hj
  · rename_i he; split at hj
    · cases hj; exact .inl rfl
    · cases hj
  · rename_i he; exact .inr ⟨j, fun e => he e.symm, hj⟩
theorem set_names {H : Hp} {i : Nat} {b : Nat} {T : TypeId} {cs cs' : List Value} (h : H[i]? = some (b, T, cs)) : (H.set i (b, T, cs')).map (·.1) = H.map (·.1) := by
  rw [List.map_set]
  refine List.ext_getElem? fun j => ?_
  rw [List.getElem?_set]
  split
  · rename_i he; subst he
    split
    · simp [h]
    · rename_i hl; rw [List.getElem?_eq_none (by omega)]
  · rfl
theorem getElem?_ne {H : Hp} {i j : Nat} {x y : Nat × TypeId × List Value} (hn : (H.map (·.1)).Nodup) (hi : H[i]? = some x) (hj : H[j]? = some y) (h : j ≠ i) : y.1 ≠ x.1 := by
  intro e
  have h1 : (H.map (·.1))[i]? = some x.1 := by simp [hi]
  have h2 : (H.map (·.1))[j]? = some y.1 := by simp [hj]
  have hil := (List.getElem?_eq_some_iff.1 h1).1
  have hjl := (List.getElem?_eq_some_iff.1 h2).1
  have g1 := (List.getElem?_eq_some_iff.1 h1).2
  have g2 := (List.getElem?_eq_some_iff.1 h2).2
  exact h (List.getElem_inj hn |>.1 (g2.trans (e.trans g1.symm)))

theorem Mem.set {B w : World} {pre : List Nat} {φ : Fz} {H : Hp} {i : Nat} {b j : Nat} {T : TypeId} {cs : List Value} (h : Mem B pre φ H w) (hi : H[i]? = some (b, T, cs)) (v : Value) : Mem B pre φ (H.set i (b, T, cs.set j v)) (w.setCell ⟨b, j, none⟩ v) := by
  have hm := List.mem_of_getElem? hi
  refine ⟨?_, ?_, ?_, ?_, h.agree.ch (Ch.setCell w ⟨b, j, none⟩ v) (fun k hk o => by have hk : k = b := hk; subst hk; exact h.apart _ hm o), ?_⟩
  · refine h.ch.comp (Ch.setCell w ⟨b, j, none⟩ v) fun k hk hlt => ?_
    have hk : k = b := hk
    subst hk
    rcases h.own _ hm with hp | hp
    · exact hp
    · exact absurd hlt (by simpa using hp)
  · intro y hy
    rcases mem_set hy with rfl | ⟨j', hne, hj'⟩
    · exact (h.blk _ hm).set v
    · exact (h.blk y (List.mem_of_getElem? hj')).ch (Ch.setCell w ⟨b, j, none⟩ v) (fun e => getElem?_ne h.nodup hi hj' hne e)
  · rw [set_names hi]; exact h.nodup
  · intro y hy
    rcases mem_set hy with rfl | ⟨j', hne, hj'⟩
    · exact h.own (b, T, cs) hm
    · exact h.own y (List.mem_of_getElem? hj')
  · intro y hy
    rcases mem_set hy with rfl | ⟨j', hne, hj'⟩
    · exact h.apart (b, T, cs) hm
    · exact h.apart y (List.mem_of_getElem? hj')
theorem Mem.alloc {B w : World} {pre : List Nat} {φ : Fz} {H : Hp} (h : Mem B pre φ H w) (T : TypeId) (c : Array Value) : Mem B pre φ (H ++ [(w.heap.size, T, c.toList)]) (w.alloc (.cells c T)) := by
  have hc : Ch No w (w.alloc (.cells c T)) := Ch.alloc w _
  refine ⟨h.ch.no hc, ?_, ?_, ?_, h.agree.no hc, ?_⟩
  · intro y hy
    rcases List.mem_append.1 hy with hy | hy
    · exact (h.blk y hy).no hc
    · simp only [List.mem_singleton] at hy; subst hy; simpa using Blk.new w T c.toList
  · rw [List.map_append, List.nodup_append]
    refine ⟨h.nodup, by simp, ?_⟩
    intro x hx y hy e
    simp only [List.map_cons, List.map_nil, List.mem_singleton] at hy
    obtain ⟨z, hz, hzx⟩ := List.mem_map.1 hx
    have := (h.blk z hz).lt
    omega
  · intro y hy
    rcases List.mem_append.1 hy with hy | hy
    · exact h.own y hy
    · simp only [List.mem_singleton] at hy; subst hy; exact .inr h.ch.size
  · intro y hy
    rcases List.mem_append.1 hy with hy | hy
    · exact h.apart y hy
    · simp only [List.mem_singleton] at hy; subst hy
      intro o
      cases hv : φ w.heap.size o with
      | none => rfl
      | some v => exact absurd (cell_lt (h.agree _ _ _ hv)) (Nat.lt_irrefl _)

theorem hrun_grow {α : Type} {P : Program} {q : Bool} (s : Sem α) : ∀ (xs : XS) (x : α) (xs' : XS), hrun P q s xs = some (x, xs') → (∃ l, xs'.eqs = l ++ xs.eqs) ∧ (∃ l, xs'.olds = l ++ xs.olds) ∧ (∃ l, xs'.ones = l ++ xs.ones) := by
  have key : ∀ {xs xs' ys : XS}, ((∃ l, xs'.eqs = l ++ ys.eqs) ∧ (∃ l, xs'.olds = l ++ ys.olds) ∧ (∃ l, xs'.ones = l ++ ys.ones)) → (∃ l, ys.eqs = l ++ xs.eqs) → (∃ l, ys.olds = l ++ xs.olds) → (∃ l, ys.ones = l ++ xs.ones) →
      (∃ l, xs'.eqs = l ++ xs.eqs) ∧ (∃ l, xs'.olds = l ++ xs.olds) ∧ (∃ l, xs'.ones = l ++ xs.ones) := by
    rintro xs xs' ys ⟨⟨a, ha⟩, ⟨b, hb⟩, ⟨c, hc⟩⟩ ⟨a', ha'⟩ ⟨b', hb'⟩ ⟨c', hc'⟩
    exact ⟨⟨a ++ a', by rw [ha, ha', List.append_assoc]⟩, ⟨b ++ b', by rw [hb, hb', List.append_assoc]⟩, ⟨c ++ c', by rw [hc, hc', List.append_assoc]⟩⟩
  induction s with
  | pure a => intro xs x xs' h; simp only [hrun, Option.some.injEq, Prod.mk.injEq] at h; obtain ⟨rfl, rfl⟩ := h; exact ⟨⟨[], rfl⟩, ⟨[], rfl⟩, ⟨[], rfl⟩⟩
  | program k ih => intro xs x xs' h; exact ih _ _ _ _ h
  | mark m k ih => intro xs x xs' h; exact ih _ _ _ h
  | load m a k ih =>
    intro xs x xs' h
    unfold hrun at h
    split at h
    · split at h
      · split at h
        · exact key (ih _ _ _ _ h) ⟨[_], rfl⟩ ⟨[], rfl⟩ ⟨[], rfl⟩
        · cases h
      · cases h
    · exact key (ih _ _ _ _ h) ⟨[], rfl⟩ ⟨[_], rfl⟩ ⟨[], rfl⟩
    · cases h
  | store m a v k ih =>
    intro xs x xs' h
    unfold hrun at h
    split at h
    · cases h
    split at h
    · split at h
      · split at h
        · exact key (ih _ _ _ h) ⟨[_], rfl⟩ ⟨[], rfl⟩ ⟨[], rfl⟩
        · cases h
      · cases h
    · split at h
      · split at h
        · exact key (ih _ _ _ h) ⟨[_], rfl⟩ ⟨[], rfl⟩ ⟨[_], rfl⟩
        · cases h
      · cases h
    · cases h
  | new o k ih =>
    intro xs x xs' h
    cases o with
    | cells c T fz =>
      unfold hrun at h
      split at h
      · cases h
      split at h
      · exact key (ih _ _ _ _ h) ⟨[], rfl⟩ ⟨[], rfl⟩ ⟨[], rfl⟩
      · cases h
    | _ => simp [hrun] at h
  | frozen a k ih =>
    intro xs x xs' h
    unfold hrun at h
    split at h
    · split at h
      · split at h
        · exact key (ih _ _ _ _ h) ⟨[_], rfl⟩ ⟨[], rfl⟩ ⟨[], rfl⟩
        · cases h
      · cases h
    · cases h
  | shape r k ih =>
    intro xs x xs' h
    unfold hrun at h
    split at h
    · split at h
      · exact key (ih _ _ _ _ h) ⟨[_], rfl⟩ ⟨[], rfl⟩ ⟨[], rfl⟩
      · cases h
    · cases h
  | freeze a n k ih =>
    intro xs x xs' h
    unfold hrun at h
    split at h
    · exact ih _ _ _ h
    · cases h
  | getObj r k ih => intro xs x xs' h; simp [hrun] at h
  | setObj r o k ih => intro xs x xs' h; simp [hrun] at h
  | choose q k ih => intro xs x xs' h; simp [hrun] at h
  | sys c k ih => intro xs x xs' h; simp [hrun] at h
  | halt h => intro xs x xs' h; simp [hrun] at h

theorem XOk.back {φ : Fz} {xs ys : XS} (h : XOk φ ys) (he : ∃ l, ys.eqs = l ++ xs.eqs) (ho : ∃ l, ys.olds = l ++ xs.olds) (h1 : ∃ l, ys.ones = l ++ xs.ones) : XOk φ xs := by
  obtain ⟨a, ha⟩ := he; obtain ⟨b, hb⟩ := ho; obtain ⟨c, hc⟩ := h1
  exact ⟨fun p hp => h.eqs p (by rw [ha]; simp [hp]), fun p hp => h.olds p (by rw [hb]; simp [hp]), fun p hp => h.ones p (by rw [hc]; simp [hp])⟩

structure XPost (B : World) (pre : List Nat) (φ : Fz) (q : Bool) (xs xs' : XS) (w w' : World) : Prop where
  mem : Mem B pre φ xs'.H w'
  ch : Ch (Names xs.H) w w'
  fresh : Fresh xs'.fresh w'
  names : ∃ l, xs'.H.map (·.1) = xs.H.map (·.1) ++ l ∧ ∀ b ∈ l, w.heap.size ≤ b
  still : q = true → w' = w ∧ xs'.H = xs.H

theorem XPost.step {B : World} {pre : List Nat} {φ : Fz} {q : Bool} {xs ys zs : XS} {w w1 w2 : World} (hc : Ch (Names xs.H) w w1) (hn : ∃ l, ys.H.map (·.1) = xs.H.map (·.1) ++ l ∧ ∀ b ∈ l, w.heap.size ≤ b) (hs : q = true → w1 = w ∧ ys.H = xs.H) (h : XPost B pre φ q ys zs w1 w2) : XPost B pre φ q xs zs w w2 := by
  obtain ⟨l, hl, hlb⟩ := hn
  obtain ⟨l2, hl2, hlb2⟩ := h.names
  refine ⟨h.mem, hc.comp h.ch fun i hi hlt => ?_, h.fresh, ⟨l ++ l2, by rw [hl2, hl, List.append_assoc], fun b hb => ?_⟩, fun hq => ?_⟩
  · show i ∈ xs.H.map (·.1)
    have hi : i ∈ ys.H.map (·.1) := hi
    rw [hl] at hi
    rcases List.mem_append.1 hi with hi | hi
    · exact hi
    · exact absurd hlt (by have := hlb i hi; omega)
  · rcases List.mem_append.1 hb with hb | hb
    · exact hlb b hb
    · exact Nat.le_trans hc.size (hlb2 b hb)
  · obtain ⟨h1, h2⟩ := hs hq
    obtain ⟨h3, h4⟩ := h.still hq
    exact ⟨h3.trans h1, h4.trans h2⟩

theorem XPost.same {B : World} {pre : List Nat} {φ : Fz} {q : Bool} {xs ys zs : XS} {w w2 : World} (h : XPost B pre φ q ys zs w w2) (he : ys.H = xs.H) : XPost B pre φ q xs zs w w2 :=
  XPost.step (Ch.refl w) ⟨[], by simp [he], by simp⟩ (fun _ => ⟨rfl, he⟩) h

theorem hrun_sound {α : Type} {P : Program} {q : Bool} {B : World} {pre : List Nat} {φ : Fz} (s : Sem α) : ∀ (xs : XS) (w : World) (x : α) (xs' : XS), hrun P q s xs = some (x, xs') → Mem B pre φ xs.H w → Fresh xs.fresh w → XOk φ xs' →
    ∃ w', s.run P w = .ok x w' ∧ XPost B pre φ q xs xs' w w' := by
  induction s with
  | pure a =>
    intro xs w x xs' h hm hf hk
    simp only [hrun, Option.some.injEq, Prod.mk.injEq] at h; obtain ⟨rfl, rfl⟩ := h
    exact ⟨w, rfl, hm, Ch.refl w, hf, ⟨[], by simp, by simp⟩, fun _ => ⟨rfl, rfl⟩⟩
  | program k ih => intro xs w x xs' h hm hf hk; exact ih _ _ _ _ _ h hm hf hk
  | mark m k ih => intro xs w x xs' h hm hf hk; exact ih _ _ _ _ h hm hf hk
  | load m a k ih =>
    intro xs w x xs' h hm hf hk
    unfold hrun at h
    split at h
    · split at h
      · rename_i b T cs hi hsp
        split at h
        · rename_i v hv
          have hk2 := hk.back (hrun_grow _ _ _ _ h).1 (hrun_grow _ _ _ _ h).2.1 (hrun_grow _ _ _ _ h).2.2
          obtain ⟨w', hr, hp⟩ := ih _ _ _ _ _ h hm hf hk
          have hab : a.block = b := hk2.eqs (a.block, b) (by simp)
          have ha : a = ⟨b, a.off, none⟩ := by rw [← hab, ← hsp]
          have hcell : w.cell? a = some v := by rw [ha]; exact (hm.blk _ (List.mem_of_getElem? hi)).cell hv
          exact ⟨w', by simp only [Sem.run, hcell]; exact hr, hp.same rfl⟩
        · cases h
      · cases h
    · have hk2 := hk.back (hrun_grow _ _ _ _ h).1 (hrun_grow _ _ _ _ h).2.1 (hrun_grow _ _ _ _ h).2.2
      rename_i v hs hh
      obtain ⟨w', hr, hp⟩ := ih _ _ _ _ _ h hm hf hk
      obtain ⟨h1, h2⟩ := hk2.olds (a, v) (by simp)
      have hcell := hm.old h1 h2
      exact ⟨w', by simp only [Sem.run, hcell]; exact hr, hp.same rfl⟩
    · cases h
  | store m a v k ih =>
    intro xs w x xs' h hm hf hk
    have main : ∀ {i b T cs}, xs.H[i]? = some (b, T, cs) → a.spot = none → a.block = b → a.off < cs.length → one1 v = true → ∀ (ys : XS), hrun P q k ys = some (x, xs') → ys.H = xs.H.set i (b, T, cs.set a.off v) → ys.fresh = xs.fresh → q ≠ true →
        ∃ w', (Sem.store m a v k).run P w = .ok x w' ∧ XPost B pre φ q xs xs' w w' := by
      intro i b T cs hi hsp hab hlt h1 ys hr hys hfr hq
      have ha : a = ⟨b, a.off, none⟩ := by rw [← hab, ← hsp]
      have hB := hm.blk _ (List.mem_of_getElem? hi)
      have hcell : w.cell? ⟨b, a.off, none⟩ = some (cs[a.off]'hlt) := hB.cell (List.getElem?_eq_getElem hlt)
      rw [← ha] at hcell
      have hfz : w.frozen? a = false := by rw [ha]; exact hB.free hlt
      have hm2 : Mem B pre φ ys.H (w.setCell a v) := by rw [hys, ha]; exact hm.set hi v
      have hf2 : Fresh ys.fresh (w.setCell a v) := by rw [hfr]; intro i b hb; rw [hf i b hb]; simp [World.setCell]
      obtain ⟨w', hr2, hp⟩ := ih ys (w.setCell a v) x xs' hr hm2 hf2 hk
      refine ⟨w', ?_, XPost.step (ys := ys) ?_ ?_ (fun hq' => absurd hq' hq) hp⟩
      · cases v <;> first | (simp [one1] at h1; done) | (simp only [Sem.run, hcell, hfz]; exact hr2)
      · refine (Ch.setCell w a v).mono fun i hi' => ?_
        have hi' : i = a.block := hi'
        rw [hi', hab]; exact List.mem_map.2 ⟨_, List.mem_of_getElem? hi, rfl⟩
      · exact ⟨[], by rw [hys, set_names hi, List.append_nil], by simp⟩
    unfold hrun at h
    split at h
    · cases h
    rename_i hq
    split at h
    · split at h
      · rename_i b T cs hi hsp
        split at h
        · rename_i hc
          have hk2 := hk.back (hrun_grow _ _ _ _ h).1 (hrun_grow _ _ _ _ h).2.1 (hrun_grow _ _ _ _ h).2.2
          simp only [Bool.and_eq_true, Nat.blt_eq] at hc
          exact main hi hsp (hk2.eqs (a.block, b) (by simp)) hc.1 hc.2 _ h rfl rfl hq
        · cases h
      · cases h
    · split at h
      · rename_i b T cs hi hsp
        split at h
        · rename_i hc
          have hk2 := hk.back (hrun_grow _ _ _ _ h).1 (hrun_grow _ _ _ _ h).2.1 (hrun_grow _ _ _ _ h).2.2
          exact main hi hsp (hk2.eqs (a.block, b) (by simp)) (by simpa using hc) (hk2.ones v (by simp)) _ h rfl rfl hq
        · cases h
      · cases h
    · cases h
  | new o k ih =>
    intro xs w x xs' h hm hf hk
    cases o with
    | cells c T fz =>
      unfold hrun at h
      split at h
      · cases h
      rename_i hq
      split at h
      · rename_i b fr h1 h2 hfr
        have hb : b = w.heap.size := by have := hf 0 b (by rw [hfr]; rfl); simpa using this
        subst hb
        have hfz : fz = (0, 0) := by cases fz; simp_all
        subst hfz
        obtain ⟨w', hr, hp⟩ := ih w.heap.size { xs with H := xs.H ++ [(w.heap.size, T, c.toList)], fresh := fr } (w.alloc (.cells c T)) x xs' h (hm.alloc T c) (fun i b hb => by
          have := hf (i + 1) b (by rw [hfr]; simpa using hb)
          simp; omega) hk
        exact ⟨w', hr, XPost.step (Ch.alloc w _) ⟨[w.heap.size], by simp, by simp⟩ (fun hq' => absurd hq' hq) hp⟩
      · cases h
    | _ => simp [hrun] at h
  | frozen a k ih =>
    intro xs w x xs' h hm hf hk
    unfold hrun at h
    split at h
    · split at h
      · rename_i b T cs hi hsp
        split at h
        · rename_i hc
          have hk2 := hk.back (hrun_grow _ _ _ _ h).1 (hrun_grow _ _ _ _ h).2.1 (hrun_grow _ _ _ _ h).2.2
          obtain ⟨w', hr, hp⟩ := ih _ _ _ _ _ h hm hf hk
          have hab : a.block = b := hk2.eqs (a.block, b) (by simp)
          have ha : a = ⟨b, a.off, none⟩ := by rw [← hab, ← hsp]
          have hfz : w.frozen? a = false := by rw [ha]; exact (hm.blk _ (List.mem_of_getElem? hi)).free (by simpa using hc)
          exact ⟨w', by simp only [Sem.run, hfz]; exact hr, hp.same rfl⟩
        · cases h
      · cases h
    · cases h
  | shape r k ih =>
    intro xs w x xs' h hm hf hk
    unfold hrun at h
    split at h
    · split at h
      · rename_i b T cs hi
        have hk2 := hk.back (hrun_grow _ _ _ _ h).1 (hrun_grow _ _ _ _ h).2.1 (hrun_grow _ _ _ _ h).2.2
        obtain ⟨w', hr, hp⟩ := ih _ _ _ _ _ h hm hf hk
        have hab : r = b := hk2.eqs (r, b) (by simp)
        obtain ⟨fz, hb, _⟩ := hm.blk _ (List.mem_of_getElem? hi)
        have hsh : w.shape? r = some (T, cs.length) := by rw [hab]; simp only at hb; simp [World.shape?, hb]
        exact ⟨w', by simp only [Sem.run, hsh]; exact hr, hp.same rfl⟩
      · cases h
    · cases h
  | freeze a n k ih =>
    intro xs w x xs' h hm hf hk
    unfold hrun at h
    split at h
    · rename_i hn
      have hn : n = 0 := by simpa using hn
      subst hn
      obtain ⟨w', hr, hp⟩ := ih _ _ _ _ h hm hf hk
      exact ⟨w', by simp only [Sem.run, World.freeze]; exact hr, hp⟩
    · cases h
  | getObj r k ih => intro xs w x xs' h; simp [hrun] at h
  | setObj r o k ih => intro xs w x xs' h; simp [hrun] at h
  | choose q k ih => intro xs w x xs' h; simp [hrun] at h
  | sys c k ih => intro xs w x xs' h; simp [hrun] at h
  | halt h => intro xs w x xs' h; simp [hrun] at h
end Go.Proofs.YtodeldmdbeocfaaGreatDoor.Eng
