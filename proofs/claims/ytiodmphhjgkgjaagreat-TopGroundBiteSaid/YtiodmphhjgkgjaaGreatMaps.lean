/- Maps as lists of entries, whatever the keys type: lemmas for the rows of this seat. No conditions. -/
import Derived.Test.YtiodmphhjgkgjaaGreatBase
set_option linter.all false
namespace Go.Proofs.YtiodmphhjgkgjaaGreat
open Go.RowKit
/-! ## Maps as lists of entries, whatever the key's type -/
section
variable {P : Program} {κ : Type} [DecidableEq κ]

/-- How keys of a type are written, and that the machine tells them apart as they are. -/
structure KeyEnc (P : Program) (kt : TypeId) (enc : κ → Value) : Prop where
  eq : ∀ x y w, (Op.equal kt (enc x) (enc y)).run P w = .ok (decide (x = y)) w
  now : ∀ kd x y, P.underlying kt = some kd → Instr.sameNow kd (enc x) (enc y) = none ∨ Instr.sameNow kd (enc x) (enc y) = some (decide (x = y))
  check : ∀ e x w, (Instr.checkKey e 10000 kt (enc x)).run P w = .ok () w
  stays : ∀ x, Instr.sameBits 10000 (enc x) (enc x) = true
  has : ∃ kd, P.underlying kt = some kd

def lookL (L : List (κ × Value)) (k : κ) : Option Value := (L.find? (fun p => decide (p.1 = k))).map (·.2)
/-- Block b is a map with just these entries. -/
def MapIs (w : World) (b : Nat) (enc : κ → Value) (L : List (κ × Value)) : Prop :=
  ∃ es clock, w.heap[b]? = some (.map es clock) ∧ es.toList.map (fun e => (e.key, e.val)) = L.map (fun p => (enc p.1, p.2)) ∧ (L.map Prod.fst).Nodup ∧ (∀ e ∈ es.toList, e.born < clock) ∧ (es.toList.map (·.born)).Nodup

def findIdxL (L : List (κ × Value)) (k : κ) : Nat → Option (Nat × Value)
  | i => match L with
    | [] => none
    | p :: r => if p.1 = k then some (i, p.2) else findIdxL r k (i + 1)

theorem findIdxL_spec (L : List (κ × Value)) (k : κ) : ∀ i, (findIdxL L k i = none ∧ L.any (fun p => decide (p.1 = k)) = false ∧ lookL L k = none) ∨
    ∃ j v, findIdxL L k i = some (i + j, v) ∧ L[j]? = some (k, v) ∧ (∀ m, m < j → ∀ p, L[m]? = some p → p.1 ≠ k) ∧ L.any (fun p => decide (p.1 = k)) = true ∧ lookL L k = some v := by
  induction L with
  | nil => intro i; left; simp [findIdxL, lookL]
  | cons p r ih =>
    intro i
    by_cases h : p.1 = k
    · right
      refine ⟨0, p.2, by simp [findIdxL, h], by simp [← h], fun m hm => absurd hm (by omega), by simp [h], by simp [lookL, h]⟩
    · rcases ih (i + 1) with ⟨h1, h2, h3⟩ | ⟨j, v, h1, h2, h3, h4, h5⟩
      · left
        refine ⟨by simp [findIdxL, h, h1], by simp [h] at h2 ⊢; exact h2, ?_⟩
        simp only [lookL, List.find?_cons, h, decide_false] at h3 ⊢
        exact h3
      · right
        refine ⟨j + 1, v, by simp [findIdxL, h, h1]; omega, by simpa using h2, ?_, by simp at h4 ⊢; exact .inr h4, ?_⟩
        · intro m hm q hq
          cases m with
          | zero => simp at hq; subst hq; exact h
          | succ m => exact h3 m (by omega) q (by simpa using hq)
        · simp only [lookL, List.find?_cons, h, decide_false] at h5 ⊢
          exact h5

theorem run_findAsking {kt : TypeId} {enc : κ → Value} (K : KeyEnc P kt enc) (w : World) (k : κ) : ∀ (es : List MapEntry) (L : List (κ × Value)) (i : Nat), es.map (fun e => (e.key, e.val)) = L.map (fun p => (enc p.1, p.2)) →
    (Instr.findAsking kt (enc k) es i).run P w = .ok (findIdxL L k i) w := by
  intro es
  induction es with
  | nil =>
    intro L i h
    cases L with
    | nil => simp [Instr.findAsking, findIdxL]
    | cons p r => simp at h
  | cons e es ih =>
    intro L i h
    cases L with
    | nil => simp at h
    | cons p r =>
      simp only [List.map_cons, List.cons.injEq, Prod.mk.injEq] at h
      obtain ⟨⟨h1, h2⟩, h3⟩ := h
      simp only [Instr.findAsking, h1, Sem.run_bind, K.eq, Result.andThen_ok, findIdxL]
      by_cases hk : p.1 = k
      · simp [hk, h2]
      · rw [decide_eq_false (fun e => hk e.symm)]
        simp only [Bool.false_eq_true, if_false, hk]
        exact ih r (i + 1) h3

theorem findNow_spec {kt : TypeId} {enc : κ → Value} (K : KeyEnc P kt enc) (kd : TypeDesc) (hkd : P.underlying kt = some kd) (k : κ) : ∀ (es : List MapEntry) (L : List (κ × Value)) (i : Nat), es.map (fun e => (e.key, e.val)) = L.map (fun p => (enc p.1, p.2)) →
    Instr.findNow kd (enc k) es i = none ∨ Instr.findNow kd (enc k) es i = some (findIdxL L k i) := by
  intro es
  induction es with
  | nil =>
    intro L i h
    cases L with
    | nil => right; simp [Instr.findNow, findIdxL]
    | cons p r => simp at h
  | cons e es ih =>
    intro L i h
    cases L with
    | nil => simp at h
    | cons p r =>
      simp only [List.map_cons, List.cons.injEq, Prod.mk.injEq] at h
      obtain ⟨⟨h1, h2⟩, h3⟩ := h
      simp only [Instr.findNow, h1, findIdxL]
      rcases K.now kd k p.1 hkd with hn | hn
      · rw [hn]; exact .inl rfl
      · rw [hn]
        by_cases hk : p.1 = k
        · rw [decide_eq_true hk.symm]
          simp [hk, h2]
        · rw [decide_eq_false (fun e => hk e.symm)]
          simp only [hk, if_false]
          exact ih r (i + 1) h3

theorem run_findKey_is {kt : TypeId} {enc : κ → Value} (K : KeyEnc P kt enc) (w : World) (k : κ) (es : List MapEntry) (L : List (κ × Value)) (h : es.map (fun e => (e.key, e.val)) = L.map (fun p => (enc p.1, p.2))) :
    (Instr.findKey kt (enc k) es).run P w = .ok (findIdxL L k 0) w := by
  obtain ⟨kd, hkd⟩ := K.has
  unfold Instr.findKey
  simp only [Sem.run_bind, run_underlying hkd, Result.andThen_ok]
  rcases findNow_spec K kd hkd k es L 0 h with hn | hn
  · rw [hn]; exact run_findAsking K w k es L 0 h
  · rw [hn]; simp

variable {w : World} {b : Nat} {enc : κ → Value} {L : List (κ × Value)}

omit [DecidableEq κ] in
theorem MapIs.new (w : World) (enc : κ → Value) : MapIs (w.alloc (.map #[] 0)) w.heap.size enc [] := ⟨#[], 0, heap_alloc_new w _, rfl, by simp, by simp, by simp⟩
omit [DecidableEq κ] in
theorem MapIs.lt (h : MapIs w b enc L) : b < w.heap.size := by
  obtain ⟨es, clock, hh, _⟩ := h
  rcases Nat.lt_or_ge b w.heap.size with hlt | hge
  · exact hlt
  · rw [Array.getElem?_eq_none hge] at hh; cases hh
omit [DecidableEq κ] in
theorem MapIs.of_block {w' : World} (h : MapIs w b enc L) (e : w'.heap[b]? = w.heap[b]?) : MapIs w' b enc L := by
  obtain ⟨es, clock, hh, r⟩ := h
  exact ⟨es, clock, e.trans hh, r⟩
omit [DecidableEq κ] in
theorem MapIs.below {w' : World} {B : Nat} (h : MapIs w b enc L) (hb : Below B w w') (hB : b < B) : MapIs w' b enc L := h.of_block (hb.block b hB)
omit [DecidableEq κ] in
theorem MapIs.alloc (h : MapIs w b enc L) (o : Obj) : MapIs (w.alloc o) b enc L := h.of_block (Below.heap_alloc w o b h.lt)
theorem MapIs.lookup {kt t et : TypeId} (K : KeyEnc P kt enc) (ht : P.underlying t = some (.map kt et)) {z : Value} (hz : ∀ w, (zeroValue et).run P w = .ok z w) (h : MapIs w b enc L) (k : κ) (c : Bool) :
    (Instr.lookup t (.map (some b)) (enc k) c).run P w = .ok (if c then .tuple #[(lookL L k).getD z, .bool (lookL L k).isSome] else (lookL L k).getD z) w := by
  obtain ⟨es, clock, hh, he, hn, _⟩ := h
  have hf := run_findKey_is K w k es.toList L he
  simp only [Instr.lookup, Sem.run_bind, run_underlying ht, Result.andThen_ok, MapKept.run_getObj_map hh, Sem.run_pure, K.check, hf]
  rcases findIdxL_spec L k 0 with ⟨h1, _, h3⟩ | ⟨j, v, h1, _, _, _, h5⟩
  · rw [h1, h3]
    cases c <;> simp [hz, Result.andThen]
  · rw [h1, h5]
    cases c <;> simp
/-- Only block b has turned. -/
structure OnlyBlk (w w' : World) (b : Nat) : Prop where
  os : w'.os = w.os
  tape : w'.tape = w.tape
  output : w'.output = w.output
  size : w'.heap.size = w.heap.size
  block : ∀ i, i ≠ b → w'.heap[i]? = w.heap[i]?

theorem OnlyBlk.below {w w' : World} {b B : Nat} (h : OnlyBlk w w' b) (hB : B ≤ b) : Below B w w' :=
  ⟨h.os, h.tape, h.output, by rw [h.size]; exact Nat.le_refl _, fun k hk => h.block k (by omega)⟩
theorem OnlyBlk.blk {w w' : World} {b g : Nat} {t : TypeId} {cs : Array Value} (h : OnlyBlk w w' b) (hk : Blk w g t cs) (hne : g ≠ b) : Blk w' g t cs := (h.block g hne).trans hk
theorem OnlyBlk.cell {w w' : World} {b : Nat} (h : OnlyBlk w w' b) {p : Addr} (hne : p.block ≠ b) : w'.cell? p = w.cell? p := World.cell?_of_block (h.block p.block hne)
theorem OnlyBlk.reads {w w' : World} {b B size n : Nat} {A : Option Addr} {xs : List Value} (h : OnlyBlk w w' b) (hr : Reads w B size A n xs) (hB : B ≤ b) : Reads w' B size A n xs :=
  hr.keep fun b' o hb' => h.cell (p := ⟨b', o, none⟩) (by simp; omega)

end
section
variable {P : Program}
theorem run_part_int {t : TypeId} {k : IntKind} (h : P.underlying t = some (.int k)) (cs : Array Value) (i : Nat) (w : World) (v : Value) (hv : cs[i]? = some v) : (part t cs i).run P w = .ok v w := by
  simp [part, isAgg, run_underlying h, hv]
theorem run_checkKey_int {t : TypeId} {k : IntKind} (h : P.underlying t = some (.int k)) (e : Bool) (n : Nat) (v : Value) (w : World) : (Instr.checkKey e (n + 1) t v).run P w = .ok () w := by
  simp [Instr.checkKey, run_underlying h]
theorem pairKeys {t : TypeId} {f0 f1 : Field} {k0 k1 : IntKind} (h : P.underlying t = some (.struct #[f0, f1])) (h0 : P.underlying f0.type = some (.int k0)) (h1 : P.underlying f1.type = some (.int k1))
    (o0 : f0.offset = 0) (o1 : f1.offset = 1) (n0 : f0.name ≠ "_") (n1 : f1.name ≠ "_") (hp : P.stoodInHeld t = false) : KeyEnc P t (fun p : Int × Int => .agg #[.int k0 p.1, .int k1 p.2]) where
  eq := fun x y w => by
    obtain ⟨a, b⟩ := x
    obtain ⟨c, d⟩ := y
    have hf : (P.fieldsOf t).toList = [f0, f1] := by simp [Program.fieldsOf, h]
    have hs := run_equalIn_struct (P := P) w 9999 t #[.int k0 a, .int k1 b] #[.int k0 c, .int k1 d] (by simp [Program.fieldsOf, h]) hp
    simp only [Op.equal, Op.maxDepth]
    rw [hs, hf]
    have p0 : ∀ (u v : Int) w, (part f0.type #[.int k0 u, .int k1 v] 0).run P w = .ok (.int k0 u) w := fun u v w => run_part_int h0 _ 0 _ _ rfl
    have p1 : ∀ (u v : Int) w, (part f1.type #[.int k0 u, .int k1 v] 1).run P w = .ok (.int k1 v) w := fun u v w => run_part_int h1 _ 1 _ _ rfl
    have q0 : ∀ (u v : Int) w, (Op.equalIn 9999 f0.type (.int k0 u) (.int k0 v)).run P w = .ok (u == v) w := fun u v w => run_equalIn_int w 9998 _ _ _ _ _ h0
    have q1 : ∀ (u v : Int) w, (Op.equalIn 9999 f1.type (.int k1 u) (.int k1 v)).run P w = .ok (u == v) w := fun u v w => run_equalIn_int w 9998 _ _ _ _ _ h1
    simp only [Op.eqFields, n0, n1, ne_eq, not_false_eq_true, if_true, o0, o1, Sem.run_bind, p0, q0, Result.andThen_ok]
    by_cases e1 : a = c
    · by_cases e2 : b = d
      · simp [e1, e2, p1, q1]
      · simp [e1, e2, p1, q1]
    · simp [e1]
  now := fun kd x y hk => by
    rw [h] at hk
    cases hk
    left; rfl
  check := fun e x w => by
    have c0 : ∀ w, (Instr.checkKey e 9999 f0.type (.int k0 x.1)).run P w = .ok () w := fun w => run_checkKey_int h0 e 9998 _ w
    have c1 : ∀ w, (Instr.checkKey e 9999 f1.type (.int k1 x.2)).run P w = .ok () w := fun w => run_checkKey_int h1 e 9998 _ w
    have p0 : ∀ (u v : Int) w, (part f0.type #[.int k0 u, .int k1 v] 0).run P w = .ok (.int k0 u) w := fun u v w => run_part_int h0 _ 0 _ _ rfl
    have p1 : ∀ (u v : Int) w, (part f1.type #[.int k0 u, .int k1 v] 1).run P w = .ok (.int k1 v) w := fun u v w => run_part_int h1 _ 1 _ _ rfl
    unfold Instr.checkKey
    simp only [Sem.run_bind, run_underlying h, Result.andThen_ok]
    rw [← Array.forIn_toList]
    simp only [List.forIn_cons, List.forIn_nil, n0, n1, ne_eq, not_false_eq_true, if_true, Sem.run_bind, o0, o1, p0, p1, Result.andThen_ok, c0, c1, Sem.run_pure]
  stays := fun x => by simp [Instr.sameBits]
  has := ⟨_, h⟩
end
end Go.Proofs.YtiodmphhjgkgjaaGreat
