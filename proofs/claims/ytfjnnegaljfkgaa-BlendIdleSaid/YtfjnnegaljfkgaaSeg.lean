/- Layer 3, blends: Regions that draw their order, in segments: some read or call what keeps memory (in any order), some are one forced row.: lemmas for the rows of this seat. No conditions. -/
import Derived.Test.YtfjnnegaljfkgaaBase
set_option linter.all false
namespace Go.Proofs.Ytfjnnegaljfkgaa
open Go.RowKit
/-! ## Regions that draw their order, in segments: some read or call what keeps memory (in any order), some are one forced row. -/
section
variable {P : Program} {ops : Array Oper} {md : Region.Mode} {C : World → Prop}

/-- All below s have come up, none from e on; what has come up, all before it have. -/
structure SegInv (md : Region.Mode) (ops : Array Oper) (s e : Nat) (listed : Array Bool) : Prop where
  size : listed.size = ops.size
  closed : ∀ j oj, ops[j]? = some oj → listed.getD j false = true → ∀ e ∈ oj.after, Region.binds md e = true → listed.getD e.on false = true
  low : ∀ j, j < s → j < ops.size → listed.getD j false = true
  tail : ∀ t, e ≤ t → t < ops.size → listed.getD t true = false

theorem SegInv.set {s e i : Nat} {listed : Array Bool} (inv : SegInv md ops s e listed) (hi : i ∈ Region.ready md ops listed) (hin : i < e) : SegInv md ops s e (listed.setIfInBounds i true) := by
  obtain ⟨_, oi, hoi, hall⟩ := mem_ready.1 hi
  refine ⟨by simp [inv.size], fun j oj hj hl e he hb => ?_, fun j hj hjs => getD_set_true (inv.low j hj hjs), fun t ht ht' => by rw [getD_set_ne true (by omega)]; exact inv.tail t ht ht'⟩
  by_cases hij : i = j
  · subst hij
    obtain rfl : oj = oi := Option.some.inj (hj.symm.trans hoi)
    exact getD_set_true (hall e he hb)
  · rw [getD_set_ne false hij] at hl
    exact getD_set_true (inv.closed j oj hj hl e he hb)

/-- The operations of a segment that reads come up in their order, each apart from what is left. -/
def Region.lexQ (md : Region.Mode) (ops : Array Oper) : Nat → Nat → Array Bool → Bool
  | 0, _, _ => true
  | m + 1, k, listed => (Region.ready md ops listed).contains k && Region.free md ops listed k && Region.lexQ md ops m (k + 1) (listed.setIfInBounds k true)
def Region.setRow : Nat → Nat → Array Bool → Array Bool
  | 0, _, listed => listed
  | m + 1, k, listed => Region.setRow m (k + 1) (listed.setIfInBounds k true)

theorem SegInv.next {s e k : Nat} {listed : Array Bool} (inv : SegInv md ops s k listed) (hk : k ∈ Region.ready md ops listed) (hs : s = k) (he : k + 1 = e) : SegInv md ops e e (listed.setIfInBounds k true) := by
  subst hs he
  have hlt : s < ops.size := by obtain ⟨_, o, ho, _⟩ := mem_ready.1 hk; exact (Array.getElem?_eq_some_iff.1 ho).1
  have inv' : SegInv md ops s (s + 1) listed := ⟨inv.size, inv.closed, inv.low, fun t ht ht' => inv.tail t (by omega) ht'⟩
  have h2 := inv'.set hk (by omega)
  refine ⟨h2.size, h2.closed, fun j hj hjs => ?_, h2.tail⟩
  by_cases hjs' : j = s
  · subst hjs'
    simp [inv.size, hlt]
  · exact h2.low j (by omega) hjs

theorem SegInv.row {md : Region.Mode} {ops : Array Oper} : ∀ (m k : Nat) (listed : Array Bool), SegInv md ops k k listed → Region.lexQ md ops m k listed = true → SegInv md ops (k + m) (k + m) (Region.setRow m k listed) := by
  intro m
  induction m with
  | zero => intro k listed inv _; exact inv
  | succ m ih =>
    intro k listed inv h
    simp only [Region.lexQ, Bool.and_eq_true] at h
    have hr : k ∈ Region.ready md ops listed := by simpa using h.1.1
    have := ih (k + 1) _ (inv.next hr rfl rfl) h.2
    rw [show k + 1 + m = k + (m + 1) from by omega] at this
    exact this

end
/-! ## Maps as lists of entries, whatever the key's type -/
section
variable {P : Program} {κ : Type} [DecidableEq κ]

/-- How keys of a type are written, and that the machine tells them apart as they are. -/
structure KeyEnc (P : Program) (kt : TypeId) (enc : κ → Value) : Prop where
  eq : ∀ x y w, (Op.equal kt (enc x) (enc y)).run P w = .ok (decide (x = y)) w
  now : ∀ kd x y, P.underlying kt = some kd → Instr.sameNow kd (enc x) (enc y) = none ∨ Instr.sameNow kd (enc x) (enc y) = some (decide (x = y))
  check : ∀ e x w, (Instr.checkKey e 10000 kt (enc x)).run P w = .ok () w
  stays : ∀ x, Instr.sameBits 10000 (enc x) (enc x) = true
  has : ∃ kd, P.underlying kt = some kd

def lookL (L : List (κ × Value)) (k : κ) : Option Value := (L.find? (fun p => decide (p.1 = k))).map (·.2)
def putL (L : List (κ × Value)) (k : κ) (v : Value) : List (κ × Value) :=
  if L.any (fun p => decide (p.1 = k)) then L.map (fun p => if p.1 = k then (k, v) else p) else L ++ [(k, v)]
/-- Block b is a map with just these entries. -/
def MapIs (w : World) (b : Nat) (enc : κ → Value) (L : List (κ × Value)) : Prop :=
  ∃ es clock, w.heap[b]? = some (.map es clock) ∧ es.toList.map (fun e => (e.key, e.val)) = L.map (fun p => (enc p.1, p.2)) ∧ (L.map Prod.fst).Nodup ∧ (∀ e ∈ es.toList, e.born < clock) ∧ (es.toList.map (·.born)).Nodup

def findIdxL (L : List (κ × Value)) (k : κ) : Nat → Option (Nat × Value)
  | i => match L with
    | [] => none
    | p :: r => if p.1 = k then some (i, p.2) else findIdxL r k (i + 1)

theorem findIdxL_spec (L : List (κ × Value)) (k : κ) : ∀ i, (findIdxL L k i = none ∧ L.any (fun p => decide (p.1 = k)) = false ∧ lookL L k = none) ∨
    ∃ j v, findIdxL L k i = some (i + j, v) ∧ L[j]? = some (k, v) ∧ (∀ m, m < j → ∀ p, L[m]? = some p → p.1 ≠ k) ∧ L.any (fun p => decide (p.1 = k)) = true ∧ lookL L k = some v := by
  induction L with
  | nil => intro i; left; simp [findIdxL, lookL]
  | cons p r ih =>
    intro i
    by_cases h : p.1 = k
    · right
      refine ⟨0, p.2, by simp [findIdxL, h], by simp [← h], fun m hm => absurd hm (by omega), by simp [h], by simp [lookL, h]⟩
    · rcases ih (i + 1) with ⟨h1, h2, h3⟩ | ⟨j, v, h1, h2, h3, h4, h5⟩
      · left
        refine ⟨by simp [findIdxL, h, h1], by simp [h] at h2 ⊢; exact h2, ?_⟩
        simp only [lookL, List.find?_cons, h, decide_false] at h3 ⊢
        exact h3
      · right
        refine ⟨j + 1, v, by simp [findIdxL, h, h1]; omega, by simpa using h2, ?_, by simp at h4 ⊢; exact .inr h4, ?_⟩
        · intro m hm q hq
          cases m with
          | zero => simp at hq; subst hq; exact h
          | succ m => exact h3 m (by omega) q (by simpa using hq)
        · simp only [lookL, List.find?_cons, h, decide_false] at h5 ⊢
          exact h5

theorem run_findAsking {kt : TypeId} {enc : κ → Value} (K : KeyEnc P kt enc) (w : World) (k : κ) : ∀ (es : List MapEntry) (L : List (κ × Value)) (i : Nat), es.map (fun e => (e.key, e.val)) = L.map (fun p => (enc p.1, p.2)) →
    (Instr.findAsking kt (enc k) es i).run P w = .ok (findIdxL L k i) w := by
  intro es
  induction es with
  | nil =>
    intro L i h
    cases L with
    | nil => simp [Instr.findAsking, findIdxL]
    | cons p r => simp at h
  | cons e es ih =>
    intro L i h
    cases L with
    | nil => simp at h
    | cons p r =>
      simp only [List.map_cons, List.cons.injEq, Prod.mk.injEq] at h
      obtain ⟨⟨h1, h2⟩, h3⟩ := h
      simp only [Instr.findAsking, h1, Sem.run_bind, K.eq, Result.andThen_ok, findIdxL]
      by_cases hk : p.1 = k
      · simp [hk, h2]
      · rw [decide_eq_false (fun e => hk e.symm)]
        simp only [Bool.false_eq_true, if_false, hk]
        exact ih r (i + 1) h3

theorem findNow_spec {kt : TypeId} {enc : κ → Value} (K : KeyEnc P kt enc) (kd : TypeDesc) (hkd : P.underlying kt = some kd) (k : κ) : ∀ (es : List MapEntry) (L : List (κ × Value)) (i : Nat), es.map (fun e => (e.key, e.val)) = L.map (fun p => (enc p.1, p.2)) →
    Instr.findNow kd (enc k) es i = none ∨ Instr.findNow kd (enc k) es i = some (findIdxL L k i) := by
  intro es
  induction es with
  | nil =>
    intro L i h
    cases L with
    | nil => right; simp [Instr.findNow, findIdxL]
    | cons p r => simp at h
  | cons e es ih =>
    intro L i h
    cases L with
    | nil => simp at h
    | cons p r =>
      simp only [List.map_cons, List.cons.injEq, Prod.mk.injEq] at h
      obtain ⟨⟨h1, h2⟩, h3⟩ := h
      simp only [Instr.findNow, h1, findIdxL]
      rcases K.now kd k p.1 hkd with hn | hn
      · rw [hn]; exact .inl rfl
      · rw [hn]
        by_cases hk : p.1 = k
        · rw [decide_eq_true hk.symm]
          simp [hk, h2]
        · rw [decide_eq_false (fun e => hk e.symm)]
          simp only [hk, if_false]
          exact ih r (i + 1) h3

theorem run_findKey_is {kt : TypeId} {enc : κ → Value} (K : KeyEnc P kt enc) (w : World) (k : κ) (es : List MapEntry) (L : List (κ × Value)) (h : es.map (fun e => (e.key, e.val)) = L.map (fun p => (enc p.1, p.2))) :
    (Instr.findKey kt (enc k) es).run P w = .ok (findIdxL L k 0) w := by
  obtain ⟨kd, hkd⟩ := K.has
  unfold Instr.findKey
  simp only [Sem.run_bind, run_underlying hkd, Result.andThen_ok]
  rcases findNow_spec K kd hkd k es L 0 h with hn | hn
  · rw [hn]; exact run_findAsking K w k es L 0 h
  · rw [hn]; simp

variable {w : World} {b : Nat} {enc : κ → Value} {L : List (κ × Value)}

omit [DecidableEq κ] in
theorem MapIs.new (w : World) (enc : κ → Value) : MapIs (w.alloc (.map #[] 0)) w.heap.size enc [] := ⟨#[], 0, heap_alloc_new w _, rfl, by simp, by simp, by simp⟩
omit [DecidableEq κ] in
theorem MapIs.lt (h : MapIs w b enc L) : b < w.heap.size := by
  obtain ⟨es, clock, hh, _⟩ := h
  rcases Nat.lt_or_ge b w.heap.size with hlt | hge
  · exact hlt
  · rw [Array.getElem?_eq_none hge] at hh; cases hh
omit [DecidableEq κ] in
theorem MapIs.of_block {w' : World} (h : MapIs w b enc L) (e : w'.heap[b]? = w.heap[b]?) : MapIs w' b enc L := by
  obtain ⟨es, clock, hh, r⟩ := h
  exact ⟨es, clock, e.trans hh, r⟩
omit [DecidableEq κ] in
theorem MapIs.kept {w' : World} (h : MapIs w b enc L) (hb : Below w.heap.size w w') : MapIs w' b enc L := h.of_block (hb.block b h.lt)
omit [DecidableEq κ] in
theorem MapIs.below {w' : World} {B : Nat} (h : MapIs w b enc L) (hb : Below B w w') (hB : b < B) : MapIs w' b enc L := h.of_block (hb.block b hB)
omit [DecidableEq κ] in
theorem MapIs.alloc (h : MapIs w b enc L) (o : Obj) : MapIs (w.alloc o) b enc L := h.of_block (Below.heap_alloc w o b h.lt)
omit [DecidableEq κ] in
theorem MapIs.set_ (h : MapIs w b enc L) {p : Addr} (hp : b ≠ p.block) (u : Value) : MapIs (w.setCell p u) b enc L := h.of_block (Below.heap_setCell w p u b hp)

theorem MapIs.lookup {kt t et : TypeId} (K : KeyEnc P kt enc) (ht : P.underlying t = some (.map kt et)) {z : Value} (hz : ∀ w, (zeroValue et).run P w = .ok z w) (h : MapIs w b enc L) (k : κ) (c : Bool) :
    (Instr.lookup t (.map (some b)) (enc k) c).run P w = .ok (if c then .tuple #[(lookL L k).getD z, .bool (lookL L k).isSome] else (lookL L k).getD z) w := by
  obtain ⟨es, clock, hh, he, hn, _⟩ := h
  have hf := run_findKey_is K w k es.toList L he
  simp only [Instr.lookup, Sem.run_bind, run_underlying ht, Result.andThen_ok, MapKept.run_getObj_map hh, Sem.run_pure, K.check, hf]
  rcases findIdxL_spec L k 0 with ⟨h1, _, h3⟩ | ⟨j, v, h1, _, _, _, h5⟩
  · rw [h1, h3]
    cases c <;> simp [hz, Result.andThen]
  · rw [h1, h5]
    cases c <;> simp
/-- Only block b has turned. -/
structure OnlyBlk (w w' : World) (b : Nat) : Prop where
  os : w'.os = w.os
  tape : w'.tape = w.tape
  output : w'.output = w.output
  size : w'.heap.size = w.heap.size
  block : ∀ i, i ≠ b → w'.heap[i]? = w.heap[i]?

theorem OnlyBlk.below {w w' : World} {b B : Nat} (h : OnlyBlk w w' b) (hB : B ≤ b) : Below B w w' :=
  ⟨h.os, h.tape, h.output, by rw [h.size]; exact Nat.le_refl _, fun k hk => h.block k (by omega)⟩
theorem OnlyBlk.blk {w w' : World} {b g : Nat} {t : TypeId} {cs : Array Value} (h : OnlyBlk w w' b) (hk : Blk w g t cs) (hne : g ≠ b) : Blk w' g t cs := (h.block g hne).trans hk
theorem OnlyBlk.cell {w w' : World} {b : Nat} (h : OnlyBlk w w' b) {p : Addr} (hne : p.block ≠ b) : w'.cell? p = w.cell? p := World.cell?_of_block (h.block p.block hne)
theorem OnlyBlk.reads {w w' : World} {b B size n : Nat} {A : Option Addr} {xs : List Value} (h : OnlyBlk w w' b) (hr : Reads w B size A n xs) (hB : B ≤ b) : Reads w' B size A n xs :=
  hr.keep fun b' o hb' => h.cell (p := ⟨b', o, none⟩) (by simp; omega)

omit [DecidableEq κ] in
theorem set_only (w : World) (b : Nat) (o : Obj) : OnlyBlk w { w with heap := w.heap.setIfInBounds b o } b :=
  ⟨rfl, rfl, rfl, by simp, fun i hi => by simp [Array.getElem?_setIfInBounds_ne (Ne.symm hi)]⟩

theorem putL_keys (L : List (κ × Value)) (k : κ) (v : Value) (hn : (L.map Prod.fst).Nodup) : ((putL L k v).map Prod.fst).Nodup := by
  unfold putL
  split
  · have : (L.map (fun p => if p.1 = k then (k, v) else p)).map Prod.fst = L.map Prod.fst := by
      rw [List.map_map]
      refine List.map_congr_left fun p _ => ?_
      simp only [Function.comp]
      split
      · rename_i h; exact h.symm
      · rfl
    rw [this]; exact hn
  · rename_i h
    rw [List.map_append, List.nodup_append]
    refine ⟨hn, by simp, fun a ha b hb => ?_⟩
    simp only [List.map_cons, List.map_nil, List.mem_singleton] at hb
    subst hb
    rintro rfl
    obtain ⟨p, hp, rfl⟩ := List.mem_map.1 ha
    exact h (List.any_eq_true.2 ⟨p, hp, by simp⟩)

theorem modify_map {α β : Type} (f : α → β) (g : α → α) (g' : β → β) (h : ∀ a, f (g a) = g' (f a)) (l : List α) (j : Nat) : (l.modify j g).map f = (l.map f).modify j g' := by
  induction l generalizing j with
  | nil => simp
  | cons a l ih =>
    cases j with
    | zero => simp [h]
    | succ j => simp [ih]

theorem born_modify (l : List MapEntry) (j : Nat) (k v : Value) : (l.modify j (fun e => { e with key := k, val := v })).map (·.born) = l.map (·.born) := by
  induction l generalizing j with
  | nil => simp
  | cons a l ih =>
    cases j with
    | zero => simp
    | succ j => simp [ih]

theorem putL_modify (L : List (κ × Value)) (k : κ) (v u : Value) (j : Nat) (hj : L[j]? = some (k, u)) (hn : (L.map Prod.fst).Nodup) : putL L k v = L.modify j (fun _ => (k, v)) := by
  have hany : L.any (fun p => decide (p.1 = k)) = true := List.any_eq_true.2 ⟨(k, u), List.mem_of_getElem? hj, by simp⟩
  unfold putL
  rw [if_pos hany]
  clear hany
  induction L generalizing j with
  | nil => simp at hj
  | cons p r ih =>
    simp only [List.map_cons, List.nodup_cons] at hn
    cases j with
    | zero =>
      simp only [List.getElem?_cons_zero, Option.some.injEq] at hj
      subst hj
      simp only [List.map_cons, if_true, List.modify_zero_cons, List.cons.injEq, true_and]
      have : r.map (fun p => if p.1 = k then (k, v) else p) = r.map id := List.map_congr_left fun p hp => by
        have hpk : ¬ p.1 = k := fun e => hn.1 (by rw [← e]; exact List.mem_map.2 ⟨p, hp, rfl⟩)
        rw [if_neg hpk]; rfl
      rw [this, List.map_id]
    | succ j =>
      simp only [List.getElem?_cons_succ] at hj
      have hne : p.1 ≠ k := fun e => hn.1 (e ▸ List.mem_map.2 ⟨(k, u), List.mem_of_getElem? hj, rfl⟩)
      simp only [List.map_cons, if_neg hne, List.modify_succ_cons, List.cons.injEq, true_and]
      exact ih j hj hn.2

theorem MapIs.update {kt t et : TypeId} (K : KeyEnc P kt enc) (ht : P.underlying t = some (.map kt et)) (h : MapIs w b enc L) (k : κ) (v : Value) :
    ∃ w', (Instr.mapUpdate t (.map (some b)) (enc k) v).run P w = .ok () w' ∧ MapIs w' b enc (putL L k v) ∧ OnlyBlk w w' b := by
  have hlt := h.lt
  obtain ⟨es, clock, hh, he, hn, hbo, hbn⟩ := h
  have hf := run_findKey_is K w k es.toList L he
  have hset : ∀ o : Obj, ({ w with heap := w.heap.setIfInBounds b o } : World).heap[b]? = some o := fun o => by simp [hlt]
  rcases findIdxL_spec L k 0 with ⟨h1, h2, _⟩ | ⟨j, u, h1, h2, _, h4, _⟩
  · refine ⟨{ w with heap := w.heap.setIfInBounds b (.map (es.push { key := enc k, val := v, born := clock }) (clock + 1)) }, ?_, ?_, set_only _ _ _⟩
    · simp only [Instr.mapUpdate, Sem.run_bind, run_underlying ht, Result.andThen_ok, MapKept.run_getObj_map hh, K.check, hf, h1]
      exact MapKept.run_setObj_map _ hh
    · refine ⟨_, _, hset _, ?_, putL_keys L k v hn, ?_, ?_⟩
      · unfold putL
        rw [h2]
        simp [he]
      · intro e hm
        simp only [Array.toList_push, List.mem_append, List.mem_singleton] at hm
        rcases hm with hm | rfl
        · have := hbo e hm; omega
        · simp
      · simp only [Array.toList_push, List.map_append, List.map_cons, List.map_nil, List.nodup_append]
        refine ⟨hbn, by simp, fun a ha c hc => ?_⟩
        obtain ⟨e, hm, rfl⟩ := List.mem_map.1 ha
        simp at hc
        subst hc
        have := hbo e hm
        omega
  · have hkey : ((es[j]?).map (·.key)).getD (enc k) = enc k := by
      have : es.toList[j]?.map (fun e => (e.key, e.val)) = L[j]?.map (fun p => (enc p.1, p.2)) := by rw [← List.getElem?_map, ← List.getElem?_map, he]
      rw [h2] at this
      cases hes : es.toList[j]? with
      | none => rw [hes] at this; cases this
      | some e =>
        rw [hes] at this
        simp only [Option.map_some, Option.some.injEq, Prod.mk.injEq] at this
        rw [← Array.getElem?_toList, hes]
        simp [this.1]
    refine ⟨{ w with heap := w.heap.setIfInBounds b (.map (es.modify j (fun e => { e with key := enc k, val := v })) clock) }, ?_, ?_, set_only _ _ _⟩
    · simp only [Instr.mapUpdate, Sem.run_bind, run_underlying ht, Result.andThen_ok, MapKept.run_getObj_map hh, K.check, hf, h1, Nat.zero_add, hkey, Instr.keyThatStays, K.stays, if_true, Sem.run_pure]
      exact MapKept.run_setObj_map _ hh
    · refine ⟨_, _, hset _, ?_, putL_keys L k v hn, ?_, ?_⟩
      · rw [Array.toList_modify, modify_map (fun e : MapEntry => (e.key, e.val)) _ (fun _ => (enc k, v)) (fun _ => rfl), he, putL_modify L k v u j h2 hn, modify_map (fun p : κ × Value => (enc p.1, p.2)) _ (fun _ => (enc k, v)) (fun _ => rfl)]
      · intro e hm
        rw [Array.toList_modify] at hm
        have hb' : e.born ∈ (es.toList.modify j (fun e => { e with key := enc k, val := v })).map (·.born) := List.mem_map.2 ⟨e, hm, rfl⟩
        rw [born_modify] at hb'
        obtain ⟨e', hm', he'⟩ := List.mem_map.1 hb'
        rw [← he']
        exact hbo e' hm'
      · rw [Array.toList_modify, born_modify]; exact hbn

theorem wpList_map_lookup {ops : Array Oper} {rest : List Oper} {o : Oper} {a : Act} {Q : Exit → Act → World → Prop} (hg : o.guard = none) (m x : Operand) (t : TypeId) (c : Bool) (hop : o.op = Op.lookup t m x c)
    {kt et : TypeId} (K : KeyEnc P kt enc) (ht : P.underlying t = some (.map kt et)) {z : Value} (hz : ∀ w, (zeroValue et).run P w = .ok z w) (h : MapIs w b enc L) (k : κ) (hm : a.eval m = .map (some b)) (hx : a.eval x = enc k)
    (hK : wpList P ops Q rest (a.put o.dst (if c then .tuple #[(lookL L k).getD z, .bool (lookL L k).isSome] else (lookL L k).getD z)) w) : wpList P ops Q (o :: rest) a w := by
  refine wpList_plain hg fun K' hK' => ?_
  have hrun := h.lookup K ht hz k c
  unfold Oper.wp
  simp only [execOp, hop, hm, hx, Sem.run_bind, hrun, Result.andThen_ok, Sem.run_pure, Oper.upon]
  exact hK' _ _ hK

theorem wpList_map_update {ops : Array Oper} {rest : List Oper} {o : Oper} {a : Act} {Q : Exit → Act → World → Prop} (hg : o.guard = none) (m x v : Operand) (t : TypeId) (hop : o.op = Op.mapUpdate t m x v)
    {kt et : TypeId} (K : KeyEnc P kt enc) (ht : P.underlying t = some (.map kt et)) (h : MapIs w b enc L) (k : κ) (u : Value) (hm : a.eval m = .map (some b)) (hx : a.eval x = enc k) (hv : a.eval v = u)
    (hK : ∀ w', MapIs w' b enc (putL L k u) → OnlyBlk w w' b → wpList P ops Q rest (a.put o.dst undef) w') : wpList P ops Q (o :: rest) a w := by
  refine wpList_plain hg fun K' hK' => ?_
  obtain ⟨w', hrun, h1, h2⟩ := h.update K ht k u
  unfold Oper.wp
  simp only [execOp, hop, hm, hx, hv, Sem.run_bind, hrun, Result.andThen_ok, Sem.run_pure, Oper.upon]
  exact hK' _ _ (hK w' h1 h2)
end
/-- An operation by its run. -/
theorem wpList_run {P : Program} {w w' : World} {ops : Array Oper} {rest : List Oper} {o : Oper} {a : Act} {Q : Exit → Act → World → Prop} (hg : o.guard = none) (v : Value) (hrun : (execOp a.eval o).run P w = .ok (.value v) w')
    (hK : wpList P ops Q rest (a.put o.dst v) w') : wpList P ops Q (o :: rest) a w := by
  refine wpList_plain hg fun K' hK' => ?_
  unfold Oper.wp
  rw [hrun]
  exact hK' _ _ hK
end Go.Proofs.Ytfjnnegaljfkgaa
