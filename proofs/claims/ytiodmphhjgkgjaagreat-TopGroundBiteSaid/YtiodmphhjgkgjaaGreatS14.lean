/- make, clear, copy: lemmas for the rows of this seat. No conditions. -/
import Derived.Deep.OwnRows
import Derived.Laws.CopyRow
import Derived.Laws.OwnMore
import Derived.Laws.IdiomCopy
import Derived.BigFrame
import Derived.Maps.RangeRun
import Derived.WideKeyEntry
import Derived.Test.YtiodmphhjgkgjaaGreatMaps
import Derived.Test.YtiodmphhjgkgjaaGreatS5
set_option linter.all false
namespace Go.Proofs.YtiodmphhjgkgjaaGreat
open Go.RowKit
/-! ## make, clear, copy -/
section
variable {P : Program} {tab : TT} {w0 : World} {n : Nat} {ds : List Deferred} {ops : List Oper} {o : Oper} {os : List Oper} {ks : List Kind} {ts : TS} {A A' : List Chunk} {K : TS → List Chunk → Prop} {d : Tmp}
variable {x y : Operand} {t u : TypeId} {k : IntKind} {b off g : Nat} {i i' : TI}
/-- Lay theorems by their runs: make([]T, n), T of one cell. -/
theorem ot_makeSlice {e m : Nat} {z0 : Value} {k k' : IntKind} {p p' : Int} (hT : TabOk P tab) (hh : ks.headD .wr ≠ .rd) (hop : o.op = .makeSlice t x y) (hd : o.dst = some d) (hw : wantB ops ts o = some true) (hx : evT ts x = some (.int k p)) (hy : evT ts y = some (.int k' p')) (hi : lookI tab t = some i) (hl : i.d = .sl e) (hi' : lookI tab e = some i')
    (hsz : i'.size = 1) (hz : i'.zero = [z0]) (hp : p = (m : Int)) (hp' : p' = (m : Int)) (hm : m ≤ 1000000) (hby : i'.bytes ≤ 100000)
    (hk : ∀ g, w0.heap.size ≤ g → OT P w0 n ds ops os ks.tail ((d, .slice (some ⟨g, 0, none⟩) m m) :: ts) (.blk g e (List.replicate m z0) :: A) K) : OT P w0 n ds ops (o :: os) ks ts A K := by
  refine ot_new (N := fun _ _ => True) (v := undef) hh hd hw fun a w hd' => ?_
  subst hp hp'
  obtain ⟨j, z, hj, j1, j2, j3, j4⟩ := (hT e i' hi').info
  have hzc : z.cells = #[z0] := by
    apply Array.ext'; rw [j4, hz]
  have hmm : j.bytes * m ≤ 100000 * 1000000 := Nat.mul_le_mul (by omega) hm
  have h1 : (j.bytes : Int) * (m : Int) ≤ 281474976710656 := by
    have : ((j.bytes * m : Nat) : Int) ≤ 281474976710656 := by omega
    rwa [Int.natCast_mul] at this
  have hr := run_make (P := P) w t e j z ((hT t i hi).sl hl) hj j3 k k' m m (by omega) (Int.le_refl _) h1 (by omega)
  have hc : madeCells z.cells ((m : Int).toNat * j.size) = (List.replicate m z0).toArray := by
    rw [hzc, j1, hsz, Nat.mul_one, Int.toNat_natCast]
    apply Array.ext'
    rw [toList_madeCells_one]
  rw [hc] at hr
  refine ⟨_, _, _, ?_, (Below.refl _ _).alloc (Nat.le_refl _) (.cells (List.replicate m z0).toArray e), hd'.st.alloc_blk e (List.replicate m z0), hk w.heap.size hd'.st.base.size⟩
  simp only [execOp, hop, hd'.ev hx, hd'.ev hy]
  simp [hr]
theorem ot_wroteV (hh : ks.headD .wr = .wr) (hd : o.dst = none) (hw : wantB ops ts o = some true)
    (hrun : ∀ a w, Hd w0 n ds ts A a w → ∃ v w', (execOp a.eval o).run P w = .ok (.value v) w' ∧ St w0 A' w') (hk : OT P w0 n ds ops os ks.tail ts A' K) : OT P w0 n ds ops (o :: os) ks ts A K := by
  refine ot_wr hh fun a w hd' => ?_
  obtain ⟨v, w', h1, h3⟩ := hrun a w hd'
  unfold wpV
  rw [if_pos (wantB_spec hd' hw), h1, hd]
  exact ⟨A', (fun e => by cases e), h3, hk⟩
theorem ot_wroteD {v : Value} (hh : ks.headD .wr = .wr) (hd : o.dst = some d) (hw : wantB ops ts o = some true)
    (hrun : ∀ a w, Hd w0 n ds ts A a w → ∃ w', (execOp a.eval o).run P w = .ok (.value v) w' ∧ St w0 A' w') (hk : OT P w0 n ds ops os ks.tail ((d, v) :: ts) A' K) : OT P w0 n ds ops (o :: os) ks ts A K := by
  refine ot_wr hh fun a w hd' => ?_
  obtain ⟨w', h1, h3⟩ := hrun a w hd'
  unfold wpV
  rw [if_pos (wantB_spec hd' hw), h1, hd]
  exact ⟨A', (fun e => by cases e), h3, hk⟩
theorem ot_clear {e m c : Nat} {z0 : Value} {cs : List Value} {bt : TypeId} (hT : TabOk P tab) (hh : ks.headD .wr = .wr) (hop : o.op = .call { callee := .builtin .clear, args := #[x], argTypes := #[t] }) (hd : o.dst = none) (hw : wantB ops ts o = some true) (hx : evT ts x = some (.slice (some ⟨g, 0, none⟩) m c)) (hi : lookI tab t = some i) (hl : i.d = .sl e) (hi' : lookI tab e = some i')
    (hz : i'.zero = [z0]) (h1 : z0.oneCell' = true) (hm : 1 ≤ m) (hu : Upd (.blk g bt cs) (.blk g bt (List.replicate m z0)) A A') (hlen : cs.length = m)
    (hk : OT P w0 n ds ops os ks.tail ts A' K) : OT P w0 n ds ops (o :: os) ks ts A K := by
  refine ot_wroteV hh hd hw (fun a w hh => ?_) hk
  obtain ⟨z, hz1, hz2⟩ := (hT e i' hi').zv w
  have hzc : z.cells = #[z0] := by
    apply Array.ext'; rw [hz2, hz]
  have hb := (hh.st.all _ hu.mem).2
  have hcells : (Builtin.zeroCells z.cells m).toList = List.replicate m z0 := by
    rw [hzc]
    apply List.ext_getElem <;> simp [Builtin.zeroCells, Nat.mod_one]
  have hst := run_storeCells_at P g 0 bt (List.replicate m z0) 0 cs.toArray w hb (by simp [hlen]) (fun v hv => by rw [List.eq_of_mem_replicate hv]; exact h1)
  simp only [Nat.add_zero, Nat.zero_add, List.take_zero, List.nil_append, List.toList_toArray, List.length_replicate] at hst
  rw [List.drop_of_length_le (by omega), List.append_nil] at hst
  refine ⟨.tuple #[], w.setRow g (List.replicate m z0).toArray, ?_, hh.st.set_blk hu (setRow_heap w g cs.toArray _ bt _ hb) grown_setRow⟩
  obtain ⟨m', rfl⟩ : ∃ m', m = m' + 1 := ⟨m - 1, by omega⟩
  rw [exec_builtin hop, BigFrame.builtin_clear]
  simp only [List.map_toArray, List.map_cons, List.map_nil, hh.ev hx, Sem.run_bind]
  simp [Builtin.clear_, run_underlying ((hT t i hi).sl hl), hz1, hcells, hst]
/-- copy(d, s), elements of one cell, all of s. -/
theorem ot_copy {e m c c' : Nat} {B : Option Addr} {cs vs : List Value} {bt : TypeId} (hT : TabOk P tab) (hh : ks.headD .wr = .wr) (hop : o.op = .call { callee := .builtin .copy, args := #[x, y], argTypes := #[t, u] }) (hd : o.dst = some d) (hw : wantB ops ts o = some true) (hx : evT ts x = some (.slice (some ⟨g, 0, none⟩) m c)) (hy : evT ts y = some (.slice B m c')) (hi : lookI tab t = some i) (hl : i.d = .sl e) (hi' : lookI tab e = some i')
    (hsz : i'.size = 1) (hr : ∀ w, St w0 A w → Reads w w.heap.size 1 B m vs) (h1 : ∀ v ∈ vs, v.oneCell' = true) (hu : Upd (.blk g bt cs) (.blk g bt vs) A A') (hlen : cs.length = m) (hB : B = none → m = 0 ∧ c' = 0)
    (hk : OT P w0 n ds ops os ks.tail ((d, .int .i64 (m : Int)) :: ts) A' K) : OT P w0 n ds ops (o :: os) ks ts A K := by
  refine ot_wroteD hh hd hw (fun a w hh => ?_) hk
  have hb := (hh.st.all _ hu.mem).2
  obtain ⟨hvl, hrd⟩ := hr w hh.st
  obtain ⟨j, z, hj, j1, j2, j3, j4⟩ := (hT e i' hi').info
  rw [exec_builtin hop, BigFrame.builtin_copy]
  simp only [List.map_toArray, List.map_cons, List.map_nil, hh.ev hx, hh.ev hy, Sem.run_bind]
  cases B with
  | none =>
    obtain ⟨rfl, rfl⟩ := hB rfl
    have hn := run_copy_nil (P := P) w t u o.type e ⟨g, 0, none⟩ 0 c ((hT t i hi).sl hl) (by rw [hj]; rfl)
    have hcs : cs = vs := (List.eq_nil_of_length_eq_zero hlen).trans (List.eq_nil_of_length_eq_zero (show vs.length = 0 by omega)).symm
    refine ⟨w, by rw [hn]; rfl, ?_⟩
    rw [hcs] at hu
    exact ⟨hh.st.base, fun d hd => by
      rcases hu.mem' d hd with rfl | h
      · rw [← hcs]; exact hh.st.all _ (by rw [hcs]; exact hu.mem)
      · exact hh.st.all _ h, hu.pair hh.st.apart fun d hd h => h⟩
  | some ad =>
    by_cases hm : m = 0
    · subst hm
      have hcs : cs = vs := (List.eq_nil_of_length_eq_zero hlen).trans (List.eq_nil_of_length_eq_zero (show vs.length = 0 by omega)).symm
      have hn := run_copy_none (P := P) w t u o.type e (some ⟨g, 0, none⟩) (some ad) 0 c 0 c' ((hT t i hi).sl hl) (by rw [hj]; simp [j1, hsz]) (by simp)
      refine ⟨w, by rw [hn]; rfl, ?_⟩
      rw [hcs] at hu
      exact ⟨hh.st.base, fun d hd => by
        rcases hu.mem' d hd with rfl | h
        · rw [← hcs]; exact hh.st.all _ (by rw [hcs]; exact hu.mem)
        · exact hh.st.all _ h, hu.pair hh.st.apart fun d hd h => h⟩
    · obtain ⟨b', o', he, hb', hc⟩ := hrd (by omega)
      cases he
      have hrun := run_copy_row (P := P) w t u o.type e g 0 m c ⟨b', o', none⟩ m c' cs.toArray bt vs ((hT t i hi).sl hl) (by rw [hj]; simp [j1, hsz]) hb (by rw [hvl, Nat.mul_one]; simp) (fun q v hv => by rw [Addr.add_none]; exact hc q v hv) (by simp; omega) h1
      simp only [List.take_zero, List.nil_append, Nat.zero_add, List.toList_toArray] at hrun
      rw [List.drop_of_length_le (by omega), List.append_nil] at hrun
      exact ⟨w.setRow g vs.toArray, by rw [hrun, hvl, Nat.mul_one]; rfl, hh.st.set_blk hu (setRow_heap w g cs.toArray _ bt _ hb) grown_setRow⟩
/-- x[:len(x):len(x)] -/
theorem ot_slice_trim {e len cap : Nat} {B : Option Addr} {hi mx : Operand} {k k' : IntKind} {p p' : Int} (hT : TabOk P tab) (hop : o.op = .slice t x none (some hi) (some mx)) (hd : o.dst = some d) (hw : wantB ops ts o = some true) (hx : evT ts x = some (.slice B len cap)) (hh : evT ts hi = some (.int k p)) (hm : evT ts mx = some (.int k' p'))
    (hi : lookI tab t = some i) (hdd : i.d = .sl e) (hi' : lookI tab e = some i') (hp : p = (len : Int)) (hp' : p' = (len : Int)) (hle : len ≤ cap) (hB : B = none ∨ ∃ b o, B = some ⟨b, o, none⟩)
    (hk : OT P w0 n ds ops os ks.tail ((d, .slice B len len) :: ts) A K) : OT P w0 n ds ops (o :: os) ks ts A K :=
  ot_val _ hd hw (fun a w hh' => by
    subst hp hp'
    have h1 := (hT t i hi).sl hdd
    have h2 := (hT e i' hi').sz w
    have h3 : (0 : Int) ≤ len ∧ (len : Int) ≤ cap := by omega
    have h4 : (0 : Int) ≤ len := by omega
    simp only [execOp, hop, hh'.ev hx, hh'.ev hh, hh'.ev hm, Instr.sliceAt, Option.map_some, Option.map_none, Sem.run_bind, run_underlying h1, Result.andThen_ok, Instr.slice, Instr.sliceBounds, Instr.sliceBound, asIntOf, Sem.run_pure, h3, h4, and_self, if_true, h2, Int.toNat_natCast, Option.isSome_none, Bool.false_eq_true, if_false]
    rcases hB with rfl | ⟨b, o, rfl⟩
    · by_cases hc : len = 0 <;> simp [hc, h2, h3, h4, Result.andThen]
    · by_cases hc : len = 0 <;> simp [hc, h2, h3, h4, Addr.add_none, Result.andThen]) hk
end
/-! ## Maps -/
section
variable {P : Program} {tab : TT} {w0 : World} {n : Nat} {ds : List Deferred} {ops : List Oper} {o : Oper} {os : List Oper} {ks : List Kind} {ts : TS} {A A' : List Chunk} {K : TS → List Chunk → Prop} {d : Tmp}
variable {x y z : Operand} {t u : TypeId} {κ : Type} [DecidableEq κ] {enc : κ → Value} {L : List (κ × Value)} {b : Nat} {kt et : TypeId}
/-- Lay theorems by their runs: a map's entries, as they are written. -/
def encL (enc : κ → Value) (L : List (κ × Value)) : List (Value × Value) := L.map fun p => (enc p.1, p.2)
omit [DecidableEq κ] in
theorem MapIs.has {w : World} (h : MapIs w b enc L) : MapHas w.heap[b]? (encL enc L) := by
  obtain ⟨es, clock, h1, h2, _, h3, h4⟩ := h
  exact ⟨es, clock, h1, h2, h3, h4⟩
end
/-! ## What is only read from now on -/
section
section
variable {w0 w w' : World} {A : List Chunk}
theorem cell_row0 {b j : Nat} {cs : List Value} {v : Value} (h : .row b 0 cs ∈ A) (hv : cs[j]? = some v) : CellAt w0 A b j v := fun w hs => by
  have := (hs.all _ h).2 j v hv
  rwa [Nat.zero_add] at this
theorem cells_row0 {b : Nat} {cs : List Value} (h : .row b 0 cs ∈ A) : CellsAt w0 A b 0 cs := fun w hs j u hu => (hs.all _ h).2 j u hu
end
/-! ### calls that hand back a slice -/
/-- A slice of cells is handed back. -/
def SliceRet (sz n : Nat) (xs : List Value) (w0 : World) (e : Ending) (w' : World) : Prop :=
  (∃ B c, e = .returned (.slice B n c) ∧ Reads w' w'.heap.size sz B n xs) ∧ Below w0.heap.size w0 w'
variable {P : Program} {w0 : World} {n : Nat} {ds : List Deferred} {ops : List Oper} {o : Oper} {os : List Oper} {ks : List Kind} {ts : TS} {A : List Chunk} {K : TS → List Chunk → Prop} {d : Tmp}
variable {f : FuncId} {xa : Array Operand} {ats : Array TypeId} {avs : List Value} {sz m : Nat} {xs : List Value}
end
section
variable {P : Program} {w0 : World} {n : Nat} {r : Option Nat} {ds : List Deferred} {ts : TS} {A : List Chunk} {Q : PostT}
/-- Nothing is owned yet. -/
theorem tr_own_nil {c : Code} (t : TypeId) (sz : Nat) (h : Tr P r w0 n c ds ts (.own (.slice none 0 0) t sz 0 [] :: A) Q) : Tr P r w0 n c ds ts A Q :=
  tr_st (fun w hs => ⟨hs.base, fun d hd => by
    rcases List.mem_cons.1 hd with rfl | hd
    · exact World.ownsRow_nil w _ _ _
    · exact hs.all d hd, .cons (fun d hd _ b hb => by cases hb) hs.apart⟩) h
end
/-! ## Ranges over maps -/
section
variable {P : Program} {tab : TT} {w0 : World} {n : Nat} {r : Option Nat} {ds : List Deferred} {ops : List Oper} {o : Oper} {os : List Oper} {ks : List Kind} {ts : TS} {A A' : List Chunk} {K : TS → List Chunk → Prop} {d : Tmp} {Q : PostT}
variable {x y z : Operand} {t u : TypeId} {κ : Type} [DecidableEq κ] {enc : κ → Value} {L : List (κ × Value)} {b g : Nat} {kt et : TypeId} {arr : Array MapEntry} {clock : Nat} {seen : Array Nat}
/-- Lay theorems by their runs: memory has more to say. -/
theorem tr_ex {α : Type} {c : Code} (B : α → List Chunk) (p : α → Prop) (hp : ∀ w, St w0 A w → ∃ x, p x ∧ St w0 (B x) w) (h : ∀ x, p x → Tr P r w0 n c ds ts (B x) Q) : Tr P r w0 n c ds ts A Q := fun m a w hh => by
  obtain ⟨x, h1, h2⟩ := hp w hh.st
  exact h x h1 m a w (hh.world h2)
theorem St.swap {w : World} {c c' : Chunk} (hs : St w0 A w) (hu : Upd c c' A A') (ha : c'.at_ = c.at_) (hm : c'.mut = c.mut) (hc : c'.holds w0.heap.size w) : St w0 A' w where
  base := hs.base
  all := fun d hd => by
    rcases hu.mem' d hd with rfl | h
    · exact hc
    · exact hs.all d h
  apart := hu.pair hs.apart fun d _ h hmm b hb hb' => h (by rw [← hm]; exact hmm) b hb (by rw [← ha]; exact hb')
end
/-! ## Structs of numbers, compared -/
section
variable {P : Program}
end
/-! ## Maps as functions, with stamps of entries -/
section
variable {P : Program} {κ : Type} [DecidableEq κ] {enc : κ → Value}
def updM (m : κ → Option Value) (k : κ) (v : Value) : κ → Option Value := fun x => if x = k then some v else m x
def delM (m : κ → Option Value) (k : κ) : κ → Option Value := fun x => if x = k then none else m x
/-- Lay theorems by their runs: an object is a map that shows a function; some stamps are those of some keys. -/
def MapP (enc : κ → Value) (m : κ → Option Value) (st : List (Nat × κ)) (o : Option Obj) : Prop :=
  ∃ es clock, o = some (.map es clock) ∧ (∀ e ∈ es.toList, ∃ k, e.key = enc k) ∧ (∀ e ∈ es.toList, e.born < clock) ∧ (es.toList.map (·.born)).Nodup ∧ (es.toList.map (·.key)).Nodup ∧
    (∀ k v, m k = some v ↔ ∃ e ∈ es.toList, e.key = enc k ∧ e.val = v) ∧ (∀ p ∈ st, ∃ e ∈ es.toList, e.born = p.1 ∧ e.key = enc p.2)
theorem KeyEnc.inj {kt : TypeId} (Ke : KeyEnc P kt enc) {x y : κ} (h : enc x = enc y) (w : World) : x = y := by
  have h1 := Ke.eq x y w
  have h2 := Ke.eq y y w
  rw [h] at h1
  rw [h1] at h2
  simpa using h2
omit [DecidableEq κ] in
theorem enc_list : ∀ (l : List MapEntry), (∀ e ∈ l, ∃ k, e.key = enc k) → ∃ L : List (κ × Value), l.map (fun e => (e.key, e.val)) = L.map (fun p => (enc p.1, p.2))
  | [], _ => ⟨[], rfl⟩
  | e :: l, h => by
    obtain ⟨k, hk⟩ := h e (.head _)
    obtain ⟨L, hL⟩ := enc_list l fun e he => h e (.tail _ he)
    exact ⟨(k, e.val) :: L, by simp [hL, hk]⟩
/-- What the search for a key finds. -/
theorem MapP.find {kt : TypeId} (Ke : KeyEnc P kt enc) {m : κ → Option Value} {es : Array MapEntry} (h1 : ∀ e ∈ es.toList, ∃ k, e.key = enc k) (h4 : ∀ k v, m k = some v ↔ ∃ e ∈ es.toList, e.key = enc k ∧ e.val = v) (k : κ) (w : World) :
    (m k = none ∧ (Instr.findKey kt (enc k) es.toList).run P w = .ok none w ∧ ∀ e ∈ es.toList, e.key ≠ enc k) ∨ ∃ j e, (Instr.findKey kt (enc k) es.toList).run P w = .ok (some (j, e.val)) w ∧ es[j]? = some e ∧ e.key = enc k ∧ m k = some e.val := by
  obtain ⟨L, hL⟩ := enc_list es.toList h1
  have hf := run_findKey_is Ke w k es.toList L hL
  rcases findIdxL_spec L k 0 with ⟨f1, f2, _⟩ | ⟨j, v, f1, f2, _⟩
  · left
    have hno : ∀ e ∈ es.toList, e.key ≠ enc k := fun e he hk => by
      have hm : (e.key, e.val) ∈ L.map (fun p => (enc p.1, p.2)) := by rw [← hL]; exact List.mem_map.2 ⟨e, he, rfl⟩
      obtain ⟨p, hp, hpe⟩ := List.mem_map.1 hm
      simp only [Prod.mk.injEq] at hpe
      have := Ke.inj (hpe.1.trans hk) w
      have h2 := List.any_eq_false.1 f2 p hp
      simp [this] at h2
    refine ⟨?_, by rw [hf, f1], hno⟩
    cases hm : m k with
    | none => rfl
    | some v =>
      obtain ⟨e, he, h5, _⟩ := (h4 k v).1 hm
      exact absurd h5 (hno e he)
  · right
    have he : (es.toList[j]?).map (fun e => (e.key, e.val)) = some (enc k, v) := by rw [← List.getElem?_map, hL, List.getElem?_map, f2]; rfl
    cases hj : es.toList[j]? with
    | none => rw [hj] at he; cases he
    | some e =>
      rw [hj] at he
      simp only [Option.map_some, Option.some.injEq, Prod.mk.injEq] at he
      obtain ⟨g1, g2⟩ := he
      exact ⟨j, e, by rw [hf, f1, g2, Nat.zero_add], by simpa using hj, g1, (h4 k e.val).2 ⟨e, List.mem_of_getElem? hj, g1, rfl⟩⟩
theorem mem_modify' {α : Type} {l : List α} {i : Nat} {f : α → α} {x : α} : x ∈ l.modify i f ↔ ∃ j e, l[j]? = some e ∧ x = if i = j then f e else e := by
  constructor
  · intro h
    obtain ⟨j, hj⟩ := List.mem_iff_getElem?.1 h
    rw [List.getElem?_modify] at hj
    cases he : l[j]? with
    | none => rw [he] at hj; cases hj
    | some e =>
      rw [he] at hj
      simp only [Option.map_eq_map, Option.map_some, Option.some.injEq] at hj
      exact ⟨j, e, he, by rw [← hj]⟩
  · rintro ⟨j, e, he, rfl⟩
    refine List.mem_iff_getElem?.2 ⟨j, ?_⟩
    rw [List.getElem?_modify, he]
    rfl
theorem at_unique {β : Type} {f : MapEntry → β} {es : List MapEntry} {i j : Nat} {e e' : MapEntry} (hk : (es.map f).Nodup) (hi : es[i]? = some e) (hj : es[j]? = some e') (h : f e = f e') : i = j := by
  have h1 : (es.map f)[i]? = some (f e) := by rw [List.getElem?_map, hi]; rfl
  have h2 : (es.map f)[j]? = some (f e) := by rw [List.getElem?_map, hj, h]; rfl
  obtain ⟨a, ha⟩ := List.getElem?_eq_some_iff.1 h1
  obtain ⟨c, hc⟩ := List.getElem?_eq_some_iff.1 h2
  rcases Nat.lt_trichotomy i j with h' | h' | h'
  · exact absurd (ha.trans hc.symm) (List.pairwise_iff_getElem.1 hk i j a c h')
  · exact h'
  · exact absurd (hc.trans ha.symm) (List.pairwise_iff_getElem.1 hk j i c a h')
variable {w : World} {b : Nat} {m : κ → Option Value} {st : List (Nat × κ)} {kt t et : TypeId}
theorem MapP.look (Ke : KeyEnc P kt enc) (ht : P.underlying t = some (.map kt et)) {z : Value} (hz : ∀ w, (zeroValue et).run P w = .ok z w) (h : MapP enc m st w.heap[b]?) (k : κ) (c : Bool) :
    (Instr.lookup t (.map (some b)) (enc k) c).run P w = .ok (if c then .tuple #[(m k).getD z, .bool (m k).isSome] else (m k).getD z) w := by
  obtain ⟨es, clock, hh, h1, _, _, _, h4, _⟩ := h
  simp only [Instr.lookup, Sem.run_bind, run_underlying ht, Result.andThen_ok, MapKept.run_getObj_map hh, Sem.run_pure, Ke.check]
  rcases MapP.find Ke h1 h4 k w with ⟨f1, f2, _⟩ | ⟨j, e, f1, _, _, f4⟩
  · rw [f1, f2]
    cases c <;> simp [hz, Result.andThen]
  · rw [f4, f1]
    cases c <;> simp
theorem MapP.push (Ke : KeyEnc P kt enc) {es : Array MapEntry} {clock : Nat} (h1 : ∀ e ∈ es.toList, ∃ k, e.key = enc k) (h2 : ∀ e ∈ es.toList, e.born < clock) (h3 : (es.toList.map (·.born)).Nodup) (hkn : (es.toList.map (·.key)).Nodup) (h4 : ∀ k v, m k = some v ↔ ∃ e ∈ es.toList, e.key = enc k ∧ e.val = v)
    (h5 : ∀ p ∈ st, ∃ e ∈ es.toList, e.born = p.1 ∧ e.key = enc p.2) (k : κ) (v : Value) (hno : ∀ e ∈ es.toList, e.key ≠ enc k) : MapP enc (updM m k v) ((clock, k) :: st) (some (.map (es.push { key := enc k, val := v, born := clock }) (clock + 1))) := by
  refine ⟨_, _, rfl, ?_, ?_, ?_, ?_, ?_, ?_⟩
  · intro e he
    simp only [Array.toList_push, List.mem_append, List.mem_singleton] at he
    rcases he with he | rfl
    · exact h1 e he
    · exact ⟨k, rfl⟩
  · intro e he
    simp only [Array.toList_push, List.mem_append, List.mem_singleton] at he
    rcases he with he | rfl
    · have := h2 e he; omega
    · simp
  · simp only [Array.toList_push, List.map_append, List.map_cons, List.map_nil, List.nodup_append]
    refine ⟨h3, by simp, fun a ha c hc => ?_⟩
    obtain ⟨e, hm, rfl⟩ := List.mem_map.1 ha
    simp at hc
    subst hc
    have := h2 e hm
    omega
  · simp only [Array.toList_push, List.map_append, List.map_cons, List.map_nil, List.nodup_append]
    refine ⟨hkn, by simp, fun a ha c hc => ?_⟩
    obtain ⟨e, hm, rfl⟩ := List.mem_map.1 ha
    simp at hc
    subst hc
    exact hno e hm
  · intro k' v'
    simp only [Array.toList_push, List.mem_append, List.mem_singleton, updM]
    by_cases hk : k' = k
    · subst hk
      rw [if_pos rfl]
      constructor
      · intro e; cases e; exact ⟨_, .inr rfl, rfl, rfl⟩
      · rintro ⟨e, he | rfl, g1, g2⟩
        · exact absurd g1 (hno e he)
        · simpa using g2
    · rw [if_neg hk, h4]
      constructor
      · rintro ⟨e, he, g⟩; exact ⟨e, .inl he, g⟩
      · rintro ⟨e, he | rfl, g1, g2⟩
        · exact ⟨e, he, g1, g2⟩
        · exact absurd (Ke.inj g1 default).symm hk
  · intro p hp
    simp only [Array.toList_push, List.mem_append, List.mem_singleton]
    rcases List.mem_cons.1 hp with rfl | hp
    · exact ⟨_, .inr rfl, rfl, rfl⟩
    · obtain ⟨e, he, g⟩ := h5 p hp; exact ⟨e, .inl he, g⟩
theorem MapP.modify (Ke : KeyEnc P kt enc) {es : Array MapEntry} {clock : Nat} (h1 : ∀ e ∈ es.toList, ∃ k, e.key = enc k) (h2 : ∀ e ∈ es.toList, e.born < clock) (h3 : (es.toList.map (·.born)).Nodup) (hkn : (es.toList.map (·.key)).Nodup) (h4 : ∀ k v, m k = some v ↔ ∃ e ∈ es.toList, e.key = enc k ∧ e.val = v)
    (h5 : ∀ p ∈ st, ∃ e ∈ es.toList, e.born = p.1 ∧ e.key = enc p.2) (k : κ) (v : Value) (f : MapEntry → MapEntry) (j : Nat) (e0 : MapEntry) (hj : es[j]? = some e0) (hk0 : e0.key = enc k) (hf : f e0 = { e0 with val := v }) : MapP enc (updM m k v) st (some (.map (es.modify j f) clock)) := by
  have hj' : es.toList[j]? = some e0 := by simpa using hj
  have hmem : ∀ x, x ∈ (es.modify j f).toList ↔ ∃ i e, es.toList[i]? = some e ∧ x = if j = i then { e with val := v } else e := fun x => by
    rw [Array.toList_modify, mem_modify']
    constructor
    · rintro ⟨i, e, he, rfl⟩
      refine ⟨i, e, he, ?_⟩
      by_cases hi : j = i
      · subst hi; rw [hj'] at he; cases he; rw [if_pos rfl, if_pos rfl, hf]
      · rw [if_neg hi, if_neg hi]
    · rintro ⟨i, e, he, rfl⟩
      refine ⟨i, e, he, ?_⟩
      by_cases hi : j = i
      · subst hi; rw [hj'] at he; cases he; rw [if_pos rfl, if_pos rfl, hf]
      · rw [if_neg hi, if_neg hi]
  refine ⟨_, _, rfl, ?_, ?_, ?_, ?_, ?_, ?_⟩
  · intro x hx
    obtain ⟨i, e, he, rfl⟩ := (hmem x).1 hx
    obtain ⟨k', hk'⟩ := h1 e (List.mem_of_getElem? he)
    exact ⟨k', by split <;> exact hk'⟩
  · intro x hx
    obtain ⟨i, e, he, rfl⟩ := (hmem x).1 hx
    have := h2 e (List.mem_of_getElem? he)
    split <;> exact this
  · have : (es.modify j f).toList.map (·.born) = es.toList.map (·.born) := by
      rw [Array.toList_modify]
      apply List.ext_getElem?
      intro i
      rw [List.getElem?_map, List.getElem?_modify, List.getElem?_map]
      by_cases hi : j = i
      · subst hi; rw [hj']; simp [hf]
      · simp [hi]
    rw [this]; exact h3
  · have : (es.modify j f).toList.map (·.key) = es.toList.map (·.key) := by
      rw [Array.toList_modify]
      apply List.ext_getElem?
      intro i
      rw [List.getElem?_map, List.getElem?_modify, List.getElem?_map]
      by_cases hi : j = i
      · subst hi; rw [hj']; simp [hf]
      · simp [hi]
    rw [this]; exact hkn
  · intro k' v'
    unfold updM
    by_cases hk : k' = k
    · subst hk
      rw [if_pos rfl]
      constructor
      · intro e; cases e
        exact ⟨{ e0 with val := v }, (hmem _).2 ⟨j, e0, hj', by rw [if_pos rfl]⟩, hk0, rfl⟩
      · rintro ⟨x, hx, g1, g2⟩
        obtain ⟨i, e, he, rfl⟩ := (hmem x).1 hx
        have hke : e.key = enc k' := by revert g1; split <;> exact id
        have := at_unique hkn he hj' (hke.trans hk0.symm)
        subst this
        rw [if_pos rfl] at g2
        simpa using g2
    · rw [if_neg hk, h4]
      constructor
      · rintro ⟨e, he, g1, g2⟩
        obtain ⟨i, hi⟩ := List.mem_iff_getElem?.1 he
        have hne : ¬ j = i := fun e' => by subst e'; rw [hj'] at hi; cases hi; exact hk (Ke.inj (g1.symm.trans hk0) default)
        exact ⟨e, (hmem _).2 ⟨i, e, hi, by rw [if_neg hne]⟩, g1, g2⟩
      · rintro ⟨x, hx, g1, g2⟩
        obtain ⟨i, e, he, rfl⟩ := (hmem x).1 hx
        by_cases hi : j = i
        · subst hi
          rw [hj'] at he; cases he
          rw [if_pos rfl] at g1
          exact absurd (Ke.inj (g1.symm.trans hk0) default) hk
        · rw [if_neg hi] at g1 g2
          exact ⟨e, List.mem_of_getElem? he, g1, g2⟩
  · intro p hp
    obtain ⟨e, he, g1, g2⟩ := h5 p hp
    obtain ⟨i, hi⟩ := List.mem_iff_getElem?.1 he
    refine ⟨_, (hmem _).2 ⟨i, e, hi, rfl⟩, ?_, ?_⟩
    · split <;> exact g1
    · split <;> exact g2

theorem MapP.new : MapP enc (fun _ => none) [] (some (.map #[] 0)) := ⟨#[], 0, rfl, by simp, by simp, by simp, by simp, by simp, by simp⟩
theorem MapP.upd (Ke : KeyEnc P kt enc) (ht : P.underlying t = some (.map kt et)) (h : MapP enc m st w.heap[b]?) (k : κ) (v : Value) :
    ∃ o, (Instr.mapUpdate t (.map (some b)) (enc k) v).run P w = .ok () (w.putObj b o) ∧ MapP enc (updM m k v) st (some o) := by
  obtain ⟨es, clock, hh, h1, h2, h3, hkn, h4, h5⟩ := h
  rcases MapP.find Ke h1 h4 k w with ⟨f1, f2, f3⟩ | ⟨j, e, f1, f2, f3, f4⟩
  · have hp := MapP.push Ke h1 h2 h3 hkn h4 h5 k v f3
    refine ⟨.map (es.push { key := enc k, val := v, born := clock }) (clock + 1), ?_, ?_⟩
    · simp only [Instr.mapUpdate, Sem.run_bind, run_underlying ht, Result.andThen_ok, MapKept.run_getObj_map hh, Ke.check, f2]
      exact MapKept.run_setObj_map _ hh
    · obtain ⟨es', c', g0, g1, g2, g3, gk, g4, g5⟩ := hp
      exact ⟨es', c', g0, g1, g2, g3, gk, g4, fun p hp => g5 p (.tail _ hp)⟩
  · refine ⟨.map (es.modify j (fun e => { e with key := enc k, val := v })) clock, ?_, ?_⟩
    · simp only [Instr.mapUpdate, Sem.run_bind, run_underlying ht, Result.andThen_ok, MapKept.run_getObj_map hh, Ke.check, f1, f2, Option.map_some, Option.getD_some, f3, Instr.keyThatStays, Ke.stays, if_true, Sem.run_pure]
      exact MapKept.run_setObj_map _ hh
    · exact MapP.modify Ke h1 h2 h3 hkn h4 h5 k v _ j e f2 f3 (by rw [← f3])
theorem MapP.entry (Ke : KeyEnc P kt enc) (ht : P.underlying t = some (.map kt et)) {z : Value} (hz : ∀ w, (zeroValue et).run P w = .ok z w) (h : MapP enc m st w.heap[b]?) (k : κ) :
    ∃ o v s, (Instr.mapEntry t (.map (some b)) (enc k)).run P w = .ok (.tuple #[v, .int .i64 ((s : Nat) : Int)]) (w.putObj b o) ∧ MapP enc (match m k with
      | none => updM m k z
      | some _ => m) ((s, k) :: st) (some o) := by
  obtain ⟨es, clock, hh, h1, h2, h3, hkn, h4, h5⟩ := h
  rcases MapP.find Ke h1 h4 k w with ⟨f1, f2, f3⟩ | ⟨j, e, f1, f2, f3, f4⟩
  · have hp := MapP.push Ke h1 h2 h3 hkn h4 h5 k z f3
    refine ⟨.map (es.push { key := enc k, val := z, born := clock }) (clock + 1), z, clock, ?_, by rw [f1]; exact hp⟩
    simp only [Instr.mapEntry, Sem.run_bind, run_underlying ht, Result.andThen_ok, MapKept.run_getObj_map hh, Ke.check, f2, hz, Sem.run_pure]
    rw [MapKept.run_setObj_map _ hh]
    rfl
  · have hes : es.modify j (fun e => { e with key := enc k }) = es := by
      apply Array.ext'
      rw [Array.toList_modify]
      apply List.ext_getElem?
      intro i
      rw [List.getElem?_modify]
      by_cases hi : j = i
      · subst hi
        have : es.toList[j]? = some e := by simpa using f2
        rw [this, ← f3]; simp
      · simp [hi]
    refine ⟨.map es clock, e.val, e.born, ?_, ?_⟩
    · simp only [Instr.mapEntry, Sem.run_bind, run_underlying ht, Result.andThen_ok, MapKept.run_getObj_map hh, Ke.check, f1, f2, Option.map_some, Option.getD_some, f3, Instr.keyThatStays, Ke.stays, if_true, Sem.run_pure, hes]
      rw [MapKept.run_setObj_map _ hh]
      rfl
    · rw [f4]
      refine ⟨es, clock, rfl, h1, h2, h3, hkn, h4, fun p hp => ?_⟩
      rcases List.mem_cons.1 hp with rfl | hp
      · exact ⟨e, by have : es.toList[j]? = some e := by simpa using f2
                     exact List.mem_of_getElem? this, rfl, f3⟩
      · exact h5 p hp
theorem MapP.estore (Ke : KeyEnc P kt enc) (h : MapP enc m st w.heap[b]?) {s : Nat} {k : κ} (hs : (s, k) ∈ st) (v : Value) :
    ∃ o, (Instr.entryStore t (.map (some b)) (.int .i64 ((s : Nat) : Int)) v).run P w = .ok () (w.putObj b o) ∧ MapP enc (updM m k v) st (some o) := by
  obtain ⟨es, clock, hh, h1, h2, h3, hkn, h4, h5⟩ := h
  obtain ⟨e, he, hb, hk⟩ := h5 _ hs
  obtain ⟨j, hj⟩ := List.mem_iff_getElem?.1 he
  have hfi := WideElems.findIdx_born h3 hj
  have hj' : es[j]? = some e := by simpa using hj
  refine ⟨.map (es.modify j (fun e => { e with val := v })) clock, ?_, MapP.modify Ke h1 h2 h3 hkn h4 h5 k v _ j e hj' hk rfl⟩
  dsimp only at hb
  rw [hb] at hfi
  simp only [Instr.entryStore, Sem.run_bind, Sem.run_pure, Result.andThen_ok, MapKept.run_getObj_map hh, asInt, asIntOf, WideElems.findIdx_arr, hfi]
  exact MapKept.run_setObj_map _ hh
theorem mem_eraseIdx' {α : Type} {l : List α} {j : Nat} {x : α} (hn : ∀ i, l[i]? = some x → i ≠ j) (h : x ∈ l) : x ∈ l.eraseIdx j := by
  obtain ⟨i, hi⟩ := List.mem_iff_getElem?.1 h
  have := hn i hi
  refine List.mem_iff_getElem?.2 ?_
  by_cases hlt : i < j
  · exact ⟨i, by rw [List.getElem?_eraseIdx, if_pos hlt]; exact hi⟩
  · exact ⟨i - 1, by rw [List.getElem?_eraseIdx, if_neg (by omega)]; rw [show i - 1 + 1 = i by omega]; exact hi⟩
theorem MapP.del (Ke : KeyEnc P kt enc) (ht : P.underlying t = some (.map kt et)) (h : MapP enc m st w.heap[b]?) (k : κ) {u ty : TypeId} :
    ∃ o, (Builtin.delete_ #[t, u] ty #[.map (some b), enc k]).run P w = .ok (.tuple #[]) (w.putObj b o) ∧ MapP enc (delM m k) [] (some o) := by
  obtain ⟨es, clock, hh, h1, h2, h3, hkn, h4, h5⟩ := h
  rcases MapP.find Ke h1 h4 k w with ⟨f1, f2, f3⟩ | ⟨j, e, f1, f2, f3, f4⟩
  · refine ⟨.map es clock, ?_, es, clock, rfl, h1, h2, h3, hkn, fun k' v' => ?_, by simp⟩
    · simp [Builtin.delete_, run_underlying ht, MapKept.run_getObj_map hh, Ke.check, f2, MapKept.run_setObj_map _ hh]
      rfl
    · unfold delM
      by_cases hk : k' = k
      · subst hk; rw [if_pos rfl, ← h4, f1]
      · rw [if_neg hk]; exact h4 k' v'
  · have hj : es.toList[j]? = some e := by simpa using f2
    have hlt : j < es.size := (Array.getElem?_eq_some_iff.1 f2).1
    have htl : (es.eraseIdxIfInBounds j).toList = es.toList.eraseIdx j := by
      unfold Array.eraseIdxIfInBounds
      rw [dif_pos hlt, Array.toList_eraseIdx]
    have hsub : (es.toList.eraseIdx j).Sublist es.toList := List.eraseIdx_sublist _ _
    refine ⟨.map (es.eraseIdxIfInBounds j) clock, ?_, _, clock, rfl, ?_, ?_, ?_, ?_, fun k' v' => ?_, by simp⟩
    · simp [Builtin.delete_, run_underlying ht, MapKept.run_getObj_map hh, Ke.check, f1, MapKept.run_setObj_map _ hh]
      rfl
    · rw [htl]; exact fun x hx => h1 x (hsub.subset hx)
    · rw [htl]; exact fun x hx => h2 x (hsub.subset hx)
    · rw [htl]; exact h3.sublist (hsub.map _)
    · rw [htl]; exact hkn.sublist (hsub.map _)
    · rw [htl]
      unfold delM
      by_cases hk : k' = k
      · subst hk
        rw [if_pos rfl]
        refine ⟨(fun e => by cases e), ?_⟩
        rintro ⟨x, hx, g1, g2⟩
        exfalso
        obtain ⟨i, hi⟩ := List.mem_iff_getElem?.1 hx
        rw [List.getElem?_eraseIdx] at hi
        split at hi
        · have := at_unique hkn hi hj (g1.trans f3.symm); omega
        · have := at_unique hkn hi hj (g1.trans f3.symm); omega
      · rw [if_neg hk, h4]
        constructor
        · rintro ⟨x, hx, g1, g2⟩
          refine ⟨x, mem_eraseIdx' (fun i hi e' => ?_) hx, g1, g2⟩
          subst e'
          rw [hj] at hi; cases hi
          exact hk (Ke.inj (g1.symm.trans f3) default)
        · rintro ⟨x, hx, g1, g2⟩
          exact ⟨x, hsub.subset hx, g1, g2⟩

/-! ### in a walk -/
section
variable {tab : TT} {w0 : World} {n : Nat} {ds : List Deferred} {ops : List Oper} {o : Oper} {os : List Oper} {ks : List Kind} {ts : TS} {A A' : List Chunk} {K : TS → List Chunk → Prop} {d : Tmp}
variable {x y z : Operand} {u : TypeId}
/-- A map shows a function. -/
def MapAt (w0 : World) (A : List Chunk) (b : Nat) (enc : κ → Value) (m : κ → Option Value) : Prop := ∀ w, St w0 A w → ∃ st, MapP enc m st w.heap[b]?
omit [DecidableEq κ] in
theorem mapAt_mem (h : .prd b (MapP enc m st) ∈ A) : MapAt w0 A b enc m := fun w hs => ⟨st, (hs.all _ h).2.2⟩
theorem St.set_prd {w : World} {p p' : Option Obj → Prop} {ob : Obj} (hs : St w0 A w) (hu : Upd (.prd b p) (.prd b p') A A') (hp : p' (some ob)) : St w0 A' (w.putObj b ob) := by
  have h1 := (hs.all _ hu.mem).2
  refine hs.upd hu rfl (grownBy_putObj' w b _) ⟨(hs.all _ hu.mem).1, ?_, ?_⟩ fun b hb => .inl hb
  · have := (grownBy_putObj' w b ob).size; omega
  · rw [World.putObj_heap_same h1.1]; exact hp
theorem ot_lookF {zv : Value} {k : κ} (Ke : KeyEnc P kt enc) (ht : P.underlying t = some (.map kt et)) (hzv : ∀ w, (zeroValue et).run P w = .ok zv w) (hop : o.op = .lookup t x y false) (hd : o.dst = some d) (hw : wantB ops ts o = some true) (hx : evT ts x = some (.map (some b))) (hy : evT ts y = some (enc k))
    (hm : MapAt w0 A b enc m) (hk : OT P w0 n ds ops os ks.tail ((d, (m k).getD zv) :: ts) A K) : OT P w0 n ds ops (o :: os) ks ts A K :=
  ot_val _ hd hw (fun a w hh => by
    obtain ⟨st, h0⟩ := hm w hh.st
    have h1 := h0.look Ke ht hzv k false
    simp only [Bool.false_eq_true, if_false] at h1
    simp [execOp, hop, hh.ev hx, hh.ev hy, h1]) hk
theorem ot_updF {v : Value} {k : κ} (Ke : KeyEnc P kt enc) (ht : P.underlying t = some (.map kt et)) (hh : ks.headD .wr = .wr) (hop : o.op = .mapUpdate t x y z) (hd : o.dst = none) (hw : wantB ops ts o = some true) (hx : evT ts x = some (.map (some b))) (hy : evT ts y = some (enc k)) (hz : evT ts z = some v)
    (hu : Upd (.prd b (MapP enc m st)) (.prd b (MapP enc (updM m k v) st)) A A') (hk : OT P w0 n ds ops os ks.tail ts A' K) : OT P w0 n ds ops (o :: os) ks ts A K := by
  refine ot_wrote hh hd hw (fun a w hh => ?_) hk
  obtain ⟨ob, h1, h2⟩ := (hh.st.all _ hu.mem).2.2.upd (w := w) Ke ht k v
  exact ⟨_, by simp [execOp, hop, hh.ev hx, hh.ev hy, hh.ev hz, h1], hh.st.set_prd hu h2⟩
theorem ot_entryF {zv : Value} {k : κ} {A'v : Nat → List Chunk} (Ke : KeyEnc P kt enc) (ht : P.underlying t = some (.map kt et)) (hzv : ∀ w, (zeroValue et).run P w = .ok zv w) (hh : ks.headD .wr = .wr) (hop : o.op = .mapEntry t x y) (hd : o.dst = some d) (hw : wantB ops ts o = some true) (hx : evT ts x = some (.map (some b))) (hy : evT ts y = some (enc k))
    (hu : ∀ s, Upd (.prd b (MapP enc m st)) (.prd b (MapP enc (match m k with
      | none => updM m k zv
      | some _ => m) ((s, k) :: st))) A (A'v s)) (hk : ∀ v (s : Nat), OT P w0 n ds ops os ks.tail ((d, .tuple #[v, .int .i64 (s : Int)]) :: ts) (A'v s) K) : OT P w0 n ds ops (o :: os) ks ts A K := by
  refine ot_wr hh fun a w hh => ?_
  obtain ⟨ob, v, s, h1, h2⟩ := (hh.st.all _ (hu 0).mem).2.2.entry (w := w) Ke ht hzv k
  unfold wpV
  rw [if_pos (wantB_spec hh hw)]
  have : (execOp a.eval o).run P w = .ok (.value (.tuple #[v, .int .i64 ((s : Nat) : Int)])) (w.putObj b ob) := by simp [execOp, hop, hh.ev hx, hh.ev hy, h1]
  rw [this]
  exact ⟨A'v s, (fun e => by cases e), hh.st.set_prd (hu s) h2, by rw [hd]; exact hk v s⟩
theorem ot_estoreF {v : Value} {k : κ} {s : Nat} (Ke : KeyEnc P kt enc) (hh : ks.headD .wr = .wr) (hop : o.op = .entryStore t x y z) (hd : o.dst = none) (hw : wantB ops ts o = some true) (hx : evT ts x = some (.map (some b))) (hy : evT ts y = some (.int .i64 (s : Int))) (hz : evT ts z = some v)
    (hs : (s, k) ∈ st) (hu : Upd (.prd b (MapP enc m st)) (.prd b (MapP enc (updM m k v) st)) A A') (hk : OT P w0 n ds ops os ks.tail ts A' K) : OT P w0 n ds ops (o :: os) ks ts A K := by
  refine ot_wrote hh hd hw (fun a w hh => ?_) hk
  obtain ⟨ob, h1, h2⟩ := (hh.st.all _ hu.mem).2.2.estore (t := t) (w := w) Ke hs v
  exact ⟨_, by simp [execOp, hop, hh.ev hx, hh.ev hy, hh.ev hz, h1], hh.st.set_prd hu h2⟩
theorem ot_delF {k : κ} (Ke : KeyEnc P kt enc) (ht : P.underlying t = some (.map kt et)) (hh : ks.headD .wr = .wr) (hop : o.op = .call { callee := .builtin .delete, args := #[x, y], argTypes := #[t, u] }) (hd : o.dst = none) (hw : wantB ops ts o = some true) (hx : evT ts x = some (.map (some b))) (hy : evT ts y = some (enc k))
    (hu : Upd (.prd b (MapP enc m st)) (.prd b (MapP enc (delM m k) [])) A A') (hk : OT P w0 n ds ops os ks.tail ts A' K) : OT P w0 n ds ops (o :: os) ks ts A K := by
  refine ot_wroteV hh hd hw (fun a w hh => ?_) hk
  obtain ⟨ob, h1, h2⟩ := (hh.st.all _ hu.mem).2.2.del (w := w) (ty := o.type) (u := u) Ke ht k
  refine ⟨.tuple #[], w.putObj b ob, ?_, hh.st.set_prd hu h2⟩
  rw [exec_builtin hop, BigFrame.builtin_delete]
  simp only [List.map_toArray, List.map_cons, List.map_nil, hh.ev hx, hh.ev hy, Sem.run_bind, h1]
  rfl
end
end
end Go.Proofs.YtiodmphhjgkgjaaGreat
