/- Ranges over maps, in whatever order: lemmas for the rows of this seat. No conditions. -/
import Derived.Test.YtiodmphhjgkgjaaGreatV3
set_option linter.all false
namespace Go.Proofs.YtiodmphhjgkgjaaGreat
open Go.RowKit
/-! ## Ranges over maps, in whatever order -/
section
variable {P : Program} {κ : Type} [DecidableEq κ] {enc : κ → Value} {m : κ → Option Value} {kt et t : TypeId}
/-- A map as it is gone through: which keys were come to. -/
structure ItOK (enc : κ → Value) (m : κ → Option Value) (vs : List κ) (arr : Array MapEntry) (clock : Nat) (seen : Array Nat) : Prop where
  key : ∀ e ∈ arr.toList, ∃ k, e.key = enc k
  lt : ∀ e ∈ arr.toList, e.born < clock
  born : (arr.toList.map (·.born)).Nodup
  keys : (arr.toList.map (·.key)).Nodup
  is : ∀ k v, m k = some v ↔ ∃ e ∈ arr.toList, e.key = enc k ∧ e.val = v
  sv : ∀ e ∈ arr.toList, ∀ k, e.key = enc k → (e.born ∈ seen.toList ↔ k ∈ vs)
  vn : vs.Nodup
  sn : seen.toList.Nodup
  sl : ∀ b ∈ seen.toList, b < clock
omit [DecidableEq κ] in
theorem MapP.it {st : List (Nat × κ)} {o : Option Obj} (h : MapP enc m st o) : ∃ arr clock, o = some (.map arr clock) ∧ ItOK enc m [] arr clock #[] := by
  obtain ⟨es, clock, hh, h1, h2, h3, hkn, h4, h5⟩ := h
  exact ⟨es, clock, hh, h1, h2, h3, hkn, h4, fun e _ k _ => by simp, .nil, .nil, by simp⟩
omit [DecidableEq κ] in
theorem ItOK.map {vs : List κ} {arr : Array MapEntry} {clock : Nat} {seen : Array Nat} (h : ItOK enc m vs arr clock seen) : MapP enc m [] (some (.map arr clock)) :=
  ⟨arr, clock, rfl, h.key, h.lt, h.born, h.keys, h.is, by simp⟩
omit [DecidableEq κ] in
theorem ItOK.size {vs : List κ} {arr : Array MapEntry} {clock : Nat} {seen : Array Nat} (h : ItOK enc m vs arr clock seen) : seen.size ≤ clock := by
  have := List.Nodup.length_le_of_subset h.sn (l₂ := List.range clock) fun b hb => List.mem_range.2 (h.sl b hb)
  simpa using this
theorem ItOK.push (Ke : KeyEnc P kt enc) {vs : List κ} {arr : Array MapEntry} {clock : Nat} {seen : Array Nat} (h : ItOK enc m vs arr clock seen) {e : MapEntry} (he : e ∈ arr.toList) {k : κ} (hk : e.key = enc k) (hkv : k ∉ vs) : ItOK enc m (vs ++ [k]) arr clock (seen.push e.born) where
  vn := List.nodup_append.2 ⟨h.vn, by simp, fun a ha b hb e => by simp at hb; subst hb; subst e; exact hkv ha⟩
  sn := by
    rw [Array.toList_push]
    exact List.nodup_append.2 ⟨h.sn, by simp, fun a ha b hb e' => by
      simp at hb; subst hb; subst e'
      exact hkv ((h.sv e he k hk).1 ha)⟩
  sl := fun b hb => by
    rw [Array.toList_push, List.mem_append, List.mem_singleton] at hb
    rcases hb with hb | rfl
    · exact h.sl b hb
    · exact h.lt e he
  key := h.key
  lt := h.lt
  born := h.born
  keys := h.keys
  is := h.is
  sv := fun e' he' k' hk' => by
    rw [Array.toList_push, List.mem_append, List.mem_append, List.mem_singleton, List.mem_singleton, h.sv e' he' k' hk']
    refine or_congr Iff.rfl ⟨fun hb => ?_, fun hb => ?_⟩
    · obtain ⟨i, hi⟩ := List.mem_iff_getElem?.1 he
      obtain ⟨j, hj⟩ := List.mem_iff_getElem?.1 he'
      have := at_unique h.born hj hi hb
      subst this
      rw [hi] at hj; cases hj
      exact Ke.inj (hk'.symm.trans hk) default
    · subst hb
      obtain ⟨i, hi⟩ := List.mem_iff_getElem?.1 he
      obtain ⟨j, hj⟩ := List.mem_iff_getElem?.1 he'
      have := at_unique h.keys hj hi (hk'.trans hk.symm)
      subst this
      rw [hi] at hj; cases hj; rfl
theorem ItOK.del (Ke : KeyEnc P kt enc) (ht : P.underlying t = some (.map kt et)) {w : World} {b : Nat} {vs : List κ} {arr : Array MapEntry} {clock : Nat} {seen : Array Nat} (h : ItOK enc m vs arr clock seen) (hh : w.heap[b]? = some (.map arr clock)) (k : κ) {u ty : TypeId} :
    ∃ arr', (Builtin.delete_ #[t, u] ty #[.map (some b), enc k]).run P w = .ok (.tuple #[]) (w.putObj b (.map arr' clock)) ∧ ItOK enc (delM m k) vs arr' clock seen := by
  obtain ⟨h1, h2, h3, hkn, h4, h5, h6, h7, h8⟩ := h
  rcases MapP.find Ke h1 h4 k w with ⟨f1, f2, f3⟩ | ⟨j, e, f1, f2, f3, f4⟩
  · refine ⟨arr, ?_, h1, h2, h3, hkn, fun k' v' => ?_, h5, h6, h7, h8⟩
    · simp [Builtin.delete_, run_underlying ht, MapKept.run_getObj_map hh, Ke.check, f2, MapKept.run_setObj_map _ hh]
      rfl
    · unfold delM
      by_cases hk : k' = k
      · subst hk; rw [if_pos rfl, ← h4, f1]
      · rw [if_neg hk]; exact h4 k' v'
  · have hj : arr.toList[j]? = some e := by simpa using f2
    have hlt : j < arr.size := (Array.getElem?_eq_some_iff.1 f2).1
    have htl : (arr.eraseIdxIfInBounds j).toList = arr.toList.eraseIdx j := by
      unfold Array.eraseIdxIfInBounds
      rw [dif_pos hlt, Array.toList_eraseIdx]
    have hsub : (arr.toList.eraseIdx j).Sublist arr.toList := List.eraseIdx_sublist _ _
    refine ⟨arr.eraseIdxIfInBounds j, ?_, ?_, ?_, ?_, ?_, fun k' v' => ?_, ?_, h6, h7, h8⟩
    · simp [Builtin.delete_, run_underlying ht, MapKept.run_getObj_map hh, Ke.check, f1, MapKept.run_setObj_map _ hh]
      rfl
    · rw [htl]; exact fun x hx => h1 x (hsub.subset hx)
    · rw [htl]; exact fun x hx => h2 x (hsub.subset hx)
    · rw [htl]; exact h3.sublist (hsub.map _)
    · rw [htl]; exact hkn.sublist (hsub.map _)
    · rw [htl]
      unfold delM
      by_cases hk : k' = k
      · subst hk
        rw [if_pos rfl]
        refine ⟨(fun e => by cases e), ?_⟩
        rintro ⟨x, hx, g1, g2⟩
        exfalso
        obtain ⟨i, hi⟩ := List.mem_iff_getElem?.1 hx
        rw [List.getElem?_eraseIdx] at hi
        split at hi
        · have := at_unique hkn hi hj (g1.trans f3.symm); omega
        · have := at_unique hkn hi hj (g1.trans f3.symm); omega
      · rw [if_neg hk, h4]
        constructor
        · rintro ⟨x, hx, g1, g2⟩
          refine ⟨x, mem_eraseIdx' (fun i hi e' => ?_) hx, g1, g2⟩
          subst e'
          rw [hj] at hi; cases hi
          exact hk (Ke.inj (g1.symm.trans f3) default)
        · rintro ⟨x, hx, g1, g2⟩
          exact ⟨x, hsub.subset hx, g1, g2⟩
    · rw [htl]; exact fun x hx => h5 x (hsub.subset hx)
variable {w0 : World} {n : Nat} {r : Option Nat} {ds : List Deferred} {ops : List Oper} {o : Oper} {os : List Oper} {ks : List Kind} {ts : TS} {A A' : List Chunk} {K : TS → List Chunk → Prop} {d : Tmp} {Q : PostT} {x y z : Operand} {u : TypeId} {b g : Nat} {arr : Array MapEntry} {clock : Nat} {seen : Array Nat} {vs : List κ}
/-- What lies in a block. -/
def ObjAt (w0 : World) (A : List Chunk) (b : Nat) (o : Obj) : Prop := ∀ w, St w0 A w → w.heap[b]? = some o
theorem objAt_mem {ob : Obj} (h : .obj b ob ∈ A) : ObjAt w0 A b ob := fun _ hs => (hs.all _ h).2
theorem objAt_base {ob : Obj} (h : w0.heap[b]? = some ob) (A : List Chunk) : ObjAt w0 A b ob := fun w hs => by
  rw [hs.base.block b (Array.getElem?_eq_some_iff.1 h).1]; exact h
omit [DecidableEq κ] in
theorem ItOK.at_ (h : ItOK enc m vs arr clock seen) (hm : ObjAt w0 A b (.map arr clock)) : MapAt w0 A b enc m := fun w hs => ⟨[], by rw [hm w hs]; exact h.map⟩
theorem tr_map_done {c : Code} (he : ItOK enc m vs arr clock seen) (hu : Upd (.obj b (.map arr clock)) (.prd b (MapP enc m [])) A A') (h : Tr P r w0 n c ds ts A' Q) : Tr P r w0 n c ds ts A Q :=
  tr_st (fun w hs => hs.swap hu rfl rfl ⟨(hs.all _ hu.mem).1, (Array.getElem?_eq_some_iff.1 (hs.all _ hu.mem).2).1, by rw [(hs.all _ hu.mem).2]; exact he.map⟩) h
omit [DecidableEq κ] in
theorem ot_rangeB (ht : P.underlying t = some (.map kt et)) (hh : ks.headD .wr ≠ .rd) (hop : o.op = .range t x) (hd : o.dst = some d) (hw : wantB ops ts o = some true) (hx : evT ts x = some (.map (some b))) (hm : ObjAt w0 A b (.map arr clock))
    (hk : ∀ g, w0.heap.size ≤ g → OT P w0 n ds ops os ks.tail ((d, .pointer (some ⟨g, 0, none⟩)) :: ts) (.obj g (.mapIter (some b) clock #[] clock) :: A) K) : OT P w0 n ds ops (o :: os) ks ts A K := by
  refine ot_new (N := fun _ _ => True) (v := undef) hh hd hw fun a w hh => ?_
  have h1 := hm w hh.st
  refine ⟨_, w.alloc (.mapIter (some b) clock #[] clock), _, ?_, (Below.refl _ _).alloc (Nat.le_refl _) _, hh.st.alloc_obj _ (fun c e f h => by cases h), hk w.heap.size hh.st.base.size⟩
  simp [execOp, hop, hh.ev hx, Instr.range, run_underlying ht, MapKept.run_getObj_map h1]
theorem ot_nextK (Ke : KeyEnc P kt enc) (hI : ItOK enc m vs arr clock seen) (hh : ks.headD .wr = .wr) (hop : o.op = .next x false) (hd : o.dst = some d) (hw : wantB ops ts o = some true) (hx : evT ts x = some (.pointer (some ⟨g, 0, none⟩))) (hm : ObjAt w0 A b (.map arr clock))
    {A2 : Array Nat → List Chunk} (hu : ∀ s, Upd (.obj g (.mapIter (some b) clock seen clock)) (.obj g (.mapIter (some b) clock s clock)) A (A2 s))
    (h1 : (∀ k v, m k = some v → k ∈ vs) → OT P w0 n ds ops os ks.tail ((d, .tuple #[.bool false]) :: ts) A K)
    (h2 : ∀ (e : MapEntry) k, e ∈ arr.toList → e.key = enc k → m k = some e.val → k ∉ vs → ItOK enc m (vs ++ [k]) arr clock (seen.push e.born) → OT P w0 n ds ops os ks.tail ((d, .tuple #[.bool true, enc k, e.val]) :: ts) (A2 (seen.push e.born)) K) : OT P w0 n ds ops (o :: os) ks ts A K := by
  refine ot_wr hh fun a w hd' => ?_
  unfold wpV
  rw [if_pos (wantB_spec hd' hw)]
  have hmem := (hu #[]).mem
  have hg1 := hd'.st.all _ hmem
  have hr := run_next_at (P := P) w o.type g b clock clock seen arr clock hg1.2 (hm w hd'.st) hI.lt (Nat.le_refl _)
  have hex : ∀ v w', (Instr.next (.pointer (some ⟨g, 0, none⟩)) false o.type).run P w = .ok v w' → (execOp a.eval o).run P w = .ok (.value v) w' := fun v w' h => by
    simp [execOp, hop, hd'.ev hx, h]
  rcases hr with ⟨h0, hr⟩ | ⟨e, he, w1, hw1, hr⟩
  · rw [hex _ _ hr, hd]
    refine ⟨A, (fun e => by cases e), hd'.st, h1 fun k v hkv => ?_⟩
    have hle : leftOf arr seen = #[] := Array.eq_empty_of_size_eq_zero h0
    unfold leftOf at hle
    rw [Array.filter_eq_empty_iff] at hle
    obtain ⟨e, he, hek, _⟩ := (hI.is k v).1 hkv
    have := hle e (by simpa using he)
    exact (hI.sv e he k hek).1 (by simpa using this)
  · rw [hex _ _ hr, hd]
    have hst : St w0 A w1 := by
      rcases hw1 with rfl | rfl
      · exact hd'.st
      · exact hd'.st.drew
    have ha : e ∈ arr.toList ∧ e.born ∉ seen.toList := by
      unfold leftOf at he
      simpa using he
    obtain ⟨k, hk⟩ := hI.key e ha.1
    refine ⟨A2 (seen.push e.born), (fun e => by cases e), hst.set_obj (hu _), ?_⟩
    rw [hk]
    exact h2 e k ha.1 hk ((hI.is k e.val).2 ⟨e, ha.1, hk, rfl⟩) (fun h => ha.2 ((hI.sv e ha.1 k hk).2 h)) (hI.push Ke ha.1 hk fun h => ha.2 ((hI.sv e ha.1 k hk).2 h))
omit [DecidableEq κ] in
theorem ot_entryK {e : MapEntry} {k : κ} (hI : ItOK enc m vs arr clock (seen.push e.born)) (hop : o.op = .entry x) (hd : o.dst = some d) (hw : wantB ops ts o = some true) (hx : evT ts x = some (.pointer (some ⟨g, 0, none⟩))) (hm : ObjAt w0 A b (.map arr clock)) (hi : .obj g (.mapIter (some b) clock (seen.push e.born) clock) ∈ A) (he : e ∈ arr.toList) (hk0 : e.key = enc k)
    (hk : OT P w0 n ds ops os ks.tail ((d, .tuple #[enc k, e.val]) :: ts) A K) : OT P w0 n ds ops (o :: os) ks ts A K :=
  ot_val _ hd hw (fun a w hh => by
    have h1 := run_entry_at (P := P) w g b clock seen arr clock e (hh.st.all _ hi).2 (hm w hh.st) he hI.born
    simp [execOp, hop, hh.ev hx, h1, hk0]) hk
theorem ot_delK {k : κ} {A'v : Array MapEntry → List Chunk} (Ke : KeyEnc P kt enc) (ht : P.underlying t = some (.map kt et)) (hI : ItOK enc m vs arr clock seen) (hh : ks.headD .wr = .wr) (hop : o.op = .call { callee := .builtin .delete, args := #[x, y], argTypes := #[t, u] }) (hd : o.dst = none) (hw : wantB ops ts o = some true) (hx : evT ts x = some (.map (some b))) (hy : evT ts y = some (enc k))
    (hu : ∀ arr', Upd (.obj b (.map arr clock)) (.obj b (.map arr' clock)) A (A'v arr')) (hk : ∀ arr', ItOK enc (delM m k) vs arr' clock seen → OT P w0 n ds ops os ks.tail ts (A'v arr') K) : OT P w0 n ds ops (o :: os) ks ts A K := by
  refine ot_wr hh fun a w hh => ?_
  have h0 := hh.st.all _ (hu arr).mem
  obtain ⟨arr', h1, h2⟩ := hI.del (w := w) (ty := o.type) (u := u) Ke ht h0.2 k
  unfold wpV
  rw [if_pos (wantB_spec hh hw)]
  have : (execOp a.eval o).run P w = .ok (.value (.tuple #[])) (w.putObj b (.map arr' clock)) := by
    rw [exec_builtin hop, BigFrame.builtin_delete]
    simp only [List.map_toArray, List.map_cons, List.map_nil, hh.ev hx, hh.ev hy, Sem.run_bind, h1]
    rfl
  rw [this]
  exact ⟨A'v arr', (fun e => by cases e), hh.st.set_obj (hu arr'), by rw [hd]; exact hk arr' h2⟩
theorem ot_look_v {zv v : Value} {k : κ} (hn : m k = some v) (Ke : KeyEnc P kt enc) (ht : P.underlying t = some (.map kt et)) (hzv : ∀ w, (zeroValue et).run P w = .ok zv w) (hop : o.op = .lookup t x y false) (hd : o.dst = some d) (hw : wantB ops ts o = some true) (hx : evT ts x = some (.map (some b))) (hy : evT ts y = some (enc k))
    (hm : MapAt w0 A b enc m) (hk : OT P w0 n ds ops os ks.tail ((d, v) :: ts) A K) : OT P w0 n ds ops (o :: os) ks ts A K :=
  ot_lookF (k := k) Ke ht hzv hop hd hw hx hy hm (by rw [hn]; exact hk)
end
/-! ## Queues: slices that lose their first element and are appended to -/
/-- What lies in a queue's block. -/
def QRow (k cap : Nat) (t : TypeId) (xs : List Value) (o : Option Obj) : Prop := ∃ cur : Array Value, o = some (.cells cur t (0, 0)) ∧ k + cap ≤ cur.size ∧ xs.length ≤ cap ∧ cap ≤ maxLen ∧ ∀ j u, xs[j]? = some u → cur[k + j]? = some u
section
variable {P : Program} {tab : TT} {w0 : World} {n : Nat} {ds : List Deferred} {ops : List Oper} {o : Oper} {os : List Oper} {ks : List Kind} {ts : TS} {A A' : List Chunk} {K : TS → List Chunk → Prop} {d : Tmp} {x y : Operand} {t : TypeId} {i i' : TI} {g k cap e : Nat} {xs : List Value}
theorem QRow.tail {v : Value} {ob : Option Obj} (h : QRow k cap e (v :: xs) ob) : QRow (k + 1) (cap - 1) e xs ob ∧ (cap = 1 → QRow k 0 e xs ob) := by
  obtain ⟨cur, h1, h2, h3, h4, h5⟩ := h
  rw [List.length_cons] at h3
  refine ⟨⟨cur, h1, by omega, by omega, by omega, fun j u hj => ?_⟩, fun hc => ⟨cur, h1, by omega, by omega, by unfold maxLen; omega, fun j u hj => ?_⟩⟩
  · rw [show k + 1 + j = k + (j + 1) by omega]
    exact h5 (j + 1) u hj
  · have := (List.getElem?_eq_some_iff.1 hj).1
    omega
end
/-! ## The entry of a key that is there -/
section
variable {P : Program} {κ : Type} [DecidableEq κ] {enc : κ → Value} {m : κ → Option Value} {kt et t : TypeId} {st : List (Nat × κ)}
variable {w0 : World} {n : Nat} {ds : List Deferred} {ops : List Oper} {o : Oper} {os : List Oper} {ks : List Kind} {ts : TS} {A A' : List Chunk} {K : TS → List Chunk → Prop} {d : Tmp} {x y : Operand} {b : Nat}
/-- The entry of a key that is there. -/
theorem ot_entryS {zv v0 : Value} {k : κ} {A'v : Nat → List Chunk} (hn : m k = some v0) (Ke : KeyEnc P kt enc) (ht : P.underlying t = some (.map kt et)) (hzv : ∀ w, (zeroValue et).run P w = .ok zv w) (hh : ks.headD .wr = .wr) (hop : o.op = .mapEntry t x y) (hd : o.dst = some d) (hw : wantB ops ts o = some true) (hx : evT ts x = some (.map (some b))) (hy : evT ts y = some (enc k))
    (hu : ∀ s, Upd (.prd b (MapP enc m st)) (.prd b (MapP enc m ((s, k) :: st))) A (A'v s)) (hk : ∀ v (s : Nat), OT P w0 n ds ops os ks.tail ((d, .tuple #[v, .int .i64 (s : Int)]) :: ts) (A'v s) K) : OT P w0 n ds ops (o :: os) ks ts A K :=
  ot_entryF (m := m) (st := st) (k := k) Ke ht hzv hh hop hd hw hx hy (A'v := A'v) (fun s => by rw [hn]; exact hu s) hk
end
/-! ## make and copy, elements of more cells -/
section
variable {P : Program} {tab : TT} {w0 : World} {n : Nat} {ds : List Deferred} {ops : List Oper} {o : Oper} {os : List Oper} {ks : List Kind} {ts : TS} {A A' : List Chunk} {K : TS → List Chunk → Prop} {d : Tmp}
variable {x y : Operand} {t u : TypeId} {k : IntKind} {b off g : Nat} {i i' : TI}
end
/-! ## append([]T{}, x...) -/
section
variable {P : Program} {tab : TT} {w0 w : World} {n : Nat} {r : Option Nat} {ds : List Deferred} {ops : List Oper} {o : Oper} {os : List Oper} {ks : List Kind} {ts : TS} {A : List Chunk} {K : TS → List Chunk → Prop} {Q : PostT} {d : Tmp} {x y : Operand} {t : TypeId} {i i' : TI}
theorem ot_appendE {e sz m c g0 : Nat} {B : Option Addr} {news : List Value} (hT : TabOk P tab) (hh : ks.headD .wr ≠ .rd) (hop : o.op = .call { callee := .builtin .append, args := #[x, y], argTypes := #[t, t] }) (hd : o.dst = some d) (hw : wantB ops ts o = some true)
    (hx : evT ts x = some (.slice (some ⟨g0, 0, none⟩) 0 0)) (hy : evT ts y = some (.slice B m c)) (hi : lookI tab t = some i) (hl : i.d = .sl e) (hi' : lookI tab e = some i') (hsz : i'.size = sz) (hz : i'.zero.length = sz) (hm : 0 < m)
    (hr : ∀ w, St w0 A w → Reads w w.heap.size sz B m news) (h63 : m ≤ 1000000) (hby : i'.bytes ≤ 100000)
    (hk : ∀ g cap, w0.heap.size ≤ g → OT P w0 n ds ops os ks.tail ((d, .slice (some ⟨g, 0, none⟩) m cap) :: ts) (.own (.slice (some ⟨g, 0, none⟩) m cap) e sz m news :: A) K) : OT P w0 n ds ops (o :: os) ks ts A K := by
  refine ot_new (N := fun _ _ => True) (v := undef) hh hd hw fun a w hd' => ?_
  obtain ⟨j, z, hj, j1, j2, j3, j4⟩ := (hT e i' hi').info
  have hrd := hr w hd'.st
  obtain ⟨b, off, rfl, _, hcs⟩ := hrd.2 hm
  have hnews : ∀ q u, news[q]? = some u → w.cell? ((⟨b, off, none⟩ : Addr).add q) = some u := fun q u hq => by rw [Addr.add_none]; exact hcs q u hq
  have hmm : (0 + m) * i'.bytes ≤ 1000000 * 100000 := Nat.mul_le_mul (by omega) hby
  have h2 := run_append_grow (P := P) w t o.type e j z ((hT t i hi).sl hl) hj j3 ⟨g0, 0, none⟩ 0 0 [] (by rw [Nat.zero_mul]; rfl) (fun q u hq => by simp at hq) ⟨b, off, none⟩ m c news (by rw [hrd.1, j1, hsz]) hnews (by omega) (by omega) (growslice_fits (by omega) (by rw [j2]; omega))
  rw [Nat.zero_add] at h2
  have hge := grownCap_ge w m 0 e
  have hcm : grownCap w m 0 e ≤ maxLen := grownCap_le_maxLen w m 0 e (by unfold maxLen; omega)
  have hzs : z.cells.size = sz := by rw [← hz, ← j4]; simp
  generalize grownCap w m 0 e = cap at *
  have hB : ∀ ob, Below w.heap.size w (w.drew.alloc ob) := fun ob => (Below.refl w.heap.size w).drew.alloc (Nat.le_refl _) ob
  refine ⟨_, _, _, ?_, hB (.cells (([] : List Value).toArray ++ news.toArray ++ Builtin.zeroCells z.cells (cap - m)) e), hd'.st.add (c := .own (.slice (some ⟨w.heap.size, 0, none⟩) m cap) e sz m news) (hB (.cells (([] : List Value).toArray ++ news.toArray ++ Builtin.zeroCells z.cells (cap - m)) e)) ?_ (fun b hb => by cases hb; exact Nat.le_refl _), hk w.heap.size cap hd'.st.base.size⟩
  · rw [exec_builtin hop, BigFrame.builtin_append]
    simp only [List.map_toArray, List.map_cons, List.map_nil, hd'.ev hx, hd'.ev hy, Sem.run_bind, h2, Result.andThen_ok, Sem.run_pure]
  · refine ⟨hrd.1, .inr ⟨w.heap.size, cap, _, rfl, hd'.st.base.size, heap_alloc_new w.drew _, hge, hcm, ?_, ?_⟩⟩
    · simp only [Array.size_append, List.size_toArray, size_zeroCells, hzs, hrd.1, List.length_nil, Nat.zero_add]
      rw [← Nat.add_mul]
      congr 1; omega
    · have e1 : (([] : List Value).toArray ++ news.toArray ++ Builtin.zeroCells z.cells (cap - m)).toList = news ++ (Builtin.zeroCells z.cells (cap - m)).toList := by simp
      rw [e1]
      exact List.take_left' hrd.1
end
/-! ## Bits -/
section
variable {P : Program} {tab : TT} {w0 : World} {n : Nat} {ds : List Deferred} {ops : List Oper} {o : Oper} {os : List Oper} {ks : List Kind} {ts : TS} {A : List Chunk} {K : TS → List Chunk → Prop} {d : Tmp} {x y : Operand} {t u : TypeId}
theorem ot_shr {k : IntKind} {a b : Nat} (hop : o.op = .binOp .shr t x y u) (hd : o.dst = some d) (hw : wantB ops ts o = some true) (hx : evT ts x = some (.int k (a : Int))) (hy : evT ts y = some (.int .i64 (b : Int))) (hb : b ≤ k.bits)
    (hk : OT P w0 n ds ops os ks.tail ((d, .int k ((a / 2 ^ b : Nat) : Int)) :: ts) A K) : OT P w0 n ds ops (o :: os) ks ts A K :=
  ot_val _ hd hw (fun a' w hd' => by
    have e1 : (eqGuard .shr t x y (.int k (a : Int)) (.int .i64 (b : Int))).run P w = .ok () w := by simp [eqGuard, Sem.run_bind]
    have e2 : (binOp .shr t (.int k (a : Int)) (.int .i64 (b : Int))).run P w = .ok (.int k ((a / 2 ^ b : Nat) : Int)) w := by
      have h4 : (binOp .shr t (.int k (a : Int)) (.int .i64 (b : Int))) = pure (.int k ((a / 2 ^ b : Nat) : Int)) := by
        show Op.shift .shr k (a : Int) .i64 (b : Int) = _
        rw [shift_shr k .i64 (a : Int) (b : Int) (by omega) (by omega), Int.toNat_natCast]
        simp
      rw [h4]
      exact Sem.run_pure ..
    simp only [execOp, hop, hd'.ev hx, hd'.ev hy, Sem.run_bind, e1, e2, Result.andThen_ok, Sem.run_pure]) hk
theorem ot_and1 {k : IntKind} {a : Nat} (hop : o.op = .binOp .and t x y u) (hd : o.dst = some d) (hw : wantB ops ts o = some true) (hx : evT ts x = some (.int k (a : Int))) (hy : evT ts y = some (.int k 1)) (ha : a < 2 ^ k.bits) (hk1 : ∀ q : Nat, q < 2 → k.wrap (q : Int) = q) (h1 : 1 < 2 ^ k.bits)
    (hk : OT P w0 n ds ops os ks.tail ((d, .int k ((a % 2 : Nat) : Int)) :: ts) A K) : OT P w0 n ds ops (o :: os) ks ts A K :=
  ot_val _ hd hw (fun a' w hd' => by
    have e1 : (eqGuard .and t x y (.int k (a : Int)) (.int k 1)).run P w = .ok () w := by simp [eqGuard, Sem.run_bind]
    have e2 : (binOp .and t (.int k (a : Int)) (.int k 1)).run P w = .ok (.int k ((a % 2 : Nat) : Int)) w := by
      have h3 : (BitVec.ofInt k.bits (a : Int) &&& BitVec.ofInt k.bits 1).toNat = a % 2 := by
        rw [BitVec.toNat_and]
        have q1 : (BitVec.ofInt k.bits (a : Int)).toNat = a := by
          rw [BitVec.ofInt_natCast, BitVec.toNat_ofNat, Nat.mod_eq_of_lt ha]
        have q2 : (BitVec.ofInt k.bits (1 : Int)).toNat = 1 := by
          rw [show (1 : Int) = ((1 : Nat) : Int) from rfl, BitVec.ofInt_natCast, BitVec.toNat_ofNat, Nat.mod_eq_of_lt h1]
        rw [q1, q2, Nat.and_one_is_mod]
      have h4 : (binOp .and t (.int k (a : Int)) (.int k 1)) = pure (.int k (k.wrap ((BitVec.ofInt k.bits (a : Int) &&& BitVec.ofInt k.bits 1).toNat : Int))) := by simp [binOp, Op.intBits]
      rw [h4, h3, hk1 _ (Nat.mod_lt _ (by decide))]
      exact Sem.run_pure ..
    simp only [execOp, hop, hd'.ev hx, hd'.ev hy, Sem.run_bind, e1, e2, Result.andThen_ok, Sem.run_pure]) hk
theorem ot_or {a b : Nat} (hop : o.op = .binOp .or t x y u) (hd : o.dst = some d) (hw : wantB ops ts o = some true) (hx : evT ts x = some (.int .i64 (a : Int))) (hy : evT ts y = some (.int .i64 (b : Int))) (ha : a < 2 ^ 60) (hb : b < 2 ^ 60)
    (hk : OT P w0 n ds ops os ks.tail ((d, .int .i64 ((a ||| b : Nat) : Int)) :: ts) A K) : OT P w0 n ds ops (o :: os) ks ts A K :=
  ot_val _ hd hw (fun a' w hd' => by
    have e1 : (eqGuard .or t x y (.int .i64 (a : Int)) (.int .i64 (b : Int))).run P w = .ok () w := by simp [eqGuard, Sem.run_bind]
    have e2 : (binOp .or t (.int .i64 (a : Int)) (.int .i64 (b : Int))).run P w = .ok (.int .i64 ((a ||| b : Nat) : Int)) w := by
      have h3 : (BitVec.ofInt 64 (a : Int) ||| BitVec.ofInt 64 (b : Int)).toNat = a ||| b := by
        rw [BitVec.toNat_or, BitVec.ofInt_natCast, BitVec.ofInt_natCast, BitVec.toNat_ofNat, BitVec.toNat_ofNat, Nat.mod_eq_of_lt (by omega), Nat.mod_eq_of_lt (by omega)]
      have h4 : (binOp .or t (.int .i64 (a : Int)) (.int .i64 (b : Int))) = pure (.int .i64 (IntKind.i64.wrap ((BitVec.ofInt 64 (a : Int) ||| BitVec.ofInt 64 (b : Int)).toNat : Int))) := by simp [binOp, Op.intBits]; rfl
      have h5 := Nat.or_lt_two_pow ha hb
      rw [h4, h3, IntKind.wrap_i64]
      rw [show ((((a ||| b : Nat) : Int) + 9223372036854775808) % 18446744073709551616 - 9223372036854775808) = ((a ||| b : Nat) : Int) by omega]
      exact Sem.run_pure ..
    simp only [execOp, hop, hd'.ev hx, hd'.ev hy, Sem.run_bind, e1, e2, Result.andThen_ok, Sem.run_pure]) hk
end
/-! ## Makers in every order, by facts of any kind -/
section
variable {P : Program} {w0 : World} {n : Nat} {ds : List Deferred} {ops : List Oper} {K : TS → List Chunk → Prop}
end
section
variable {P : Program} {w0 : World} {n : Nat} {r : Option Nat} {ds : List Deferred} {ts : TS} {A : List Chunk} {Q : PostT}
end
/-! ## A call that makes memory, part of it laid behind -/
section
variable {P : Program} {w0 : World} {n : Nat} {ds : List Deferred} {ops : List Oper} {o : Oper} {os : List Oper} {ks : List Kind} {ts : TS} {A : List Chunk} {K : TS → List Chunk → Prop} {d : Tmp} {x : Operand} {xs : Array Operand} {ats : Array TypeId} {f : FuncId} {us bs vs avs : List Value}
/-- A call that makes memory, part of which is laid behind. -/
theorem ot_callT {X : Type} (v : X → Value) (H T : X → List Chunk) (p : X → Prop) (hm : ∀ x, ∀ c ∈ H x ++ T x, c.mut = true) (hh : ks.headD .wr ≠ .rd) (hop : o.op = .call { callee := .value x, args := xs, argTypes := ats }) (hd : o.dst = some d) (hw : wantB ops ts o = some true) (hf : evT ts x = some (.func (.func f) us.toArray vs.toArray)) (hb : hasBody P f = true) (ha : EvL ts xs.toList bs) (hl : us ++ bs ++ vs = avs)
    (hc : ∀ w, St w0 A w → Calls P f avs.toArray w fun e w' => ∃ x, e = .returned (v x) ∧ p x ∧ St w (H x ++ T x) w') (hk : ∀ x, p x → OT P w0 n ds ops os ks.tail ((d, v x) :: ts) (H x ++ (A ++ T x)) K) : OT P w0 n ds ops (o :: os) ks ts A K := by
  subst hl
  refine ot_cr hh fun a w hh => ?_
  unfold wpV
  rw [if_pos (wantB_spec hh hw)]
  refine callv_upV hh hop hf hb ha ((hc w hh.st).mono fun e w' hr => ?_)
  obtain ⟨x, rfl, hp, hr⟩ := hr
  refine ⟨_, rfl, _, fun _ => hr.base, (hh.st.join hr (hm x)).perm ?_, by rw [hd]; exact hk x hp⟩
  rw [List.append_assoc]
  exact List.perm_append_comm.append_left _
end
end Go.Proofs.YtiodmphhjgkgjaaGreat
