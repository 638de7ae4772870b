/- Ranges over maps, in whatever order: lemmas for the rows of this seat. No conditions. -/
import Derived.Test.YtalcccgialpjgaaV3
set_option linter.all false
namespace Go.Proofs.Ytalcccgialpjgaa
open Go.RowKit
/-! ## Ranges over maps, in whatever order -/
section
variable {P : Program} {κ : Type} [DecidableEq κ] {enc : κ → Value} {m : κ → Option Value} {kt et t : TypeId}
/-- A map as it is gone through: which keys were come to. -/
structure ItOK (enc : κ → Value) (m : κ → Option Value) (vs : List κ) (arr : Array MapEntry) (clock : Nat) (seen : Array Nat) : Prop where
  key : ∀ e ∈ arr.toList, ∃ k, e.key = enc k
  lt : ∀ e ∈ arr.toList, e.born < clock
  born : (arr.toList.map (·.born)).Nodup
  keys : (arr.toList.map (·.key)).Nodup
  is : ∀ k v, m k = some v ↔ ∃ e ∈ arr.toList, e.key = enc k ∧ e.val = v
  sv : ∀ e ∈ arr.toList, ∀ k, e.key = enc k → (e.born ∈ seen.toList ↔ k ∈ vs)
  vn : vs.Nodup
  sn : seen.toList.Nodup
  sl : ∀ b ∈ seen.toList, b < clock
omit [DecidableEq κ] in
theorem MapP.it {st : List (Nat × κ)} {o : Option Obj} (h : MapP enc m st o) : ∃ arr clock, o = some (.map arr clock) ∧ ItOK enc m [] arr clock #[] := by
  obtain ⟨es, clock, hh, h1, h2, h3, hkn, h4, h5⟩ := h
  exact ⟨es, clock, hh, h1, h2, h3, hkn, h4, fun e _ k _ => by simp, .nil, .nil, by simp⟩
omit [DecidableEq κ] in
theorem ItOK.map {vs : List κ} {arr : Array MapEntry} {clock : Nat} {seen : Array Nat} (h : ItOK enc m vs arr clock seen) : MapP enc m [] (some (.map arr clock)) :=
  ⟨arr, clock, rfl, h.key, h.lt, h.born, h.keys, h.is, by simp⟩
omit [DecidableEq κ] in
theorem ItOK.size {vs : List κ} {arr : Array MapEntry} {clock : Nat} {seen : Array Nat} (h : ItOK enc m vs arr clock seen) : seen.size ≤ clock := by
  have := List.Nodup.length_le_of_subset h.sn (l₂ := List.range clock) fun b hb => List.mem_range.2 (h.sl b hb)
  simpa using this
theorem ItOK.push (Ke : KeyEnc P kt enc) {vs : List κ} {arr : Array MapEntry} {clock : Nat} {seen : Array Nat} (h : ItOK enc m vs arr clock seen) {e : MapEntry} (he : e ∈ arr.toList) {k : κ} (hk : e.key = enc k) (hkv : k ∉ vs) : ItOK enc m (vs ++ [k]) arr clock (seen.push e.born) where
  vn := List.nodup_append.2 ⟨h.vn, by simp, fun a ha b hb e => by simp at hb; subst hb; subst e; exact hkv ha⟩
  sn := by
    rw [Array.toList_push]
    exact List.nodup_append.2 ⟨h.sn, by simp, fun a ha b hb e' => by
      simp at hb; subst hb; subst e'
      exact hkv ((h.sv e he k hk).1 ha)⟩
  sl := fun b hb => by
    rw [Array.toList_push, List.mem_append, List.mem_singleton] at hb
    rcases hb with hb | rfl
    · exact h.sl b hb
    · exact h.lt e he
  key := h.key
  lt := h.lt
  born := h.born
  keys := h.keys
  is := h.is
  sv := fun e' he' k' hk' => by
    rw [Array.toList_push, List.mem_append, List.mem_append, List.mem_singleton, List.mem_singleton, h.sv e' he' k' hk']
    refine or_congr Iff.rfl ⟨fun hb => ?_, fun hb => ?_⟩
    · obtain ⟨i, hi⟩ := List.mem_iff_getElem?.1 he
      obtain ⟨j, hj⟩ := List.mem_iff_getElem?.1 he'
      have := at_unique h.born hj hi hb
      subst this
      rw [hi] at hj; cases hj
      exact Ke.inj (hk'.symm.trans hk) default
    · subst hb
      obtain ⟨i, hi⟩ := List.mem_iff_getElem?.1 he
      obtain ⟨j, hj⟩ := List.mem_iff_getElem?.1 he'
      have := at_unique h.keys hj hi (hk'.trans hk.symm)
      subst this
      rw [hi] at hj; cases hj; rfl
theorem ItOK.del (Ke : KeyEnc P kt enc) (ht : P.underlying t = some (.map kt et)) {w : World} {b : Nat} {vs : List κ} {arr : Array MapEntry} {clock : Nat} {seen : Array Nat} (h : ItOK enc m vs arr clock seen) (hh : w.heap[b]? = some (.map arr clock)) (k : κ) {u ty : TypeId} :
    ∃ arr', (Builtin.delete_ #[t, u] ty #[.map (some b), enc k]).run P w = .ok (.tuple #[]) (w.putObj b (.map arr' clock)) ∧ ItOK enc (delM m k) vs arr' clock seen := by
  obtain ⟨h1, h2, h3, hkn, h4, h5, h6, h7, h8⟩ := h
  rcases MapP.find Ke h1 h4 k w with ⟨f1, f2, f3⟩ | ⟨j, e, f1, f2, f3, f4⟩
  · refine ⟨arr, ?_, h1, h2, h3, hkn, fun k' v' => ?_, h5, h6, h7, h8⟩
    · simp [Builtin.delete_, run_underlying ht, MapKept.run_getObj_map hh, Ke.check, f2, MapKept.run_setObj_map _ hh]
      rfl
    · unfold delM
      by_cases hk : k' = k
      · subst hk; rw [if_pos rfl, ← h4, f1]
      · rw [if_neg hk]; exact h4 k' v'
  · have hj : arr.toList[j]? = some e := by simpa using f2
    have hlt : j < arr.size := (Array.getElem?_eq_some_iff.1 f2).1
    have htl : (arr.eraseIdxIfInBounds j).toList = arr.toList.eraseIdx j := by
      unfold Array.eraseIdxIfInBounds
      rw [dif_pos hlt, Array.toList_eraseIdx]
    have hsub : (arr.toList.eraseIdx j).Sublist arr.toList := List.eraseIdx_sublist _ _
    refine ⟨arr.eraseIdxIfInBounds j, ?_, ?_, ?_, ?_, ?_, fun k' v' => ?_, ?_, h6, h7, h8⟩
    · simp [Builtin.delete_, run_underlying ht, MapKept.run_getObj_map hh, Ke.check, f1, MapKept.run_setObj_map _ hh]
      rfl
    · rw [htl]; exact fun x hx => h1 x (hsub.subset hx)
    · rw [htl]; exact fun x hx => h2 x (hsub.subset hx)
    · rw [htl]; exact h3.sublist (hsub.map _)
    · rw [htl]; exact hkn.sublist (hsub.map _)
    · rw [htl]
      unfold delM
      by_cases hk : k' = k
      · subst hk
        rw [if_pos rfl]
        refine ⟨(fun e => by cases e), ?_⟩
        rintro ⟨x, hx, g1, g2⟩
        exfalso
        obtain ⟨i, hi⟩ := List.mem_iff_getElem?.1 hx
        rw [List.getElem?_eraseIdx] at hi
        split at hi
        · have := at_unique hkn hi hj (g1.trans f3.symm); omega
        · have := at_unique hkn hi hj (g1.trans f3.symm); omega
      · rw [if_neg hk, h4]
        constructor
        · rintro ⟨x, hx, g1, g2⟩
          refine ⟨x, mem_eraseIdx' (fun i hi e' => ?_) hx, g1, g2⟩
          subst e'
          rw [hj] at hi; cases hi
          exact hk (Ke.inj (g1.symm.trans f3) default)
        · rintro ⟨x, hx, g1, g2⟩
          exact ⟨x, hsub.subset hx, g1, g2⟩
    · rw [htl]; exact fun x hx => h5 x (hsub.subset hx)
variable {w0 : World} {n : Nat} {r : Option Nat} {ds : List Deferred} {ops : List Oper} {o : Oper} {os : List Oper} {ks : List Kind} {ts : TS} {A A' : List Chunk} {K : TS → List Chunk → Prop} {d : Tmp} {Q : PostT} {x y z : Operand} {u : TypeId} {b g : Nat} {arr : Array MapEntry} {clock : Nat} {seen : Array Nat} {vs : List κ}
/-- What lies in a block. -/
def ObjAt (w0 : World) (A : List Chunk) (b : Nat) (o : Obj) : Prop := ∀ w, St w0 A w → w.heap[b]? = some o
theorem objAt_mem {ob : Obj} (h : .obj b ob ∈ A) : ObjAt w0 A b ob := fun _ hs => (hs.all _ h).2
theorem objAt_base {ob : Obj} (h : w0.heap[b]? = some ob) (A : List Chunk) : ObjAt w0 A b ob := fun w hs => by
  rw [hs.base.block b (Array.getElem?_eq_some_iff.1 h).1]; exact h
omit [DecidableEq κ] in
theorem ItOK.at_ (h : ItOK enc m vs arr clock seen) (hm : ObjAt w0 A b (.map arr clock)) : MapAt w0 A b enc m := fun w hs => ⟨[], by rw [hm w hs]; exact h.map⟩
omit [DecidableEq κ] in
theorem ot_ex {α : Type} (B : α → List Chunk) (p : α → Prop) (hh : ks.headD .wr = .wr) (hp : ∀ w, St w0 A w → ∃ x, p x ∧ St w0 (B x) w) (hk : ∀ x, p x → OT P w0 n ds ops (o :: os) ks ts (B x) K) : OT P w0 n ds ops (o :: os) ks ts A K := by
  refine ot_wr hh fun a w hd => ?_
  obtain ⟨x, hx, hs⟩ := hp w hd.st
  have := hk x hx
  unfold OT at this
  rw [hh] at this
  exact this a w (hd.world hs)
omit [DecidableEq κ] in
theorem ot_map_it {st : List (Nat × κ)} (B : Array MapEntry → Nat → List Chunk) (hh : ks.headD .wr = .wr) (hu : ∀ arr clock, Upd (.prd b (MapP enc m st)) (.obj b (.map arr clock)) A (B arr clock)) (h : ∀ arr clock, ItOK enc m [] arr clock #[] → OT P w0 n ds ops (o :: os) ks ts (B arr clock) K) : OT P w0 n ds ops (o :: os) ks ts A K := by
  refine ot_ex (fun x : Array MapEntry × Nat => B x.1 x.2) (fun x => ItOK enc m [] x.1 x.2 #[]) hh (fun w hs => ?_) fun x hx => h x.1 x.2 hx
  obtain ⟨h0, h1, h2⟩ := hs.all _ (hu #[] 0).mem
  obtain ⟨arr, clock, h3, h4⟩ := h2.it
  exact ⟨(arr, clock), h4, hs.swap (hu arr clock) rfl rfl ⟨h0, h3⟩⟩
omit [DecidableEq κ] in
theorem St.map_done {w : World} (he : ItOK enc m vs arr clock seen) (hu : Upd (.obj b (.map arr clock)) (.prd b (MapP enc m [])) A A') (hs : St w0 A w) : St w0 A' w :=
  hs.swap hu rfl rfl ⟨(hs.all _ hu.mem).1, (Array.getElem?_eq_some_iff.1 (hs.all _ hu.mem).2).1, by rw [(hs.all _ hu.mem).2]; exact he.map⟩
omit [DecidableEq κ] in
theorem ot_rangeB (ht : P.underlying t = some (.map kt et)) (hh : ks.headD .wr ≠ .rd) (hop : o.op = .range t x) (hd : o.dst = some d) (hw : wantB ops ts o = some true) (hx : evT ts x = some (.map (some b))) (hm : ObjAt w0 A b (.map arr clock))
    (hk : ∀ g, w0.heap.size ≤ g → OT P w0 n ds ops os ks.tail ((d, .pointer (some ⟨g, 0, none⟩)) :: ts) (.obj g (.mapIter (some b) clock #[] clock) :: A) K) : OT P w0 n ds ops (o :: os) ks ts A K := by
  refine ot_new (N := fun _ _ => True) (v := undef) hh hd hw fun a w hh => ?_
  have h1 := hm w hh.st
  refine ⟨_, w.alloc (.mapIter (some b) clock #[] clock), _, ?_, (Below.refl _ _).alloc (Nat.le_refl _) _, hh.st.alloc_obj _ (fun c e f h => by cases h), hk w.heap.size hh.st.base.size⟩
  simp [execOp, hop, hh.ev hx, Instr.range, run_underlying ht, MapKept.run_getObj_map h1]
theorem ot_nextK (Ke : KeyEnc P kt enc) (hI : ItOK enc m vs arr clock seen) (hh : ks.headD .wr = .wr) (hop : o.op = .next x false) (hd : o.dst = some d) (hw : wantB ops ts o = some true) (hx : evT ts x = some (.pointer (some ⟨g, 0, none⟩))) (hm : ObjAt w0 A b (.map arr clock))
    {A2 : Array Nat → List Chunk} (hu : ∀ s, Upd (.obj g (.mapIter (some b) clock seen clock)) (.obj g (.mapIter (some b) clock s clock)) A (A2 s))
    (h1 : (∀ k v, m k = some v → k ∈ vs) → OT P w0 n ds ops os ks.tail ((d, .tuple #[.bool false]) :: ts) A K)
    (h2 : ∀ (e : MapEntry) k, e ∈ arr.toList → e.key = enc k → m k = some e.val → k ∉ vs → ItOK enc m (vs ++ [k]) arr clock (seen.push e.born) → OT P w0 n ds ops os ks.tail ((d, .tuple #[.bool true, enc k, e.val]) :: ts) (A2 (seen.push e.born)) K) : OT P w0 n ds ops (o :: os) ks ts A K := by
  refine ot_wr hh fun a w hd' => ?_
  unfold wpV
  rw [if_pos (wantB_spec hd' hw)]
  have hmem := (hu #[]).mem
  have hg1 := hd'.st.all _ hmem
  have hr := run_next_at (P := P) w o.type g b clock clock seen arr clock hg1.2 (hm w hd'.st) hI.lt (Nat.le_refl _)
  have hex : ∀ v w', (Instr.next (.pointer (some ⟨g, 0, none⟩)) false o.type).run P w = .ok v w' → (execOp a.eval o).run P w = .ok (.value v) w' := fun v w' h => by
    simp [execOp, hop, hd'.ev hx, h]
  rcases hr with ⟨h0, hr⟩ | ⟨e, he, w1, hw1, hr⟩
  · rw [hex _ _ hr, hd]
    refine ⟨A, (fun e => by cases e), hd'.st, h1 fun k v hkv => ?_⟩
    have hle : leftOf arr seen = #[] := Array.eq_empty_of_size_eq_zero h0
    unfold leftOf at hle
    rw [Array.filter_eq_empty_iff] at hle
    obtain ⟨e, he, hek, _⟩ := (hI.is k v).1 hkv
    have := hle e (by simpa using he)
    exact (hI.sv e he k hek).1 (by simpa using this)
  · rw [hex _ _ hr, hd]
    have hst : St w0 A w1 := by
      rcases hw1 with rfl | rfl
      · exact hd'.st
      · exact hd'.st.drew
    have ha : e ∈ arr.toList ∧ e.born ∉ seen.toList := by
      unfold leftOf at he
      simpa using he
    obtain ⟨k, hk⟩ := hI.key e ha.1
    refine ⟨A2 (seen.push e.born), (fun e => by cases e), hst.set_obj (hu _), ?_⟩
    rw [hk]
    exact h2 e k ha.1 hk ((hI.is k e.val).2 ⟨e, ha.1, hk, rfl⟩) (fun h => ha.2 ((hI.sv e ha.1 k hk).2 h)) (hI.push Ke ha.1 hk fun h => ha.2 ((hI.sv e ha.1 k hk).2 h))
omit [DecidableEq κ] in
theorem ot_entryK {e : MapEntry} {k : κ} (hI : ItOK enc m vs arr clock (seen.push e.born)) (hop : o.op = .entry x) (hd : o.dst = some d) (hw : wantB ops ts o = some true) (hx : evT ts x = some (.pointer (some ⟨g, 0, none⟩))) (hm : ObjAt w0 A b (.map arr clock)) (hi : .obj g (.mapIter (some b) clock (seen.push e.born) clock) ∈ A) (he : e ∈ arr.toList) (hk0 : e.key = enc k)
    (hk : OT P w0 n ds ops os ks.tail ((d, .tuple #[enc k, e.val]) :: ts) A K) : OT P w0 n ds ops (o :: os) ks ts A K :=
  ot_val _ hd hw (fun a w hh => by
    have h1 := run_entry_at (P := P) w g b clock seen arr clock e (hh.st.all _ hi).2 (hm w hh.st) he hI.born
    simp [execOp, hop, hh.ev hx, h1, hk0]) hk
theorem ot_delK {k : κ} {A'v : Array MapEntry → List Chunk} (Ke : KeyEnc P kt enc) (ht : P.underlying t = some (.map kt et)) (hI : ItOK enc m vs arr clock seen) (hh : ks.headD .wr = .wr) (hop : o.op = .call { callee := .builtin .delete, args := #[x, y], argTypes := #[t, u] }) (hd : o.dst = none) (hw : wantB ops ts o = some true) (hx : evT ts x = some (.map (some b))) (hy : evT ts y = some (enc k))
    (hu : ∀ arr', Upd (.obj b (.map arr clock)) (.obj b (.map arr' clock)) A (A'v arr')) (hk : ∀ arr', ItOK enc (delM m k) vs arr' clock seen → OT P w0 n ds ops os ks.tail ts (A'v arr') K) : OT P w0 n ds ops (o :: os) ks ts A K := by
  refine ot_wr hh fun a w hh => ?_
  have h0 := hh.st.all _ (hu arr).mem
  obtain ⟨arr', h1, h2⟩ := hI.del (w := w) (ty := o.type) (u := u) Ke ht h0.2 k
  unfold wpV
  rw [if_pos (wantB_spec hh hw)]
  have : (execOp a.eval o).run P w = .ok (.value (.tuple #[])) (w.putObj b (.map arr' clock)) := by
    rw [exec_builtin hop, BigFrame.builtin_delete]
    simp only [List.map_toArray, List.map_cons, List.map_nil, hh.ev hx, hh.ev hy, Sem.run_bind, h1]
    rfl
  rw [this]
  exact ⟨A'v arr', (fun e => by cases e), hh.st.set_obj (hu arr'), by rw [hd]; exact hk arr' h2⟩
theorem ot_look_v {zv v : Value} {k : κ} (hn : m k = some v) (Ke : KeyEnc P kt enc) (ht : P.underlying t = some (.map kt et)) (hzv : ∀ w, (zeroValue et).run P w = .ok zv w) (hop : o.op = .lookup t x y false) (hd : o.dst = some d) (hw : wantB ops ts o = some true) (hx : evT ts x = some (.map (some b))) (hy : evT ts y = some (enc k))
    (hm : MapAt w0 A b enc m) (hk : OT P w0 n ds ops os ks.tail ((d, v) :: ts) A K) : OT P w0 n ds ops (o :: os) ks ts A K :=
  ot_lookF (k := k) Ke ht hzv hop hd hw hx hy hm (by rw [hn]; exact hk)
theorem ot_look_no {zv : Value} {k : κ} (hn : m k = none) (Ke : KeyEnc P kt enc) (ht : P.underlying t = some (.map kt et)) (hzv : ∀ w, (zeroValue et).run P w = .ok zv w) (hop : o.op = .lookup t x y true) (hd : o.dst = some d) (hw : wantB ops ts o = some true) (hx : evT ts x = some (.map (some b))) (hy : evT ts y = some (enc k))
    (hm : MapAt w0 A b enc m) (hk : OT P w0 n ds ops os ks.tail ((d, .tuple #[zv, .bool false]) :: ts) A K) : OT P w0 n ds ops (o :: os) ks ts A K :=
  ot_lookF_ok (k := k) Ke ht hzv hop hd hw hx hy hm (by rw [hn]; exact hk)
theorem ot_look_yes {zv v : Value} {k : κ} (hn : m k = some v) (Ke : KeyEnc P kt enc) (ht : P.underlying t = some (.map kt et)) (hzv : ∀ w, (zeroValue et).run P w = .ok zv w) (hop : o.op = .lookup t x y true) (hd : o.dst = some d) (hw : wantB ops ts o = some true) (hx : evT ts x = some (.map (some b))) (hy : evT ts y = some (enc k))
    (hm : MapAt w0 A b enc m) (hk : OT P w0 n ds ops os ks.tail ((d, .tuple #[v, .bool true]) :: ts) A K) : OT P w0 n ds ops (o :: os) ks ts A K :=
  ot_lookF_ok (k := k) Ke ht hzv hop hd hw hx hy hm (by rw [hn]; exact hk)
end
/-! ## Queues: slices that lose their first element and are appended to -/
/-- What lies in a queue's block. -/
def QRow (k cap : Nat) (t : TypeId) (xs : List Value) (o : Option Obj) : Prop := ∃ cur : Array Value, o = some (.cells cur t (0, 0)) ∧ k + cap ≤ cur.size ∧ xs.length ≤ cap ∧ cap ≤ maxLen ∧ ∀ j u, xs[j]? = some u → cur[k + j]? = some u
section
variable {P : Program} {tab : TT} {w0 : World} {n : Nat} {ds : List Deferred} {ops : List Oper} {o : Oper} {os : List Oper} {ks : List Kind} {ts : TS} {A A' : List Chunk} {K : TS → List Chunk → Prop} {d : Tmp} {x y : Operand} {t : TypeId} {i i' : TI} {g k cap e : Nat} {xs : List Value}
theorem q_cell {j : Nat} {v : Value} (h : .prd g (QRow k cap e xs) ∈ A) (hv : xs[j]? = some v) : CellAt w0 A g (k + j) v := fun w hs => by
  obtain ⟨_, _, cur, h1, _, _, _, h2⟩ := hs.all _ h
  rw [cell_of_row w g (k + j) cur e (0, 0) h1]
  exact h2 j v hv
theorem St.own_q {w : World} {m : Nat} (hs : St w0 A w) (hu : Upd (.own (.slice (some ⟨g, 0, none⟩) m cap) e 1 m xs) (.prd g (QRow 0 cap e xs)) A A') : St w0 A' w := by
  have h0 := hs.all _ hu.mem
  obtain ⟨h1, h2⟩ := h0
  rcases h2 with ⟨h2, _⟩ | ⟨g', cap', cur, h3, h4, h5, h6, h7, h8, h9⟩
  · cases h2
  cases h3
  refine hs.swap hu rfl rfl ⟨h4, (Array.getElem?_eq_some_iff.1 h5).1, cur, h5, by omega, by omega, h7, fun j u hj => ?_⟩
  rw [Nat.zero_add]
  rw [← h9, List.getElem?_take] at hj
  split at hj
  · simpa using hj
  · cases hj
theorem QRow.tail {v : Value} {ob : Option Obj} (h : QRow k cap e (v :: xs) ob) : QRow (k + 1) (cap - 1) e xs ob ∧ (cap = 1 → QRow k 0 e xs ob) := by
  obtain ⟨cur, h1, h2, h3, h4, h5⟩ := h
  rw [List.length_cons] at h3
  refine ⟨⟨cur, h1, by omega, by omega, by omega, fun j u hj => ?_⟩, fun hc => ⟨cur, h1, by omega, by omega, by unfold maxLen; omega, fun j u hj => ?_⟩⟩
  · rw [show k + 1 + j = k + (j + 1) by omega]
    exact h5 (j + 1) u hj
  · have := (List.getElem?_eq_some_iff.1 hj).1
    omega
theorem run_append_q {w : World} {ty : TypeId} {j : TypeInfo} (ht : P.underlying t = some (.slice e)) (hi : P.info? e = some j) (hj : j.size = 1) {cur : Array Value} (hg : w.heap[g]? = some (.cells cur e (0, 0))) {a : Addr} {c m : Nat} {v : Value}
    (hv : w.cell? a = some v) (h1 : v.oneCell' = true) (hroom : m + 1 ≤ cap) (hfit : k + m + 1 ≤ cur.size) :
    (Builtin.append_ #[t, t] ty #[.slice (some ⟨g, k, none⟩) m cap, .slice (some a) 1 c]).run P w = .ok (.slice (some ⟨g, k, none⟩) (m + 1) cap) (w.setRow g (cur.toList.take (k + m) ++ [v] ++ cur.toList.drop (k + m + 1)).toArray) := by
  have hf := run_firstCells_some (P := P) w j.size 1 a 1 c [v] (by simp [hj]) (fun q u hq => by
    cases q with
    | zero => simp at hq; subst hq; rw [addr_add0]; exact hv
    | succ q => simp at hq)
  have hst := run_storeCells_at P g (k + m) e [v] 0 cur w hg (by simp; omega) (by simpa using h1)
  simp only [Nat.add_zero, List.length_singleton] at hst
  rw [hj] at hf
  simp [Builtin.append_, run_underlying ht, sizeOf, typeInfo, hi, hj, Builtin.lenOf, hroom, hf, Addr.add_lit, hst]
theorem ot_appendQ {m b off c : Nat} {v : Value} {A'v : Nat → Nat → Nat → List Chunk} (hT : TabOk P tab) (hh : ks.headD .wr = .wr) (hop : o.op = .call { callee := .builtin .append, args := #[x, y], argTypes := #[t, t] }) (hd : o.dst = some d) (hw : wantB ops ts o = some true)
    (hx : evT ts x = some (.slice (some ⟨g, k, none⟩) m cap)) (hy : evT ts y = some (.slice (some ⟨b, off, none⟩) 1 c)) (hi : lookI tab t = some i) (hl : i.d = .sl e) (hi' : lookI tab e = some i') (hsz : i'.size = 1) (hz : i'.zero.length = 1)
    (hc : CellAt w0 A b off v) (h1 : v.oneCell' = true) (hm : xs.length = m) (hu : ∀ g' k' cap', Upd (.prd g (QRow k cap e xs)) (.prd g' (QRow k' cap' e (xs ++ [v]))) A (A'v g' k' cap')) (h63 : m + 1 ≤ 1000000) (hby : i'.bytes ≤ 100000)
    (hk : ∀ g' k' cap', OT P w0 n ds ops os ks.tail ((d, .slice (some ⟨g', k', none⟩) (m + 1) cap') :: ts) (A'v g' k' cap') K) : OT P w0 n ds ops (o :: os) ks ts A K := by
  refine ot_wr hh fun a w hd' => ?_
  unfold wpV
  rw [if_pos (wantB_spec hd' hw), exec_builtin hop, BigFrame.builtin_append]
  obtain ⟨j, z, hj, j1, j2, j3, j4⟩ := (hT e i' hi').info
  have hch := hd'.st.all _ (hu 0 0 0).mem
  obtain ⟨hB, hlt, cur, q1, q2, q3, q4, q5⟩ := hch
  have hcv := hc w hd'.st
  have ht := (hT t i hi).sl hl
  by_cases hroom : m + 1 ≤ cap
  · have hr := run_append_q (P := P) (w := w) (ty := o.type) (k := k) (c := c) ht hj (by rw [j1, hsz]) q1 hcv h1 hroom (by omega)
    simp only [List.map_toArray, List.map_cons, List.map_nil, hd'.ev hx, hd'.ev hy, Sem.run_bind, hr, Result.andThen_ok, Sem.run_pure]
    refine ⟨A'v g k cap, (fun e => by cases e), hd'.st.upd (hu g k cap) rfl grown_setRow ⟨hB, ?_, ?_⟩ (fun b hb => .inl hb), by rw [hd]; exact hk g k cap⟩
    · have := (grown_setRow (w := w) (g := g) (cs := (cur.toList.take (k + m) ++ [v] ++ cur.toList.drop (k + m + 1)).toArray)).size
      omega
    · rw [setRow_heap w g cur _ e (0, 0) q1]
      refine ⟨_, rfl, ?_, by simp; omega, q4, fun jj u hjj => ?_⟩
      · simp; omega
      · simp only [List.getElem?_toArray]
        by_cases hlt2 : jj < xs.length
        · rw [List.getElem?_append_left hlt2] at hjj
          have := q5 jj u hjj
          rw [List.append_assoc, List.getElem?_append_left (by simp; omega), List.getElem?_take, if_pos (by omega)]
          simpa using this
        · rw [List.getElem?_append_right (by omega)] at hjj
          have hj0 : jj = m := by
            have := (List.getElem?_eq_some_iff.1 hjj).1
            simp at this; omega
          subst hj0
          rw [hm, Nat.sub_self] at hjj
          rw [List.append_assoc, List.getElem?_append_right (by simp; omega)]
          have e0 : k + jj - (List.take (k + jj) cur.toList).length = 0 := by simp; omega
          rw [e0]
          simpa using hjj
  · have hr := run_append_grow (P := P) w t o.type e j z ht hj j3 ⟨g, k, none⟩ m cap xs (by rw [j1, hsz, Nat.mul_one, hm]) (fun q u hq => by rw [Addr.add_none, cell_of_row w g (k + q) cur e (0, 0) q1]; exact q5 q u hq) ⟨b, off, none⟩ 1 c [v] (by simp [j1, hsz]) (fun q u hq => by
      cases q with
      | zero => simp at hq; subst hq; rw [Addr.add_none, Nat.add_zero]; exact hcv
      | succ q => simp at hq) (by omega) (by omega) (growslice_fits (by omega) (by
        have : (m + 1) * j.bytes ≤ 1000000 * 100000 := Nat.mul_le_mul h63 (by omega)
        omega))
    have hge := grownCap_ge w (m + 1) cap e
    have hcm : grownCap w (m + 1) cap e ≤ maxLen := grownCap_le_maxLen w (m + 1) cap e (by unfold maxLen; omega)
    simp only [List.map_toArray, List.map_cons, List.map_nil, hd'.ev hx, hd'.ev hy, Sem.run_bind, hr, Result.andThen_ok, Sem.run_pure]
    have hzs : z.cells.size = 1 := by rw [← hz, ← j4]; simp
    refine ⟨A'v w.heap.size 0 (grownCap w (m + 1) cap e), (fun e => by cases e), hd'.st.upd (hu _ 0 _) rfl ⟨rfl, rfl, rfl, by simp, fun k hk _ => (by first | exact heap_alloc_old w.drew _ hk | exact heap_alloc_old w.drew _ _ hk)⟩ ⟨hd'.st.base.size, by simp, ?_⟩ (fun b hb => ?_), by rw [hd]; exact hk _ 0 _⟩
    · refine ⟨_, heap_alloc_new w.drew _, ?_, by simp; omega, hcm, fun jj u hjj => ?_⟩
      · simp only [Array.size_append, List.size_toArray, size_zeroCells, hzs, List.length_singleton]
        omega
      · rw [Nat.zero_add]
        have hl2 := (List.getElem?_eq_some_iff.1 hjj).1
        rw [Array.getElem?_append_left (by simp at hl2 ⊢; omega)]
        simpa using hjj
    · right
      simp only [Chunk.at_, Option.some.injEq] at hb
      omega
end
/-! ## The entry of a key that is there -/
section
variable {P : Program} {κ : Type} [DecidableEq κ] {enc : κ → Value} {m : κ → Option Value} {kt et t : TypeId} {st : List (Nat × κ)}
variable {w0 : World} {n : Nat} {ds : List Deferred} {ops : List Oper} {o : Oper} {os : List Oper} {ks : List Kind} {ts : TS} {A A' : List Chunk} {K : TS → List Chunk → Prop} {d : Tmp} {x y : Operand} {b : Nat}
/-- The entry of a key that is there. -/
theorem ot_entryS {zv v0 : Value} {k : κ} {A'v : Nat → List Chunk} (hn : m k = some v0) (Ke : KeyEnc P kt enc) (ht : P.underlying t = some (.map kt et)) (hzv : ∀ w, (zeroValue et).run P w = .ok zv w) (hh : ks.headD .wr = .wr) (hop : o.op = .mapEntry t x y) (hd : o.dst = some d) (hw : wantB ops ts o = some true) (hx : evT ts x = some (.map (some b))) (hy : evT ts y = some (enc k))
    (hu : ∀ s, Upd (.prd b (MapP enc m st)) (.prd b (MapP enc m ((s, k) :: st))) A (A'v s)) (hk : ∀ v (s : Nat), OT P w0 n ds ops os ks.tail ((d, .tuple #[v, .int .i64 (s : Int)]) :: ts) (A'v s) K) : OT P w0 n ds ops (o :: os) ks ts A K :=
  ot_entryF (m := m) (st := st) (k := k) Ke ht hzv hh hop hd hw hx hy (A'v := A'v) (fun s => by rw [hn]; exact hu s) hk
end
/-! ## make and copy, elements of more cells -/
section
variable {P : Program} {tab : TT} {w0 : World} {n : Nat} {ds : List Deferred} {ops : List Oper} {o : Oper} {os : List Oper} {ks : List Kind} {ts : TS} {A A' : List Chunk} {K : TS → List Chunk → Prop} {d : Tmp}
variable {x y : Operand} {t u : TypeId} {k : IntKind} {b off g : Nat} {i i' : TI}
theorem toList_madeCells_same (z : Value) (sz n : Nat) (h : 0 < sz) : (madeCells (List.replicate sz z).toArray n).toList = List.replicate n z := by
  apply List.ext_getElem?
  intro j
  by_cases hj : j < n
  · have : j % sz < sz := Nat.mod_lt _ h
    simp [madeCells, hj, this]
  · simp [madeCells, hj]
theorem ot_makeSliceU {e m sz : Nat} {z0 : Value} {k k' : IntKind} {p p' : Int} (hT : TabOk P tab) (hh : ks.headD .wr ≠ .rd) (hop : o.op = .makeSlice t x y) (hd : o.dst = some d) (hw : wantB ops ts o = some true) (hx : evT ts x = some (.int k p)) (hy : evT ts y = some (.int k' p')) (hi : lookI tab t = some i) (hl : i.d = .sl e) (hi' : lookI tab e = some i')
    (hsz : i'.size = sz) (h0 : 0 < sz) (hz : i'.zero = List.replicate sz z0) (hp : p = (m : Int)) (hp' : p' = (m : Int)) (hm : m ≤ 1000000) (hby : i'.bytes ≤ 100000)
    (hk : ∀ g, w0.heap.size ≤ g → OT P w0 n ds ops os ks.tail ((d, .slice (some ⟨g, 0, none⟩) m m) :: ts) (.blk g e (List.replicate (m * sz) z0) :: A) K) : OT P w0 n ds ops (o :: os) ks ts A K := by
  refine ot_new (N := fun _ _ => True) (v := undef) hh hd hw fun a w hd' => ?_
  subst hp hp'
  obtain ⟨j, z, hj, j1, j2, j3, j4⟩ := (hT e i' hi').info
  have hzc : z.cells = (List.replicate sz z0).toArray := by
    apply Array.ext'; rw [j4, hz]
  have hmm : j.bytes * m ≤ 100000 * 1000000 := Nat.mul_le_mul (by omega) hm
  have h1 : (j.bytes : Int) * (m : Int) ≤ 281474976710656 := by
    have : ((j.bytes * m : Nat) : Int) ≤ 281474976710656 := by omega
    rwa [Int.natCast_mul] at this
  have hr := run_make (P := P) w t e j z ((hT t i hi).sl hl) hj j3 k k' m m (by omega) (Int.le_refl _) h1 (by omega)
  have hc : madeCells z.cells ((m : Int).toNat * j.size) = (List.replicate (m * sz) z0).toArray := by
    rw [hzc, j1, hsz, Int.toNat_natCast]
    apply Array.ext'
    rw [toList_madeCells_same _ _ _ h0]
  rw [hc] at hr
  refine ⟨_, _, _, ?_, (Below.refl _ _).alloc (Nat.le_refl _) (.cells (List.replicate (m * sz) z0).toArray e), hd'.st.alloc_blk e (List.replicate (m * sz) z0), hk w.heap.size hd'.st.base.size⟩
  simp only [execOp, hop, hd'.ev hx, hd'.ev hy]
  simp [hr]
theorem run_copy_rowU (w : World) (dT sT ty elem : TypeId) (g dLen dCap : Nat) (a : Addr) (sCap sz : Nat) (cur : Array Value) (t : TypeId) (cs : List Value)
    (hu : P.underlying dT = some (.slice elem)) (hs : (P.info? elem).map (·.size) = some sz)
    (hg : w.heap[g]? = some (.cells cur t (0, 0))) (hn : cs.length = dLen * sz)
    (hsrc : ∀ j v, cs[j]? = some v → w.cell? (a.add j) = some v) (hfit : cs.length = cur.size) (h1 : ∀ v ∈ cs, v.oneCell' = true) :
    (Builtin.copy_ #[dT, sT] ty #[.slice (some ⟨g, 0, none⟩) dLen dCap, .slice (some a) dLen sCap]).run P w =
      .ok (goInt dLen) (w.setRow g cs.toArray) := by
  have hl := run_loadCells_list (P := P) w a cs hsrc
  have hst := run_storeCells_at P g 0 t cs 0 cur w hg (by simpa using Nat.le_of_eq hfit) h1
  simp only [List.take_zero, List.nil_append, Nat.zero_add] at hst
  rw [List.drop_of_length_le (by simp; omega), List.append_nil] at hst
  cases hq : P.info? elem with
  | none => simp [hq] at hs
  | some i =>
    have hi : i.size = sz := by simpa [hq] using hs
    simp [Builtin.copy_, run_underlying hu, Builtin.lenOf, Builtin.firstCells, sizeOf, typeInfo, hq, hi, ← hn, hl, hst]
theorem ot_copyU {e m c c' sz : Nat} {B : Option Addr} {cs vs : List Value} {bt : TypeId} (hT : TabOk P tab) (hh : ks.headD .wr = .wr) (hop : o.op = .call { callee := .builtin .copy, args := #[x, y], argTypes := #[t, u] }) (hd : o.dst = some d) (hw : wantB ops ts o = some true) (hx : evT ts x = some (.slice (some ⟨g, 0, none⟩) m c)) (hy : evT ts y = some (.slice B m c')) (hi : lookI tab t = some i) (hl : i.d = .sl e) (hi' : lookI tab e = some i')
    (hsz : i'.size = sz) (hm : 0 < m) (hr : ∀ w, St w0 A w → Reads w w.heap.size sz B m vs) (h1 : ∀ v ∈ vs, v.oneCell' = true) (hu : Upd (.blk g bt cs) (.blk g bt vs) A A') (hlen : cs.length = m * sz)
    (hk : OT P w0 n ds ops os ks.tail ((d, .int .i64 (m : Int)) :: ts) A' K) : OT P w0 n ds ops (o :: os) ks ts A K := by
  refine ot_wroteD hh hd hw (fun a w hh => ?_) hk
  have hb := (hh.st.all _ hu.mem).2
  obtain ⟨hvl, hrd⟩ := hr w hh.st
  obtain ⟨j, z, hj, j1, j2, j3, j4⟩ := (hT e i' hi').info
  rw [exec_builtin hop, BigFrame.builtin_copy]
  simp only [List.map_toArray, List.map_cons, List.map_nil, hh.ev hx, hh.ev hy, Sem.run_bind]
  obtain ⟨b', o', rfl, hb', hc⟩ := hrd hm
  have hrun := run_copy_rowU (P := P) w t u o.type e g m c ⟨b', o', none⟩ c' sz cs.toArray bt vs ((hT t i hi).sl hl) (by rw [hj]; simp [j1, hsz]) hb hvl (fun q v hv => by rw [Addr.add_none]; exact hc q v hv) (by simp; omega) h1
  exact ⟨w.setRow g vs.toArray, by rw [hrun]; rfl, hh.st.set_blk hu (setRow_heap w g cs.toArray _ bt _ hb) grown_setRow⟩
end
/-! ## append([]T{}, x...) -/
section
variable {P : Program} {tab : TT} {w0 w : World} {n : Nat} {r : Option Nat} {ds : List Deferred} {ops : List Oper} {o : Oper} {os : List Oper} {ks : List Kind} {ts : TS} {A : List Chunk} {K : TS → List Chunk → Prop} {Q : PostT} {d : Tmp} {x y : Operand} {t : TypeId} {i i' : TI}
theorem ot_appendE {e sz m c g0 : Nat} {B : Option Addr} {news : List Value} (hT : TabOk P tab) (hh : ks.headD .wr ≠ .rd) (hop : o.op = .call { callee := .builtin .append, args := #[x, y], argTypes := #[t, t] }) (hd : o.dst = some d) (hw : wantB ops ts o = some true)
    (hx : evT ts x = some (.slice (some ⟨g0, 0, none⟩) 0 0)) (hy : evT ts y = some (.slice B m c)) (hi : lookI tab t = some i) (hl : i.d = .sl e) (hi' : lookI tab e = some i') (hsz : i'.size = sz) (hz : i'.zero.length = sz) (hm : 0 < m)
    (hr : ∀ w, St w0 A w → Reads w w.heap.size sz B m news) (h63 : m ≤ 1000000) (hby : i'.bytes ≤ 100000)
    (hk : ∀ g cap, w0.heap.size ≤ g → OT P w0 n ds ops os ks.tail ((d, .slice (some ⟨g, 0, none⟩) m cap) :: ts) (.own (.slice (some ⟨g, 0, none⟩) m cap) e sz m news :: A) K) : OT P w0 n ds ops (o :: os) ks ts A K := by
  refine ot_new (N := fun _ _ => True) (v := undef) hh hd hw fun a w hd' => ?_
  obtain ⟨j, z, hj, j1, j2, j3, j4⟩ := (hT e i' hi').info
  have hrd := hr w hd'.st
  obtain ⟨b, off, rfl, _, hcs⟩ := hrd.2 hm
  have hnews : ∀ q u, news[q]? = some u → w.cell? ((⟨b, off, none⟩ : Addr).add q) = some u := fun q u hq => by rw [Addr.add_none]; exact hcs q u hq
  have hmm : (0 + m) * i'.bytes ≤ 1000000 * 100000 := Nat.mul_le_mul (by omega) hby
  have h2 := run_append_grow (P := P) w t o.type e j z ((hT t i hi).sl hl) hj j3 ⟨g0, 0, none⟩ 0 0 [] (by rw [Nat.zero_mul]; rfl) (fun q u hq => by simp at hq) ⟨b, off, none⟩ m c news (by rw [hrd.1, j1, hsz]) hnews (by omega) (by omega) (growslice_fits (by omega) (by rw [j2]; omega))
  rw [Nat.zero_add] at h2
  have hge := grownCap_ge w m 0 e
  have hcm : grownCap w m 0 e ≤ maxLen := grownCap_le_maxLen w m 0 e (by unfold maxLen; omega)
  have hzs : z.cells.size = sz := by rw [← hz, ← j4]; simp
  generalize grownCap w m 0 e = cap at *
  have hB : ∀ ob, Below w.heap.size w (w.drew.alloc ob) := fun ob => (Below.refl w.heap.size w).drew.alloc (Nat.le_refl _) ob
  refine ⟨_, _, _, ?_, hB (.cells (([] : List Value).toArray ++ news.toArray ++ Builtin.zeroCells z.cells (cap - m)) e), hd'.st.add (c := .own (.slice (some ⟨w.heap.size, 0, none⟩) m cap) e sz m news) (hB (.cells (([] : List Value).toArray ++ news.toArray ++ Builtin.zeroCells z.cells (cap - m)) e)) ?_ (fun b hb => by cases hb; exact Nat.le_refl _), hk w.heap.size cap hd'.st.base.size⟩
  · rw [exec_builtin hop, BigFrame.builtin_append]
    simp only [List.map_toArray, List.map_cons, List.map_nil, hd'.ev hx, hd'.ev hy, Sem.run_bind, h2, Result.andThen_ok, Sem.run_pure]
  · refine ⟨hrd.1, .inr ⟨w.heap.size, cap, _, rfl, hd'.st.base.size, heap_alloc_new w.drew _, hge, hcm, ?_, ?_⟩⟩
    · simp only [Array.size_append, List.size_toArray, size_zeroCells, hzs, hrd.1, List.length_nil, Nat.zero_add]
      rw [← Nat.add_mul]
      congr 1; omega
    · have e1 : (([] : List Value).toArray ++ news.toArray ++ Builtin.zeroCells z.cells (cap - m)).toList = news ++ (Builtin.zeroCells z.cells (cap - m)).toList := by simp
      rw [e1]
      exact List.take_left' hrd.1
end
/-! ## Bits -/
section
variable {P : Program} {tab : TT} {w0 : World} {n : Nat} {ds : List Deferred} {ops : List Oper} {o : Oper} {os : List Oper} {ks : List Kind} {ts : TS} {A : List Chunk} {K : TS → List Chunk → Prop} {d : Tmp} {x y : Operand} {t u : TypeId}
theorem ot_shr {k : IntKind} {a b : Nat} (hop : o.op = .binOp .shr t x y u) (hd : o.dst = some d) (hw : wantB ops ts o = some true) (hx : evT ts x = some (.int k (a : Int))) (hy : evT ts y = some (.int .i64 (b : Int))) (hb : b ≤ k.bits)
    (hk : OT P w0 n ds ops os ks.tail ((d, .int k ((a / 2 ^ b : Nat) : Int)) :: ts) A K) : OT P w0 n ds ops (o :: os) ks ts A K :=
  ot_val _ hd hw (fun a' w hd' => by
    have e1 : (eqGuard .shr t x y (.int k (a : Int)) (.int .i64 (b : Int))).run P w = .ok () w := by simp [eqGuard, Sem.run_bind]
    have e2 : (binOp .shr t (.int k (a : Int)) (.int .i64 (b : Int))).run P w = .ok (.int k ((a / 2 ^ b : Nat) : Int)) w := by
      have h4 : (binOp .shr t (.int k (a : Int)) (.int .i64 (b : Int))) = pure (.int k ((a / 2 ^ b : Nat) : Int)) := by
        show Op.shift .shr k (a : Int) .i64 (b : Int) = _
        rw [shift_shr k .i64 (a : Int) (b : Int) (by omega) (by omega), Int.toNat_natCast]
        simp
      rw [h4]
      exact Sem.run_pure ..
    simp only [execOp, hop, hd'.ev hx, hd'.ev hy, Sem.run_bind, e1, e2, Result.andThen_ok, Sem.run_pure]) hk
theorem ot_and1 {k : IntKind} {a : Nat} (hop : o.op = .binOp .and t x y u) (hd : o.dst = some d) (hw : wantB ops ts o = some true) (hx : evT ts x = some (.int k (a : Int))) (hy : evT ts y = some (.int k 1)) (ha : a < 2 ^ k.bits) (hk1 : ∀ q : Nat, q < 2 → k.wrap (q : Int) = q) (h1 : 1 < 2 ^ k.bits)
    (hk : OT P w0 n ds ops os ks.tail ((d, .int k ((a % 2 : Nat) : Int)) :: ts) A K) : OT P w0 n ds ops (o :: os) ks ts A K :=
  ot_val _ hd hw (fun a' w hd' => by
    have e1 : (eqGuard .and t x y (.int k (a : Int)) (.int k 1)).run P w = .ok () w := by simp [eqGuard, Sem.run_bind]
    have e2 : (binOp .and t (.int k (a : Int)) (.int k 1)).run P w = .ok (.int k ((a % 2 : Nat) : Int)) w := by
      have h3 : (BitVec.ofInt k.bits (a : Int) &&& BitVec.ofInt k.bits 1).toNat = a % 2 := by
        rw [BitVec.toNat_and]
        have q1 : (BitVec.ofInt k.bits (a : Int)).toNat = a := by
          rw [BitVec.ofInt_natCast, BitVec.toNat_ofNat, Nat.mod_eq_of_lt ha]
        have q2 : (BitVec.ofInt k.bits (1 : Int)).toNat = 1 := by
          rw [show (1 : Int) = ((1 : Nat) : Int) from rfl, BitVec.ofInt_natCast, BitVec.toNat_ofNat, Nat.mod_eq_of_lt h1]
        rw [q1, q2, Nat.and_one_is_mod]
      have h4 : (binOp .and t (.int k (a : Int)) (.int k 1)) = pure (.int k (k.wrap ((BitVec.ofInt k.bits (a : Int) &&& BitVec.ofInt k.bits 1).toNat : Int))) := by simp [binOp, Op.intBits]
      rw [h4, h3, hk1 _ (Nat.mod_lt _ (by decide))]
      exact Sem.run_pure ..
    simp only [execOp, hop, hd'.ev hx, hd'.ev hy, Sem.run_bind, e1, e2, Result.andThen_ok, Sem.run_pure]) hk
theorem ot_or {a b : Nat} (hop : o.op = .binOp .or t x y u) (hd : o.dst = some d) (hw : wantB ops ts o = some true) (hx : evT ts x = some (.int .i64 (a : Int))) (hy : evT ts y = some (.int .i64 (b : Int))) (ha : a < 2 ^ 60) (hb : b < 2 ^ 60)
    (hk : OT P w0 n ds ops os ks.tail ((d, .int .i64 ((a ||| b : Nat) : Int)) :: ts) A K) : OT P w0 n ds ops (o :: os) ks ts A K :=
  ot_val _ hd hw (fun a' w hd' => by
    have e1 : (eqGuard .or t x y (.int .i64 (a : Int)) (.int .i64 (b : Int))).run P w = .ok () w := by simp [eqGuard, Sem.run_bind]
    have e2 : (binOp .or t (.int .i64 (a : Int)) (.int .i64 (b : Int))).run P w = .ok (.int .i64 ((a ||| b : Nat) : Int)) w := by
      have h3 : (BitVec.ofInt 64 (a : Int) ||| BitVec.ofInt 64 (b : Int)).toNat = a ||| b := by
        rw [BitVec.toNat_or, BitVec.ofInt_natCast, BitVec.ofInt_natCast, BitVec.toNat_ofNat, BitVec.toNat_ofNat, Nat.mod_eq_of_lt (by omega), Nat.mod_eq_of_lt (by omega)]
      have h4 : (binOp .or t (.int .i64 (a : Int)) (.int .i64 (b : Int))) = pure (.int .i64 (IntKind.i64.wrap ((BitVec.ofInt 64 (a : Int) ||| BitVec.ofInt 64 (b : Int)).toNat : Int))) := by simp [binOp, Op.intBits]; rfl
      have h5 := Nat.or_lt_two_pow ha hb
      rw [h4, h3, IntKind.wrap_i64]
      rw [show ((((a ||| b : Nat) : Int) + 9223372036854775808) % 18446744073709551616 - 9223372036854775808) = ((a ||| b : Nat) : Int) by omega]
      exact Sem.run_pure ..
    simp only [execOp, hop, hd'.ev hx, hd'.ev hy, Sem.run_bind, e1, e2, Result.andThen_ok, Sem.run_pure]) hk
theorem ot_shl1 {b : Nat} (hop : o.op = .binOp .shl t x y u) (hd : o.dst = some d) (hw : wantB ops ts o = some true) (hx : evT ts x = some (.int .i64 1)) (hy : evT ts y = some (.int .i64 (b : Int))) (hb : b < 60)
    (hk : OT P w0 n ds ops os ks.tail ((d, .int .i64 ((2 ^ b : Nat) : Int)) :: ts) A K) : OT P w0 n ds ops (o :: os) ks ts A K :=
  ot_val _ hd hw (fun a' w hd' => by
    have e1 : (eqGuard .shl t x y (.int .i64 1) (.int .i64 (b : Int))).run P w = .ok () w := by simp [eqGuard, Sem.run_bind]
    have h5 : (2 : Nat) ^ b < 2 ^ 60 := Nat.pow_lt_pow_right (by decide) hb
    have e2 : (binOp .shl t (.int .i64 1) (.int .i64 (b : Int))).run P w = .ok (.int .i64 ((2 ^ b : Nat) : Int)) w := by
      have h4 : (binOp .shl t (.int .i64 1) (.int .i64 (b : Int))) = pure (.int .i64 (IntKind.i64.wrap ((2 ^ b : Nat) : Int))) := by
        have : min b 64 = b := by omega
        show Op.shift .shl .i64 1 .i64 (b : Int) = _
        simp [Op.shift, show IntKind.i64.bits = 64 from rfl, this]
      rw [h4, IntKind.wrap_i64]
      generalize 2 ^ b = q at *
      rw [show ((((q : Nat) : Int) + 9223372036854775808) % 18446744073709551616 - 9223372036854775808) = ((q : Nat) : Int) by omega]
      exact Sem.run_pure ..
    simp only [execOp, hop, hd'.ev hx, hd'.ev hy, Sem.run_bind, e1, e2, Result.andThen_ok, Sem.run_pure]) hk
end
/-! ## Makers in every order, by facts of any kind -/
section
variable {P : Program} {w0 : World} {n : Nat} {ds : List Deferred} {ops : List Oper} {K : TS → List Chunk → Prop}
/-- Two operations either wait for one another or are apart: no order need be looked at. -/
def pairsB (ops : List Oper) (D : List Nat) (R T : List Nat) (kd : Nat → Kind) : Bool :=
  (T.all fun i => Nat.blt i ops.length && notRdK (kd i) && !R.contains i && (R ++ T).all fun r => Nat.beq r i || depB D i r || depB D r i || (nthO ops r).apart ops.toArray (nthO ops i)) &&
  R.all fun i => Nat.blt i ops.length && (nthO ops i).after.toList.all fun e => !Region.binds .any e || R.contains e.on
def nodupB : List Nat → Bool
  | [] => true
  | i :: l => !l.contains i && nodupB l
theorem nodupB_spec : ∀ {l : List Nat}, nodupB l = true → l.Nodup
  | [], _ => .nil
  | i :: l, h => by
    rw [nodupB, Bool.and_eq_true] at h
    exact List.nodup_cons.2 ⟨by simpa using h.1, nodupB_spec h.2⟩
theorem dep_doneP {D done : List Nat} (hc : certB ops D = true) (hl : ∀ r ∈ done, r < ops.length) (hcl : ∀ r ∈ done, ∀ e ∈ (nthO ops r).after.toList, Region.binds .any e = true → e.on ∈ done) : ∀ (b r i : Nat), r < b → r ∈ done → i < ops.length → depB D r i = true → i ∈ done := by
  intro b
  induction b with
  | zero => intro r i h; omega
  | succ b ih =>
    intro r i hb hr hi hd
    obtain ⟨e, he, h1, h2, h3⟩ := certB_spec hc (hl r hr) hi hd
    have h4 := hcl r hr e (by simpa using he) h1
    rcases h3 with h3 | h3
    · rw [← h3]; exact h4
    · exact ih e.on i (by omega) h4 hi h3
theorem otx_ofP {A0 : List Chunk} {kd : Nat → Kind} {D R T0 : List Nat} (hc : certB ops D = true) (hp : pairsB ops D R T0 kd = true) (I : List Nat → TS → List Chunk → Prop)
    (step : ∀ done i ts A, (∀ e ∈ (nthO ops i).after.toList, Region.binds .any e = true → e.on ∈ done) → i ∈ T0 → I done ts A → OT P w0 n ds ops [nthO ops i] [kd i] ts A fun ts' A' => A0.Sublist A' ∧ I (done ++ [i]) ts' A')
    (hK : ∀ done ts A, (∀ i ∈ T0, i ∈ done) → I done ts A → K ts A) :
    ∀ (F done todo : List Nat) (ts : TS) (A : List Chunk), F.length = todo.length → todo.Nodup → (∀ i ∈ todo, i ∈ T0 ∧ i ∉ done) → (∀ i ∈ T0, i ∈ done ∨ i ∈ todo) → (∀ r ∈ done, r ∈ R ++ T0 ∧ r < ops.length) → (∀ r ∈ done, ∀ e ∈ (nthO ops r).after.toList, Region.binds .any e = true → e.on ∈ done) → I done ts A → OTX P w0 n ds ops A0 kd D F done todo ts A K
  | [], done, todo, ts, A, hf, hn, ht, hcv, hl, hcl, hI => by
    obtain rfl : todo = [] := List.eq_nil_of_length_eq_zero (by simpa using hf.symm)
    exact ⟨rfl, hK done ts A (fun i hi => by rcases hcv i hi with h | h; exact h; cases h) hI⟩
  | _ :: F, done, todo, ts, A, hf, hn, ht, hcv, hl, hcl, hI => by
    refine ⟨fun e => by rw [e] at hf; simp at hf, allP_of fun i hi => ?_⟩
    obtain ⟨hit, hfr⟩ := List.mem_filter.1 hi
    have hedge : ∀ e ∈ (nthO ops i).after.toList, Region.binds .any e = true → e.on ∈ done := fun e he hb => by
      have := List.all_eq_true.1 hfr e he
      rw [hb] at this
      simpa using this
    obtain ⟨hiT, hid⟩ := ht i hit
    have hp' := hp
    rw [pairsB, Bool.and_eq_true] at hp'
    have hpi := List.all_eq_true.1 hp'.1 i hiT
    rw [Bool.and_eq_true, Bool.and_eq_true, Bool.and_eq_true] at hpi
    obtain ⟨⟨⟨q1, q2⟩, q3⟩, q4⟩ := hpi
    have hil : i < ops.length := Nat.le_of_ble_eq_true q1
    have hb : treeB ops D done todo i = true := by
      simp only [treeB, Bool.and_eq_true]
      refine ⟨⟨⟨⟨⟨q1, by simpa using hid⟩, List.all_eq_true.2 fun r hr => ?_⟩, List.all_eq_true.2 fun x hx => ?_⟩, ?_⟩, ?_⟩
      · have h1 := List.all_eq_true.1 q4 r (hl r hr).1
        rw [Bool.or_eq_true, Bool.or_eq_true, Bool.or_eq_true] at h1
        rw [Bool.or_eq_true]
        rcases h1 with ((h1 | h1) | h1) | h1
        · rw [Nat.eq_of_beq_eq_true h1] at hr
          exact absurd hr hid
        · exact .inr h1
        · exact absurd (dep_doneP hc (fun r hr => (hl r hr).2) hcl _ r i (Nat.lt_succ_self r) hr hil h1) hid
        · exact .inl h1
      · by_cases e : x = i
        · rw [e]; simp
        · have := (List.mem_erase_of_ne e).2 hx
          simp [this]
      · have := List.length_erase_of_mem hit
        have h0 : 0 < todo.length := List.length_pos_of_mem hit
        rw [this, show todo.length - 1 + 1 = todo.length by omega]
        exact Nat.beq_refl _
      · have := hn.not_mem_erase (a := i)
        simpa using this
    refine ⟨⟨hb, fun e => by rw [e] at q2; cases q2⟩, ot_mono (fun ts' A' q => ⟨q.1, ?_⟩) (step done i ts A hedge hiT hI)⟩
    refine otx_ofP hc hp I step hK F (done ++ [i]) (todo.erase i) ts' A' ?_ (hn.erase i) (fun j hj => ?_) (fun j hj => ?_) (fun r hr => ?_) (fun r hr e he hbe => ?_) q.2
    · have := List.length_erase_of_mem hit
      have h0 : 0 < todo.length := List.length_pos_of_mem hit
      simp at hf
      omega
    · have hj' := List.mem_of_mem_erase hj
      refine ⟨(ht j hj').1, fun h => ?_⟩
      rcases List.mem_append.1 h with h | h
      · exact (ht j hj').2 h
      · rw [List.mem_singleton] at h
        rw [h] at hj
        exact absurd hj hn.not_mem_erase
    · rcases hcv j hj with h | h
      · exact .inl (List.mem_append_left _ h)
      · by_cases e : j = i
        · exact .inl (List.mem_append_right _ (by rw [e]; exact .head _))
        · exact .inr ((List.mem_erase_of_ne e).2 h)
    · rcases List.mem_append.1 hr with h | h
      · exact hl r h
      · rw [List.mem_singleton] at h
        rw [h]; exact ⟨List.mem_append_right _ hiT, hil⟩
    · rcases List.mem_append.1 hr with h | h
      · exact List.mem_append_left _ (hcl r h e he hbe)
      · rw [List.mem_singleton] at h
        rw [h] at he
        exact List.mem_append_left _ (hedge e he hbe)
end
section
variable {P : Program} {w0 : World} {n : Nat} {r : Option Nat} {ds : List Deferred} {ts : TS} {A : List Chunk} {Q : PostT}
/-- Reads ahead, then what makes memory and calls, in any order, each with what is known behind it. -/
theorem tr_region_factsX {X : Type} {id : Nat} {l : List Oper} (hm : P.follows .mixedOrders = true) (A0 : List Chunk) (hA0 : A0.Sublist A) (R : List Nat) (T : List Nat) (ks : List Kind) (kd : Nat → Kind) (D : List Nat) (hD : (Region.before l.toArray).toList = D) (hd : dstOk n l = true) (hb : treeR l R T ks = true) (hall : pairsB l D R T kd = true) (hnd : nodupB T = true)
    (dst : Nat → Tmp) (base : TS) (fact : Nat → X → Value × List Chunk) (hdb : dstB l T dst base = true)
    (h : OT P w0 n ds l (pick l R) ks ts A0 fun ts _ => subT base ts)
    (step : allP T fun i => ∀ ts A, subT base ts → A0.Sublist A → allP (depsL l T i) (fun j => FactX dst fact j ts A) →
      OT P w0 n ds l [nthO l i] [kd i] ts A fun ts' A' => ∃ v N x, ts' = (dst i, v) :: ts ∧ A' = N ++ A ∧ (fact i x).1 = v ∧ ∀ c ∈ (fact i x).2, c ∈ A')
    (hk : ∀ ts A, subT base ts → A0.Sublist A → (∀ i ∈ T, FactX dst fact i ts A) → Q .normal ds ts A) : Tr P r w0 n (.region id l.toArray true) ds ts A Q := by
  have hb' := hb
  simp only [treeR, Bool.and_eq_true] at hb'
  obtain ⟨_, h9⟩ := hb'
  have hdb' := fun i (hi : i ∈ T) => List.all_eq_true.1 hdb i hi
  have hne : ∀ i ∈ T, ∀ j ∈ T, j ≠ i → dst j ≠ dst i := fun i hi j hj hji e => by
    have := hdb' i hi
    rw [Bool.and_eq_true, Bool.and_eq_true] at this
    have h2 := List.all_eq_true.1 this.1.2 j hj
    rw [Bool.or_eq_true] at h2
    rcases h2 with h2 | h2
    · exact hji (Nat.eq_of_beq_eq_true h2).symm
    · rw [e] at h2
      simp at h2
  have hbs : ∀ i ∈ T, ∀ p ∈ base, p.1 ≠ dst i := fun i hi p hp e => by
    have := hdb' i hi
    rw [Bool.and_eq_true] at this
    have h2 := List.all_eq_true.1 this.2 p hp
    rw [e] at h2
    simp at h2
  have hall' := hall
  rw [pairsB, Bool.and_eq_true] at hall'
  have hRc := fun i hi => (Bool.and_eq_true _ _).mp (List.all_eq_true.1 hall'.2 i hi)
  have hcert : certB l D = true := by
    rw [← hD]
    simp only [treeR, Bool.and_eq_true] at hb
    exact hb.1.1.1.1.1.1.1.1
  refine tr_region_tree hm A0 hA0 R T ks kd D hD hd hb (ot_mono (fun ts1 A1 hb1 => ?_) h)
  refine otx_ofP (R := R) (T0 := T) hcert hall (fun done ts A => subT base ts ∧ A0.Sublist A ∧ ∀ i ∈ done, i ∈ T → FactX dst fact i ts A) ?_ ?_ T R T ts1 A rfl (nodupB_spec hnd) (fun i hi => ⟨hi, ?_⟩) (fun i hi => .inr hi) (fun r hr => ⟨List.mem_append_left _ hr, Nat.le_of_ble_eq_true (hRc r hr).1⟩) (fun r hr e he hbe => ?_) ⟨hb1, hA0, fun i hi hiT => ?_⟩
  · rintro done i ts A hdep hi ⟨q1, q2, q3⟩
    refine ot_mono ?_ (allP_mem step hi ts A q1 q2 (allP_of fun j hj => ?_))
    rotate_left
    · obtain ⟨e, he, rfl⟩ := List.mem_map.1 hj
      obtain ⟨he1, he2⟩ := List.mem_filter.1 he
      rw [Bool.and_eq_true] at he2
      exact q3 _ (hdep e he1 he2.1) (by simpa using he2.2)
    rintro ts' A' ⟨v, N, x, rfl, rfl, hv, hc⟩
    refine ⟨q2.trans (List.sublist_append_right _ _), subT_cons (hbs i hi) q1, q2.trans (List.sublist_append_right _ _), fun j hj hjT => ?_⟩
    by_cases hji : j = i
    · subst hji
      exact ⟨x, by rw [hv]; simp [look], hc⟩
    · rcases List.mem_append.1 hj with hj | hj
      · obtain ⟨y, hy1, hy2⟩ := q3 j hj hjT
        exact ⟨y, by rw [look_cons_ne (hne i hi j hjT hji)]; exact hy1, fun c hc => List.mem_append_right _ (hy2 c hc)⟩
      · rw [List.mem_singleton] at hj; exact absurd hj hji
  · exact fun done ts A hcov ⟨q1, q2, q3⟩ => hk ts A q1 q2 fun i hi => q3 i (hcov i hi) hi
  · have := List.all_eq_true.1 h9 i hi
    rw [Bool.and_eq_true] at this
    simpa using this.2
  · have := List.all_eq_true.1 (hRc r hr).2 e he
    rw [hbe] at this
    simpa using this
  · have := List.all_eq_true.1 h9 i hiT
    rw [Bool.and_eq_true] at this
    have h2 := this.2
    simp only [Bool.not_eq_true', List.contains_eq_mem, decide_eq_false_iff_not] at h2
    exact absurd hi h2
end
end Go.Proofs.Ytalcccgialpjgaa
