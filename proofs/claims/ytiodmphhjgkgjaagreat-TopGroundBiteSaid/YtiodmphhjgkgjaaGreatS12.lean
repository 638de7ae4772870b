/- steps: lemmas for the rows of this seat. No conditions. -/
import Derived.Test.YtiodmphhjgkgjaaGreatS1
set_option linter.all false
namespace Go.Proofs.YtiodmphhjgkgjaaGreat
open Go.RowKit
section
variable {P : Program} {w0 : World} {n : Nat} {ds : List Deferred} {ops : List Oper} {K K' : TS → List Chunk → Prop}
/-- All that only read are left to wait. -/
theorem draw_rds {D : List Nat} {π : List Nat} (hs : Region.noSelect ops.toArray = true) (hdst : ∀ o ∈ ops, (∀ d, o.dst = some d → d < n) ∧ ∀ c, o.op ≠ .defer c) {C : World → Prop} {A : List Chunk} {listed : Array Bool} {a : Act} :
    ∀ (todo done : List Nat) (ks : List Kind) (pend : List (Nat × Value)) (ts : TS), (∀ j, j < todo.length → ks[j]? = some .rd) → DInv P w0 n ds ops D K π done todo ks pend C ts A listed a →
      ∃ pend' ts' ks', DInv P w0 n ds ops D K π (done ++ todo) [] ks' pend' C ts' A listed a ∧ pend'.length = pend.length + todo.length := by
  intro todo
  induction todo with
  | nil => intro done ks pend ts _ inv; exact ⟨pend, ts, ks, by simpa using inv, by simp⟩
  | cons i t ih =>
    intro done ks pend ts hks inv
    have hsel := Region.noSelect_spec hs
    have hcl := inv.closed
    have hkd : ks.headD .wr = .rd := by have := hks 0 (by simp); cases ks with
      | nil => simp at this
      | cons k ks => simpa using this
    have hdO : ∀ i, i < ops.length → ∀ d, (nthO ops i).dst = some d → d < n := fun i hi => (hdst _ (List.mem_of_getElem? (nthO_get hi))).1
    obtain ⟨hilt, hin, hpre, hap, hcr, hwr, hord⟩ := ord_parts inv.ord
    have hpairN : (done ++ [i]).Pairwise fun r i => (nthO ops r).apart ops.toArray (nthO ops i) = true ∨ depB D i r = true := by
      rw [List.pairwise_append]
      exact ⟨inv.pair, List.pairwise_singleton _ _, fun r hr j hj => by rw [List.mem_singleton] at hj; subst hj; exact hap r hr⟩
    have hltN : ∀ j ∈ done ++ [i], j < ops.length := fun j hj => by
      rcases List.mem_append.1 hj with h | h
      · exact inv.lt j h
      · rw [List.mem_singleton] at h; subst h; exact hilt
    have hndN : (done ++ [i]).Nodup := by
      rw [List.nodup_append]
      exact ⟨inv.nodup, by simp, fun x hx y hy => by rw [List.mem_singleton] at hy; subst hy; rintro rfl; exact hin hx⟩
    have hsplit : (done ++ [i]) ++ t = π := by rw [← inv.split]; simp
    have hot := inv.ot
    have hiP : i ∉ pend.map (·.1) := fun h => hin (inv.sub.subset h)
    simp only [pick, OT, hkd] at hot
    obtain ⟨v, hr, hot⟩ := hot
    have key : DInv P w0 n ds ops D K π (done ++ [i]) t ks.tail (pend ++ [(i, v)]) C (putT ts (nthO ops i).dst v) A listed a := {
      split := hsplit
      ord := hord
      pair := hpairN
      lt := hltN
      nodup := hndN
      sub := by rw [List.map_append]; exact inv.sub.append (List.Sublist.refl _)
      size := inv.size
      mem := fun j hj => by
        rw [inv.mem j hj, List.map_append, List.mem_append, List.mem_append]
        constructor
        · rintro ⟨h1, h2⟩
          refine ⟨.inl h1, ?_⟩
          rintro (h | h)
          · exact h2 h
          · simp at h; subst h; exact hin h1
        · rintro ⟨h1 | h1, h2⟩
          · exact ⟨h1, fun h => h2 (.inl h)⟩
          · exact absurd (.inr (by simpa using h1)) h2
      closed := hcl
      up := inv.up
      pc := PC.snoc pend a inv.pc fun x hx => hr _ x (inv.hd x hx)
      hd := fun x hx => by
        rw [puts_append]
        exact (inv.hd x hx).put (hdO i hilt) v
      ot := hot }
    obtain ⟨pend', ts', ks', h1, h2⟩ := ih (done ++ [i]) ks.tail (pend ++ [(i, v)]) (putT ts (nthO ops i).dst v) (fun j hj => by
      have := hks (j + 1) (by simpa using hj)
      cases ks with
      | nil => simp at this
      | cons k ks => simpa using this) key
    exact ⟨pend', ts', ks', by simpa using h1, by rw [h2]; simp; omega⟩

end
section
variable {P : Program} {w0 : World} {n : Nat} {r : Option Nat} {ds : List Deferred} {ts : TS} {A : List Chunk} {Q : PostT}
end
/-- Lay theorems by their runs: a list within a list, and more. -/
theorem slist_and {A B : List Chunk} {p : Prop} (h : A.Sublist B) (hp : p) : A.Sublist B ∧ p := ⟨h, hp⟩
section
variable {P : Program} {w0 : World} {n : Nat} {ds : List Deferred} {ops : List Oper} {K K' : TS → List Chunk → Prop}
/-- Lay theorems by their runs: an order of what makes and writes memory, while reads of what was there before still wait. -/
def ordL (ops : List Oper) (D : List Nat) : List Nat → List Nat → List Kind → Bool
  | _, [], _ => true
  | done, i :: t, ks =>
    Nat.blt i ops.length && !done.contains i &&
    ((nthO ops i).after.toList.all fun e => !Region.binds .any e || done.contains e.on) &&
    (done.all fun r => (nthO ops r).apart ops.toArray (nthO ops i) || depB D i r) &&
    (match ks.headD .wr with
      | .rd => false
      | _ => t.all (depB D · i)) &&
    ordL ops D (done ++ [i]) t ks.tail
theorem ordL_parts {D : List Nat} {done t : List Nat} {i : Nat} {ks : List Kind} (h : ordL ops D done (i :: t) ks = true) :
    i < ops.length ∧ i ∉ done ∧ (∀ e ∈ (nthO ops i).after, Region.binds .any e = true → e.on ∈ done) ∧ (∀ r ∈ done, (nthO ops r).apart ops.toArray (nthO ops i) = true ∨ depB D i r = true) ∧
    ks.headD .wr ≠ .rd ∧ (∀ j ∈ t, depB D j i = true) ∧ ordL ops D (done ++ [i]) t ks.tail = true := by
  simp only [ordL, Bool.and_eq_true] at h
  obtain ⟨⟨⟨⟨⟨h1, h2⟩, h3⟩, h4⟩, h5⟩, h6⟩ := h
  refine ⟨Nat.le_of_ble_eq_true h1, by simpa using h2, fun e he hb => ?_, fun r hr => by simpa using List.all_eq_true.1 h4 r hr, fun hk => ?_, fun j hj => ?_, h6⟩
  · have := List.all_eq_true.1 h3 e (by simpa using he)
    simpa [hb] using this
  · rw [hk] at h5; cases h5
  · cases hks : ks.headD .wr with
    | rd => rw [hks] at h5; cases h5
    | cr => rw [hks] at h5; exact List.all_eq_true.1 h5 j hj
    | wr => rw [hks] at h5; exact List.all_eq_true.1 h5 j hj
/-- One behind the other, each leaving what the reads need. -/
def OTL (P : Program) (w0 : World) (n : Nat) (ds : List Deferred) (ops : List Oper) (A0 : List Chunk) : List Oper → List Kind → TS → List Chunk → (TS → List Chunk → Prop) → Prop
  | [], _, ts, A, K => K ts A
  | o :: os, ks, ts, A, K => OT P w0 n ds ops [o] [ks.headD .wr] ts A fun ts' A' => A0.Sublist A' ∧ OTL P w0 n ds ops A0 os ks.tail ts' A' K
theorem otl_nil {A0 : List Chunk} {ks : List Kind} {ts : TS} {A : List Chunk} (h : K ts A) : OTL P w0 n ds ops A0 [] ks ts A K := h
theorem otl_cons {A0 : List Chunk} {o : Oper} {os : List Oper} {ks : List Kind} {ts : TS} {A : List Chunk} (h : OT P w0 n ds ops [o] [ks.headD .wr] ts A fun ts' A' => A0.Sublist A' ∧ OTL P w0 n ds ops A0 os ks.tail ts' A' K) : OTL P w0 n ds ops A0 (o :: os) ks ts A K := h
structure LInv (P : Program) (w0 : World) (n : Nat) (ds : List Deferred) (ops : List Oper) (D : List Nat) (A0 : List Chunk)
    (done todo : List Nat) (pend : List (Nat × Value)) (ts : TS) (A : List Chunk) (listed : Array Bool) (a : Act) (w : World) : Prop where
  pair : done.Pairwise fun r i => (nthO ops r).apart ops.toArray (nthO ops i) = true ∨ depB D i r = true
  lt : ∀ i ∈ done, i < ops.length
  nodup : done.Nodup
  sub : (pend.map (·.1)).Sublist done
  size : listed.size = ops.length
  mem : ∀ i, i < ops.length → (listed.getD i false = true ↔ i ∈ done ∧ i ∉ pend.map (·.1))
  all : ∀ i, i < ops.length → i ∈ done ∨ i ∈ todo
  closed : Closed ops listed
  pc : PC P ops (St w0 A0) a pend
  sub0 : A0.Sublist A
  hd : Hd w0 n ds ts A (puts ops a pend) w
/-- One of those that wait is taken. -/
theorem late_take {r : Option Nat} {mm : Nat} {D : List Nat} {Q : Exit → Act → World → Prop} (hc : certB ops D = true) (hs : Region.noSelect ops.toArray = true) (hdst : ∀ o ∈ ops, (∀ d, o.dst = some d → d < n) ∧ ∀ c, o.op ≠ .defer c)
    {A0 : List Chunk} {f : Nat} {done todo : List Nat} {ts : TS} {A : List Chunk} {listed : Array Bool} {a : Act} {w : World} {i : Nat} {p1 p2 : List (Nat × Value)} {v : Value}
    (inv : LInv P w0 n ds ops D A0 done todo (p1 ++ (i, v) :: p2) ts A listed a w) (hr : i ∈ Region.ready .any ops.toArray listed)
    (hk : ∀ listed' a' w', LInv P w0 n ds ops D A0 done todo (p1 ++ p2) ts A listed' a' w' → wpAnyIn (fw r) mm P .any ops.toArray Q f listed' a' w') :
    wpOpIn (fw r) mm P ops.toArray Q i (wpAnyIn (fw r) mm P .any ops.toArray Q f (listed.setIfInBounds i true)) a w := by
  have hsel := Region.noSelect_spec hs
  have hcl := inv.closed
  generalize hpend : p1 ++ (i, v) :: p2 = pend at inv
  have hpe := hpend.symm
  have hmem : ∀ p ∈ pend, p.1 ∈ done ∧ listed.getD p.1 false = false := fun p hp => by
    have h1 : p.1 ∈ done := inv.sub.subset (List.mem_map.2 ⟨p, hp, rfl⟩)
    refine ⟨h1, ?_⟩
    cases h2 : listed.getD p.1 false with
    | false => rfl
    | true => exact absurd (List.mem_map.2 ⟨p, hp, rfl⟩) ((inv.mem _ (inv.lt _ h1)).1 h2).2
  have hdO : ∀ i, i < ops.length → ∀ d, (nthO ops i).dst = some d → d < n := fun i hi => (hdst _ (List.mem_of_getElem? (nthO_get hi))).1
  have hdN : ∀ i, i < ops.length → ∀ c, (nthO ops i).op ≠ .defer c := fun i hi => (hdst _ (List.mem_of_getElem? (nthO_get hi))).2
  -- what may be taken now
  have ready_mem : ∀ j ∈ Region.ready .any ops.toArray listed, j < ops.length ∧ listed.getD j false = false ∧ ∀ e ∈ (nthO ops j).after, Region.binds .any e = true → listed.getD e.on false = true := by
    intro j hj
    obtain ⟨h1, o, ho, h2⟩ := mem_ready.1 hj
    have hlt : j < ops.length := by simpa using (Array.getElem?_eq_some_iff.1 ho).1
    have : o = nthO ops j := Option.some.inj ((by simpa using ho : ops[j]? = some o).symm.trans (nthO_get hlt))
    subst this
    exact ⟨hlt, by rw [← getD_both' (by rw [inv.size]; exact hlt)]; exact h1, h2⟩
  obtain ⟨hilt, hun, hpre⟩ := ready_mem i hr
  have hsub := inv.sub
  rw [hpe, List.map_append, List.map_cons] at hsub
  have hpair := inv.pair.sublist hsub
  rw [List.pairwise_append] at hpair
  have hap : apartL ops i p1 := pend_apart hc hcl inv.lt (fun p hp => hmem p (by rw [hpe]; exact List.mem_append_left _ hp)) hilt hpre fun p hp => hpair.2.2 p.1 (List.mem_map.2 ⟨p, hp, rfl⟩) i (.head _)
  have hpc := inv.pc
  rw [hpe] at hpc
  obtain ⟨t1, t2⟩ := PC.take hsel hilt p1 p2 a (fun p hp => inv.lt _ (hmem p (by rw [hpe]; exact List.mem_append_left _ hp)).1) hap hpc
  have hnd : ((p1 ++ (i, v) :: p2).map (·.1)).Nodup := by rw [← hpe]; exact inv.nodup.sublist inv.sub
  rw [List.map_append, List.map_cons, List.nodup_append] at hnd
  have hni : i ∉ (p1 ++ p2).map (·.1) := by
    rw [List.map_append, List.mem_append]
    rintro (h | h)
    · exact hnd.2.2 i h i (.head _) rfl
    · exact (List.nodup_cons.1 hnd.2.1).1 h
  refine wpV_op (hdN _ hilt) (nthO_get hilt) (t1 w (inv.hd.st.sub inv.sub0)) fun v' w' ⟨hv, hb⟩ => ?_
  subst hv
  refine hk _ _ w' ?_
  refine { inv with sub := ?_, size := by simp [inv.size], mem := fun j hj => ?_, closed := fun j hj hl e he hb => ?_, pc := t2, hd := ?_ }
  · exact List.Sublist.trans (by rw [List.map_append]; exact (List.sublist_cons_self _ _).append_left _) hsub
  · by_cases hji : j = i
    · subst hji
      simp only [hni, not_false_eq_true, and_true]
      have h1 : j ∈ done := hsub.subset (by simp)
      exact ⟨fun _ => h1, fun _ => by simp [inv.size, hilt]⟩
    · rw [getD_set_ne false (Ne.symm hji), inv.mem j hj, hpe]
      simp only [List.map_append, List.map_cons, List.mem_append, List.mem_cons, hji, false_or]
  · by_cases hji : j = i
    · subst hji; exact getD_set_true (hpre e he hb)
    · rw [getD_set_ne false (Ne.symm hji)] at hl
      exact getD_set_true (hcl j hj hl e he hb)
  · have := inv.hd.world (inv.hd.st.grow hb)
    rw [hpe, puts_append] at this
    rw [puts_append, puts_put p1 a hap]
    exact this

/-- One that makes or writes memory is taken. -/
theorem late_step {r : Option Nat} {mm : Nat} {D : List Nat} {Q : Exit → Act → World → Prop} (hc : certB ops D = true) (hs : Region.noSelect ops.toArray = true) (hdst : ∀ o ∈ ops, (∀ d, o.dst = some d → d < n) ∧ ∀ c, o.op ≠ .defer c)
    {A0 : List Chunk} {f : Nat} {kb : Bool} {done t todo : List Nat} {ts : TS} {A : List Chunk} {listed : Array Bool} {a : Act} {w : World} {i : Nat} {pend : List (Nat × Value)} {N : Value → List Chunk → Prop}
    (inv : LInv P w0 n ds ops D A0 done todo pend ts A listed a w) (hr : i ∈ Region.ready .any ops.toArray listed) (hin : i ∉ done) (hap : ∀ r ∈ done, (nthO ops r).apart ops.toArray (nthO ops i) = true ∨ depB D i r = true)
    (hall : ∀ x, x < ops.length → x ∈ done ∨ x = i ∨ x ∈ t) (hG : Gn P w0 n ds ops kb (nthO ops i) ts A N) (hN : ∀ v A', N v A' → A0.Sublist A')
    (hk : ∀ v A' listed' a' w', N v A' → LInv P w0 n ds ops D A0 (done ++ [i]) t pend (putT ts (nthO ops i).dst v) A' listed' a' w' → wpAnyIn (fw r) mm P .any ops.toArray Q f listed' a' w') :
    wpOpIn (fw r) mm P ops.toArray Q i (wpAnyIn (fw r) mm P .any ops.toArray Q f (listed.setIfInBounds i true)) a w := by
  have hsel := Region.noSelect_spec hs
  have hcl := inv.closed
  have hmem : ∀ p ∈ pend, p.1 ∈ done ∧ listed.getD p.1 false = false := fun p hp => by
    have h1 : p.1 ∈ done := inv.sub.subset (List.mem_map.2 ⟨p, hp, rfl⟩)
    refine ⟨h1, ?_⟩
    cases h2 : listed.getD p.1 false with
    | false => rfl
    | true => exact absurd (List.mem_map.2 ⟨p, hp, rfl⟩) ((inv.mem _ (inv.lt _ h1)).1 h2).2
  have hdO : ∀ i, i < ops.length → ∀ d, (nthO ops i).dst = some d → d < n := fun i hi => (hdst _ (List.mem_of_getElem? (nthO_get hi))).1
  have hdN : ∀ i, i < ops.length → ∀ c, (nthO ops i).op ≠ .defer c := fun i hi => (hdst _ (List.mem_of_getElem? (nthO_get hi))).2
  -- what may be taken now
  have ready_mem : ∀ j ∈ Region.ready .any ops.toArray listed, j < ops.length ∧ listed.getD j false = false ∧ ∀ e ∈ (nthO ops j).after, Region.binds .any e = true → listed.getD e.on false = true := by
    intro j hj
    obtain ⟨h1, o, ho, h2⟩ := mem_ready.1 hj
    have hlt : j < ops.length := by simpa using (Array.getElem?_eq_some_iff.1 ho).1
    have : o = nthO ops j := Option.some.inj ((by simpa using ho : ops[j]? = some o).symm.trans (nthO_get hlt))
    subst this
    exact ⟨hlt, by rw [← getD_both' (by rw [inv.size]; exact hlt)]; exact h1, h2⟩
  obtain ⟨h1, h2, h3⟩ := ready_mem i hr
  have hilt := h1
  have hiP : i ∉ pend.map (·.1) := fun h => hin (inv.sub.subset h)
  have hpairN : (done ++ [i]).Pairwise fun r i => (nthO ops r).apart ops.toArray (nthO ops i) = true ∨ depB D i r = true := by
    rw [List.pairwise_append]
    exact ⟨inv.pair, List.pairwise_singleton _ _, fun r hr j hj => by rw [List.mem_singleton] at hj; rw [hj]; exact hap r hr⟩
  have hltN : ∀ j ∈ done ++ [i], j < ops.length := fun j hj => by
    rcases List.mem_append.1 hj with h | h
    · exact inv.lt j h
    · rw [List.mem_singleton] at h; rw [h]; exact hilt
  have hndN : (done ++ [i]).Nodup := by
    rw [List.nodup_append]
    exact ⟨inv.nodup, by simp, fun x hx y hy => by rw [List.mem_singleton] at hy; subst hy; rintro rfl; exact hin hx⟩
  have hapL : apartL ops i pend := pend_apart hc hcl inv.lt hmem h1 h3 fun p hp => hap p.1 (hmem p hp).1
  have hG' := (wpV_puts hsel h1 pend a hapL).1 (hG _ w inv.hd)
  refine wpV_op (hdN _ h1) (nthO_get h1) hG' fun v w' ⟨A', hb, hst, hot'⟩ => ?_
  have hl : ∀ x, x < ops.length → ((listed.setIfInBounds i true).getD x false = true ↔ x ∈ done ++ [i] ∧ x ∉ pend.map (·.1)) := fun x hx => by
    by_cases hxj : x = i
    · subst hxj
      exact ⟨fun _ => ⟨by simp, hiP⟩, fun _ => by simp [inv.size, hx]⟩
    · rw [getD_set_ne false (Ne.symm hxj), inv.mem x hx]
      simp [hxj]
  have hclN : Closed ops (listed.setIfInBounds i true) := fun x hx hlx e he hbe => by
    by_cases hxj : x = i
    · subst hxj; exact getD_set_true (h3 e he hbe)
    · rw [getD_set_ne false (Ne.symm hxj)] at hlx
      exact getD_set_true (hcl x hx hlx e he hbe)
  refine hk v A' _ _ w' hot' {
    pair := hpairN
    lt := hltN
    nodup := hndN
    sub := inv.sub.trans (List.sublist_append_left _ _)
    size := by simp [inv.size]
    mem := hl
    all := fun x hx => by rcases hall x hx with h | h | h <;> simp [h]
    closed := hclN
    pc := PC.put hsel pend a (fun p hp => inv.lt _ (hmem p hp).1) hapL inv.pc
    sub0 := hN v A' hot'
    hd := by
      rw [puts_put pend a hapL]
      exact (inv.hd.world hst).put (hdO i h1) v }

theorem draw_late {A0 : List Chunk} {r : Option Nat} {mm : Nat} {D : List Nat} {Q : Exit → Act → World → Prop} (hc : certB ops D = true) (hed : edgeB ops = true) (hs : Region.noSelect ops.toArray = true) (hdst : ∀ o ∈ ops, (∀ d, o.dst = some d → d < n) ∧ ∀ c, o.op ≠ .defer c)
    (hQ : ∀ ts A a w, K ts A → Hd w0 n ds ts A a w → Q .normal a w) :
    ∀ (fuel : Nat) (done todo : List Nat) (ks : List Kind) (pend : List (Nat × Value)) (ts : TS) (A : List Chunk) (listed : Array Bool) (a : Act) (w : World), fuel = pend.length + todo.length → ordL ops D done todo ks = true →
      LInv P w0 n ds ops D A0 done todo pend ts A listed a w → OTL P w0 n ds ops A0 (pick ops todo) ks ts A K → wpAnyIn (fw r) mm P .any ops.toArray Q fuel listed a w := by
  intro fuel
  induction fuel with
  | zero =>
    intro done todo ks pend ts A listed a w hf ho inv hot
    obtain rfl : pend = [] := List.eq_nil_of_length_eq_zero (by omega)
    obtain rfl : todo = [] := List.eq_nil_of_length_eq_zero (by simp at hf; omega)
    refine ⟨?_, hQ _ _ _ _ hot inv.hd⟩
    refine List.eq_nil_iff_forall_not_mem.2 fun j hj => ?_
    obtain ⟨h1, o, hoo, _⟩ := mem_ready.1 hj
    have hlt : j < ops.length := by simpa using (Array.getElem?_eq_some_iff.1 hoo).1
    rw [getD_both' (by rw [inv.size]; exact hlt)] at h1
    have := (inv.mem j hlt).2 ⟨by have := inv.all j hlt; simpa using this, by simp⟩
    rw [h1] at this; cases this
  | succ f ih =>
    intro done todo ks pend ts A listed a w hf ho inv hot
    have hmem : ∀ p ∈ pend, p.1 ∈ done ∧ listed.getD p.1 false = false := fun p hp => by
      have h1 : p.1 ∈ done := inv.sub.subset (List.mem_map.2 ⟨p, hp, rfl⟩)
      refine ⟨h1, ?_⟩
      cases h2 : listed.getD p.1 false with
      | false => rfl
      | true => exact absurd (List.mem_map.2 ⟨p, hp, rfl⟩) ((inv.mem _ (inv.lt _ h1)).1 h2).2
    refine ⟨fun h0 => ?_, fun x hx => ?_⟩
    · exfalso
      cases hpe : pend with
      | nil =>
        cases todo with
        | nil => rw [hpe] at hf; simp at hf
        | cons i t =>
          obtain ⟨h1, h2, _⟩ := ordL_parts ho
          refine ready_ex hed inv.size i h1 ?_ h0
          cases h : listed.getD i false with
          | false => rfl
          | true => exact absurd ((inv.mem i h1).1 h).1 h2
      | cons p l =>
        have hp := hmem p (by rw [hpe]; exact .head _)
        exact ready_ex hed inv.size p.1 (inv.lt _ hp.1) hp.2 h0
    · obtain ⟨h1, o, hoo, h3⟩ := mem_ready.1 hx
      have hxl : x < ops.length := by simpa using (Array.getElem?_eq_some_iff.1 hoo).1
      have hxo : o = nthO ops x := Option.some.inj ((by simpa using hoo : ops[x]? = some o).symm.trans (nthO_get hxl))
      subst hxo
      rw [getD_both' (by rw [inv.size]; exact hxl)] at h1
      by_cases hxp : x ∈ pend.map (·.1)
      · obtain ⟨⟨x', v⟩, hp, rfl⟩ := List.mem_map.1 hxp
        obtain ⟨p1, p2, hpe⟩ := List.append_of_mem hp
        subst hpe
        exact late_take hc hs hdst inv hx fun listed' a' w' inv' => ih done todo ks (p1 ++ p2) ts A listed' a' w' (by simp at hf ⊢; omega) ho inv' hot
      · have hxt : x ∈ todo := by
          rcases inv.all x hxl with h | h
          · have := (inv.mem x hxl).2 ⟨h, hxp⟩
            rw [h1] at this; cases this
          · exact h
        cases todo with
        | nil => cases hxt
        | cons i t =>
          obtain ⟨hilt, hin, hpre, hap, hkd, hcr, hord⟩ := ordL_parts ho
          have hiun : listed.getD i false = false := by
            cases h : listed.getD i false with
            | false => rfl
            | true => exact absurd ((inv.mem i hilt).1 h).1 hin
          rcases List.mem_cons.1 hxt with hxi | hxt
          rotate_left
          · have := dep_listed hc inv.closed hilt x hxl h3 (hcr x hxt)
            rw [hiun] at this; cases this
          · subst hxi
            have hG : ∃ kb, Gn P w0 n ds ops kb (nthO ops x) ts A fun v A' => A0.Sublist A' ∧ OTL P w0 n ds ops A0 (pick ops t) ks.tail (putT ts (nthO ops x).dst v) A' K := by
              simp only [pick, OTL, OT, List.headD_cons] at hot
              cases hks : ks.headD .wr with
              | rd => exact absurd hks hkd
              | cr => rw [hks] at hot; exact ⟨true, hot⟩
              | wr => rw [hks] at hot; exact ⟨false, hot⟩
            obtain ⟨kb, hG⟩ := hG
            refine late_step hc hs hdst inv hx hin hap (fun y hy => by simpa using inv.all y hy) hG (fun v A' h => h.1) fun v A' listed' a' w' hN inv' => ?_
            exact ih (done ++ [x]) t ks.tail pend _ A' listed' a' w' (by simp at hf ⊢; omega) hord inv' hN.2

end
section
variable {P : Program} {w0 : World} {n : Nat} {r : Option Nat} {ds : List Deferred} {ts : TS} {A : List Chunk} {Q : PostT}
end
end Go.Proofs.YtiodmphhjgkgjaaGreat
