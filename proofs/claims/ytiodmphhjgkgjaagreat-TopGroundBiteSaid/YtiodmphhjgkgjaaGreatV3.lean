/- Rows of the calls own: made of a block; a full one appended to: lemmas for the rows of this seat. No conditions. -/
import Derived.Laws.Small
import Derived.Test.YtiodmphhjgkgjaaGreatV2
set_option linter.all false
namespace Go.Proofs.YtiodmphhjgkgjaaGreat
open Go.RowKit
/-! ## Rows of the call's own: made of a block; a full one appended to -/
section
variable {P : Program} {tab : TT} {w0 w : World} {n : Nat} {r : Option Nat} {ds : List Deferred} {ops : List Oper} {o : Oper} {os : List Oper} {ks : List Kind} {ts : TS} {A : List Chunk} {K : TS → List Chunk → Prop} {Q : PostT} {d : Tmp} {x y : Operand} {t : TypeId} {i i' : TI}
theorem St.blk_own {e g m sz : Nat} {cs : List Value} (h : St w0 (.blk g e cs :: A) w) (hl : cs.length = m * sz) (hm : m ≤ maxLen) : St w0 (.own (.slice (some ⟨g, 0, none⟩) m m) e sz m cs :: A) w where
  base := h.base
  all := fun d hd => by
    rcases List.mem_cons.1 hd with rfl | hd
    · have h1 := h.all _ (.head _)
      exact ⟨hl, .inr ⟨g, m, cs.toArray, rfl, h1.1, h1.2, Nat.le_refl _, hm, by simpa using hl, by simp [← hl]⟩⟩
    · exact h.all d (.tail _ hd)
  apart := by
    obtain ⟨h1, h2⟩ := List.pairwise_cons.1 h.apart
    exact .cons (fun d hd hm b hb => h1 d hd (.inl rfl) b hb) h2
theorem ot_append_fullO {e sz sl m c b off g0 : Nat} {xs news : List Value} (hT : TabOk P tab) (hh : ks.headD .wr ≠ .rd) (hop : o.op = .call { callee := .builtin .append, args := #[x, y], argTypes := #[t, t] }) (hd : o.dst = some d) (hw : wantB ops ts o = some true)
    (hx : evT ts x = some (.slice (some ⟨g0, 0, none⟩) sl sl)) (hy : evT ts y = some (.slice (some ⟨b, off, none⟩) m c)) (hi : lookI tab t = some i) (hl : i.d = .sl e) (hi' : lookI tab e = some i') (hsz : i'.size = sz) (hz : i'.zero.length = sz) (hm : 0 < m) (hsl : 0 < sl)
    (hr : ∀ w, St w0 A w → Reads w w.heap.size sz (some ⟨g0, 0, none⟩) sl xs) (hc : CellsAt w0 A b off news) (hnl : news.length = m * sz) (h63 : sl + m ≤ 1000000) (hby : i'.bytes ≤ 100000)
    (hk : ∀ g cap, w0.heap.size ≤ g → OT P w0 n ds ops os ks.tail ((d, .slice (some ⟨g, 0, none⟩) (sl + m) cap) :: ts) (.own (.slice (some ⟨g, 0, none⟩) (sl + m) cap) e sz (sl + m) (xs ++ news) :: A) K) : OT P w0 n ds ops (o :: os) ks ts A K := by
  refine ot_new (N := fun _ _ => True) (v := undef) hh hd hw fun a w hd' => ?_
  obtain ⟨j, z, hj, j1, j2, j3, j4⟩ := (hT e i' hi').info
  have hrd := hr w hd'.st
  have hnews : ∀ q u, news[q]? = some u → w.cell? ((⟨b, off, none⟩ : Addr).add q) = some u := fun q u hq => by rw [Addr.add_none]; exact hc w hd'.st q u hq
  have hmm : (sl + m) * i'.bytes ≤ 1000000 * 100000 := Nat.mul_le_mul h63 hby
  have holds : ∀ q u, xs[q]? = some u → w.cell? ((⟨g0, 0, none⟩ : Addr).add q) = some u := fun q u hq => by
    obtain ⟨b', o', he, _, hcs⟩ := hrd.2 (by omega)
    cases he
    rw [Addr.add_none]
    exact hcs q u hq
  have h2 := run_append_grow (P := P) w t o.type e j z ((hT t i hi).sl hl) hj j3 ⟨g0, 0, none⟩ sl sl xs (by rw [hrd.1, j1, hsz]) holds ⟨b, off, none⟩ m c news (by rw [hnl, j1, hsz]) hnews (by omega) (by omega) (growslice_fits (by omega) (by rw [j2]; omega))
  have hge := grownCap_ge w (sl + m) sl e
  have hcm : grownCap w (sl + m) sl e ≤ maxLen := grownCap_le_maxLen w (sl + m) sl e (by unfold maxLen; omega)
  have hzs : z.cells.size = sz := by rw [← hz, ← j4]; simp
  generalize grownCap w (sl + m) sl e = cap at *
  have hB : ∀ ob, Below w.heap.size w (w.drew.alloc ob) := fun ob => (Below.refl w.heap.size w).drew.alloc (Nat.le_refl _) ob
  refine ⟨_, _, _, ?_, hB (.cells (xs.toArray ++ news.toArray ++ Builtin.zeroCells z.cells (cap - (sl + m))) e), hd'.st.add (c := .own (.slice (some ⟨w.heap.size, 0, none⟩) (sl + m) cap) e sz (sl + m) (xs ++ news)) (hB (.cells (xs.toArray ++ news.toArray ++ Builtin.zeroCells z.cells (cap - (sl + m))) e)) ?_ (fun b hb => by cases hb; exact Nat.le_refl _), hk w.heap.size cap hd'.st.base.size⟩
  · rw [exec_builtin hop, BigFrame.builtin_append]
    simp only [List.map_toArray, List.map_cons, List.map_nil, hd'.ev hx, hd'.ev hy, Sem.run_bind, h2, Result.andThen_ok, Sem.run_pure]
  · refine ⟨by rw [List.length_append, hrd.1, hnl, Nat.add_mul], .inr ⟨w.heap.size, cap, _, rfl, hd'.st.base.size, heap_alloc_new w.drew _, hge, hcm, ?_, ?_⟩⟩
    · simp only [Array.size_append, List.size_toArray, size_zeroCells, hzs, hrd.1, hnl]
      rw [← Nat.add_mul, ← Nat.add_mul]
      congr 1; omega
    · have e1 : (xs.toArray ++ news.toArray ++ Builtin.zeroCells z.cells (cap - (sl + m))).toList = (xs ++ news) ++ (Builtin.zeroCells z.cells (cap - (sl + m))).toList := by simp
      rw [e1]
      exact List.take_left' (by rw [List.length_append, hrd.1, hnl, Nat.add_mul])
end
/-! ## Late writes to what the reads before them need -/
section
variable {P : Program} {w0 : World} {n : Nat} {ds : List Deferred} {ops : List Oper} {K K' : TS → List Chunk → Prop}
/-- One of those that wait is taken. -/
theorem late_take2 {r : Option Nat} {mm : Nat} {D : List Nat} {Q : Exit → Act → World → Prop} (hc : certB ops D = true) (hs : Region.noSelect ops.toArray = true) (hdst : ∀ o ∈ ops, (∀ d, o.dst = some d → d < n) ∧ ∀ c, o.op ≠ .defer c)
    {A0 : List Chunk} {f : Nat} {done todo : List Nat} {ts : TS} {A : List Chunk} {listed : Array Bool} {a : Act} {w : World} {i : Nat} {p1 p2 : List (Nat × Value)} {v : Value}
    (inv : LInv P w0 n ds ops D A0 done todo (p1 ++ (i, v) :: p2) ts A listed a w) (hr : i ∈ Region.ready .any ops.toArray listed)
    (hk : ∀ listed' w', apartL ops i p1 → LInv P w0 n ds ops D A0 done todo (p1 ++ p2) ts A listed' (a.put (nthO ops i).dst v) w' → wpAnyIn (fw r) mm P .any ops.toArray Q f listed' (a.put (nthO ops i).dst v) w') :
    wpOpIn (fw r) mm P ops.toArray Q i (wpAnyIn (fw r) mm P .any ops.toArray Q f (listed.setIfInBounds i true)) a w := by
  have hsel := Region.noSelect_spec hs
  have hcl := inv.closed
  generalize hpend : p1 ++ (i, v) :: p2 = pend at inv
  have hpe := hpend.symm
  have hmem : ∀ p ∈ pend, p.1 ∈ done ∧ listed.getD p.1 false = false := fun p hp => by
    have h1 : p.1 ∈ done := inv.sub.subset (List.mem_map.2 ⟨p, hp, rfl⟩)
    refine ⟨h1, ?_⟩
    cases h2 : listed.getD p.1 false with
    | false => rfl
    | true => exact absurd (List.mem_map.2 ⟨p, hp, rfl⟩) ((inv.mem _ (inv.lt _ h1)).1 h2).2
  have hdO : ∀ i, i < ops.length → ∀ d, (nthO ops i).dst = some d → d < n := fun i hi => (hdst _ (List.mem_of_getElem? (nthO_get hi))).1
  have hdN : ∀ i, i < ops.length → ∀ c, (nthO ops i).op ≠ .defer c := fun i hi => (hdst _ (List.mem_of_getElem? (nthO_get hi))).2
  -- what may be taken now
  have ready_mem : ∀ j ∈ Region.ready .any ops.toArray listed, j < ops.length ∧ listed.getD j false = false ∧ ∀ e ∈ (nthO ops j).after, Region.binds .any e = true → listed.getD e.on false = true := by
    intro j hj
    obtain ⟨h1, o, ho, h2⟩ := mem_ready.1 hj
    have hlt : j < ops.length := by simpa using (Array.getElem?_eq_some_iff.1 ho).1
    have : o = nthO ops j := Option.some.inj ((by simpa using ho : ops[j]? = some o).symm.trans (nthO_get hlt))
    subst this
    exact ⟨hlt, by rw [← getD_both' (by rw [inv.size]; exact hlt)]; exact h1, h2⟩
  obtain ⟨hilt, hun, hpre⟩ := ready_mem i hr
  have hsub := inv.sub
  rw [hpe, List.map_append, List.map_cons] at hsub
  have hpair := inv.pair.sublist hsub
  rw [List.pairwise_append] at hpair
  have hap : apartL ops i p1 := pend_apart hc hcl inv.lt (fun p hp => hmem p (by rw [hpe]; exact List.mem_append_left _ hp)) hilt hpre fun p hp => hpair.2.2 p.1 (List.mem_map.2 ⟨p, hp, rfl⟩) i (.head _)
  have hpc := inv.pc
  rw [hpe] at hpc
  obtain ⟨t1, t2⟩ := PC.take hsel hilt p1 p2 a (fun p hp => inv.lt _ (hmem p (by rw [hpe]; exact List.mem_append_left _ hp)).1) hap hpc
  have hnd : ((p1 ++ (i, v) :: p2).map (·.1)).Nodup := by rw [← hpe]; exact inv.nodup.sublist inv.sub
  rw [List.map_append, List.map_cons, List.nodup_append] at hnd
  have hni : i ∉ (p1 ++ p2).map (·.1) := by
    rw [List.map_append, List.mem_append]
    rintro (h | h)
    · exact hnd.2.2 i h i (.head _) rfl
    · exact (List.nodup_cons.1 hnd.2.1).1 h
  refine wpV_op (hdN _ hilt) (nthO_get hilt) (t1 w (inv.hd.st.sub inv.sub0)) fun v' w' ⟨hv, hb⟩ => ?_
  subst hv
  refine hk _ w' hap ?_
  refine { inv with sub := ?_, size := by simp [inv.size], mem := fun j hj => ?_, closed := fun j hj hl e he hb => ?_, pc := t2, hd := ?_ }
  · exact List.Sublist.trans (by rw [List.map_append]; exact (List.sublist_cons_self _ _).append_left _) hsub
  · by_cases hji : j = i
    · subst hji
      simp only [hni, not_false_eq_true, and_true]
      have h1 : j ∈ done := hsub.subset (by simp)
      exact ⟨fun _ => h1, fun _ => by simp [inv.size, hilt]⟩
    · rw [getD_set_ne false (Ne.symm hji), inv.mem j hj, hpe]
      simp only [List.map_append, List.map_cons, List.mem_append, List.mem_cons, hji, false_or]
  · by_cases hji : j = i
    · subst hji; exact getD_set_true (hpre e he hb)
    · rw [getD_set_ne false (Ne.symm hji)] at hl
      exact getD_set_true (hcl j hj hl e he hb)
  · have := inv.hd.world (inv.hd.st.grow hb)
    rw [hpe, puts_append] at this
    rw [puts_append, puts_put p1 a hap]
    exact this

theorem draw_rds2 {D : List Nat} {π : List Nat} (hs : Region.noSelect ops.toArray = true) (hdst : ∀ o ∈ ops, (∀ d, o.dst = some d → d < n) ∧ ∀ c, o.op ≠ .defer c) {C : World → Prop} {A : List Chunk} {listed : Array Bool} {a : Act} :
    ∀ (todo done : List Nat) (ks : List Kind) (pend : List (Nat × Value)) (ts : TS), (∀ j, j < todo.length → ks[j]? = some .rd) → DInv P w0 n ds ops D K π done todo ks pend C ts A listed a →
      ∃ pend' ts' ks', DInv P w0 n ds ops D K π (done ++ todo) [] ks' pend' C ts' A listed a ∧ pend'.length = pend.length + todo.length ∧ ∃ q1, pend' = pend ++ q1 ∧ ∀ p ∈ q1, p.1 ∈ todo := by
  intro todo
  induction todo with
  | nil => intro done ks pend ts _ inv; exact ⟨pend, ts, ks, by simpa using inv, by simp, [], by simp, by simp⟩
  | cons i t ih =>
    intro done ks pend ts hks inv
    have hsel := Region.noSelect_spec hs
    have hcl := inv.closed
    have hkd : ks.headD .wr = .rd := by have := hks 0 (by simp); cases ks with
      | nil => simp at this
      | cons k ks => simpa using this
    have hdO : ∀ i, i < ops.length → ∀ d, (nthO ops i).dst = some d → d < n := fun i hi => (hdst _ (List.mem_of_getElem? (nthO_get hi))).1
    obtain ⟨hilt, hin, hpre, hap, hcr, hwr, hord⟩ := ord_parts inv.ord
    have hpairN : (done ++ [i]).Pairwise fun r i => (nthO ops r).apart ops.toArray (nthO ops i) = true ∨ depB D i r = true := by
      rw [List.pairwise_append]
      exact ⟨inv.pair, List.pairwise_singleton _ _, fun r hr j hj => by rw [List.mem_singleton] at hj; subst hj; exact hap r hr⟩
    have hltN : ∀ j ∈ done ++ [i], j < ops.length := fun j hj => by
      rcases List.mem_append.1 hj with h | h
      · exact inv.lt j h
      · rw [List.mem_singleton] at h; subst h; exact hilt
    have hndN : (done ++ [i]).Nodup := by
      rw [List.nodup_append]
      exact ⟨inv.nodup, by simp, fun x hx y hy => by rw [List.mem_singleton] at hy; subst hy; rintro rfl; exact hin hx⟩
    have hsplit : (done ++ [i]) ++ t = π := by rw [← inv.split]; simp
    have hot := inv.ot
    have hiP : i ∉ pend.map (·.1) := fun h => hin (inv.sub.subset h)
    simp only [pick, OT, hkd] at hot
    obtain ⟨v, hr, hot⟩ := hot
    have key : DInv P w0 n ds ops D K π (done ++ [i]) t ks.tail (pend ++ [(i, v)]) C (putT ts (nthO ops i).dst v) A listed a := {
      split := hsplit
      ord := hord
      pair := hpairN
      lt := hltN
      nodup := hndN
      sub := by rw [List.map_append]; exact inv.sub.append (List.Sublist.refl _)
      size := inv.size
      mem := fun j hj => by
        rw [inv.mem j hj, List.map_append, List.mem_append, List.mem_append]
        constructor
        · rintro ⟨h1, h2⟩
          refine ⟨.inl h1, ?_⟩
          rintro (h | h)
          · exact h2 h
          · simp at h; subst h; exact hin h1
        · rintro ⟨h1 | h1, h2⟩
          · exact ⟨h1, fun h => h2 (.inl h)⟩
          · exact absurd (.inr (by simpa using h1)) h2
      closed := hcl
      up := inv.up
      pc := PC.snoc pend a inv.pc fun x hx => hr _ x (inv.hd x hx)
      hd := fun x hx => by
        rw [puts_append]
        exact (inv.hd x hx).put (hdO i hilt) v
      ot := hot }
    obtain ⟨pend', ts', ks', h1, h2, q1, hq, hq1⟩ := ih (done ++ [i]) ks.tail (pend ++ [(i, v)]) (putT ts (nthO ops i).dst v) (fun j hj => by
      have := hks (j + 1) (by simpa using hj)
      cases ks with
      | nil => simp at this
      | cons k ks => simpa using this) key
    exact ⟨pend', ts', ks', by simpa using h1, by rw [h2]; simp; omega, (i, v) :: q1, by rw [hq]; simp, fun p hp => by
      rcases List.mem_cons.1 hp with rfl | hp
      · exact .head _
      · exact .tail _ (hq1 p hp)⟩
theorem draw_late2 {A0 : List Chunk} {r : Option Nat} {mm : Nat} {D : List Nat} {Q : Exit → Act → World → Prop} (hc : certB ops D = true) (hed : edgeB ops = true) (hs : Region.noSelect ops.toArray = true) (hdst : ∀ o ∈ ops, (∀ d, o.dst = some d → d < n) ∧ ∀ c, o.op ≠ .defer c)
    (hQ : ∀ ts A a w, K ts A → Hd w0 n ds ts A a w → Q .normal a w) {done t : List Nat} {i : Nat} {ks : List Kind} {ts : TS} {A : List Chunk} (ho : ordL ops D done (i :: t) ks = true) (hA0 : A0.Sublist A) (hot : OTL P w0 n ds ops A0 (pick ops (i :: t)) ks ts A K) :
    ∀ (fuel : Nat) (q2 q1 : List (Nat × Value)) (listed : Array Bool) (a : Act) (w : World), fuel = (q2 ++ q1).length + (i :: t).length → (∀ p ∈ q1, depB D i p.1 = true) → PC P ops (St w0 A0) a q2 →
      LInv P w0 n ds ops D A done (i :: t) (q2 ++ q1) ts A listed a w → wpAnyIn (fw r) mm P .any ops.toArray Q fuel listed a w := by
  intro fuel
  induction fuel with
  | zero => intro q2 q1 listed a w hf; simp at hf
  | succ f ih =>
    intro q2 q1 listed a w hf hq1 hpc inv
    have hsel := Region.noSelect_spec hs
    have hmem : ∀ p ∈ q2 ++ q1, p.1 ∈ done ∧ listed.getD p.1 false = false := fun p hp => by
      have h1 : p.1 ∈ done := inv.sub.subset (List.mem_map.2 ⟨p, hp, rfl⟩)
      refine ⟨h1, ?_⟩
      cases h2 : listed.getD p.1 false with
      | false => rfl
      | true => exact absurd (List.mem_map.2 ⟨p, hp, rfl⟩) ((inv.mem _ (inv.lt _ h1)).1 h2).2
    obtain ⟨hilt, hin, hpre, hap, hkd, hcr, hord⟩ := ordL_parts ho
    have hiun : listed.getD i false = false := by
      cases h : listed.getD i false with
      | false => rfl
      | true => exact absurd ((inv.mem i hilt).1 h).1 hin
    refine ⟨fun h0 => (ready_ex hed inv.size i hilt hiun h0).elim, fun x hx => ?_⟩
    obtain ⟨h1, o, hoo, h3⟩ := mem_ready.1 hx
    have hxl : x < ops.length := by simpa using (Array.getElem?_eq_some_iff.1 hoo).1
    have hxo : o = nthO ops x := Option.some.inj ((by simpa using hoo : ops[x]? = some o).symm.trans (nthO_get hxl))
    subst hxo
    rw [getD_both' (by rw [inv.size]; exact hxl)] at h1
    by_cases hxp : x ∈ (q2 ++ q1).map (·.1)
    · obtain ⟨⟨x', v⟩, hp, rfl⟩ := List.mem_map.1 hxp
      rcases List.mem_append.1 hp with hp | hp
      · obtain ⟨p1, p2, hpe⟩ := List.append_of_mem hp
        subst hpe
        rw [List.append_assoc, List.cons_append] at inv
        refine late_take2 hc hs hdst inv hx fun listed' w' hapL inv' => ?_
        rw [← List.append_assoc] at inv'
        exact ih (p1 ++ p2) q1 listed' _ w' (by simp at hf ⊢; omega) hq1 (PC.take hsel hxl p1 p2 a (fun p hp => inv.lt _ (hmem p (by simp [hp])).1) hapL hpc).2 inv'
      · obtain ⟨p1, p2, hpe⟩ := List.append_of_mem hp
        subst hpe
        rw [← List.append_assoc] at inv
        refine late_take2 hc hs hdst inv hx fun listed' w' hapL inv' => ?_
        rw [List.append_assoc] at inv'
        exact ih q2 (p1 ++ p2) listed' _ w' (by simp at hf ⊢; omega) (fun p hp => hq1 p (by rcases List.mem_append.1 hp with h | h; exact List.mem_append_left _ h; exact List.mem_append_right _ (.tail _ h))) (PC.put hsel q2 a (fun p hp => inv.lt _ (hmem p (List.mem_append_left _ hp)).1) (fun p hp => hapL p (List.mem_append_left _ hp)) hpc) inv'
    · have hxi : x = i := by
        have hxt : x ∈ i :: t := by
          rcases inv.all x hxl with h | h
          · have := (inv.mem x hxl).2 ⟨h, hxp⟩
            rw [h1] at this; cases this
          · exact h
        rcases List.mem_cons.1 hxt with hxi | hxt
        · exact hxi
        · have := dep_listed hc inv.closed hilt x hxl h3 (hcr x hxt)
          rw [hiun] at this; cases this
      subst hxi
      have hq : q1 = [] := by
        refine List.eq_nil_iff_forall_not_mem.2 fun p hp => ?_
        have h4 := hmem p (List.mem_append_right _ hp)
        have := dep_listed hc inv.closed (inv.lt _ h4.1) x hxl h3 (hq1 p hp)
        rw [h4.2] at this; cases this
      subst hq
      rw [List.append_nil] at inv hf
      exact (draw_late hc hed hs hdst hQ (f + 1) done (x :: t) ks q2 ts A listed a w hf ho { inv with pc := hpc, sub0 := hA0 } hot).2 x hx
end
section
variable {P : Program} {w0 : World} {n : Nat} {r : Option Nat} {ds : List Deferred} {ts : TS} {A : List Chunk} {Q : PostT}
def lateB2 (ops : List Oper) (R2 R1 : List Nat) (i : Nat) (T : List Nat) (ks2 ks1 ks' : List Kind) : Bool :=
  let D := (Region.before ops.toArray).toList
  certB ops D && edgeB ops && Region.noSelect ops.toArray && (List.range ops.length).all (R2 ++ R1 ++ i :: T).contains && Nat.beq (R2.length + R1.length + 1 + T.length) ops.length &&
  (ks2 ++ ks1).all (fun k => match k with | .rd => true | _ => false) && Nat.beq ks2.length R2.length && Nat.beq ks1.length R1.length && ordB ops D [] R2 ks2 && ordB ops D R2 R1 ks1 && ordL ops D (R2 ++ R1) (i :: T) ks' && R1.all (depB D i ·)
theorem rds_kinds {ks : List Kind} {m : Nat} (h6 : ks.all (fun k => match k with | .rd => true | _ => false) = true) (h7 : ks.length = m) : ∀ j, j < m → ks[j]? = some .rd := fun j hj => by
  have hj' : j < ks.length := by omega
  have := List.all_eq_true.1 h6 ks[j] (List.getElem_mem hj')
  rw [List.getElem?_eq_getElem hj']
  cases hk : ks[j] with
  | rd => rfl
  | cr => rw [hk] at this; cases this
  | wr => rw [hk] at this; cases this
/-- Reads that may come late, reads that the first write waits for, and writes. -/
theorem tr_region_late2 {id : Nat} {l : List Oper} (hm : P.follows .mixedOrders = true) (A0 : List Chunk) (hA0 : A0.Sublist A) (R2 R1 : List Nat) (i : Nat) (T : List Nat) (ks2 ks1 ks' : List Kind) (hd : dstOk n l = true) (hb : lateB2 l R2 R1 i T ks2 ks1 ks' = true)
    (h : OT P w0 n ds l (pick l R2) ks2 ts A0 fun ts _ => VK (OT P w0 n ds l (pick l R1) ks1 ts A fun ts _ => VK (OTL P w0 n ds l A0 (pick l (i :: T)) ks' ts A fun ts A => Q .normal ds ts A))) :
    Tr P r w0 n (.region id l.toArray true) ds ts A Q := fun m a w hh => by
  simp only [lateB2, Bool.and_eq_true, List.all_append] at hb
  obtain ⟨⟨⟨⟨⟨⟨⟨⟨⟨⟨⟨h1, h2⟩, h3⟩, h4⟩, h5⟩, h6, h6'⟩, h7⟩, h7'⟩, h8⟩, h8'⟩, h9⟩, h10⟩ := hb
  have hall : ∀ x, x < l.length → x ∈ R2 ++ R1 ∨ x ∈ i :: T := fun x hx => by
    have := List.all_eq_true.1 h4 x (List.mem_range.2 hx)
    simp only [List.contains_eq_mem, List.append_assoc, List.mem_append, decide_eq_true_eq] at this ⊢
    rcases this with h | h | h
    · exact .inl (.inl h)
    · exact .inl (.inr h)
    · exact .inr h
  have h5 := Nat.eq_of_beq_eq_true h5
  have h7 := Nat.eq_of_beq_eq_true h7
  have h7' := Nat.eq_of_beq_eq_true h7'
  refine wpIn_region_any hm ?_
  have inv : DInv P w0 n ds l (Region.before l.toArray).toList (fun ts _ => VK (OT P w0 n ds l (pick l R1) ks1 ts A fun ts _ => VK (OTL P w0 n ds l A0 (pick l (i :: T)) ks' ts A fun ts A => Q .normal ds ts A))) R2 [] R2 ks2 [] (St w0 A0) ts A0 (Array.replicate l.toArray.size false) a := {
    split := rfl
    ord := h8
    pair := .nil
    lt := fun i hi => by cases hi
    nodup := .nil
    sub := .slnil
    size := by simp
    mem := fun j hj => by simp [hj]
    closed := fun j hj h => by simp [hj] at h
    up := fun x y hx hxy => hx.grow hxy
    pc := trivial
    hd := fun x hx => hh.world hx
    ot := h }
  obtain ⟨q2, ts2, ksX, inv2, hl2⟩ := draw_rds h3 (fun o ho => dstOk_spec hd ho) R2 [] ks2 [] ts (rds_kinds h6 h7) inv
  simp only [List.nil_append] at inv2
  have g2 : OT P w0 n ds l (pick l R1) ks1 ts2 A fun ts _ => VK (OTL P w0 n ds l A0 (pick l (i :: T)) ks' ts A fun ts A => Q .normal ds ts A) := by
    have := inv2.ot
    cases this; assumption
  have invB : DInv P w0 n ds l (Region.before l.toArray).toList (fun ts _ => VK (OTL P w0 n ds l A0 (pick l (i :: T)) ks' ts A fun ts A => Q .normal ds ts A)) (R2 ++ R1) R2 R1 ks1 q2 (St w0 A) ts2 A (Array.replicate l.toArray.size false) a := {
    split := rfl
    ord := h8'
    pair := inv2.pair
    lt := inv2.lt
    nodup := inv2.nodup
    sub := inv2.sub
    size := inv2.size
    mem := inv2.mem
    closed := inv2.closed
    up := fun x y hx hxy => hx.grow hxy
    pc := PC.mono (fun w hs => hs.sub hA0) _ _ inv2.pc
    hd := fun x hx => (inv2.hd _ (hx.sub hA0)).world hx
    ot := g2 }
  obtain ⟨q, ts3, ksY, inv3, hl3, q1, hq, hq1⟩ := draw_rds2 h3 (fun o ho => dstOk_spec hd ho) R1 R2 ks1 q2 ts2 (rds_kinds h6' h7') invB
  subst hq
  have g3 : OTL P w0 n ds l A0 (pick l (i :: T)) ks' ts3 A fun ts A => Q .normal ds ts A := by
    have := inv3.ot
    cases this; assumption
  have hw := hh.st.drew
  have hfe : l.toArray.size = (q2 ++ q1).length + (i :: T).length := by
    simp at hl2 hl3 ⊢
    omega
  exact draw_late2 (P := P) (w0 := w0) (n := n) (ds := ds) (r := r) (mm := m) (Q := QX w0 n Q) (K := fun ts A => Q .normal ds ts A) h1 h2 h3 (fun o ho => dstOk_spec hd ho) (fun ts A a w hq hh => ⟨ds, ts, A, hq, hh⟩) (done := R2 ++ R1) (t := T) (i := i) (ks := ks') (ts := ts3) (A := A) h9 hA0 g3 _ q2 q1 _ a _ hfe
    (fun p hp => List.all_eq_true.1 h10 p.1 (hq1 p hp)) inv2.pc
    { pair := inv3.pair
      lt := inv3.lt
      nodup := inv3.nodup
      sub := inv3.sub
      size := inv3.size
      mem := inv3.mem
      all := fun x hx => hall x hx
      closed := inv3.closed
      pc := inv3.pc
      sub0 := List.Sublist.refl _
      hd := (inv3.hd _ hw).world hw }
end
/-! ## Many ranges over functions, one behind the other -/
/-! ## Late writes, up to where all reads are waited for -/
section
variable {P : Program} {w0 : World} {n : Nat} {ds : List Deferred} {ops : List Oper} {K K' : TS → List Chunk → Prop}
end
section
variable {P : Program} {w0 : World} {n : Nat} {r : Option Nat} {ds : List Deferred} {ts : TS} {A : List Chunk} {Q : PostT}
end
/-! ## Booleans compared; what append makes is a slice -/
section
variable {P : Program} {tab : TT} {w0 : World} {n : Nat} {ds : List Deferred} {ops : List Oper} {o : Oper} {os : List Oper} {ks : List Kind} {ts : TS} {A : List Chunk} {K : TS → List Chunk → Prop} {d : Tmp} {x y : Operand} {t u : TypeId} {i i' : TI} {b off : Nat}
theorem ot_appendS {e sz m c : Nat} {v : Value} {xs news : List Value} {sl : Nat} {A'v : Value → List Chunk} (hT : TabOk P tab) (hh : ks.headD .wr = .wr) (hop : o.op = .call { callee := .builtin .append, args := #[x, y], argTypes := #[t, t] }) (hd : o.dst = some d) (hw : wantB ops ts o = some true)
    (hx : evT ts x = some v) (hy : evT ts y = some (.slice (some ⟨b, off, none⟩) m c)) (hi : lookI tab t = some i) (hl : i.d = .sl e) (hi' : lookI tab e = some i') (hsz : i'.size = sz) (h0 : 0 < sz) (hz : i'.zero.length = sz)
    (hc : CellsAt w0 A b off news) (hnl : news.length = m * sz) (h1B : news.all Value.oneCell' = true) (hu : ∀ v', Upd (.own v e sz sl xs) (.own v' e sz (sl + m) (xs ++ news)) A (A'v v')) (h63 : sl + m ≤ 1000000) (hby : i'.bytes ≤ 100000)
    (hk : ∀ B cp, OT P w0 n ds ops os ks.tail ((d, .slice B (sl + m) cp) :: ts) (A'v (.slice B (sl + m) cp)) K) : OT P w0 n ds ops (o :: os) ks ts A K := by
  have h1 : ∀ u ∈ news, u.oneCell' = true := by simpa using h1B
  refine ot_wr hh fun a w hd' => ?_
  unfold wpV
  rw [if_pos (wantB_spec hd' hw), exec_builtin hop, BigFrame.builtin_append]
  obtain ⟨j, z, hj, j1, j2, j3, j4⟩ := (hT e i' hi').info
  have hown := hd'.st.all _ (hu v).mem
  have hmm : (sl + m) * i'.bytes ≤ 1000000 * 100000 := Nat.mul_le_mul h63 hby
  obtain ⟨v', w', hr, h2, h3, h4⟩ := run_append_own (P := P) w w0.heap.size t o.type e j z sz i'.bytes ((hT t i hi).sl hl) hj j3 (by rw [j1, hsz]) j2 (by rw [← hz, ← j4]; simp) h0 v sl xs hown ⟨b, off, none⟩ m c news hnl
    (fun q u hq => by rw [Addr.add_none]; exact hc w hd'.st q u hq) h1 (by unfold maxLen; omega) (by omega) hd'.st.base.size
  simp only [List.map_toArray, List.map_cons, List.map_nil, hd'.ev hx, hd'.ev hy, Sem.run_bind, hr, Result.andThen_ok, Sem.run_pure]
  obtain ⟨B, cp, e1, _⟩ := own_form h2
  refine ⟨A'v v', (fun e => by cases e), hd'.st.upd (hu v') rfl h3 h2 (append_block (P := P) ((hT t i hi).sl hl) hj j3 (by rw [j1, hsz]) hown hnl (fun q u hq => by rw [Addr.add_none]; exact hc w hd'.st q u hq) h1 (by unfold maxLen; omega) (by rw [j2]; omega) hr), ?_⟩
  rw [hd]
  subst e1
  exact hk B cp
end
/-! ## What makes memory, in any order; then writes, one behind the other -/
section
variable {P : Program} {w0 : World} {n : Nat} {ds : List Deferred} {ops : List Oper} {K : TS → List Chunk → Prop}
/-- What is in one list of slots is in another. -/
def subS (l ts : TS) : Prop := ∀ t v, look l t = some v → look ts t = some v
theorem Gn.weak {k : Bool} {o : Oper} {ts l : TS} {A B : List Chunk} {N : Value → List Chunk → Prop} (hl : subS l ts) (hB : ∀ w, St w0 A w → St w0 B w) (h : Gn P w0 n ds ops k o l B N) : Gn P w0 n ds ops k o ts A N :=
  fun a w hd => h a w ⟨hd.size, fun t v hv => hd.slots t v (hl t v hv), hd.ds, hB w hd.st⟩
end
section
variable {P : Program} {w0 : World} {n : Nat} {r : Option Nat} {ds : List Deferred} {ts : TS} {A : List Chunk} {Q : PostT}
end
/-! ## Cells stored into a row of one's own -/
section
variable {P : Program} {tab : TT} {w0 : World} {n : Nat} {ds : List Deferred} {ops : List Oper} {o : Oper} {os : List Oper} {ks : List Kind} {ts : TS} {A A' : List Chunk} {K : TS → List Chunk → Prop} {x y : Operand} {t : TypeId} {i : TI} {g off : Nat}
theorem take_mid (cl vs : List Value) (q : Nat) (h : off + vs.length ≤ q) (hq : q ≤ cl.length) : (cl.take off ++ vs ++ cl.drop (off + vs.length)).take q = (cl.take q).take off ++ vs ++ (cl.take q).drop (off + vs.length) := by
  refine List.ext_getElem? fun k => ?_
  simp only [List.getElem?_take, List.getElem?_append, List.length_append, List.length_take, List.getElem?_drop]
  have e1 : min off cl.length = off := by omega
  have e2 : min off (min q cl.length) = off := by omega
  rw [e1, e2]
  by_cases h1 : k < off
  · simp [h1, show k < q by omega, show k < off + vs.length by omega]
  · by_cases h2 : k < off + vs.length
    · simp [h1, h2, show k < q by omega]
    · have e3 : off + vs.length + (k - (off + vs.length)) = k := by omega
      by_cases h3 : k < q
      · simp [h2, h3, e3]
      · simp [h2, h3, e3]
theorem ot_storeN_own {v : Value} {xs vs : List Value} {bt sz m cap : Nat} (hT : TabOk P tab) (hh : ks.headD .wr = .wr) (hop : o.op = .store t x y) (hd : o.dst = none) (hw : wantB ops ts o = some true) (hx : evT ts x = some (.pointer (some ⟨g, off, none⟩))) (hy : evT ts y = some v)
    (hi : lookI tab t = some i) (hc : v.cells.toList = vs) (hl : vs.length = i.size) (h1 : vs.all Value.oneCell' = true) (hu : Upd (.own (.slice (some ⟨g, 0, none⟩) m cap) bt sz m xs) (.own (.slice (some ⟨g, 0, none⟩) m cap) bt sz m (setMany xs off vs)) A A') (hlen : off + vs.length ≤ m * sz) (h0 : 0 < vs.length)
    (hk : OT P w0 n ds ops os ks.tail ts A' K) : OT P w0 n ds ops (o :: os) ks ts A K := by
  refine ot_wrote hh hd hw (fun a w hh => ?_) hk
  have h1 : ∀ u ∈ vs, u.oneCell' = true := by simpa using h1
  have hb := hh.st.all _ hu.mem
  obtain ⟨hxl, h | ⟨g', cap', cur, he, h2, h3, h4, h5, h6, h7⟩⟩ := hb
  · cases h.1
  · cases he
    have hmc : m * sz ≤ cur.size := by rw [h6]; exact Nat.mul_le_mul_right _ h4
    have hst := run_storeCells_at P g off bt vs 0 cur w h3 (by omega) h1
    simp only [Nat.add_zero] at hst
    refine ⟨w.setRow g (cur.toList.take off ++ vs ++ cur.toList.drop (off + vs.length)).toArray, ?_, hh.st.upd hu rfl grown_setRow ?_ fun b hb => .inl hb⟩
    rotate_left
    · have e1 : (cur.toList.take off ++ vs ++ cur.toList.drop (off + vs.length)).take (m * sz) = setMany xs off vs := by
        rw [take_mid _ _ _ hlen (by simpa using hmc), setMany_eq _ _ _ (by omega), h7]
      refine ⟨?_, .inr ⟨g, cap, _, rfl, h2, setRow_heap w g cur _ bt _ h3, h4, h5, ?_, ?_⟩⟩
      · rw [setMany_eq _ _ _ (by omega)]; simp; omega
      · simp; omega
      · exact e1
    · have hcs : v.cells.size = i.size := by rw [← hl, ← hc]; simp
      simp [execOp, hop, hh.ev hx, hh.ev hy, Instr.storeAt, Instr.sureAddr, storeVar, (hT t i hi).sz, hcs, hc, hst]
end
/-! ## Trees of orders under the new steps -/
inductive VT (X : Prop) : Prop
  | mk (x : X)
section
variable {P : Program} {w0 : World} {n : Nat} {r : Option Nat} {ds : List Deferred} {ops : List Oper} {K : TS → List Chunk → Prop}
theorem vt_of {X : Prop} (h : VT X) : X := by cases h; assumption
theorem tr_region_treeV {ts : TS} {A : List Chunk} {Q : PostT} {id : Nat} {l : List Oper} (hm : P.follows .mixedOrders = true) (A0 : List Chunk) (hA0 : A0.Sublist A) (R : List Nat) (T : List Nat) (ks : List Kind) (kd : Nat → Kind) (D : List Nat) (hD : (Region.before l.toArray).toList = D) (hd : dstOk n l = true) (hb : treeR l R T ks = true)
    (h : OT P w0 n ds l (pick l R) ks ts A0 fun ts _ => VT (OTX P w0 n ds l A0 kd D T R T ts A fun ts A => Q .normal ds ts A)) :
    Tr P r w0 n (.region id l.toArray true) ds ts A Q := tr_region_tree hm A0 hA0 R T ks kd D hD hd hb (ot_mono (fun _ _ h => vt_of h) h)
theorem otx_oneV {A0 : List Chunk} {kd : Nat → Kind} {D done todo F : List Nat} {x : Nat} {ts : TS} {A : List Chunk} (i : Nat) (hf : frees ops done todo = [i]) (hb : treeB ops D done todo i = true) (hk : kd i ≠ .rd)
    (h : OT P w0 n ds ops [nthO ops i] [kd i] ts A fun ts' A' => A0.Sublist A' ∧ VT (OTX P w0 n ds ops A0 kd D F (done ++ [i]) (todo.erase i) ts' A' K)) : OTX P w0 n ds ops A0 kd D (x :: F) done todo ts A K :=
  otx_one i hf hb hk (ot_mono (fun _ _ h => ⟨h.1, vt_of h.2⟩) h)
theorem otx_twoV {A0 : List Chunk} {kd : Nat → Kind} {D done todo F : List Nat} {x : Nat} {ts : TS} {A : List Chunk} (i j : Nat) (hf : frees ops done todo = [i, j]) (hb : treeB ops D done todo i = true) (hk : kd i ≠ .rd) (hb' : treeB ops D done todo j = true) (hk' : kd j ≠ .rd)
    (h : OT P w0 n ds ops [nthO ops i] [kd i] ts A fun ts' A' => A0.Sublist A' ∧ VT (OTX P w0 n ds ops A0 kd D F (done ++ [i]) (todo.erase i) ts' A' K))
    (h' : OT P w0 n ds ops [nthO ops j] [kd j] ts A fun ts' A' => A0.Sublist A' ∧ VT (OTX P w0 n ds ops A0 kd D F (done ++ [j]) (todo.erase j) ts' A' K)) : OTX P w0 n ds ops A0 kd D (x :: F) done todo ts A K :=
  otx_two i j hf hb hk hb' hk' (ot_mono (fun _ _ h => ⟨h.1, vt_of h.2⟩) h) (ot_mono (fun _ _ h => ⟨h.1, vt_of h.2⟩) h')
end
theorem CellAt.more {w0 : World} {A A' : List Chunk} {b o : Nat} {v : Value} (h : CellAt w0 A b o v) (hs : A.Sublist A') : CellAt w0 A' b o v := fun w hw => h w (hw.sub hs)
/-! ## One cell written -/
theorem ble_one {v : Value} {o : Nat} (cs : List Value) (h : o < cs.length) : Nat.ble (o + [v].length) cs.length = true := Nat.ble_eq_true_of_le (by simp; omega)
theorem setMany_one {v : Value} : ∀ {o : Nat} (cs : List Value), o < cs.length → setMany cs o [v] = cs.set o v
  | _, [], h => by simp at h
  | 0, c :: cs, _ => by simp [setMany]; cases cs <;> rfl
  | o + 1, c :: cs, h => by simp only [setMany, List.set_cons_succ]; rw [setMany_one cs (by simp at h; omega)]
/-! ## A cut: what is known behind a piece of code, in whatever order it came -/
inductive Rem (c : Chunk) : List Chunk → List Chunk → Prop
  | here {A : List Chunk} : Rem c (c :: A) A
  | there {d : Chunk} {A B : List Chunk} (h : Rem c A B) : Rem c (d :: A) (d :: B)
inductive Pick : List Chunk → List Chunk → Prop
  | nil {A : List Chunk} : Pick [] A
  | cons {c : Chunk} {A A' B : List Chunk} (h : Rem c A A') (hB : Pick B A') : Pick (c :: B) A
theorem Rem.perm {c : Chunk} : ∀ {A B : List Chunk}, Rem c A B → A.Perm (c :: B)
  | _, _, .here => .refl _
  | _, _, .there h => (h.perm.cons _).trans (.swap _ _ _)
theorem Pick.perm : ∀ {B A : List Chunk}, Pick B A → ∃ C, A.Perm (B ++ C)
  | _, A, .nil => ⟨A, .refl _⟩
  | _, _, .cons h hB => by
    obtain ⟨C, h2⟩ := hB.perm
    exact ⟨C, h.perm.trans (h2.cons _)⟩
theorem Pick.st {B A : List Chunk} {w0 w : World} (h : Pick B A) (hs : St w0 A w) : St w0 B w := by
  obtain ⟨C, h2⟩ := h.perm
  exact (hs.perm h2).sub (List.sublist_append_left _ _)
inductive VJ {X : Type} (J : X → TS × List Chunk) (ds0 ds : List Deferred) (ts : TS) (A : List Chunk) : Prop
  | mk (x : X) (h1 : ds = ds0) (h2 : subT (J x).1 ts) (h3 : Pick (J x).2 A)
section
variable {P : Program} {w0 : World} {n : Nat} {r : Option Nat} {ds : List Deferred} {ts : TS} {A : List Chunk} {Q : PostT}
theorem tr_pick {c : Code} {l : TS} {B : List Chunk} (hl : subT l ts) (hB : Pick B A) (h : Tr P r w0 n c ds l B Q) : Tr P r w0 n c ds ts A Q :=
  tr_st (fun _ hs => hB.st hs) (tr_weak hl (List.Sublist.refl _) h)
end
section
variable {P : Program} {w0 : World} {n : Nat} {ds : List Deferred} {ops : List Oper} {K : TS → List Chunk → Prop}
end
/-! ## Rows of numbers by functions -/
def fnC (f : Nat → Int) (n : Nat) : List Value := (List.range n).map fun i => .int .i64 (f i)
theorem fnC_length (f : Nat → Int) (n : Nat) : (fnC f n).length = n := by simp [fnC]
theorem fnC_get {f : Nat → Int} {n i : Nat} (h : i < n) : (fnC f n)[i]? = some (.int .i64 (f i)) := by
  simp [fnC, h]
theorem fnC_set (f : Nat → Int) (n j : Nat) (v : Int) : (fnC f n).set j (.int .i64 v) = fnC (fun i => if i = j then v else f i) n := by
  apply List.ext_getElem?
  intro i
  rw [List.getElem?_set]
  by_cases hij : j = i
  · subst hij
    by_cases hj : j < n
    · rw [if_pos rfl, if_pos (by rw [fnC_length]; exact hj), fnC_get hj, if_pos rfl]
    · rw [if_pos rfl, if_neg (by rw [fnC_length]; exact hj)]
      rw [List.getElem?_eq_none (by rw [fnC_length]; omega)]
  · rw [if_neg hij]
    by_cases hi : i < n
    · rw [fnC_get hi, fnC_get hi, if_neg (by omega)]
    · rw [List.getElem?_eq_none (by rw [fnC_length]; omega), List.getElem?_eq_none (by rw [fnC_length]; omega)]
theorem fnC_zero (n : Nat) : List.replicate n (.int .i64 0) = fnC (fun _ => 0) n := by
  apply List.ext_getElem?
  intro i
  by_cases hi : i < n
  · rw [fnC_get hi, List.getElem?_replicate, if_pos hi]
  · rw [List.getElem?_replicate, if_neg hi, List.getElem?_eq_none (by rw [fnC_length]; omega)]
theorem ble_fnC {v : Value} {f : Nat → Int} {n o : Nat} (h : o < n) : Nat.ble (o + [v].length) (fnC f n).length = true := ble_one _ (by rw [fnC_length]; exact h)
theorem setMany_fnC {f : Nat → Int} {n o : Nat} {v : Int} (h : o < n) : setMany (fnC f n) o [.int .i64 v] = fnC (fun i => if i = o then v else f i) n := by
  rw [setMany_one _ (by rw [fnC_length]; exact h), fnC_set]
theorem setMany_fnC1 {f : Nat → Int} {n o : Nat} {v : Int} (h : o < n) : setMany (fnC f n) (0 + o * 1) [.int .i64 v] = fnC (fun i => if i = o then v else f i) n := by
  rw [Nat.zero_add, Nat.mul_one, setMany_fnC h]
theorem cell_fnC {w0 : World} {A : List Chunk} {g t n j : Nat} {f : Nat → Int} (h : .blk g t (fnC f n) ∈ A) (hj : j < n) : CellAt w0 A g (0 + j * 1) (.int .i64 (f j)) := by
  rw [Nat.zero_add, Nat.mul_one]
  exact cell_blk h (fnC_get hj)
section
variable {P : Program} {w0 : World} {n : Nat} {ds : List Deferred} {ops : List Oper} {K : TS → List Chunk → Prop}
theorem ox1 {A0 : List Chunk} {kd : Nat → Kind} {D done todo F : List Nat} {x : Nat} {ts : TS} {A : List Chunk} (i : Nat)
    (h : OT P w0 n ds ops [nthO ops i] [kd i] ts A fun ts' A' => A0.Sublist A' ∧ VT (OTX P w0 n ds ops A0 kd D F (done ++ [i]) (todo.erase i) ts' A' K)) (hf : frees ops done todo = [i] := by kernel_rfl) (hb : treeB ops D done todo i = true := by kernel_rfl) (hk : kd i ≠ .rd := by decide) : VT (OTX P w0 n ds ops A0 kd D (x :: F) done todo ts A K) := VT.mk (otx_oneV i hf hb hk h)
theorem ox2 {A0 : List Chunk} {kd : Nat → Kind} {D done todo F : List Nat} {x : Nat} {ts : TS} {A : List Chunk} (i j : Nat)
    (h : OT P w0 n ds ops [nthO ops i] [kd i] ts A fun ts' A' => A0.Sublist A' ∧ VT (OTX P w0 n ds ops A0 kd D F (done ++ [i]) (todo.erase i) ts' A' K))
    (h' : OT P w0 n ds ops [nthO ops j] [kd j] ts A fun ts' A' => A0.Sublist A' ∧ VT (OTX P w0 n ds ops A0 kd D F (done ++ [j]) (todo.erase j) ts' A' K)) (hf : frees ops done todo = [i, j] := by kernel_rfl) (hb : treeB ops D done todo i = true := by kernel_rfl) (hk : kd i ≠ .rd := by decide) (hb' : treeB ops D done todo j = true := by kernel_rfl) (hk' : kd j ≠ .rd := by decide) : VT (OTX P w0 n ds ops A0 kd D (x :: F) done todo ts A K) := VT.mk (otx_twoV i j hf hb hk hb' hk' h h')
end
theorem sla {A B : List Chunk} {p : Prop} (hp : p) (h : A.Sublist B := by (repeat (first | exact sl0 _ | exact sl1 _ | refine sl2 _ ?_ | refine sl3 _ ?_))) : A.Sublist B ∧ p := ⟨h, hp⟩
end Go.Proofs.YtiodmphhjgkgjaaGreat
