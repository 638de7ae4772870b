/- Orders of writes; xl:: lemmas for the rows of this seat. No conditions. -/
import Derived.Test.YtojeeindlijgkaaGreatDoorV8
set_option linter.all false
namespace Go.Proofs.YtojeeindlijgkaaGreatDoor
open Go.RowKit
/-! ## Orders of writes; x[l:] -/
section
variable {P : Program} {w0 : World} {n : Nat} {ds : List Deferred} {ops : List Oper} {K K' : TS → List Chunk → Prop}
def ordL (ops : List Oper) (D : List Nat) : List Nat → List Nat → List Kind → Bool
  | _, [], _ => true
  | done, i :: t, ks =>
    Nat.blt i ops.length && !done.contains i &&
    ((nthO ops i).after.toList.all fun e => !Region.binds .any e || done.contains e.on) &&
    (done.all fun r => (nthO ops r).apart ops.toArray (nthO ops i) || depB D i r) &&
    (match ks.headD .wr with
      | .rd => false
      | _ => t.all (depB D · i)) &&
    ordL ops D (done ++ [i]) t ks.tail
end
section
variable {P : Program} {w0 : World} {n : Nat} {ds : List Deferred} {ops : List Oper} {K K' : TS → List Chunk → Prop}
theorem ordL_parts {D : List Nat} {done t : List Nat} {i : Nat} {ks : List Kind} (h : ordL ops D done (i :: t) ks = true) :
    i < ops.length ∧ i ∉ done ∧ (∀ e ∈ (nthO ops i).after, Region.binds .any e = true → e.on ∈ done) ∧ (∀ r ∈ done, (nthO ops r).apart ops.toArray (nthO ops i) = true ∨ depB D i r = true) ∧
    ks.headD .wr ≠ .rd ∧ (∀ j ∈ t, depB D j i = true) ∧ ordL ops D (done ++ [i]) t ks.tail = true := by
  simp only [ordL, Bool.and_eq_true] at h
  obtain ⟨⟨⟨⟨⟨h1, h2⟩, h3⟩, h4⟩, h5⟩, h6⟩ := h
  refine ⟨Nat.le_of_ble_eq_true h1, by simpa using h2, fun e he hb => ?_, fun r hr => by simpa using List.all_eq_true.1 h4 r hr, fun hk => ?_, fun j hj => ?_, h6⟩
  · have := List.all_eq_true.1 h3 e (by simpa using he)
    simpa [hb] using this
  · rw [hk] at h5; cases h5
  · cases hks : ks.headD .wr with
    | rd => rw [hks] at h5; cases h5
    | cr => rw [hks] at h5; exact List.all_eq_true.1 h5 j hj
    | wr => rw [hks] at h5; exact List.all_eq_true.1 h5 j hj
end
section
variable {P : Program} {w0 : World} {n : Nat} {ds : List Deferred} {ops : List Oper} {K K' : TS → List Chunk → Prop}
theorem draw_rds2 {D : List Nat} {π : List Nat} (hs : Region.noSelect ops.toArray = true) (hdst : ∀ o ∈ ops, (∀ d, o.dst = some d → d < n) ∧ ∀ c, o.op ≠ .defer c) {C : World → Prop} {A : List Chunk} {listed : Array Bool} {a : Act} :
    ∀ (todo done : List Nat) (ks : List Kind) (pend : List (Nat × Value)) (ts : TS), (∀ j, j < todo.length → ks[j]? = some .rd) → DInv P w0 n ds ops D K π done todo ks pend C ts A listed a →
      ∃ pend' ts' ks', DInv P w0 n ds ops D K π (done ++ todo) [] ks' pend' C ts' A listed a ∧ pend'.length = pend.length + todo.length ∧ ∃ q1, pend' = pend ++ q1 ∧ ∀ p ∈ q1, p.1 ∈ todo := by
  intro todo
  induction todo with
  | nil => intro done ks pend ts _ inv; exact ⟨pend, ts, ks, by simpa using inv, by simp, [], by simp, by simp⟩
  | cons i t ih =>
    intro done ks pend ts hks inv
    have hsel := Region.noSelect_spec hs
    have hcl := inv.closed
    have hkd : ks.headD .wr = .rd := by have := hks 0 (by simp); cases ks with
      | nil => simp at this
      | cons k ks => simpa using this
    have hdO : ∀ i, i < ops.length → ∀ d, (nthO ops i).dst = some d → d < n := fun i hi => (hdst _ (List.mem_of_getElem? (nthO_get hi))).1
    obtain ⟨hilt, hin, hpre, hap, hcr, hwr, hord⟩ := ord_parts inv.ord
    have hpairN : (done ++ [i]).Pairwise fun r i => (nthO ops r).apart ops.toArray (nthO ops i) = true ∨ depB D i r = true := by
      rw [List.pairwise_append]
      exact ⟨inv.pair, List.pairwise_singleton _ _, fun r hr j hj => by rw [List.mem_singleton] at hj; subst hj; exact hap r hr⟩
    have hltN : ∀ j ∈ done ++ [i], j < ops.length := fun j hj => by
      rcases List.mem_append.1 hj with h | h
      · exact inv.lt j h
      · rw [List.mem_singleton] at h; subst h; exact hilt
    have hndN : (done ++ [i]).Nodup := by
      rw [List.nodup_append]
      exact ⟨inv.nodup, by simp, fun x hx y hy => by rw [List.mem_singleton] at hy; subst hy; rintro rfl; exact hin hx⟩
    have hsplit : (done ++ [i]) ++ t = π := by rw [← inv.split]; simp
    have hot := inv.ot
    have hiP : i ∉ pend.map (·.1) := fun h => hin (inv.sub.subset h)
    simp only [pick, OT, hkd] at hot
    obtain ⟨v, hr, hot⟩ := hot
    have key : DInv P w0 n ds ops D K π (done ++ [i]) t ks.tail (pend ++ [(i, v)]) C (putT ts (nthO ops i).dst v) A listed a := {
      split := hsplit
      ord := hord
      pair := hpairN
      lt := hltN
      nodup := hndN
      sub := by rw [List.map_append]; exact inv.sub.append (List.Sublist.refl _)
      size := inv.size
      mem := fun j hj => by
        rw [inv.mem j hj, List.map_append, List.mem_append, List.mem_append]
        constructor
        · rintro ⟨h1, h2⟩
          refine ⟨.inl h1, ?_⟩
          rintro (h | h)
          · exact h2 h
          · simp at h; subst h; exact hin h1
        · rintro ⟨h1 | h1, h2⟩
          · exact ⟨h1, fun h => h2 (.inl h)⟩
          · exact absurd (.inr (by simpa using h1)) h2
      closed := hcl
      up := inv.up
      pc := PC.snoc pend a inv.pc fun x hx => hr _ x (inv.hd x hx)
      hd := fun x hx => by
        rw [puts_append]
        exact (inv.hd x hx).put (hdO i hilt) v
      ot := hot }
    obtain ⟨pend', ts', ks', h1, h2, q1, hq, hq1⟩ := ih (done ++ [i]) ks.tail (pend ++ [(i, v)]) (putT ts (nthO ops i).dst v) (fun j hj => by
      have := hks (j + 1) (by simpa using hj)
      cases ks with
      | nil => simp at this
      | cons k ks => simpa using this) key
    exact ⟨pend', ts', ks', by simpa using h1, by rw [h2]; simp; omega, (i, v) :: q1, by rw [hq]; simp, fun p hp => by
      rcases List.mem_cons.1 hp with rfl | hp
      · exact .head _
      · exact .tail _ (hq1 p hp)⟩
end
section
variable {P : Program} {w0 : World} {n : Nat} {r : Option Nat} {ds : List Deferred} {ts : TS} {A : List Chunk} {Q : PostT}
theorem rds_kinds {ks : List Kind} {m : Nat} (h6 : ks.all (fun k => match k with | .rd => true | _ => false) = true) (h7 : ks.length = m) : ∀ j, j < m → ks[j]? = some .rd := fun j hj => by
  have hj' : j < ks.length := by omega
  have := List.all_eq_true.1 h6 ks[j] (List.getElem_mem hj')
  rw [List.getElem?_eq_getElem hj']
  cases hk : ks[j] with
  | rd => rfl
  | cr => rw [hk] at this; cases this
  | wr => rw [hk] at this; cases this
end
/-! ## Writes that need not wait for the reads, and then the rest as it is drawn -/
section
variable {P : Program} {w0 : World} {n : Nat} {ds : List Deferred} {ops : List Oper} {K K' : TS → List Chunk → Prop}
theorem draw_late4 {A0 : List Chunk} {r : Option Nat} {mm : Nat} {D : List Nat} {Q : Exit → Act → World → Prop} (hc : certB ops D = true) (hed : edgeB ops = true) (hs : Region.noSelect ops.toArray = true) (hdst : ∀ o ∈ ops, (∀ d, o.dst = some d → d < n) ∧ ∀ c, o.op ≠ .defer c)
    (hQ : ∀ ts A a w, K ts A → Hd w0 n ds ts A a w → Q .normal a w) {U : List Nat} {ksU : List Kind} :
    ∀ (fuel : Nat) (done todo : List Nat) (pend : List (Nat × Value)) (ts : TS) (A : List Chunk) (listed : Array Bool) (a : Act) (w : World), fuel = pend.length + (todo ++ U).length → ordL ops D done todo [] = true → (todo.all fun i => U.all (depB D · i)) = true → ordB ops D (done ++ todo) U ksU = true →
      LInv P w0 n ds ops D A0 done (todo ++ U) pend ts A listed a w → OTL P w0 n ds ops A0 (pick ops todo) [] ts A (fun ts A => VK (OT P w0 n ds ops (pick ops U) ksU ts A K)) → wpAnyIn (fw r) mm P .any ops.toArray Q fuel listed a w := by
  intro fuel
  induction fuel with
  | zero =>
    intro done todo pend ts A listed a w hf ho hU hoU inv hot
    cases todo with
    | cons x t => simp at hf
    | nil =>
      have hot' : OT P w0 n ds ops (pick ops U) ksU ts A K := by
        have : VK (OT P w0 n ds ops (pick ops U) ksU ts A K) := hot
        cases this; assumption
      rw [List.append_nil] at hoU
      rw [List.nil_append] at hf inv
      exact draw_inv (r := r) (mm := mm) (π := done ++ U) hc hed hs (fun i hi => List.mem_append.2 (inv.all i hi)) hdst hQ _ 0 done U ksU pend (St w0 A) ts A listed a w rfl hf
        { split := rfl, ord := hoU, pair := inv.pair, lt := inv.lt, nodup := inv.nodup, sub := inv.sub, size := inv.size, mem := inv.mem, closed := inv.closed
          up := fun w w' h hb => h.grow hb
          pc := PC.mono (fun w hs => hs.sub inv.sub0) _ _ inv.pc
          hd := fun w hw => inv.hd.world hw
          ot := hot' } inv.hd.st
  | succ f ih =>
    intro done todo pend ts A listed a w hf ho hU hoU inv hot
    cases todo with
    | nil =>
      have hot' : OT P w0 n ds ops (pick ops U) ksU ts A K := by
        have : VK (OT P w0 n ds ops (pick ops U) ksU ts A K) := hot
        cases this; assumption
      rw [List.append_nil] at hoU
      rw [List.nil_append] at hf inv
      exact draw_inv (r := r) (mm := mm) (π := done ++ U) hc hed hs (fun i hi => List.mem_append.2 (inv.all i hi)) hdst hQ _ (f + 1) done U ksU pend (St w0 A) ts A listed a w rfl hf
        { split := rfl, ord := hoU, pair := inv.pair, lt := inv.lt, nodup := inv.nodup, sub := inv.sub, size := inv.size, mem := inv.mem, closed := inv.closed
          up := fun w w' h hb => h.grow hb
          pc := PC.mono (fun w hs => hs.sub inv.sub0) _ _ inv.pc
          hd := fun w hw => inv.hd.world hw
          ot := hot' } inv.hd.st
    | cons x0 t0 =>
      have hmem : ∀ p ∈ pend, p.1 ∈ done ∧ listed.getD p.1 false = false := fun p hp => by
        have h1 : p.1 ∈ done := inv.sub.subset (List.mem_map.2 ⟨p, hp, rfl⟩)
        refine ⟨h1, ?_⟩
        cases h2 : listed.getD p.1 false with
        | false => rfl
        | true => exact absurd (List.mem_map.2 ⟨p, hp, rfl⟩) ((inv.mem _ (inv.lt _ h1)).1 h2).2
      rw [List.cons_append] at inv
      rw [List.all_cons, Bool.and_eq_true] at hU
      obtain ⟨hU0, hU⟩ := hU
      obtain ⟨hilt, hin, hpre, hap, hkd, hcr, hord⟩ := ordL_parts ho
      have hiun : listed.getD x0 false = false := by
        cases h : listed.getD x0 false with
        | false => rfl
        | true => exact absurd ((inv.mem x0 hilt).1 h).1 hin
      refine ⟨fun h0 => (ready_ex hed inv.size x0 hilt hiun h0).elim, fun x hx => ?_⟩
      obtain ⟨h1, o, hoo, h3⟩ := mem_ready.1 hx
      have hxl : x < ops.length := by simpa using (Array.getElem?_eq_some_iff.1 hoo).1
      have hxo : o = nthO ops x := Option.some.inj ((by simpa using hoo : ops[x]? = some o).symm.trans (nthO_get hxl))
      subst hxo
      rw [getD_both' (by rw [inv.size]; exact hxl)] at h1
      by_cases hxp : x ∈ pend.map (·.1)
      · obtain ⟨⟨x', v⟩, hp, rfl⟩ := List.mem_map.1 hxp
        obtain ⟨p1, p2, hpe⟩ := List.append_of_mem hp
        subst hpe
        exact late_take hc hs hdst inv hx fun listed' a' w' inv' => ih done (x0 :: t0) (p1 ++ p2) ts A listed' a' w' (by simp at hf ⊢; omega) ho (by rw [List.all_cons, hU0, hU]; rfl) hoU (by rw [List.cons_append]; exact inv') hot
      · have hxt : x ∈ x0 :: (t0 ++ U) := by
          rcases inv.all x hxl with h | h
          · have := (inv.mem x hxl).2 ⟨h, hxp⟩
            rw [h1] at this; cases this
          · exact h
        have hdp : ∀ y ∈ t0 ++ U, depB D y x0 = true := fun y hy => (List.mem_append.1 hy).elim (hcr y) fun h => List.all_eq_true.1 hU0 y h
        rcases List.mem_cons.1 hxt with hxi | hxt
        rotate_left
        · have := dep_listed hc inv.closed hilt x hxl h3 (hdp x hxt)
          rw [hiun] at this; cases this
        · subst hxi
          have hG : Gn P w0 n ds ops false (nthO ops x) ts A fun v A' => A0.Sublist A' ∧ OTL P w0 n ds ops A0 (pick ops t0) [] (putT ts (nthO ops x).dst v) A' (fun ts A => VK (OT P w0 n ds ops (pick ops U) ksU ts A K)) := by
            simp only [pick, OTL, OT, List.headD_cons, List.headD_nil] at hot
            exact hot
          refine late_step (t := t0 ++ U) hc hs hdst inv hx hin hap (fun y hy => (inv.all y hy).imp id List.mem_cons.1) hG (fun v A' h => h.1) fun v A' listed' a' w' hN inv' => ?_
          exact ih (done ++ [x]) t0 pend _ A' listed' a' w' (by simp at hf ⊢; omega) hord hU (by rw [List.append_assoc]; exact hoU) inv' hN.2
end
section
variable {P : Program} {w0 : World} {n : Nat} {r : Option Nat} {ds : List Deferred} {ts : TS} {A : List Chunk} {Q : PostT}
def lateB4 (ops : List Oper) (R T U : List Nat) (ks ksU : List Kind) : Bool :=
  let D := (Region.before ops.toArray).toList
  certB ops D && edgeB ops && Region.noSelect ops.toArray && (List.range ops.length).all (R ++ (T ++ U)).contains && Nat.beq (R.length + (T ++ U).length) ops.length &&
  ks.all (fun k => match k with | .rd => true | _ => false) && Nat.beq ks.length R.length && ordB ops D [] R ks && ordL ops D R T [] && (T.all fun i => U.all (depB D · i)) && ordB ops D (R ++ T) U ksU
/-- Reads, writes that need not wait for them, and the rest as it is drawn. -/
theorem tr_region_late4 {id : Nat} {l : List Oper} (hm : P.follows .mixedOrders = true) (A0 : List Chunk) (hA0 : A0.Sublist A) (R T U : List Nat) (ks ksU : List Kind) (hd : dstOk n l = true) (hb : lateB4 l R T U ks ksU = true)
    (h : OT P w0 n ds l (pick l R) ks ts A0 fun ts _ => VK (OTL P w0 n ds l A0 (pick l T) [] ts A fun ts A => VK (OT P w0 n ds l (pick l U) ksU ts A fun ts A => Q .normal ds ts A))) :
    Tr P r w0 n (.region id l.toArray true) ds ts A Q := fun m a w hh => by
  simp only [lateB4, Bool.and_eq_true] at hb
  obtain ⟨⟨⟨⟨⟨⟨⟨⟨⟨⟨h1, h2⟩, h3⟩, h4⟩, h5⟩, h6⟩, h7⟩, h8⟩, h9⟩, h10⟩, h11⟩ := hb
  have hall : ∀ x, x < l.length → x ∈ R ∨ x ∈ T ++ U := fun x hx => by
    have := List.all_eq_true.1 h4 x (List.mem_range.2 hx)
    rw [List.contains_eq_mem, decide_eq_true_eq] at this
    exact List.mem_append.1 this
  have h5 := Nat.eq_of_beq_eq_true h5
  have h7 := Nat.eq_of_beq_eq_true h7
  refine wpIn_region_any hm ?_
  have inv : DInv P w0 n ds l (Region.before l.toArray).toList (fun ts _ => VK (OTL P w0 n ds l A0 (pick l T) [] ts A fun ts A => VK (OT P w0 n ds l (pick l U) ksU ts A fun ts A => Q .normal ds ts A))) R [] R ks [] (St w0 A0) ts A0 (Array.replicate l.toArray.size false) a := {
    split := rfl
    ord := h8
    pair := .nil
    lt := fun i hi => by cases hi
    nodup := .nil
    sub := .slnil
    size := by simp
    mem := fun j hj => by simp [hj]
    closed := fun j hj h => by simp [hj] at h
    up := fun x y hx hxy => hx.grow hxy
    pc := trivial
    hd := fun x hx => hh.world hx
    ot := h }
  obtain ⟨pend, ts', ksX, inv', hl, q1, hq, hq1⟩ := draw_rds2 h3 (fun o ho => dstOk_spec hd ho) R [] ks [] ts (rds_kinds h6 h7) inv
  simp only [List.nil_append] at inv' hq
  have g1 : OTL P w0 n ds l A0 (pick l T) [] ts' A fun ts A => VK (OT P w0 n ds l (pick l U) ksU ts A fun ts A => Q .normal ds ts A) := by
    have := inv'.ot
    cases this; assumption
  have hw := hh.st.drew
  refine draw_late4 (P := P) (w0 := w0) (n := n) (ds := ds) (r := r) (mm := m) (Q := QX w0 n Q) (K := fun ts A => Q .normal ds ts A) h1 h2 h3 (fun o ho => dstOk_spec hd ho) (fun ts A a w hq hh => ⟨ds, ts, A, hq, hh⟩) _ R T pend _ A _ a _ ?_ h9 h10 h11
    { pair := inv'.pair
      lt := inv'.lt
      nodup := inv'.nodup
      sub := inv'.sub
      size := inv'.size
      mem := inv'.mem
      all := fun x hx => hall x hx
      closed := inv'.closed
      pc := inv'.pc
      sub0 := hA0
      hd := (inv'.hd _ (hw.sub hA0)).world hw } g1
  simp at hl h5 ⊢
  omega
end
end Go.Proofs.YtojeeindlijgkaaGreatDoor
