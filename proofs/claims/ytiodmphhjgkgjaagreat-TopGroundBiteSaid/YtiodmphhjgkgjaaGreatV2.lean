/- Late writes under the new steps; chunks in another order: lemmas for the rows of this seat. No conditions. -/
import Derived.Test.YtiodmphhjgkgjaaGreatS12
import Derived.Test.YtiodmphhjgkgjaaGreatV
set_option linter.all false
namespace Go.Proofs.YtiodmphhjgkgjaaGreat
open Go.RowKit
/-! ## Late writes under the new steps; chunks in another order -/
inductive VK (X : Prop) : Prop
  | mk (x : X)
section
variable {P : Program} {w0 : World} {n : Nat} {r : Option Nat} {ds : List Deferred} {ops : List Oper} {K K' : TS → List Chunk → Prop}
theorem ot_mono : ∀ {os : List Oper} {ks : List Kind} {ts : TS} {A : List Chunk}, (∀ ts A, K ts A → K' ts A) → OT P w0 n ds ops os ks ts A K → OT P w0 n ds ops os ks ts A K'
  | [], _, _, _, hk, h => hk _ _ h
  | o :: os, ks, ts, A, hk, h => by
    unfold OT at h ⊢
    cases hkk : ks.headD .wr with
    | rd =>
      rw [hkk] at h
      obtain ⟨v, h1, h2⟩ := h
      exact ⟨v, h1, ot_mono hk h2⟩
    | cr => rw [hkk] at h; exact Gn.mono h fun v A' h => ot_mono hk h
    | wr => rw [hkk] at h; exact Gn.mono h fun v A' h => ot_mono hk h
end
section
variable {κ : Type} [DecidableEq κ]
end
section
variable {P : Program} {κ : Type} [DecidableEq κ] {enc : κ → Value} {kt t et : TypeId} {w0 : World} {n : Nat} {ds : List Deferred} {ops : List Oper} {K : TS → List Chunk → Prop}
end
/-! ## Regions in any order: trees, and facts -/

section
variable {P : Program} {w0 : World} {n : Nat} {ds : List Deferred} {ops : List Oper} {K : TS → List Chunk → Prop}
/-- Lay theorems by their runs: every order of what makes and writes memory: which may be next. -/
def frees (ops : List Oper) (done todo : List Nat) : List Nat := todo.filter fun i => (nthO ops i).after.toList.all fun e => !Region.binds .any e || done.contains e.on
def treeB (ops : List Oper) (D : List Nat) (done todo : List Nat) (i : Nat) : Bool := Nat.blt i ops.length && !done.contains i && (done.all fun r => (nthO ops r).apart ops.toArray (nthO ops i) || depB D i r) && (todo.all fun x => (Nat.beq x i) || (todo.erase i).contains x) && Nat.beq ((todo.erase i).length + 1) todo.length && !(todo.erase i).contains i
def allP : List Nat → (Nat → Prop) → Prop
  | [], _ => True
  | i :: l, p => p i ∧ allP l p
theorem allP_mem {p : Nat → Prop} {i : Nat} : ∀ {l : List Nat}, allP l p → i ∈ l → p i
  | j :: l, h, hi => by
    rcases List.mem_cons.1 hi with rfl | hi
    · exact h.1
    · exact allP_mem h.2 hi
/-- One behind the other in any order, each leaving what the reads need. -/
def OTX (P : Program) (w0 : World) (n : Nat) (ds : List Deferred) (ops : List Oper) (A0 : List Chunk) (kd : Nat → Kind) (D : List Nat) : List Nat → List Nat → List Nat → TS → List Chunk → (TS → List Chunk → Prop) → Prop
  | [], _, todo, ts, A, K => todo = [] ∧ K ts A
  | _ :: F, done, todo, ts, A, K => todo ≠ [] ∧ allP (frees ops done todo) fun i => (treeB ops D done todo i = true ∧ kd i ≠ .rd) ∧ OT P w0 n ds ops [nthO ops i] [kd i] ts A fun ts' A' => A0.Sublist A' ∧ OTX P w0 n ds ops A0 kd D F (done ++ [i]) (todo.erase i) ts' A' K
theorem otx_end {A0 : List Chunk} {kd : Nat → Kind} {D done : List Nat} {ts : TS} {A : List Chunk} (h : K ts A) : OTX P w0 n ds ops A0 kd D [] done [] ts A K := ⟨rfl, h⟩
theorem otx_one {A0 : List Chunk} {kd : Nat → Kind} {D done todo F : List Nat} {x : Nat} {ts : TS} {A : List Chunk} (i : Nat) (hf : frees ops done todo = [i]) (hb : treeB ops D done todo i = true) (hk : kd i ≠ .rd)
    (h : OT P w0 n ds ops [nthO ops i] [kd i] ts A fun ts' A' => A0.Sublist A' ∧ OTX P w0 n ds ops A0 kd D F (done ++ [i]) (todo.erase i) ts' A' K) : OTX P w0 n ds ops A0 kd D (x :: F) done todo ts A K := by
  refine ⟨fun e => ?_, ?_⟩
  · rw [e] at hf; cases hf
  · rw [hf]; exact ⟨⟨⟨hb, hk⟩, h⟩, trivial⟩
theorem otx_two {A0 : List Chunk} {kd : Nat → Kind} {D done todo F : List Nat} {x : Nat} {ts : TS} {A : List Chunk} (i j : Nat) (hf : frees ops done todo = [i, j]) (hb : treeB ops D done todo i = true) (hk : kd i ≠ .rd) (hb' : treeB ops D done todo j = true) (hk' : kd j ≠ .rd)
    (h : OT P w0 n ds ops [nthO ops i] [kd i] ts A fun ts' A' => A0.Sublist A' ∧ OTX P w0 n ds ops A0 kd D F (done ++ [i]) (todo.erase i) ts' A' K)
    (h' : OT P w0 n ds ops [nthO ops j] [kd j] ts A fun ts' A' => A0.Sublist A' ∧ OTX P w0 n ds ops A0 kd D F (done ++ [j]) (todo.erase j) ts' A' K) : OTX P w0 n ds ops A0 kd D (x :: F) done todo ts A K := by
  refine ⟨fun e => ?_, ?_⟩
  · rw [e] at hf; cases hf
  · rw [hf]; exact ⟨⟨⟨hb, hk⟩, h⟩, ⟨⟨hb', hk'⟩, h'⟩, trivial⟩
theorem draw_tree {A0 : List Chunk} {kd : Nat → Kind} {r : Option Nat} {mm : Nat} {D : List Nat} {Q : Exit → Act → World → Prop} (hc : certB ops D = true) (hed : edgeB ops = true) (hs : Region.noSelect ops.toArray = true) (hdst : ∀ o ∈ ops, (∀ d, o.dst = some d → d < n) ∧ ∀ c, o.op ≠ .defer c)
    (hQ : ∀ ts A a w, K ts A → Hd w0 n ds ts A a w → Q .normal a w) :
    ∀ (fuel : Nat) (F done todo : List Nat) (pend : List (Nat × Value)) (ts : TS) (A : List Chunk) (listed : Array Bool) (a : Act) (w : World), fuel = pend.length + todo.length → F.length = todo.length → (∀ x ∈ todo, x < ops.length ∧ x ∉ done) →
      LInv P w0 n ds ops D A0 done todo pend ts A listed a w → OTX P w0 n ds ops A0 kd D F done todo ts A K → wpAnyIn (fw r) mm P .any ops.toArray Q fuel listed a w := by
  intro fuel
  induction fuel with
  | zero =>
    intro F done todo pend ts A listed a w hf hF htd inv hot
    obtain rfl : pend = [] := List.eq_nil_of_length_eq_zero (by omega)
    obtain rfl : todo = [] := List.eq_nil_of_length_eq_zero (by simp at hf; omega)
    obtain rfl : F = [] := List.eq_nil_of_length_eq_zero (by simpa using hF)
    refine ⟨?_, hQ _ _ _ _ hot.2 inv.hd⟩
    refine List.eq_nil_iff_forall_not_mem.2 fun j hj => ?_
    obtain ⟨h1, o, hoo, _⟩ := mem_ready.1 hj
    have hlt : j < ops.length := by simpa using (Array.getElem?_eq_some_iff.1 hoo).1
    rw [getD_both' (by rw [inv.size]; exact hlt)] at h1
    have := (inv.mem j hlt).2 ⟨by have := inv.all j hlt; simpa using this, by simp⟩
    rw [h1] at this; cases this
  | succ f ih =>
    intro F done todo pend ts A listed a w hf hF htd inv hot
    have hmem : ∀ p ∈ pend, p.1 ∈ done ∧ listed.getD p.1 false = false := fun p hp => by
      have h1 : p.1 ∈ done := inv.sub.subset (List.mem_map.2 ⟨p, hp, rfl⟩)
      refine ⟨h1, ?_⟩
      cases h2 : listed.getD p.1 false with
      | false => rfl
      | true => exact absurd (List.mem_map.2 ⟨p, hp, rfl⟩) ((inv.mem _ (inv.lt _ h1)).1 h2).2
    have hun : ∀ i ∈ todo, listed.getD i false = false := fun i hi => by
      cases h : listed.getD i false with
      | false => rfl
      | true => exact absurd ((inv.mem i (htd i hi).1).1 h).1 (htd i hi).2
    refine ⟨fun h0 => ?_, fun x hx => ?_⟩
    · exfalso
      cases hpe : pend with
      | nil =>
        cases htt : todo with
        | nil => rw [hpe, htt] at hf; simp at hf
        | cons i t => exact ready_ex hed inv.size i (htd i (by rw [htt]; exact .head _)).1 (hun i (by rw [htt]; exact .head _)) h0
      | cons p l =>
        have hp := hmem p (by rw [hpe]; exact .head _)
        exact ready_ex hed inv.size p.1 (inv.lt _ hp.1) hp.2 h0
    · obtain ⟨h1, o, hoo, h3⟩ := mem_ready.1 hx
      have hxl : x < ops.length := by simpa using (Array.getElem?_eq_some_iff.1 hoo).1
      have hxo : o = nthO ops x := Option.some.inj ((by simpa using hoo : ops[x]? = some o).symm.trans (nthO_get hxl))
      subst hxo
      rw [getD_both' (by rw [inv.size]; exact hxl)] at h1
      by_cases hxp : x ∈ pend.map (·.1)
      · obtain ⟨⟨x', v⟩, hp, rfl⟩ := List.mem_map.1 hxp
        obtain ⟨p1, p2, hpe⟩ := List.append_of_mem hp
        subst hpe
        exact late_take hc hs hdst inv hx fun listed' a' w' inv' => ih F done todo (p1 ++ p2) ts A listed' a' w' (by simp at hf ⊢; omega) hF htd inv' hot
      · have hxt : x ∈ todo := by
          rcases inv.all x hxl with h | h
          · have := (inv.mem x hxl).2 ⟨h, hxp⟩
            rw [h1] at this; cases this
          · exact h
        cases F with
        | nil => rw [hot.1] at hxt; cases hxt
        | cons y F =>
          have hfr : x ∈ frees ops done todo := List.mem_filter.2 ⟨hxt, List.all_eq_true.2 fun e he => by
            cases hb : Region.binds .any e with
            | false => rfl
            | true =>
              have hl := h3 e (by simpa using he) hb
              by_cases hel : e.on < ops.length
              · have := ((inv.mem e.on hel).1 (by first | exact hl | (rw [← getD_both' (by rw [inv.size]; exact hel)]; exact hl))).1
                simpa using this
              · exfalso
                rw [Array.getD_eq_getD_getElem?, Array.getElem?_eq_none (by rw [inv.size]; omega)] at hl
                cases hl⟩
          obtain ⟨⟨hb, hk⟩, hot⟩ := allP_mem hot.2 hfr
          simp only [treeB, Bool.and_eq_true] at hb
          obtain ⟨⟨⟨⟨⟨b1, b2⟩, b3⟩, b4⟩, b5⟩, b6⟩ := hb
          have hin : x ∉ done := by simpa using b2
          have hap : ∀ r ∈ done, (nthO ops r).apart ops.toArray (nthO ops x) = true ∨ depB D x r = true := fun r hr => by simpa using List.all_eq_true.1 b3 r hr
          have hG : ∃ kb, Gn P w0 n ds ops kb (nthO ops x) ts A fun v A' => A0.Sublist A' ∧ OTX P w0 n ds ops A0 kd D F (done ++ [x]) (todo.erase x) (putT ts (nthO ops x).dst v) A' K := by
            simp only [OT, List.headD_cons] at hot
            cases hks : kd x with
            | rd => exact absurd hks hk
            | cr => rw [hks] at hot; exact ⟨true, hot⟩
            | wr => rw [hks] at hot; exact ⟨false, hot⟩
          obtain ⟨kb, hG⟩ := hG
          have b5 := Nat.eq_of_beq_eq_true b5
          have b4' : ∀ y ∈ todo, y = x ∨ y ∈ todo.erase x := fun y hy => by
            have := List.all_eq_true.1 b4 y hy
            simpa using this
          refine late_step (t := todo.erase x) hc hs hdst inv hx hin hap (fun y hy => by rcases inv.all y hy with h | h; exact .inl h; exact .inr (b4' y h)) hG (fun v A' h => h.1) fun v A' listed' a' w' hN inv' => ?_
          exact ih F (done ++ [x]) (todo.erase x) pend _ A' listed' a' w' (by omega) (by simp at hF; omega) (fun y hy => ⟨(htd y (List.mem_of_mem_erase hy)).1, fun h => by
            rcases List.mem_append.1 h with h | h
            · exact (htd y (List.mem_of_mem_erase hy)).2 h
            · rw [List.mem_singleton] at h; subst h; simp [hy] at b6⟩) inv' hN.2
end
section
variable {P : Program} {w0 : World} {n : Nat} {r : Option Nat} {ds : List Deferred} {ts : TS} {A : List Chunk} {Q : PostT}
def treeR (ops : List Oper) (R : List Nat) (T : List Nat) (ks : List Kind) : Bool :=
  let D := (Region.before ops.toArray).toList
  certB ops D && edgeB ops && Region.noSelect ops.toArray && (List.range ops.length).all (R ++ T).contains && Nat.beq (R.length + T.length) ops.length &&
  ks.all (fun k => match k with | .rd => true | _ => false) && Nat.beq ks.length R.length && ordB ops D [] R ks && T.all fun x => Nat.blt x ops.length && !R.contains x
/-- Reads, and what makes and writes memory, in any order. -/
theorem tr_region_tree {id : Nat} {l : List Oper} (hm : P.follows .mixedOrders = true) (A0 : List Chunk) (hA0 : A0.Sublist A) (R : List Nat) (T : List Nat) (ks : List Kind) (kd : Nat → Kind) (D : List Nat) (hD : (Region.before l.toArray).toList = D) (hd : dstOk n l = true) (hb : treeR l R T ks = true)
    (h : OT P w0 n ds l (pick l R) ks ts A0 fun ts _ => OTX P w0 n ds l A0 kd D T R T ts A fun ts A => Q .normal ds ts A) :
    Tr P r w0 n (.region id l.toArray true) ds ts A Q := fun m a w hh => by
  subst hD
  simp only [treeR, Bool.and_eq_true] at hb
  obtain ⟨⟨⟨⟨⟨⟨⟨⟨h1, h2⟩, h3⟩, h4⟩, h5⟩, h6⟩, h7⟩, h8⟩, h9⟩ := hb
  have hall : ∀ x, x < l.length → x ∈ R ∨ x ∈ T := fun x hx => by
    have := List.all_eq_true.1 h4 x (List.mem_range.2 hx)
    simpa using this
  have h5 := Nat.eq_of_beq_eq_true h5
  have h7 := Nat.eq_of_beq_eq_true h7
  refine wpIn_region_any hm ?_
  have inv : DInv P w0 n ds l (Region.before l.toArray).toList (fun ts _ => OTX P w0 n ds l A0 kd (Region.before l.toArray).toList T R T ts A fun ts A => Q .normal ds ts A) R [] R ks [] (St w0 A0) ts A0 (Array.replicate l.toArray.size false) a := {
    split := rfl
    ord := h8
    pair := .nil
    lt := fun i hi => by cases hi
    nodup := .nil
    sub := .slnil
    size := by simp
    mem := fun j hj => by simp [hj]
    closed := fun j hj h => by simp [hj] at h
    up := fun x y hx hxy => hx.grow hxy
    pc := trivial
    hd := fun x hx => hh.world hx
    ot := h }
  obtain ⟨pend, ts', ksX, inv', hl⟩ := draw_rds h3 (fun o ho => dstOk_spec hd ho) R [] ks [] ts (fun j hj => by
    have hj' : j < ks.length := by omega
    have := List.all_eq_true.1 h6 ks[j] (List.getElem_mem hj')
    rw [List.getElem?_eq_getElem hj']
    cases hk : ks[j] with
    | rd => rfl
    | cr => rw [hk] at this; cases this
    | wr => rw [hk] at this; cases this) inv
  simp only [List.nil_append] at inv'
  have g1 := inv'.ot
  have hw := hh.st.drew
  refine draw_tree (K := fun ts A => Q .normal ds ts A) h1 h2 h3 (fun o ho => dstOk_spec hd ho) (fun ts A a w hq hh => ⟨ds, ts, A, hq, hh⟩) _ T R T pend _ _ _ a _ ?_ rfl (fun x hx => by
    have := List.all_eq_true.1 h9 x hx
    rw [Bool.and_eq_true] at this
    exact ⟨Nat.le_of_ble_eq_true this.1, by simpa using this.2⟩)
    { pair := inv'.pair
      lt := inv'.lt
      nodup := inv'.nodup
      sub := inv'.sub
      size := inv'.size
      mem := inv'.mem
      all := fun x hx => hall x hx
      closed := inv'.closed
      pc := inv'.pc
      sub0 := hA0
      hd := (inv'.hd _ (hw.sub hA0)).world hw } g1
  simp at hl ⊢
  omega
end
/-! ### every order by facts -/
section
variable {P : Program} {w0 : World} {n : Nat} {ds : List Deferred} {ops : List Oper} {K : TS → List Chunk → Prop}
end
section
variable {P : Program} {w0 : World} {n : Nat} {r : Option Nat} {ds : List Deferred} {ts : TS} {A : List Chunk} {Q : PostT}
end
section
variable {P : Program} {w0 w : World} {n : Nat} {r : Option Nat} {ds : List Deferred} {ts : TS} {A : List Chunk} {Q : PostT}
end
end Go.Proofs.YtiodmphhjgkgjaaGreat
