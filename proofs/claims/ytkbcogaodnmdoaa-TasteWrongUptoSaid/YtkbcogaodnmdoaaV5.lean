/- Late writes, up to where all reads are waited for: lemmas for the rows of this seat. No conditions. -/
import Derived.WalkKit
import Derived.WalkSpells
import Derived.WalkLawsBesides
import Derived.Lib.Hide
import Derived.Deep.AppendLies
import Derived.Deep.Draws
import Derived.Maps.AppendAt
import Derived.RegionTactic
import Derived.OwnWalk
import Derived.Deep.QuietTactic
import Derived.BigQuiet
import Derived.Deep.DeepFit
import Derived.Deep.LoopGhost
import Derived.Deep.DeepMust
import Derived.Deep.DeepCutAuto
import Derived.StillTail
import Derived.Deep.Quiet
import Derived.Deep.RegionHeld3
import Derived.Deep.RegionWith
import Derived.Deep.RegionLaw
import Derived.Maps.OwnOps
import Derived.Maps.OwnSet
import Derived.Maps.OwnRows
import Derived.Maps.RangeWalk
import Derived.Carry
import Derived.Test.YtkbcogaodnmdoaaBase
import Derived.Test.YtkbcogaodnmdoaaS1
import Derived.Test.YtkbcogaodnmdoaaS5
import Derived.Test.YtkbcogaodnmdoaaS12
import Derived.Test.YtkbcogaodnmdoaaS14
import Derived.Test.YtkbcogaodnmdoaaV
import Derived.Test.YtkbcogaodnmdoaaV2
import Derived.Test.YtkbcogaodnmdoaaV3
import Derived.Laws.Small
set_option linter.all false
namespace Go.Proofs.Ytkbcogaodnmdoaa
open Go.RowKit
/-! ## Late writes, up to where all reads are waited for -/
section
variable {P : Program} {w0 : World} {n : Nat} {ds : List Deferred} {ops : List Oper} {K K' : TS → List Chunk → Prop}
theorem draw_late3 {A0 : List Chunk} {r : Option Nat} {mm : Nat} {D : List Nat} {Q : Exit → Act → World → Prop} (hc : certB ops D = true) (hed : edgeB ops = true) (hs : Region.noSelect ops.toArray = true) (hdst : ∀ o ∈ ops, (∀ d, o.dst = some d → d < n) ∧ ∀ c, o.op ≠ .defer c)
    (hQ : ∀ ts A a w, K ts A → Hd w0 n ds ts A a w → Q .normal a w) {i : Nat} {t : List Nat} :
    ∀ (fuel : Nat) (done todo : List Nat) (pend : List (Nat × Value)) (ts : TS) (A : List Chunk) (listed : Array Bool) (a : Act) (w : World), fuel = pend.length + (todo ++ i :: t).length → ordL ops D done (todo ++ i :: t) [] = true → (∀ p ∈ pend, depB D i p.1 = true) →
      LInv P w0 n ds ops D A0 done (todo ++ i :: t) pend ts A listed a w → OTL P w0 n ds ops A0 (pick ops todo) [] ts A (fun ts A => VK (OTL P w0 n ds ops [] (pick ops (i :: t)) [] ts A K)) → wpAnyIn (fw r) mm P .any ops.toArray Q fuel listed a w := by
  intro fuel
  induction fuel with
  | zero =>
    intro done todo pend ts A listed a w hf
    simp at hf
  | succ f ih =>
    intro done todo pend ts A listed a w hf ho hpd inv hot
    cases todo with
    | nil =>
      rw [List.nil_append] at hf ho inv
      have hot' : OTL P w0 n ds ops [] (pick ops (i :: t)) [] ts A K := by
        have : VK (OTL P w0 n ds ops [] (pick ops (i :: t)) [] ts A K) := hot
        cases this; assumption
      exact draw_late2 (A0 := []) (K := K) hc hed hs hdst hQ ho (List.nil_sublist _) hot' (f + 1) [] pend listed a w (by simpa using hf) hpd trivial
        { inv with pc := PC.mono (fun w hs => hs.sub inv.sub0) _ _ inv.pc, sub0 := List.Sublist.refl _ }
    | cons x0 t0 =>
      have hmem : ∀ p ∈ pend, p.1 ∈ done ∧ listed.getD p.1 false = false := fun p hp => by
        have h1 : p.1 ∈ done := inv.sub.subset (List.mem_map.2 ⟨p, hp, rfl⟩)
        refine ⟨h1, ?_⟩
        cases h2 : listed.getD p.1 false with
        | false => rfl
        | true => exact absurd (List.mem_map.2 ⟨p, hp, rfl⟩) ((inv.mem _ (inv.lt _ h1)).1 h2).2
      rw [List.cons_append] at ho inv
      obtain ⟨hilt, hin, hpre, hap, hkd, hcr, hord⟩ := ordL_parts ho
      have hiun : listed.getD x0 false = false := by
        cases h : listed.getD x0 false with
        | false => rfl
        | true => exact absurd ((inv.mem x0 hilt).1 h).1 hin
      refine ⟨fun h0 => (ready_ex hed inv.size x0 hilt hiun h0).elim, fun x hx => ?_⟩
      obtain ⟨h1, o, hoo, h3⟩ := mem_ready.1 hx
      have hxl : x < ops.length := by simpa using (Array.getElem?_eq_some_iff.1 hoo).1
      have hxo : o = nthO ops x := Option.some.inj ((by simpa using hoo : ops[x]? = some o).symm.trans (nthO_get hxl))
      subst hxo
      rw [getD_both' (by rw [inv.size]; exact hxl)] at h1
      by_cases hxp : x ∈ pend.map (·.1)
      · obtain ⟨⟨x', v⟩, hp, rfl⟩ := List.mem_map.1 hxp
        obtain ⟨p1, p2, hpe⟩ := List.append_of_mem hp
        subst hpe
        exact late_take hc hs hdst inv hx fun listed' a' w' inv' => ih done (x0 :: t0) (p1 ++ p2) ts A listed' a' w' (by simp at hf ⊢; omega) (by rw [List.cons_append]; exact ho) (fun p hp => hpd p (by rcases List.mem_append.1 hp with h | h; exact List.mem_append_left _ h; exact List.mem_append_right _ (.tail _ h))) (by rw [List.cons_append]; exact inv') hot
      · have hxt : x ∈ x0 :: (t0 ++ i :: t) := by
          rcases inv.all x hxl with h | h
          · have := (inv.mem x hxl).2 ⟨h, hxp⟩
            rw [h1] at this; cases this
          · exact h
        rcases List.mem_cons.1 hxt with hxi | hxt
        rotate_left
        · have := dep_listed hc inv.closed hilt x hxl h3 (hcr x hxt)
          rw [hiun] at this; cases this
        · subst hxi
          have hG : Gn P w0 n ds ops false (nthO ops x) ts A fun v A' => A0.Sublist A' ∧ OTL P w0 n ds ops A0 (pick ops t0) [] (putT ts (nthO ops x).dst v) A' (fun ts A => VK (OTL P w0 n ds ops [] (pick ops (i :: t)) [] ts A K)) := by
            simp only [pick, OTL, OT, List.headD_cons, List.headD_nil] at hot
            exact hot
          refine late_step (t := t0 ++ i :: t) hc hs hdst inv hx hin hap (fun y hy => (inv.all y hy).imp id List.mem_cons.1) hG (fun v A' h => h.1) fun v A' listed' a' w' hN inv' => ?_
          exact ih (done ++ [x]) t0 pend _ A' listed' a' w' (by simp at hf ⊢; omega) hord hpd inv' hN.2
end
section
variable {P : Program} {w0 : World} {n : Nat} {r : Option Nat} {ds : List Deferred} {ts : TS} {A : List Chunk} {Q : PostT}
def lateB3 (ops : List Oper) (R T : List Nat) (i : Nat) (T2 : List Nat) (ks : List Kind) : Bool :=
  let D := (Region.before ops.toArray).toList
  certB ops D && edgeB ops && Region.noSelect ops.toArray && (List.range ops.length).all (R ++ (T ++ i :: T2)).contains && Nat.beq (R.length + (T ++ i :: T2).length) ops.length &&
  ks.all (fun k => match k with | .rd => true | _ => false) && Nat.beq ks.length R.length && ordB ops D [] R ks && ordL ops D R (T ++ i :: T2) [] && R.all (depB D i ·)
/-- Reads, writes that need not wait for them, and writes that wait for all of them. -/
theorem tr_region_late3 {id : Nat} {l : List Oper} (hm : P.follows .mixedOrders = true) (A0 : List Chunk) (hA0 : A0.Sublist A) (R T : List Nat) (i : Nat) (T2 : List Nat) (ks : List Kind) (hd : dstOk n l = true) (hb : lateB3 l R T i T2 ks = true)
    (h : OT P w0 n ds l (pick l R) ks ts A0 fun ts _ => VK (OTL P w0 n ds l A0 (pick l T) [] ts A fun ts A => VK (OTL P w0 n ds l [] (pick l (i :: T2)) [] ts A fun ts A => Q .normal ds ts A))) :
    Tr P r w0 n (.region id l.toArray true) ds ts A Q := fun m a w hh => by
  simp only [lateB3, Bool.and_eq_true] at hb
  obtain ⟨⟨⟨⟨⟨⟨⟨⟨⟨h1, h2⟩, h3⟩, h4⟩, h5⟩, h6⟩, h7⟩, h8⟩, h9⟩, h10⟩ := hb
  have hall : ∀ x, x < l.length → x ∈ R ∨ x ∈ T ++ i :: T2 := fun x hx => by
    have := List.all_eq_true.1 h4 x (List.mem_range.2 hx)
    rw [List.contains_eq_mem, decide_eq_true_eq] at this
    exact List.mem_append.1 this
  have h5 := Nat.eq_of_beq_eq_true h5
  have h7 := Nat.eq_of_beq_eq_true h7
  refine wpIn_region_any hm ?_
  have inv : DInv P w0 n ds l (Region.before l.toArray).toList (fun ts _ => VK (OTL P w0 n ds l A0 (pick l T) [] ts A fun ts A => VK (OTL P w0 n ds l [] (pick l (i :: T2)) [] ts A fun ts A => Q .normal ds ts A))) R [] R ks [] (St w0 A0) ts A0 (Array.replicate l.toArray.size false) a := {
    split := rfl
    ord := h8
    pair := .nil
    lt := fun i hi => by cases hi
    nodup := .nil
    sub := .slnil
    size := by simp
    mem := fun j hj => by simp [hj]
    closed := fun j hj h => by simp [hj] at h
    up := fun x y hx hxy => hx.grow hxy
    pc := trivial
    hd := fun x hx => hh.world hx
    ot := h }
  obtain ⟨pend, ts', ksX, inv', hl, q1, hq, hq1⟩ := draw_rds2 h3 (fun o ho => dstOk_spec hd ho) R [] ks [] ts (rds_kinds h6 h7) inv
  simp only [List.nil_append] at inv' hq
  have g1 : OTL P w0 n ds l A0 (pick l T) [] ts' A fun ts A => VK (OTL P w0 n ds l [] (pick l (i :: T2)) [] ts A fun ts A => Q .normal ds ts A) := by
    have := inv'.ot
    cases this; assumption
  have hw := hh.st.drew
  refine draw_late3 (P := P) (w0 := w0) (n := n) (ds := ds) (r := r) (mm := m) (Q := QX w0 n Q) (K := fun ts A => Q .normal ds ts A) h1 h2 h3 (fun o ho => dstOk_spec hd ho) (fun ts A a w hq hh => ⟨ds, ts, A, hq, hh⟩) _ R T pend _ A _ a _ ?_ h9
    (fun p hp => List.all_eq_true.1 h10 p.1 (hq1 p (by rw [← hq]; exact hp)))
    { pair := inv'.pair
      lt := inv'.lt
      nodup := inv'.nodup
      sub := inv'.sub
      size := inv'.size
      mem := inv'.mem
      all := fun x hx => hall x hx
      closed := inv'.closed
      pc := inv'.pc
      sub0 := hA0
      hd := (inv'.hd _ (hw.sub hA0)).world hw } g1
  simp at hl h5 ⊢
  omega
end
/-! ## Booleans compared; what append makes is a slice -/
section
variable {P : Program} {tab : TT} {w0 : World} {n : Nat} {ds : List Deferred} {ops : List Oper} {o : Oper} {os : List Oper} {ks : List Kind} {ts : TS} {A : List Chunk} {K : TS → List Chunk → Prop} {d : Tmp} {x y : Operand} {t u : TypeId} {i i' : TI} {b off : Nat}
theorem ot_eqb {p q : Bool} (hT : P.underlying t = some .bool) (hop : o.op = .binOp .eql t x y u) (hd : o.dst = some d) (hw : wantB ops ts o = some true) (hx : evT ts x = some (.bool p)) (hy : evT ts y = some (.bool q))
    (hk : OT P w0 n ds ops os ks.tail ((d, .bool (p == q)) :: ts) A K) : OT P w0 n ds ops (o :: os) ks ts A K :=
  ot_val _ hd hw (fun a w hd' => by
    have e1 : (eqGuard .eql t x y (.bool p) (.bool q)).run P w = .ok () w := by simp [eqGuard, Sem.run_bind]
    have e2 : (binOp .eql t (.bool p) (.bool q)).run P w = .ok (.bool (p == q)) w := by simp [binOp, run_equal_bool w t p q hT]
    simp only [execOp, hop, hd'.ev hx, hd'.ev hy, Sem.run_bind, e1, e2, Result.andThen_ok, Sem.run_pure]) hk
theorem ot_appendS {e sz m c : Nat} {v : Value} {xs news : List Value} {sl : Nat} {A'v : Value → List Chunk} (hT : TabOk P tab) (hh : ks.headD .wr = .wr) (hop : o.op = .call { callee := .builtin .append, args := #[x, y], argTypes := #[t, t] }) (hd : o.dst = some d) (hw : wantB ops ts o = some true)
    (hx : evT ts x = some v) (hy : evT ts y = some (.slice (some ⟨b, off, none⟩) m c)) (hi : lookI tab t = some i) (hl : i.d = .sl e) (hi' : lookI tab e = some i') (hsz : i'.size = sz) (h0 : 0 < sz) (hz : i'.zero.length = sz)
    (hc : CellsAt w0 A b off news) (hnl : news.length = m * sz) (h1B : news.all Value.oneCell' = true) (hu : ∀ v', Upd (.own v e sz sl xs) (.own v' e sz (sl + m) (xs ++ news)) A (A'v v')) (h63 : sl + m ≤ 1000000) (hby : i'.bytes ≤ 100000)
    (hk : ∀ B cp, OT P w0 n ds ops os ks.tail ((d, .slice B (sl + m) cp) :: ts) (A'v (.slice B (sl + m) cp)) K) : OT P w0 n ds ops (o :: os) ks ts A K := by
  have h1 : ∀ u ∈ news, u.oneCell' = true := by simpa using h1B
  refine ot_wr hh fun a w hd' => ?_
  unfold wpV
  rw [if_pos (wantB_spec hd' hw), exec_builtin hop, BigFrame.builtin_append]
  obtain ⟨j, z, hj, j1, j2, j3, j4⟩ := (hT e i' hi').info
  have hown := hd'.st.all _ (hu v).mem
  have hmm : (sl + m) * i'.bytes ≤ 1000000 * 100000 := Nat.mul_le_mul h63 hby
  obtain ⟨v', w', hr, h2, h3, h4⟩ := run_append_own (P := P) w w0.heap.size t o.type e j z sz i'.bytes ((hT t i hi).sl hl) hj j3 (by rw [j1, hsz]) j2 (by rw [← hz, ← j4]; simp) h0 v sl xs hown ⟨b, off, none⟩ m c news hnl
    (fun q u hq => by rw [Addr.add_none]; exact hc w hd'.st q u hq) h1 (by unfold maxLen; omega) (by omega) hd'.st.base.size
  simp only [List.map_toArray, List.map_cons, List.map_nil, hd'.ev hx, hd'.ev hy, Sem.run_bind, hr, Result.andThen_ok, Sem.run_pure]
  obtain ⟨B, cp, e1, _⟩ := own_form h2
  refine ⟨A'v v', (fun e => by cases e), hd'.st.upd (hu v') rfl h3 h2 (append_block (P := P) ((hT t i hi).sl hl) hj j3 (by rw [j1, hsz]) hown hnl (fun q u hq => by rw [Addr.add_none]; exact hc w hd'.st q u hq) h1 (by unfold maxLen; omega) (by rw [j2]; omega) hr), ?_⟩
  rw [hd]
  subst e1
  exact hk B cp
end
end Go.Proofs.Ytkbcogaodnmdoaa
