/- Calls, regions, code: lemmas for the rows of this seat. No conditions. -/
import Derived.Test.YtiodmphhjgkgjaaGreatZF
set_option linter.all false
namespace Go.Proofs.YtiodmphhjgkgjaaGreat
open Go.RowKit
/-! ## Calls, regions, code -/
def CallR (w0 : World) (ρ : Env) (s : Hp) (v : AV) (s' : Hp) : Ending → World → Prop := fun e w' => ∃ ρ', ρ.le ρ' ∧ (∀ n, n < s.nx ∨ s'.nx ≤ n → ρ'.blk n = ρ.blk n) ∧ e = .returned (cv ρ' v) ∧ Dm ρ' v ∧ ZS w0 ρ' s'.gt w'
structure CallOK (P : Program) (cl : Nat → List AV → HM AV) : Prop where
  lm : ∀ f vs, LM (cl f vs)
  ok : ∀ {f vs s v s'}, cl f vs s = .ok v s' → ∀ {ρ w w0}, (∀ n, s.nx ≤ n → n < s'.nx → ρ.blk n = none) → DmL ρ vs → ZS w0 ρ s.gt w → hasBody P f = true ∧ Calls P f (cvL ρ vs).toArray w (CallR w0 ρ s v s')
structure YieldOK (P : Program) (yl : Nat → List AV → HM AV) : Prop where
  lm : ∀ n vs, LM (yl n vs)
  ok : ∀ {n vs s v s'}, yl n vs s = .ok v s' → ∀ {ρ w w0}, (∀ n, s.nx ≤ n → n < s'.nx → ρ.blk n = none) → DmL ρ vs → ZS w0 ρ s.gt w → Ends P w0 ρ s v s' ((Instr.yield ((ρ.blk n).getD (0, 0)).1 (cvL ρ vs).toArray).run P w)
noncomputable def zCallV (cl yl : Nat → List AV → HM AV) (x : Operand) (xs : Array Operand) (ts : TL) : HM AV := hO (evO ts x) fun v => hO (zvL ts xs.toList) fun as => match v with
  | .f g us vs => cl g (us ++ as ++ vs)
  | .y n => yl n as
  | _ => hn
section
variable {P : Program} {tab : TT} {o : Oper}
theorem ops_callV {cl yl : Nat → List AV → HM AV} (hc : CallOK P cl) (hy : YieldOK P yl) {x : Operand} {xs : Array Operand} {ats : Array TypeId} (hop : o.op = .call { callee := .value x, args := xs, argTypes := ats }) : OpS P o (zCallV cl yl x xs) where
  lm := fun ts => by
    unfold zCallV
    have h1 := hc.lm
    have h2 := hy.lm
    (repeat (first | exact hc.lm _ _ | exact hy.lm _ _ | exact LM.fail | refine LM.opt fun _ => ?_ | split))
  ok := fun {ts s r s'} h ρ a w w0 hf hs hz => by
    obtain ⟨v, hv, h1⟩ := hO_ok h
    obtain ⟨as, has, h2⟩ := hO_ok h1
    obtain ⟨p1, p2⟩ := evO_spec hs hv
    obtain ⟨p3, p4⟩ := zvL_spec hs has
    have hxs : xs.map a.eval = (cvL ρ as).toArray := by apply Array.ext'; simp [p3]
    clear h h1 hv has
    split at h2 <;> first | (cases h2; done) | skip
    · rename_i g us vs
      simp only [Dm] at p2
      have hd : DmL ρ (us ++ as ++ vs) := (DmL_iff ρ _).2 fun x hx => by
        rcases List.mem_append.1 hx with hx | hx
        · rcases List.mem_append.1 hx with hx | hx
          · exact (DmL_iff ρ _).1 p2.1 x hx
          · exact (DmL_iff ρ _).1 p4 x hx
        · exact (DmL_iff ρ _).1 p2.2 x hx
      obtain ⟨c1, c2⟩ := hc.ok h2 hf hd hz
      have hrun : (execOp a.eval o).run P w = .ok (.enter g (cvL ρ (us ++ as ++ vs)).toArray) w := by
        simp only [cv] at p1
        simp only [execOp, hop, resolve, p1, hxs, Deferred.ofValue]
        simp only [Sem.run_bind, Sem.run_pure, Result.andThen_ok, invoke]
        rw [callFunc_run c1]
        congr 2
        apply Array.ext'
        simp [cvL_eq]
      rw [hrun]
      exact Calls.mono c2 fun e w' ⟨ρ', d1, d2, d3, d4, d5⟩ => by subst d3; exact ⟨ρ', d1, d2, rfl, d4, d5⟩
    · rename_i n
      have hrun : (execOp a.eval o).run P w = (Instr.yield ((ρ.blk n).getD (0, 0)).1 (cvL ρ as).toArray).run P w := by
        simp only [cv] at p1
        simp only [execOp, hop, resolve, p1, hxs, Deferred.ofValue]
        simp [Sem.run_bind, invoke]
      rw [hrun]
      exact hy.ok h2 hf p4 hz
end
/-- What the evaluator is given. -/
structure Cx where
  P : Program
  tab : TT
  fk : Nat → Option (List CK)
  kf : Nat → Option KD
  ft : Nat → Option (Func × Nat)
  ov : Nat → Option OV
noncomputable def isInt (tab : TT) (u : Nat) : Bool := match lookI tab u with
  | some j => match j.d with
    | .int _ => true
    | _ => false
  | none => false
theorem OpS.ite {P : Program} {o : Oper} {b : Bool} {x y : TL → HM AV} (hx : OpS P o x) (hy : OpS P o y) : OpS P o (fun ts => hI b (x ts) (y ts)) := by cases b <;> assumption
noncomputable def zBu (X : Cx) (b : Builtin) (xs : Array Operand) (ats : Array TypeId) (ts : TL) : HM AV := match b with
  | .len => match xs, ats with
    | ⟨[x]⟩, ⟨[t]⟩ => zLen X.P X.tab t x ts
    | _, _ => hn
  | .cap => match xs, ats with
    | ⟨[x]⟩, ⟨[t]⟩ => zCap X.tab t x ts
    | _, _ => hn
  | .append => match xs, ats with
    | ⟨[x, y]⟩, ⟨[t, u]⟩ => hI (isInt X.tab u) (zAppM X.tab t u x y ts) (zAppend X.tab t u x y ts)
    | _, _ => hn
  | .copy => match xs, ats with
    | ⟨[x, y]⟩, ⟨[t, _]⟩ => zCopy X.tab t x y ts
    | _, _ => hn
  | .clear => match xs, ats with
    | ⟨[x]⟩, ⟨[t]⟩ => zClear X.tab t x ts
    | _, _ => hn
  | .delete => match xs, ats with
    | ⟨[x, y]⟩, ⟨[t, _]⟩ => zDel X.tab X.kf t x y ts
    | _, _ => hn
  | .max => zMx true xs ts
  | .min => zMx false xs ts
  | _ => hn
noncomputable def zCa (X : Cx) (cl yl : Nat → List AV → HM AV) (c : Call) (ts : TL) : HM AV := match c.callee with
  | .value f => zCallV cl yl f c.args ts
  | .builtin b => zBu X b c.args c.argTypes ts
  | .invoke _ _ => hn
noncomputable def zop (X : Cx) (cl yl : Nat → List AV → HM AV) (o : Op) (ts : TL) : HM AV := Op.rec (motive := fun _ => Cx → (Nat → List AV → HM AV) → (Nat → List AV → HM AV) → TL → HM AV)
  (fun x X cl yl ts => zMove x ts)
  (fun x X cl yl ts => zMove x ts)
  (fun c x y X cl yl ts => zPick c x y ts)
  (fun t X cl yl ts => zAlloc X.tab t)
  (fun t x X cl yl ts => zBox t x ts)
  (fun t ps X cl yl ts => zBuild X.tab t ps ts)
  (fun t n ps X cl yl ts => zBuildS X.tab t n ps ts)
  (fun t x y z X cl yl ts => zUpd X.tab X.kf t x y z ts)
  (fun t x X cl yl ts => zLd X.tab t x ts)
  (fun t x y X cl yl ts => zSt X.tab t x y ts)
  (fun _ _ _ _ _ => hn)
  (fun _ _ _ _ _ => hn)
  (fun x X cl yl ts => zNilCheck x ts)
  (fun op t x y _ X cl yl ts => zBinO X.P X.tab X.fk op t x y ts)
  (fun op _ x X cl yl ts => zUn op x ts)
  (fun t u x X cl yl ts => zConv X.tab t u x ts)
  (fun _ _ _ _ _ _ => hn)
  (fun _ _ _ _ _ _ => hn)
  (fun f xs ys X cl yl ts => zMkFunc f xs ys ts)
  (fun t r X cl yl ts => zMkMap X.tab X.kf t r)
  (fun _ _ _ _ _ _ => hn)
  (fun t x y X cl yl ts => zMkSlice X.tab t x y ts)
  (fun t x l h m X cl yl ts => zSlice X.tab t x l h m ts)
  (fun t x f X cl yl ts => zFA X.tab t x f ts)
  (fun t x f X cl yl ts => zFld X.tab t x f ts)
  (fun t x y X cl yl ts => zIA X.tab t x y ts)
  (fun t x y X cl yl ts => hI (isStr X.P t) (zIxS X.P t x y ts) (zIx X.tab t x y ts))
  (fun t x y c X cl yl ts => zLook X.P X.tab X.kf t x y c ts)
  (fun t x y z X cl yl ts => zUpd X.tab X.kf t x y z ts)
  (fun t x y X cl yl ts => zEnt X.P X.tab X.kf t x y ts)
  (fun t x y z X cl yl ts => zEst X.tab X.kf t x y z ts)
  (fun _ _ _ _ _ _ => hn)
  (fun _ _ _ _ _ _ => hn)
  (fun _ _ _ _ _ => hn)
  (fun _ _ _ _ _ _ _ _ => hn)
  (fun x i X cl yl ts => zExtract x i ts)
  (fun c X cl yl ts => zCa X cl yl c ts)
  (fun _ _ _ _ _ => hn)
  (fun _ _ _ _ _ => hn)
  (fun _ _ _ _ _ => hn)
  (fun _ _ _ _ _ _ => hn)
  (fun _ _ _ _ _ _ _ => hn)
  (fun _ _ _ _ _ _ => hn)
  o X cl yl ts
/-- What is given is right. -/
structure CxOK (X : Cx) : Prop where
  tab : TabOk X.P X.tab
  fk : ∀ t ks, X.fk t = some ks → FlatKey X.P t ks
  kf : ∀ kt kd, X.kf kt = some kd → ∀ ρ, KeyEnc X.P kt (enK ρ kd)
  ft : ∀ f fn k, X.ft f = some (fn, k) → X.P.funcs[f]? = some fn ∧ hasBody X.P f = true
  mixed : X.P.follows .mixedOrders = true
theorem ops_no {P : Program} {o : Oper} : OpS P o (fun _ => hn) where
  lm := fun _ => LM.fail
  ok := fun h => by cases h
theorem zBu_ok {X : Cx} (hX : CxOK X) {o : Oper} {b : Builtin} {xs : Array Operand} {ats : Array TypeId} (hop : o.op = .call { callee := .builtin b, args := xs, argTypes := ats }) : OpS X.P o (zBu X b xs ats) := by
  cases b <;> first | exact ops_no | exact ops_max hop | exact ops_min hop | skip
  all_goals
    obtain ⟨xs⟩ := xs
    obtain ⟨ats⟩ := ats
    rcases xs with _ | ⟨x, _ | ⟨y, _ | ⟨z, xs⟩⟩⟩ <;> rcases ats with _ | ⟨t, _ | ⟨u, _ | ⟨v, ats⟩⟩⟩ <;> first | exact ops_no | exact ops_len hX.tab hop | exact ops_cap hX.tab hop | exact OpS.ite (ops_appM hX.tab hop) (ops_append hX.tab hop) | exact ops_copy hX.tab hop | exact ops_clear hX.tab hop | exact ops_del hX.tab hX.kf hop
theorem zop_ok {X : Cx} (hX : CxOK X) {cl yl : Nat → List AV → HM AV} (hc : CallOK X.P cl) (hy : YieldOK X.P yl) (o : Oper) : OpS X.P o (zop X cl yl o.op) := by
  cases hop : o.op with
  | move x => exact ops_move hop
  | assign x => exact ops_assign hop
  | pick c x y => exact ops_pick hop
  | alloc t => exact ops_alloc hX.tab hop
  | box t x => exact ops_box hop
  | build t ps => exact ops_build hX.tab hop
  | buildSlice t n ps => exact ops_buildS hX.tab hop
  | insert t x y z => exact ops_upd hX.tab hX.kf (.inr hop)
  | load t x => exact ops_load hX.tab hop
  | store t x y => exact ops_store hX.tab hop
  | nilCheck x => exact ops_nilCheck hop
  | binOp op t x y u => exact ops_bin hX.fk hop
  | unOp op t x => exact ops_un hop
  | convert t u x => exact ops_conv hX.tab hop
  | makeFunc f xs ys => exact ops_mkFunc hop
  | makeMap t r => exact ops_mkMap hop
  | makeSlice t x y => exact ops_mkSlice hX.tab hop
  | slice t x l h m => exact ops_slice hX.tab hop
  | fieldAddr t x f => exact ops_fa hX.tab hop
  | field t x f => exact ops_fld hX.tab hop
  | indexAddr t x y => exact ops_ia hX.tab hop
  | index t x y => exact OpS.ite (ops_ixS hop) (ops_ix hX.tab hop)
  | lookup t x y c => exact ops_look hX.tab hX.kf hop
  | mapUpdate t x y z => exact ops_upd hX.tab hX.kf (.inl hop)
  | mapEntry t x y => exact ops_ent hX.tab hX.kf hop
  | entryStore t x y z => exact ops_est hX.tab hX.kf hop
  | extract x i => exact ops_extract hop
  | call c =>
    obtain ⟨callee, xs, ats⟩ := c
    cases callee with
    | value f => exact ops_callV hc hy hop
    | invoke r m => exact ops_no
    | builtin b => exact zBu_ok hX hop
  | _ => exact ops_no
/-! ## Operations, handed on -/
noncomputable def zopK (o : Op) : Cx → (Nat → List AV → HM AV) → (Nat → List AV → HM AV) → TL → Hp → (AV → Hp → RT) → RT := Op.rec (motive := fun _ => Cx → (Nat → List AV → HM AV) → (Nat → List AV → HM AV) → TL → Hp → (AV → Hp → RT) → RT)
  (fun x _ _ _ ts s k => opK x ts (fun v => k v s))
  (fun x _ _ _ ts s k => opK x ts (fun v => k v s))
  (fun c x y X cl yl ts s k => rzK k (zPick c x y ts s))
  (fun t X cl yl ts s k => alK X.tab t s k)
  (fun t x X cl yl ts s k => rzK k (zBox t x ts s))
  (fun t ps X cl yl ts s k => rzK k (zBuild X.tab t ps ts s))
  (fun t n ps X cl yl ts s k => rzK k (zBuildS X.tab t n ps ts s))
  (fun t x y z X cl yl ts s k => rzK k (zUpd X.tab X.kf t x y z ts s))
  (fun t x X cl yl ts s k => opK x ts (fun v => ldK X.tab t v s k))
  (fun t x y X cl yl ts s k => opK x ts (fun v => opK y ts (fun u => stK X.tab t v u s k)))
  (fun _ _ _ _ _ _ _ => .no)
  (fun _ _ _ _ _ _ _ => .no)
  (fun x _ _ _ ts s k => opK x ts (fun v => avN v (fun u => k u s)))
  (fun op t x y _ X cl yl ts s k => opK x ts (fun v => opK y ts (fun u => biK X.P X.tab X.fk op t v u s k)))
  (fun op _ x X cl yl ts s k => rzK k (zUn op x ts s))
  (fun t u x X cl yl ts s k => rzK k (zConv X.tab t u x ts s))
  (fun _ _ _ _ _ _ _ _ => .no)
  (fun _ _ _ _ _ _ _ _ => .no)
  (fun f xs ys X cl yl ts s k => rzK k (zMkFunc f xs ys ts s))
  (fun t r X cl yl ts s k => rzK k (zMkMap X.tab X.kf t r s))
  (fun _ _ _ _ _ _ _ _ => .no)
  (fun t x y X cl yl ts s k => rzK k (zMkSlice X.tab t x y ts s))
  (fun t x l h m X cl yl ts s k => rzK k (zSlice X.tab t x l h m ts s))
  (fun t x f X cl yl ts s k => opK x ts (fun v => faK X.tab t f v s k))
  (fun t x f X cl yl ts s k => rzK k (zFld X.tab t x f ts s))
  (fun t x y X cl yl ts s k => opK x ts (fun v => opK y ts (fun u => iaK X.tab t v u s k)))
  (fun t x y X cl yl ts s k => rzK k (hI (isStr X.P t) (zIxS X.P t x y ts) (zIx X.tab t x y ts) s))
  (fun t x y c X cl yl ts s k => opK x ts (fun v => opK y ts (fun u => lookK X.P X.tab X.kf t c v u s k)))
  (fun t x y z X cl yl ts s k => rzK k (zUpd X.tab X.kf t x y z ts s))
  (fun t x y X cl yl ts s k => rzK k (zEnt X.P X.tab X.kf t x y ts s))
  (fun t x y z X cl yl ts s k => rzK k (zEst X.tab X.kf t x y z ts s))
  (fun _ _ _ _ _ _ _ _ => .no)
  (fun _ _ _ _ _ _ _ _ => .no)
  (fun _ _ _ _ _ _ _ => .no)
  (fun _ _ _ _ _ _ _ _ _ _ => .no)
  (fun x i X cl yl ts s k => opK x ts (fun v => exK i v s k))
  (fun c X cl yl ts s k => rzK k (zCa X cl yl c ts s))
  (fun _ _ _ _ _ _ _ => .no)
  (fun _ _ _ _ _ _ _ => .no)
  (fun _ _ _ _ _ _ _ => .no)
  (fun _ _ _ _ _ _ _ _ => .no)
  (fun _ _ _ _ _ _ _ _ _ => .no)
  (fun _ _ _ _ _ _ _ _ => .no)
  o
theorem zopK_eq (X : Cx) (cl yl : Nat → List AV → HM AV) (o : Op) (ts : TL) (s : Hp) (k : AV → Hp → RT) : zopK o X cl yl ts s k = rzK k (zop X cl yl o ts s) := by
  cases o <;> first | rfl | exact mvK_eq _ ts s k | exact alK_eq _ _ s k | skip
  · rename_i t x; exact (congrArg (opK x ts) (funext fun v => ldK_eq _ t v s k)).trans (by show _ = rzK k (zLd X.tab t x ts s); unfold zLd; rw [rzK_op])
  · exact stK_eq _ _ _ _ ts s k
  · exact nilK_eq _ ts s k
  · exact biK_eq _ _ _ _ _ _ _ ts s k
  · exact faK_eq _ _ _ _ ts s k
  · exact iaK_eq _ _ _ _ ts s k
  · exact lookK_eq _ _ _ _ _ _ _ ts s k
  · exact exK_eq _ _ ts s k
/-! ## Regions -/
noncomputable def TL.rp (t : Nat) (v : AV) (l : TL) : (TL → TL) → TL → TL := TL.rec (motive := fun _ => (TL → TL) → TL → TL) (fun _ ka => ka) (fun u x r ih kp ka => Bool.rec (motive := fun _ => TL) (ih (fun r' => kp (.cons u x r')) ka) (kp (.cons t v r)) (Nat.beq t u)) l
/-- A slot is set in its place, or laid ahead. -/
noncomputable def TL.put (t : Nat) (v : AV) (l : TL) : TL := TL.rp t v l (fun r => r) (.cons t v l)
theorem TL.rp_look (t : Nat) (v : AV) : ∀ (l l0 : TL) (kp : TL → TL) (ka : TL), (∀ r u, (u = t → r.look u = some v) → (u ≠ t → r.look u = l.look u) → (u = t → (kp r).look u = some v) ∧ (u ≠ t → (kp r).look u = l0.look u)) →
    (∀ u, (u = t → ka.look u = some v) ∧ (u ≠ t → ka.look u = l0.look u)) → ∀ u, (u = t → (TL.rp t v l kp ka).look u = some v) ∧ (u ≠ t → (TL.rp t v l kp ka).look u = l0.look u)
  | .nil, l0, kp, ka, hk, ha, u => ha u
  | .cons x y r, l0, kp, ka, hk, ha, u => by
    show (u = t → (Bool.rec (motive := fun _ => TL) (TL.rp t v r (fun r' => kp (.cons x y r')) ka) (kp (.cons t v r)) (Nat.beq t x)).look u = some v) ∧ (u ≠ t → (Bool.rec (motive := fun _ => TL) (TL.rp t v r (fun r' => kp (.cons x y r')) ka) (kp (.cons t v r)) (Nat.beq t x)).look u = l0.look u)
    by_cases h : t = x
    · subst h
      rw [Nat.beq_refl]
      refine hk (.cons t v r) u (fun e => ?_) (fun e => ?_)
      · rw [TL.look_cons, if_pos e.symm]
      · rw [TL.look_cons, TL.look_cons, if_neg (fun h => e h.symm), if_neg (fun h => e h.symm)]
    · rw [beq_ff h]
      refine TL.rp_look t v r l0 (fun r' => kp (.cons x y r')) ka (fun r' u h1 h2 => hk (.cons x y r') u (fun e => ?_) (fun e => ?_)) ha u
      · subst e; rw [TL.look_cons, if_neg (fun e => h e.symm)]; exact h1 rfl
      · rw [TL.look_cons, TL.look_cons]
        by_cases hx : x = u
        · rw [if_pos hx, if_pos hx]
        · rw [if_neg hx, if_neg hx]; exact h2 e
theorem TL.look_put (t : Nat) (v : AV) (l : TL) (u : Nat) : (l.put t v).look u = if t = u then some v else l.look u := by
  have h := TL.rp_look t v l l (fun r => r) (.cons t v l) (fun r u h1 h2 => ⟨h1, h2⟩) (fun u => ⟨fun e => by rw [TL.look_cons, if_pos e.symm], fun e => by rw [TL.look_cons, if_neg fun h => e h.symm]⟩) u
  by_cases e : t = u
  · rw [if_pos e]; exact h.1 e.symm
  · rw [if_neg e]; exact h.2 fun h => e h.symm
def zputL (ts : TL) (d : Option Tmp) (v : AV) : TL := match d with
  | some d => .cons d v ts
  | none => ts
def zGv (want : Bool) (v : Option AV) : Option Bool := match v with
  | none => none
  | some v => match v with
    | .b x => some (x == want)
    | _ => some false
noncomputable def zG (ops : List Oper) (o : Oper) (ts : TL) : Option Bool := match o.guard with
  | none => some true
  | some (j, want) => match nthL ops j with
    | none => none
    | some oj => match oj.dst with
      | none => none
      | some d => zGv want (ts.look d)
noncomputable def zOne (X : Cx) (cl yl : Nat → List AV → HM AV) (ops : List Oper) (o : Oper) (ts : TL) : HM AV := hO (zG ops o ts) fun b => hI b (zop X cl yl o.op ts) (hp (.t []))
noncomputable def zregL (X : Cx) (cl yl : Nat → List AV → HM AV) (ops : List Oper) : List Oper → TL → HM TL
  | [], ts => hp ts
  | o :: os, ts => hb (zOne X cl yl ops o ts) fun v => zregL X cl yl ops os (zputL ts o.dst v)
/-- What other regions look at is laid into the frame. -/
noncomputable def keptL (k : Nat → Bool) (l : List Oper) : List Nat := List.rec (motive := fun _ => List Nat) [] (fun o _ ih => Option.rec (motive := fun _ => List Nat) ih (fun d => Bool.rec (motive := fun _ => List Nat) ih (d :: ih) (k d)) o.dst) l
noncomputable def zComK (ts1 : TL) (ks : List Nat) : TL → Option TL := List.rec (motive := fun _ => TL → Option TL) (fun ts => some ts) (fun d _ ih ts => Option.rec (motive := fun _ => Option TL) none (fun v => ih (ts.put d v)) (ts1.look d)) ks
noncomputable def zCom (k : Nat → Bool) (ts1 : TL) (l : List Oper) (ts : TL) : Option TL := zComK ts1 (keptL k l) ts
def Kin (k : Nat → Bool) (ts : TL) : Prop := ∀ t v, ts.look t = some v → k t = true
section
variable {X : Cx} {cl yl : Nat → List AV → HM AV} {ops : List Oper}
theorem zG_spec {o : Oper} {ts : TL} {b : Bool} {ρ : Env} {a : Act} (hs : Sl ρ ts a) (h : zG ops o ts = some b) : Region.wanted o (yielded ops.toArray a.tmps) = b := by
  unfold zG at h
  unfold Region.wanted
  cases hg : o.guard with
  | none => rw [hg] at h; injection h
  | some p =>
    obtain ⟨j, want⟩ := p
    rw [hg] at h
    simp only at h ⊢
    rw [nthL_eq] at h
    cases hj : ops[j]? with
    | none => rw [hj] at h; cases h
    | some oj =>
      rw [hj] at h
      simp only at h
      cases hd : oj.dst with
      | none => rw [hd] at h; cases h
      | some d =>
        rw [hd] at h
        simp only at h
        cases hl : ts.look d with
        | none => rw [hl] at h; cases h
        | some v =>
          rw [hl] at h
          obtain ⟨h1, _⟩ := hs d v hl
          cases v <;> (simp only [zGv] at h; injection h with h; subst h; simp [yielded, hj, hd, h1, cv])
theorem zOne_lm (hX : CxOK X) (hc : CallOK X.P cl) (hy : YieldOK X.P yl) (o : Oper) (ts : TL) : LM (zOne X cl yl ops o ts) := by
  unfold zOne
  exact LM.opt fun _ => LM.ite ((zop_ok hX hc hy o).lm ts) (LM.pure _)
def OneR (w0 : World) (ρ : Env) (s : Hp) (v : AV) (s' : Hp) : Value → World → Prop := fun v' w' => ∃ ρ', ρ.le ρ' ∧ (∀ n, n < s.nx ∨ s'.nx ≤ n → ρ'.blk n = ρ.blk n) ∧ v' = cv ρ' v ∧ Dm ρ' v ∧ ZS w0 ρ' s'.gt w'
theorem zOne_ok (hX : CxOK X) (hc : CallOK X.P cl) (hy : YieldOK X.P yl) {o : Oper} {ts : TL} {s s' : Hp} {v : AV} (h : zOne X cl yl ops o ts s = .ok v s') {ρ : Env} {a : Act} {w w0 : World} (hf : ∀ n, s.nx ≤ n → n < s'.nx → ρ.blk n = none) (hs : Sl ρ ts a) (hz : ZS w0 ρ s.gt w) : wpV X.P ops o (OneR w0 ρ s v s') a w := by
  obtain ⟨b, hb, h1⟩ := hO_ok h
  unfold wpV
  rw [zG_spec hs hb]
  cases b with
  | true =>
    rw [hI_t] at h1
    rw [if_pos rfl]
    exact (zop_ok hX hc hy o).ok h1 hf hs hz
  | false =>
    rw [hI_f] at h1
    obtain ⟨rfl, rfl⟩ := hp_ok h1
    simp only [Bool.false_eq_true, if_false]
    exact ⟨ρ, Env.le.refl ρ, fun _ _ => rfl, by simp [cv, cvL, undef], by simp [Dm, DmL], hz⟩
theorem Sl.put {ρ : Env} {ts : TL} {a : Act} (h : Sl ρ ts a) {d : Option Tmp} (hd : ∀ t, d = some t → t < a.tmps.size) {v : AV} (hv : Dm ρ v) : Sl ρ (zputL ts d v) (a.put d (cv ρ v)) := by
  cases d with
  | none => exact h
  | some d =>
    intro t u hu
    simp only [zputL, TL.look_cons] at hu
    split at hu
    · rename_i he; subst he
      injection hu with hu; subst hu
      exact ⟨by simp [Act.put, hd d rfl], hv⟩
    · rename_i hne
      obtain ⟨h1, h2⟩ := h t u hu
      exact ⟨by simp only [Act.put]; rw [Array.getElem?_setIfInBounds_ne hne]; exact h1, h2⟩
theorem zregL_lm (hX : CxOK X) (hc : CallOK X.P cl) (hy : YieldOK X.P yl) : ∀ (l : List Oper) (ts : TL), LM (zregL X cl yl ops l ts)
  | [], ts => LM.pure _
  | o :: os, ts => LM.bind (zOne_lm hX hc hy o ts) fun v => zregL_lm hX hc hy os _
theorem zregL_ok (hX : CxOK X) (hc : CallOK X.P cl) (hy : YieldOK X.P yl) {n : Nat} {r : Option Nat} {m : Nat} {Q : Exit → Act → World → Prop} {w0 : World} : ∀ (l : List Oper), (∀ o ∈ l, (∀ d, o.dst = some d → d < n) ∧ ∀ c, o.op ≠ .defer c) → ∀ (ts : TL) (s : Hp) (ts1 : TL) (s' : Hp), zregL X cl yl ops l ts s = .ok ts1 s' →
    ∀ (ρ : Env) (a : Act) (w : World), s.nx ≤ s'.nx → (∀ n, s.nx ≤ n → n < s'.nx → ρ.blk n = none) → a.tmps.size = n → Sl ρ ts a → ZS w0 ρ s.gt w → s.ba ≤ s.nx →
    (∀ ρ' a' w', ρ.le ρ' → (∀ n, n < s.nx ∨ s'.nx ≤ n → ρ'.blk n = ρ.blk n) → a'.tmps.size = n → a'.defers = a.defers → Sl ρ' ts1 a' → ZS w0 ρ' s'.gt w' → Q .normal a' w') → wpListIn (fw r) m X.P ops.toArray Q l a w := by
  intro l
  induction l with
  | nil =>
    intro _ ts s ts1 s' h ρ a w _ hf hn hs hz _ hQ
    obtain ⟨rfl, rfl⟩ := hp_ok h
    exact hQ ρ a w (Env.le.refl ρ) (fun _ _ => rfl) hn rfl hs hz
  | cons o os ih =>
    intro hl ts s ts1 s' h ρ a w hnx hf hn hs hz hba hQ
    obtain ⟨v, s1, h1, h2⟩ := hb_ok h
    obtain ⟨_, _, d1⟩ := zOne_lm hX hc hy o ts s v s1 h1 hba
    have hba1 : s1.ba ≤ s1.nx := by rw [d1.ba]; exact Nat.le_trans hba d1.nx
    obtain ⟨_, _, d2⟩ := zregL_lm hX hc hy os _ s1 ts1 s' h2 hba1
    have n1 := d1.nx
    have n2 := d2.nx
    obtain ⟨l1, l2⟩ := hl o (.head _)
    refine wpV_list l2 (zOne_ok hX hc hy h1 (fun n a b => hf n a (by omega)) hs hz) fun v' w' ⟨ρ', q1, q2, q3, q4, q5⟩ => ?_
    subst q3
    refine ih (fun o ho => hl o (.tail _ ho)) _ s1 ts1 s' h2 ρ' _ w' n2 (fun n a b => by rw [q2 n (.inr a)]; exact hf n (by omega) b) (by cases o.dst <;> simp [Act.put, hn]) ((hs.mono q1).put (fun t ht => by rw [hn]; exact l1 t ht) q4) q5 hba1 ?_
    intro ρ2 a2 w2 e1 e2 e3 e4 e5 e6
    refine hQ ρ2 a2 w2 (q1.trans e1) (fun n hn => ?_) e3 (e4.trans (by cases o.dst <;> rfl)) e5 e6
    rw [e2 n (by omega), q2 n (by omega)]
end
/-! ### the same, handed on -/
noncomputable def zrO (X : Cx) (cl yl : Nat → List AV → HM AV) (ops : List Oper) (ih : TL → HM TL) (o : Oper) : TL → HM TL := Oper.rec (motive := fun _ => TL → HM TL) (fun dst op _ _ _ guard ts s => Option.rec (motive := fun _ => RT) (zopK op X cl yl ts s (fun v => ih (Option.rec (motive := fun _ => TL) ts (fun d => .cons d v ts) dst))) (fun _ => rzK (fun v => ih (zputL ts o.dst v)) (zOne X cl yl ops o ts s)) guard) o
noncomputable def zrK (X : Cx) (cl yl : Nat → List AV → HM AV) (ops : List Oper) (l : List Oper) : TL → HM TL := List.rec (motive := fun _ => TL → HM TL) (fun ts s => .ok ts s) (fun o _ ih => zrO X cl yl ops ih o) l
theorem zrK_eq (X : Cx) (cl yl : Nat → List AV → HM AV) (ops : List Oper) : ∀ (l : List Oper) (ts : TL), zrK X cl yl ops l ts = zregL X cl yl ops l ts
  | [], ts => rfl
  | o :: os, ts => by
    funext s
    show zrO X cl yl ops (zrK X cl yl ops os) o ts s = hb (zOne X cl yl ops o ts) (fun v => zregL X cl yl ops os (zputL ts o.dst v)) s
    have hih : zrK X cl yl ops os = zregL X cl yl ops os := funext (zrK_eq X cl yl ops os)
    rw [hb_rzK, hih]
    obtain ⟨dst, op, type, pos, after, guard⟩ := o
    cases guard with
    | some p => rfl
    | none =>
      show zopK op X cl yl ts s _ = _
      rw [zopK_eq]
      show _ = rzK _ (zop X cl yl op ts s)
      congr 1
      funext v
      cases dst <;> rfl
noncomputable def zcmK (ks : List Nat) : TL → TL → Hp → RT := List.rec (motive := fun _ => TL → TL → Hp → RT) (fun _ ts s => .ok ts s) (fun d _ ih ts1 ts s => ts1.lkK d (fun v => ih ts1 (ts.put d v) s)) ks
theorem zcmK_eq (ts1 : TL) (s : Hp) : ∀ (ks : List Nat) (ts : TL), zcmK ks ts1 ts s = hO (zComK ts1 ks ts) hp s
  | [], ts => rfl
  | d :: ks, ts => by
    show ts1.lkK d (fun v => zcmK ks ts1 (ts.put d v) s) = hO (Option.rec (motive := fun _ => Option TL) none (fun v => zComK ts1 ks (ts.put d v)) (ts1.look d)) hp s
    rw [TL.lkK_eq]
    cases ts1.look d with
    | none => rfl
    | some v => exact zcmK_eq ts1 s ks _
/-! ## Regions that draw their order -/
noncomputable def getN : HM Nat := fun s => .ok s.nx s
theorem LM.getN : LM getN := fun s a s' h hba => by
  injection h with h1 h2
  subst h1; subst h2
  exact ⟨0, 0, by simp, by simp, Nat.le_refl _, rfl, by simp, fun t ht => ⟨t, by show Rz.ok t.nx t = _; rw [ht.nx], ht.nx, ht.ba, by simp, by simp, fun n => by
    split
    · rename_i hn
      rcases hn with hn | hn
      · exact ht.gt n (.inl hn)
      · simp at hn
    · rfl⟩⟩
/-- The names from one on to another one. -/
def rngB (a b : Nat) : Nat := Nat.shiftLeft (Nat.sub (Nat.shiftLeft 1 (Nat.sub b a)) 1) a
theorem rngB_bit (a b n : Nat) : (rngB a b).testBit n = decide (a ≤ n ∧ n < b) := by
  show ((1 <<< (b - a) - 1) <<< a).testBit n = _
  rw [Nat.testBit_shiftLeft, Nat.one_shiftLeft, Nat.testBit_two_pow_sub_one]
  by_cases h : a ≤ n
  · by_cases h2 : n < b
    · simp [h, h2]; omega
    · simp [h, h2]; omega
  · simp [h]
structure Tch where
  i : Nat
  T : Nat
  F : Nat
noncomputable def okT (d T F : Nat) (l : List Tch) : Bool := List.rec (motive := fun _ => Bool) true (fun r _ ih => Bool.rec (motive := fun _ => Bool) (Bool.rec (motive := fun _ => Bool) false (Bool.rec (motive := fun _ => Bool) false ih (Nat.beq (Nat.land T r.F) 0)) (Nat.beq (Nat.land r.T F) 0)) ih (bitB d r.i)) l
theorem okT_spec {d T F : Nat} : ∀ {l : List Tch}, okT d T F l = true → ∀ r ∈ l, d.testBit r.i = true ∨ (r.T &&& F = 0 ∧ T &&& r.F = 0)
  | [], _, r, hr => by cases hr
  | x :: l, h, r, hr => by
    have h : Bool.rec (motive := fun _ => Bool) (Bool.rec (motive := fun _ => Bool) false (Bool.rec (motive := fun _ => Bool) false (okT d T F l) (Nat.beq (Nat.land T x.F) 0)) (Nat.beq (Nat.land x.T F) 0)) (okT d T F l) (bitB d x.i) = true := h
    have key : (d.testBit x.i = true ∨ (x.T &&& F = 0 ∧ T &&& x.F = 0)) ∧ okT d T F l = true := by
      rw [bitB_eq] at h
      cases hb : d.testBit x.i with
      | true => rw [hb] at h; exact ⟨.inl rfl, h⟩
      | false =>
        rw [hb] at h
        cases h1 : Nat.beq (Nat.land x.T F) 0 with
        | false => rw [h1] at h; cases h
        | true =>
          rw [h1] at h
          cases h2 : Nat.beq (Nat.land T x.F) 0 with
          | false => rw [h2] at h; cases h
          | true => rw [h2] at h; exact ⟨.inr ⟨Nat.eq_of_beq_eq_true h1, Nat.eq_of_beq_eq_true h2⟩, h⟩
    rcases List.mem_cons.1 hr with rfl | hr
    · exact key.1
    · exact okT_spec key.2 r hr
/-- The slots that are looked at, alone. -/
noncomputable def resL (ts : TL) (l : List Nat) : TL := List.rec (motive := fun _ => TL) .nil (fun t _ ih => Option.rec (motive := fun _ => TL) ih (fun v => .cons t v ih) (ts.look t)) l
theorem resL_look {ts : TL} {u : Nat} {v : AV} : ∀ {l : List Nat}, (resL ts l).look u = some v → u ∈ l ∧ ts.look u = some v
  | [], h => by cases h
  | t :: l, h => by
    have h : (Option.rec (motive := fun _ => TL) (resL ts l) (fun v => .cons t v (resL ts l)) (ts.look t) : TL).look u = some v := h
    cases ht : ts.look t with
    | none =>
      rw [ht] at h
      obtain ⟨h1, h2⟩ := resL_look (l := l) h
      exact ⟨.tail _ h1, h2⟩
    | some x =>
      rw [ht] at h
      have h1 : (TL.cons t x (resL ts l)).look u = some v := h
      rw [TL.look_cons] at h1
      by_cases he : t = u
      · rw [if_pos he] at h1; subst he; injection h1 with h1; subst h1; exact ⟨.head _, ht⟩
      · rw [if_neg he] at h1
        obtain ⟨h2, h3⟩ := resL_look (l := l) h1
        exact ⟨.tail _ h2, h3⟩
noncomputable def zdr (X : Cx) (cl yl : Nat → List AV → HM AV) (ops : List Oper) (D : List Nat) (l : List Oper) : Nat → List Tch → TL → HM TL := List.rec (motive := fun _ => Nat → List Tch → TL → HM TL) (fun _ _ ts => hp ts)
  (fun o _ ih i rs ts => hb getN fun n0 => hb (foot (zOne X cl yl ops o (resL ts (o.looksAt ops.toArray)))) fun x => hb getN fun n1 =>
    hI (okT (D.getD i 0) (Nat.lor x.2.2 (rngB n0 n1)) (Nat.lor x.2.1 (Nat.lor x.2.2 (rngB n0 n1))) rs) (ih (Nat.add i 1) (⟨i, Nat.lor x.2.2 (rngB n0 n1), Nat.lor x.2.1 (Nat.lor x.2.2 (rngB n0 n1))⟩ :: rs) (zputL ts o.dst x.1)) hn) l
section
variable {X : Cx} {cl yl : Nat → List AV → HM AV} {ops : List Oper}
theorem zdr_cons (D : List Nat) (o : Oper) (os : List Oper) (i : Nat) (rs : List Tch) (ts : TL) : zdr X cl yl ops D (o :: os) i rs ts = hb getN fun n0 => hb (foot (zOne X cl yl ops o (resL ts (o.looksAt ops.toArray)))) fun x => hb getN fun n1 =>
    hI (okT (D.getD i 0) (Nat.lor x.2.2 (rngB n0 n1)) (Nat.lor x.2.1 (Nat.lor x.2.2 (rngB n0 n1))) rs) (zdr X cl yl ops D os (Nat.add i 1) (⟨i, Nat.lor x.2.2 (rngB n0 n1), Nat.lor x.2.1 (Nat.lor x.2.2 (rngB n0 n1))⟩ :: rs) (zputL ts o.dst x.1)) hn := rfl
theorem zdr_lm (hX : CxOK X) (hc : CallOK X.P cl) (hy : YieldOK X.P yl) {D : List Nat} : ∀ (l : List Oper) (i : Nat) (rs : List Tch) (ts : TL), LM (zdr X cl yl ops D l i rs ts)
  | [], i, rs, ts => LM.pure _
  | o :: os, i, rs, ts => by
    rw [zdr_cons]
    exact LM.bind LM.getN fun n0 => LM.bind (LM.foot (zOne_lm hX hc hy o _)) fun x => LM.bind LM.getN fun n1 => LM.ite (zdr_lm hX hc hy os _ _ _) LM.fail
end
/-- What a run in the text's order was. -/
structure DR (X : Cx) (cl yl : Nat → List AV → HM AV) (ops : List Oper) (S : Nat → Hp) (E : Nat → Hp) (τ : Nat → TL) (V : Nat → AV) (k : Nat) : Prop where
  run : zOne X cl yl ops (nthO ops k) (resL (τ k) ((nthO ops k).looksAt ops.toArray)) ⟨(S k).h, (S k).nx, 0, 0, (S k).nx⟩ = .ok (V k) (E k)
  nx : (E k).nx = (S (k + 1)).nx
  gt : (E k).gt = (S (k + 1)).gt
  put : τ (k + 1) = zputL (τ k) (nthO ops k).dst (V k)
  lo : (S k).nx ≤ (S (k + 1)).nx
def tchT (S E : Nat → Hp) (k : Nat) : Nat := (E k).W ||| rngB (S k).nx (S (k + 1)).nx
def tchF (S E : Nat → Hp) (k : Nat) : Nat := (E k).R ||| tchT S E k
theorem hI_ok {α : Type} {b : Bool} {m : HM α} {s s' : Hp} {x : α} (h : hI b m hn s = .ok x s') : b = true ∧ m s = .ok x s' := by
  cases b with
  | true => exact ⟨rfl, h⟩
  | false => cases h
theorem zdr_run {X : Cx} {cl yl : Nat → List AV → HM AV} {ops : List Oper} {D : List Nat} (hX : CxOK X) (hc : CallOK X.P cl) (hy : YieldOK X.P yl) : ∀ (l : List Oper) (i : Nat), ops.drop i = l → ∀ (rs : List Tch) (ts : TL) (s : Hp) (ts' : TL) (s' : Hp), zdr X cl yl ops D l i rs ts s = .ok ts' s' →
    ∃ (S E : Nat → Hp) (τ : Nat → TL) (V : Nat → AV), S i = s ∧ S (i + l.length) = s' ∧ τ i = ts ∧ τ (i + l.length) = ts' ∧ (∀ k, i ≤ k → k < i + l.length → DR X cl yl ops S E τ V k) ∧
      (∀ k, i ≤ k → k < i + l.length → ∀ r ∈ rs, (D.getD k 0).testBit r.i = true ∨ (r.T &&& tchF S E k = 0 ∧ tchT S E k &&& r.F = 0)) ∧
      (∀ j k, i ≤ j → j < k → k < i + l.length → (D.getD k 0).testBit j = true ∨ (tchT S E j &&& tchF S E k = 0 ∧ tchT S E k &&& tchF S E j = 0)) := by
  intro l
  induction l with
  | nil =>
    intro i _ rs ts s ts' s' h
    obtain ⟨rfl, rfl⟩ := hp_ok h
    exact ⟨fun _ => s, fun _ => s, fun _ => ts, fun _ => .b true, rfl, rfl, rfl, rfl, fun k a b => by simp at b; omega, fun k a b => by simp at b; omega, fun j k a b c => by simp at c; omega⟩
  | cons o os ih =>
    intro i hd rs ts s ts' s' h
    rw [zdr_cons] at h
    obtain ⟨n0, s0, h1, h2⟩ := hb_ok h
    injection h1 with e1 e2
    subst e1; subst e2
    obtain ⟨x, s1, h3, h4⟩ := hb_ok h2
    obtain ⟨v, t1, g1, g2, g3⟩ := foot_ok h3
    subst g2
    obtain ⟨n1, s2, h5, h6⟩ := hb_ok h4
    injection h5 with e1 e2
    subst e1; subst e2
    obtain ⟨h7, h8⟩ := hI_ok h6
    have hos : ops.drop (i + 1) = os := by rw [← List.drop_drop, hd]; rfl
    have hio : nthO ops i = o := by
      have hlt : i < ops.length := by
        apply Classical.byContradiction
        intro hn
        rw [List.drop_eq_nil_of_le (by omega)] at hd
        cases hd
      have h1 := nthO_get hlt
      have h2 : ops[i]? = some o := by rw [← List.head?_drop, hd]; rfl
      rw [h1] at h2
      injection h2
    obtain ⟨S, E, τ, V, a1, a2, a3, a4, a5, a6, a7⟩ := ih (i + 1) hos _ _ _ _ _ h8
    obtain ⟨_, _, dd⟩ := zOne_lm hX hc hy o _ _ _ _ g1 (Nat.le_refl _)
    have hln : i + (o :: os).length = i + 1 + os.length := by simp; omega
    have hlo : s.nx ≤ s1.nx := by rw [g3]; exact dd.nx
    refine ⟨fun k => if k = i then s else S k, fun k => if k = i then t1 else E k, fun k => if k = i then ts else τ k, fun k => if k = i then v else V k, if_pos rfl, ?_, if_pos rfl, ?_, fun k hk1 hk2 => ?_, fun k hk1 hk2 r hr => ?_, fun j k hj hjk hk => ?_⟩
    · rw [hln]; dsimp only; rw [if_neg (by omega)]; exact a2
    · rw [hln]; dsimp only; rw [if_neg (by omega)]; exact a4
    · by_cases hki : k = i
      · subst hki
        constructor
        · simp only [if_pos, hio]; exact g1
        · simp only [if_pos]; rw [if_neg (by omega), a1, g3]
        · simp only [if_pos]; rw [if_neg (by omega), a1, g3]; rfl
        · simp only [if_pos, hio]; rw [if_neg (by omega), a3]
        · simp only [if_pos]; rw [if_neg (by omega), a1]; exact hlo
      · have := a5 k (by omega) (by simp at hk2; omega)
        constructor
        · simp only [if_neg hki]; exact this.run
        · simp only [if_neg hki]; rw [if_neg (by omega)]; exact this.nx
        · simp only [if_neg hki]; rw [if_neg (by omega)]; exact this.gt
        · simp only [if_neg hki]; rw [if_neg (by omega)]; exact this.put
        · simp only [if_neg hki]; rw [if_neg (by omega)]; exact this.lo
    · by_cases hki : k = i
      · subst hki
        have := okT_spec h7 r hr
        simp only [tchT, tchF, if_pos]
        rw [if_neg (by omega), a1]
        exact this
      · have := a6 k (by omega) (by simp at hk2; omega) r (.tail _ hr)
        simp only [tchT, tchF, if_neg hki]
        rw [if_neg (by omega)]
        exact this
    · by_cases hji : j = i
      · subst hji
        have := a6 k (by omega) (by simp at hk; omega) _ (.head _)
        simp only [tchT, tchF, if_pos]
        rw [if_neg (show ¬ k = j by omega), if_neg (show ¬ k = j by omega), if_neg (show ¬ k + 1 = j by omega), if_neg (show ¬ j + 1 = j by omega), a1]
        exact this
      · have := a7 j k (by omega) hjk (by simp at hk; omega)
        simp only [tchT, tchF]
        rw [if_neg hji, if_neg hji, if_neg (show ¬ j + 1 = i by omega), if_neg (show ¬ k = i by omega), if_neg (show ¬ k = i by omega), if_neg (show ¬ k + 1 = i by omega)]
        exact this
/-! ## In whatever order -/
theorem znodup_len {α : Type} [DecidableEq α] : ∀ {l m : List α}, l.Nodup → (∀ x ∈ l, x ∈ m) → l.length ≤ m.length
  | [], m, _, _ => Nat.zero_le _
  | a :: l, m, hn, hs => by
    obtain ⟨h1, h2⟩ := List.nodup_cons.1 hn
    have ha := hs a (.head _)
    have := znodup_len (l := l) (m := m.erase a) h2 fun x hx => (List.mem_erase_of_ne (fun e => h1 (by rw [← e]; exact hx))).2 (hs x (.tail _ hx))
    rw [List.length_erase_of_mem ha] at this
    have h0 := List.length_pos_of_mem ha
    rw [List.length_cons]; omega
def lst (p : Nat → Bool) (L : List Nat) : Option Nat := (L.filter p).getLast?
theorem lst_snoc (p : Nat → Bool) (L : List Nat) (k : Nat) : lst p (L ++ [k]) = if p k = true then some k else lst p L := by
  unfold lst
  rw [List.filter_append]
  by_cases h : p k = true
  · rw [if_pos h]; simp [h]
  · rw [if_neg h]; simp [h]
theorem srt_ext : ∀ {l1 l2 : List Nat}, l1.Pairwise (· < ·) → l2.Pairwise (· < ·) → (∀ x, x ∈ l1 ↔ x ∈ l2) → l1 = l2
  | [], [], _, _, _ => rfl
  | [], y :: l2, _, _, h => absurd ((h y).2 (.head _)) (by simp)
  | x :: l1, [], _, _, h => absurd ((h x).1 (.head _)) (by simp)
  | x :: l1, y :: l2, h1, h2, h => by
    rw [List.pairwise_cons] at h1 h2
    have e : x = y := by
      rcases List.mem_cons.1 ((h x).1 (.head _)) with e | e
      · exact e
      · rcases List.mem_cons.1 ((h y).2 (.head _)) with e' | e'
        · exact e'.symm
        · have := h1.1 y e'; have := h2.1 x e; omega
    subst e
    rw [srt_ext h1.2 h2.2 fun z => ?_]
    have hz := h z
    simp only [List.mem_cons] at hz
    constructor
    · intro hh
      rcases hz.1 (.inr hh) with e | e
      · subst e; have := h1.1 z hh; omega
      · exact e
    · intro hh
      rcases hz.2 (.inr hh) with e | e
      · subst e; have := h2.1 z hh; omega
      · exact e
theorem lst_eq {dp : Nat → Nat → Prop} {p : Nat → Bool} {L : List Nat} {i m : Nat} (hn : L.Nodup) (ht : L.Pairwise fun a b => ¬ dp a b) (hl : ∀ j ∈ L, j < m) (him : i ≤ m)
    (hp : ∀ j k, j < k → k < m → p j = true → p k = true → dp k j) (hm : ∀ j, j < m → p j = true → (j ∈ L ↔ j < i)) : lst p L = lst p (List.range i) := by
  unfold lst
  congr 1
  refine srt_ext ?_ (List.pairwise_lt_range.filter _) fun x => ?_
  · have h1 : L.Pairwise fun a b => a ≠ b ∧ ¬ dp a b := List.Pairwise.and hn ht
    rw [List.pairwise_filter]
    refine (List.Pairwise.and_mem.1 h1).imp fun {a b} ⟨ha, hb, hne, hnd⟩ pa pb => ?_
    rcases Nat.lt_trichotomy a b with h | h | h
    · exact h
    · exact absurd h hne
    · exact absurd (hp b a h (hl a ha) pb pa) hnd
  · rw [List.mem_filter, List.mem_filter, List.mem_range]
    constructor
    · rintro ⟨h1, h2⟩; exact ⟨(hm x (hl x h1) h2).1 h1, h2⟩
    · rintro ⟨h1, h2⟩; exact ⟨(hm x (by omega) h2).2 h1, h2⟩
section
variable {X : Cx} {cl yl : Nat → List AV → HM AV} {ops : List Oper}
noncomputable def gvD (S E : Nat → Hp) (L : List Nat) (n : Nat) : Option AO := match lst (fun k => (tchT S E k).testBit n) L with
  | some k => (S (k + 1)).gt n
  | none => (S 0).gt n
noncomputable def svD (ops : List Oper) (τ : Nat → TL) (V : Nat → AV) (L : List Nat) (u : Nat) : Option AV := match lst (fun k => decide ((nthO ops k).dst = some u)) L with
  | some k => some (V k)
  | none => (τ 0).look u
theorem gvD_snoc (S E : Nat → Hp) (L : List Nat) (k n : Nat) : gvD S E (L ++ [k]) n = if (tchT S E k).testBit n = true then (S (k + 1)).gt n else gvD S E L n := by
  unfold gvD
  rw [lst_snoc]
  by_cases h : (tchT S E k).testBit n = true
  · rw [if_pos h, if_pos h]
  · rw [if_neg h, if_neg h]
theorem svD_snoc (τ : Nat → TL) (V : Nat → AV) (L : List Nat) (k u : Nat) : svD ops τ V (L ++ [k]) u = if (nthO ops k).dst = some u then some (V k) else svD ops τ V L u := by
  unfold svD
  rw [lst_snoc]
  by_cases h : (nthO ops k).dst = some u
  · rw [if_pos h, if_pos (by simpa using h)]
  · rw [if_neg h, if_neg (by simpa using h)]
theorem zputL_look (ts : TL) (d : Option Tmp) (v : AV) (u : Nat) : (zputL ts d v).look u = if d = some u then some v else ts.look u := by
  cases d with
  | none => simp [zputL]
  | some d => simp only [zputL, TL.look_cons, Option.some.injEq]
variable {S E : Nat → Hp} {τ : Nat → TL} {V : Nat → AV} {m : Nat} {D : List Nat}
theorem DR.does (hX : CxOK X) (hc : CallOK X.P cl) (hy : YieldOK X.P yl) {k : Nat} (h : DR X cl yl ops S E τ V k) : Does (zOne X cl yl ops (nthO ops k) (resL (τ k) ((nthO ops k).looksAt ops.toArray))) (V k) ⟨(S k).h, (S k).nx, 0, 0, (S k).nx⟩ (E k) (E k).R (E k).W := by
  obtain ⟨fr, fw, d⟩ := zOne_lm hX hc hy _ _ _ _ _ h.run (Nat.le_refl _)
  have e1 : (E k).R = fr := by have := d.R; simpa using this
  have e2 : (E k).W = fw := by have := d.W; simpa using this
  rw [e1, e2]; exact d
theorem tchT_bit (k n : Nat) : (tchT S E k).testBit n = true ↔ ((S k).nx ≤ n ∧ n < (S (k + 1)).nx) ∨ (E k).W.testBit n = true := by
  unfold tchT
  rw [Nat.testBit_or, rngB_bit, Bool.or_eq_true, decide_eq_true_eq]
  exact Or.comm
theorem tchF_bit (k n : Nat) : (tchF S E k).testBit n = true ↔ (E k).R.testBit n = true ∨ (tchT S E k).testBit n = true := by
  unfold tchF
  rw [Nat.testBit_or, Bool.or_eq_true]
theorem and_bit {a b n : Nat} (h : a &&& b = 0) (ha : a.testBit n = true) (hb : b.testBit n = true) : False := by
  have : (a &&& b).testBit n = true := by rw [Nat.testBit_and, ha, hb]; rfl
  rw [h] at this
  simp at this
theorem gvD_range (hX : CxOK X) (hc : CallOK X.P cl) (hy : YieldOK X.P yl) (hR : ∀ k, k < m → DR X cl yl ops S E τ V k) : ∀ i, i ≤ m → ∀ n, (S i).gt n = gvD S E (List.range i) n
  | 0, _, n => rfl
  | i + 1, hi, n => by
    have h := hR i (by omega)
    rw [List.range_succ, gvD_snoc]
    split
    · rfl
    · rename_i hn
      rw [← gvD_range hX hc hy hR i (by omega), ← h.gt]
      refine ((h.does hX hc hy).frame h.run (n := n) ?_)
      rw [tchT_bit] at hn
      rw [h.nx]
      exact hn
theorem svD_range (hR : ∀ k, k < m → DR X cl yl ops S E τ V k) : ∀ i, i ≤ m → ∀ u, (τ i).look u = svD ops τ V (List.range i) u
  | 0, _, u => rfl
  | i + 1, hi, u => by
    rw [List.range_succ, svD_snoc, (hR i (by omega)).put, zputL_look, svD_range hR i (by omega)]
structure DI (w0 : World) (ops : List Oper) (D : List Nat) (S E : Nat → Hp) (τ : Nat → TL) (V : Nat → AV) (N : Nat) (df : List Deferred) (ρ0 : Env) (L : List Nat) (t : Hp) (ρ : Env) (listed : Array Bool) (a : Act) (w : World) : Prop where
  nodup : L.Nodup
  lt : ∀ j ∈ L, j < ops.length
  topo : L.Pairwise fun a b => ¬ depB D a b = true
  size : listed.size = ops.length
  mem : ∀ i, i < ops.length → (listed.getD i false = true ↔ i ∈ L)
  closed : Closed ops listed
  tg : ∀ n, t.gt n = gvD S E L n
  le : ρ0.le ρ
  out : ∀ n, n < (S 0).nx ∨ (S ops.length).nx ≤ n → ρ.blk n = ρ0.blk n
  fresh : ∀ k, k < ops.length → k ∉ L → ∀ n, (S k).nx ≤ n → n < (S (k + 1)).nx → ρ.blk n = none
  tn : a.tmps.size = N
  df : a.defers = df
  sl : ∀ u v, svD ops τ V L u = some v → a.tmps[u]? = some (cv ρ v) ∧ Dm ρ v
  zs : ZS w0 ρ t.gt w
theorem S_mono (hR : ∀ k, k < m → DR X cl yl ops S E τ V k) : ∀ d j, j + d ≤ m → (S j).nx ≤ (S (j + d)).nx
  | 0, j, _ => Nat.le_refl _
  | d + 1, j, h => Nat.le_trans (S_mono hR d j (by omega)) (hR (j + d) (by omega)).lo
theorem draw_step {w0 : World} {N : Nat} {df : List Deferred} {ρ0 : Env} (hX : CxOK X) (hc : CallOK X.P cl) (hy : YieldOK X.P yl) (hR : ∀ k, k < ops.length → DR X cl yl ops S E τ V k)
    (hP : ∀ j k, j < k → k < ops.length → (D.getD k 0).testBit j = true ∨ (tchT S E j &&& tchF S E k = 0 ∧ tchT S E k &&& tchF S E j = 0))
    (hA : ∀ j k, j < k → k < ops.length → depB D k j = true ∨ (nthO ops j).apart ops.toArray (nthO ops k) = true)
    (hcert : certB ops D = true) (hd : ∀ o ∈ ops, ∀ d, o.dst = some d → d < N)
    {L : List Nat} {t : Hp} {ρ : Env} {listed : Array Bool} {a : Act} {w : World} (h : DI w0 ops D S E τ V N df ρ0 L t ρ listed a w) {i : Nat} (hi : i < ops.length) (hun : listed.getD i false = false) (hre : ∀ e ∈ (nthO ops i).after, Region.binds .any e = true → listed.getD e.on false = true) :
    wpV X.P ops (nthO ops i) (fun v' w' => ∃ t' ρ', DI w0 ops D S E τ V N df ρ0 (L ++ [i]) t' ρ' (listed.setIfInBounds i true) (a.put (nthO ops i).dst v') w') a w := by
  have hiL : i ∉ L := fun hh => by rw [(h.mem i hi).2 hh] at hun; cases hun
  have dL : ∀ r, r < ops.length → depB D i r = true → r ∈ L := fun r hr hd => (h.mem r hr).1 (dep_listed hcert h.closed hr i hi hre hd)
  have dN : ∀ j, j ∈ L → depB D j i = true → False := fun j hj hd => by
    have hjl := h.lt j hj
    have := dep_listed hcert h.closed hi j hjl (fun e he hb => h.closed j hjl ((h.mem j hjl).2 hj) e he hb) hd
    rw [hun] at this; cases this
  have hr := hR i hi
  have hdo := hr.does hX hc hy
  have key : ∀ n, (tchF S E i).testBit n = true → gvD S E L n = (S i).gt n := fun n hn => by
    rw [gvD_range hX hc hy hR i (by omega)]
    unfold gvD
    rw [lst_eq (dp := fun a b => depB D a b = true) (m := ops.length) (i := i) h.nodup h.topo h.lt (by omega) (fun j k hjk hk pj pk => ?_) (fun j hj pj => ?_)]
    · rcases hP j k hjk hk with h1 | ⟨h1, _⟩
      · exact h1
      · exact (and_bit h1 pj ((tchF_bit k n).2 (.inr pk))).elim
    · rcases Nat.lt_trichotomy j i with hji | hji | hji
      · refine ⟨fun _ => hji, fun _ => ?_⟩
        rcases hP j i hji hi with h1 | ⟨h1, _⟩
        · exact dL j hj h1
        · exact (and_bit h1 pj hn).elim
      · subst hji; exact ⟨fun hh => absurd hh hiL, fun hh => absurd hh (Nat.lt_irrefl _)⟩
      · refine ⟨fun hh => ?_, fun hh => by omega⟩
        rcases hP i j hji hj with h1 | ⟨_, h1⟩
        · exact (dN j hh h1).elim
        · exact (and_bit h1 pj hn).elim
  have keyS : ∀ u, u ∈ (nthO ops i).looksAt ops.toArray → svD ops τ V L u = (τ i).look u := fun u hu => by
    rw [svD_range hR i (by omega)]
    unfold svD
    rw [lst_eq (dp := fun a b => depB D a b = true) (m := ops.length) (i := i) h.nodup h.topo h.lt (by omega) (fun j k hjk hk pj pk => ?_) (fun j hj pj => ?_)]
    · simp only [decide_eq_true_eq] at pj pk
      rcases hA j k hjk hk with h1 | h1
      · exact h1
      · exact absurd pk ((Oper.apart_spec h1).2.1 u pj)
    · simp only [decide_eq_true_eq] at pj
      rcases Nat.lt_trichotomy j i with hji | hji | hji
      · refine ⟨fun _ => hji, fun _ => ?_⟩
        rcases hA j i hji hi with h1 | h1
        · exact dL j hj h1
        · exact absurd hu ((Oper.apart_spec h1).1 u pj)
      · subst hji; exact ⟨fun hh => absurd hh hiL, fun hh => absurd hh (Nat.lt_irrefl _)⟩
      · refine ⟨fun hh => ?_, fun hh => by omega⟩
        rcases hA i j hji hj with h1 | h1
        · exact (dN j hh h1).elim
        · exact absurd hu ((Oper.apart_spec h1).2.2 u pj)
  obtain ⟨t', r1, r2, r3, r4, r5, r6⟩ := hdo.all ⟨t.h, (S i).nx, 0, 0, (S i).nx⟩ ⟨rfl, rfl, fun n hn => by
    refine (h.tg n).trans (key n ?_)
    rw [tchF_bit, tchT_bit, ← hr.nx]
    rcases hn with hn | hn | hn
    · exact .inr (.inl hn)
    · exact .inl hn
    · exact .inr (.inr hn)⟩
  have hsl : Sl ρ (resL (τ i) ((nthO ops i).looksAt ops.toArray)) a := fun u v hv => by
    obtain ⟨h1, h2⟩ := resL_look hv
    exact h.sl u v ((keyS u h1).trans h2)
  have hw := zOne_ok hX hc hy r1 (ρ := ρ) (a := a) (w := w) (w0 := w0) (fun n h1 h2 => h.fresh i hi hiL n h1 (by rw [r2, hr.nx] at h2; exact h2)) hsl h.zs
  refine wpV_mono hw fun v' w' ⟨ρ', q1, q2, q3, q4, q5⟩ => ⟨t', ρ', ?_⟩
  subst q3
  have q2 : ∀ n, n < (S i).nx ∨ (S (i + 1)).nx ≤ n → ρ'.blk n = ρ.blk n := fun n hn => q2 n (by rw [r2, hr.nx]; exact hn)
  exact {
    nodup := by rw [List.nodup_append]; exact ⟨h.nodup, by simp, fun x hx y hy => by rw [List.mem_singleton] at hy; subst hy; rintro rfl; exact hiL hx⟩
    lt := fun j hj => by
      rcases List.mem_append.1 hj with hj | hj
      · exact h.lt j hj
      · rw [List.mem_singleton] at hj; subst hj; exact hi
    topo := by
      rw [List.pairwise_append]
      exact ⟨h.topo, List.pairwise_singleton _ _, fun x hx y hy hd => by rw [List.mem_singleton] at hy; subst hy; exact dN x hx hd⟩
    size := by simp [h.size]
    mem := fun x hx => by
      by_cases hxj : x = i
      · subst hxj
        exact ⟨fun _ => by simp, fun _ => by simp [h.size, hx]⟩
      · rw [getD_set_ne false (Ne.symm hxj), h.mem x hx]
        simp [hxj]
    closed := fun x hx hlx e he hbe => by
      by_cases hxj : x = i
      · subst hxj; exact getD_set_true (hre e he hbe)
      · rw [getD_set_ne false (Ne.symm hxj)] at hlx
        exact getD_set_true (h.closed x hx hlx e he hbe)
    tg := fun n => by
      rw [r6 n, gvD_snoc, ← hr.gt, ← h.tg n]
      have := tchT_bit (S := S) (E := E) i n
      rw [← hr.nx] at this
      by_cases hn : (tchT S E i).testBit n = true
      · rw [if_pos hn, if_pos (this.1 hn)]
      · rw [if_neg hn, if_neg fun hh => hn (this.2 hh)]; rfl
    le := h.le.trans q1
    out := fun n hn => by
      have m1 := S_mono hR i 0 (by omega)
      have m2 := S_mono hR (ops.length - (i + 1)) (i + 1) (by omega)
      rw [Nat.zero_add] at m1
      rw [show i + 1 + (ops.length - (i + 1)) = ops.length by omega] at m2
      rw [q2 n (by omega)]
      exact h.out n hn
    fresh := fun k hk hkL n h1 h2 => by
      have hkL' : k ∉ L ∧ k ≠ i := by simpa using hkL
      have : n < (S i).nx ∨ (S (i + 1)).nx ≤ n := by
        rcases Nat.lt_or_gt_of_ne hkL'.2 with hki | hki
        · have := S_mono hR (i - (k + 1)) (k + 1) (by omega)
          rw [show k + 1 + (i - (k + 1)) = i by omega] at this
          omega
        · have := S_mono hR (k - (i + 1)) (i + 1) (by omega)
          rw [show i + 1 + (k - (i + 1)) = k by omega] at this
          omega
      rw [q2 n this]
      exact h.fresh k hk hkL'.1 n h1 h2
    tn := by cases (nthO ops i).dst <;> simp [Act.put, h.tn]
    df := by rw [← h.df]; cases (nthO ops i).dst <;> rfl
    sl := fun u v hv => by
      rw [svD_snoc] at hv
      by_cases hu : (nthO ops i).dst = some u
      · rw [if_pos hu] at hv
        injection hv with hv; subst hv
        have hlt := hd _ (List.mem_of_getElem? (nthO_get hi)) u hu
        rw [hu]
        exact ⟨by simp [Act.put, h.tn, hlt], q4⟩
      · rw [if_neg hu] at hv
        obtain ⟨h1, h2⟩ := h.sl u v hv
        obtain ⟨h3, h4⟩ := cv_mono q1 v h2
        refine ⟨?_, h4⟩
        rw [h3, ← h1]
        cases hdd : (nthO ops i).dst with
        | none => rfl
        | some d =>
          have : d ≠ u := fun e => hu (by rw [hdd, e])
          simp only [Act.put]
          rw [Array.getElem?_setIfInBounds_ne this]
    zs := q5 }
theorem draw_any {w0 : World} {N : Nat} {df : List Deferred} {ρ0 : Env} {r : Option Nat} {mm : Nat} {Q : Exit → Act → World → Prop} (hX : CxOK X) (hc : CallOK X.P cl) (hy : YieldOK X.P yl) (hR : ∀ k, k < ops.length → DR X cl yl ops S E τ V k)
    (hP : ∀ j k, j < k → k < ops.length → (D.getD k 0).testBit j = true ∨ (tchT S E j &&& tchF S E k = 0 ∧ tchT S E k &&& tchF S E j = 0))
    (hA : ∀ j k, j < k → k < ops.length → depB D k j = true ∨ (nthO ops j).apart ops.toArray (nthO ops k) = true)
    (hcert : certB ops D = true) (hed : edgeB ops = true) (hd : ∀ o ∈ ops, (∀ d, o.dst = some d → d < N) ∧ ∀ c, o.op ≠ .defer c)
    (hQ : ∀ ρ a w, ρ0.le ρ → (∀ n, n < (S 0).nx ∨ (S ops.length).nx ≤ n → ρ.blk n = ρ0.blk n) → a.tmps.size = N → a.defers = df → Sl ρ (τ ops.length) a → ZS w0 ρ (S ops.length).gt w → Q .normal a w) :
    ∀ (fuel : Nat) (L : List Nat) (t : Hp) (ρ : Env) (listed : Array Bool) (a : Act) (w : World), fuel + L.length = ops.length → DI w0 ops D S E τ V N df ρ0 L t ρ listed a w → wpAnyIn (fw r) mm X.P .any ops.toArray Q fuel listed a w := by
  have fin : ∀ (L : List Nat) (t : Hp) (ρ : Env) (listed : Array Bool) (a : Act) (w : World), (∀ i, i < ops.length → i ∈ L) → DI w0 ops D S E τ V N df ρ0 L t ρ listed a w → Q .normal a w := fun L t ρ listed a w hall h => by
    have e1 : t.gt = (S ops.length).gt := by
      funext n
      rw [h.tg n, gvD_range hX hc hy hR _ (Nat.le_refl _)]
      unfold gvD
      rw [lst_eq (dp := fun a b => depB D a b = true) (m := ops.length) (i := ops.length) h.nodup h.topo h.lt (Nat.le_refl _) (fun j k hjk hk pj pk => ?_) (fun j hj pj => ⟨fun _ => hj, fun _ => hall j hj⟩)]
      rcases hP j k hjk hk with h1 | ⟨h1, _⟩
      · exact h1
      · exact (and_bit h1 pj ((tchF_bit k n).2 (.inr pk))).elim
    refine hQ ρ a w h.le h.out h.tn h.df (fun u v hv => ?_) (e1 ▸ h.zs)
    rw [svD_range hR _ (Nat.le_refl _)] at hv
    refine h.sl u v (Eq.trans ?_ hv)
    unfold svD
    rw [lst_eq (dp := fun a b => depB D a b = true) (m := ops.length) (i := ops.length) h.nodup h.topo h.lt (Nat.le_refl _) (fun j k hjk hk pj pk => ?_) (fun j hj pj => ⟨fun _ => hj, fun _ => hall j hj⟩)]
    simp only [decide_eq_true_eq] at pj pk
    rcases hA j k hjk hk with h1 | h1
    · exact h1
    · exact absurd pk ((Oper.apart_spec h1).2.1 u pj)
  intro fuel
  induction fuel with
  | zero =>
    intro L t ρ listed a w hf h
    have hall : ∀ i, i < ops.length → i ∈ L := fun i hi => by
      apply Classical.byContradiction
      intro hn
      have h1 : (i :: L).Nodup := List.nodup_cons.2 ⟨hn, h.nodup⟩
      have h2 : (i :: L) ⊆ List.range ops.length := fun x hx => by
        rw [List.mem_range]
        rcases List.mem_cons.1 hx with rfl | hx
        · exact hi
        · exact h.lt x hx
      have := znodup_len h1 h2
      simp at this hf
      omega
    refine ⟨?_, fin L t ρ listed a w hall h⟩
    rw [List.eq_nil_iff_forall_not_mem]
    intro j hj
    obtain ⟨h1, o, ho, _⟩ := mem_ready.1 hj
    have hlt : j < ops.length := by simpa using (Array.getElem?_eq_some_iff.1 ho).1
    rw [getD_both' (by rw [h.size]; exact hlt), (h.mem j hlt).2 (hall j hlt)] at h1
    cases h1
  | succ fuel ih =>
    intro L t ρ listed a w hf h
    refine ⟨fun h0 => fin L t ρ listed a w (fun i hi => ?_) h, fun j hj => ?_⟩
    · apply Classical.byContradiction
      intro hn
      have : listed.getD i false = false := by
        cases hh : listed.getD i false with
        | false => rfl
        | true => exact absurd ((h.mem i hi).1 hh) hn
      exact ready_ex hed h.size i hi this h0
    · obtain ⟨h1, o, ho, h2⟩ := mem_ready.1 hj
      have hlt : j < ops.length := by simpa using (Array.getElem?_eq_some_iff.1 ho).1
      have : o = nthO ops j := Option.some.inj ((by simpa using ho : ops[j]? = some o).symm.trans (nthO_get hlt))
      subst this
      refine wpV_op ((hd _ (List.mem_of_getElem? (nthO_get hlt))).2) (nthO_get hlt) (draw_step hX hc hy hR hP hA hcert (fun o ho => (hd o ho).1) h hlt (by rw [← getD_both' (by rw [h.size]; exact hlt)]; exact h1) h2) fun v w' ⟨t', ρ', h'⟩ => ?_
      exact ih (L ++ [j]) t' ρ' _ _ w' (by simp; omega) h'
end
end Go.Proofs.YtiodmphhjgkgjaaGreat
