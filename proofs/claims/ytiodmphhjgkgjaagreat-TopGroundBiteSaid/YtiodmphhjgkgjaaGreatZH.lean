/- Frames: lemmas for the rows of this seat. No conditions. -/
import Derived.Test.YtiodmphhjgkgjaaGreatZG
set_option linter.all false
namespace Go.Proofs.YtiodmphhjgkgjaaGreat
open Go.RowKit
/-! ## Frames -/
def Grw (ρ ρ' : Env) (s s' : Hp) : Prop := ρ.le ρ' ∧ ∀ n, n < s.nx ∨ s'.nx ≤ n → ρ'.blk n = ρ.blk n
def Fre (ρ : Env) (s s' : Hp) : Prop := ∀ n, s.nx ≤ n → n < s'.nx → ρ.blk n = none
theorem Grw.refl (ρ : Env) (s s' : Hp) : Grw ρ ρ s s' := ⟨Env.le.refl ρ, fun _ _ => rfl⟩
theorem Grw.trans {ρ ρ1 ρ2 : Env} {s s1 s2 : Hp} (h : Grw ρ ρ1 s s1) (h' : Grw ρ1 ρ2 s1 s2) (h1 : s.nx ≤ s1.nx) (h2 : s1.nx ≤ s2.nx) : Grw ρ ρ2 s s2 :=
  ⟨h.1.trans h'.1, fun n hn => by rw [h'.2 n (by omega), h.2 n (by omega)]⟩
theorem Fre.left {ρ : Env} {s s1 s2 : Hp} (h : Fre ρ s s2) (h2 : s1.nx ≤ s2.nx) : Fre ρ s s1 := fun n a b => h n a (by omega)
theorem Fre.right {ρ ρ1 : Env} {s s1 s2 : Hp} (h : Fre ρ s s2) (hg : Grw ρ ρ1 s s1) (h1 : s.nx ≤ s1.nx) : Fre ρ1 s1 s2 := fun n a b => by rw [hg.2 n (.inr a)]; exact h n (by omega) b
theorem Does.ba_le {α : Type} {m : HM α} {a : α} {s s' : Hp} {fr fw : Nat} (h : Does m a s s' fr fw) (hba : s.ba ≤ s.nx) : s'.ba ≤ s'.nx := by rw [h.ba]; exact Nat.le_trans hba h.nx
/-- The names' range is what counts. -/
theorem LM.nx {α : Type} {m : HM α} (h : LM m) {s s' : Hp} {a : α} (hm : m s = .ok a s') (hba : s.ba ≤ s.nx) : s.nx ≤ s'.nx ∧ s'.ba ≤ s'.nx := by
  obtain ⟨_, _, d⟩ := h s a s' hm hba
  exact ⟨d.nx, d.ba_le hba⟩
def dfL (ρ : Env) (ds : List Nat) : List Deferred := ds.map fun D => { target := .collected ((ρ.blk D).getD (0, 0)).1, args := #[] }
theorem dfL_le {ρ ρ' : Env} (h : ρ.le ρ') {ds : List Nat} (hd : ∀ D ∈ ds, (ρ.blk D).isSome = true) : dfL ρ' ds = dfL ρ ds ∧ ∀ D ∈ ds, (ρ'.blk D).isSome = true := by
  refine ⟨List.map_congr_left ?_, fun D hD => ?_⟩
  · intro D hD; rw [(h.some (hd D hD)).1]
  · rw [(h.some (hd D hD)).1]; exact hd D hD
/-- What a frame is known to be. -/
structure ZF (k n : Nat) (w0 : World) (ρ : Env) (G : GH) (ts : TL) (dfs : List Nat) (a : Act) (w : World) : Prop where
  size : a.tmps.size = n
  sl : Sl ρ ts a
  kin : Kin (bitB k) ts
  ds : a.defers = dfL ρ dfs
  dsd : ∀ D ∈ dfs, (ρ.blk D).isSome = true
  zs : ZS w0 ρ G w
/-! ### What a region leaves -/
theorem keptL_mem {k : Nat → Bool} {u : Nat} : ∀ (l : List Oper), (u ∈ keptL k l → k u = true) ∧ (u ∉ keptL k l → ∀ o ∈ l, o.dst = some u → k u = false)
  | [] => ⟨fun h => (by cases h), fun _ o ho => (by cases ho)⟩
  | o :: os => by
    obtain ⟨h1, h2⟩ := keptL_mem (k := k) (u := u) os
    have e : keptL k (o :: os) = Option.rec (motive := fun _ => List Nat) (keptL k os) (fun d => Bool.rec (motive := fun _ => List Nat) (keptL k os) (d :: keptL k os) (k d)) o.dst := rfl
    rw [e]
    cases hd : o.dst with
    | none =>
      refine ⟨h1, fun hn o' ho hd' => ?_⟩
      rcases List.mem_cons.1 ho with rfl | ho
      · rw [hd] at hd'; cases hd'
      · exact h2 hn o' ho hd'
    | some d =>
      dsimp only
      cases hk : k d with
      | false =>
        refine ⟨h1, fun hn o' ho hd' => ?_⟩
        rcases List.mem_cons.1 ho with rfl | ho
        · rw [hd] at hd'; injection hd' with hd'; subst hd'; exact hk
        · exact h2 hn o' ho hd'
      | true =>
        refine ⟨fun hm => ?_, fun hn o' ho hd' => ?_⟩
        · rcases List.mem_cons.1 hm with rfl | hm
          · exact hk
          · exact h1 hm
        · rcases List.mem_cons.1 ho with rfl | ho
          · rw [hd] at hd'; injection hd' with hd'; exact absurd (List.mem_cons.2 (.inl hd'.symm)) hn
          · exact h2 (fun h => hn (List.mem_cons_of_mem _ h)) o' ho hd'
theorem zComK_look {ts1 : TL} : ∀ (ks : List Nat) (ts0 ts' : TL), zComK ts1 ks ts0 = some ts' → ∀ u v, ts'.look u = some v → (u ∈ ks ∧ ts1.look u = some v) ∨ (u ∉ ks ∧ ts0.look u = some v)
  | [], ts0, ts', h, u, v, hv => by
    injection h with h; subst h
    exact .inr ⟨(by simp), hv⟩
  | d :: ks, ts0, ts', h, u, v, hv => by
    have h1 : (Option.rec (motive := fun _ => Option TL) none (fun v => zComK ts1 ks (ts0.put d v)) (ts1.look d)) = some ts' := h
    cases hl : ts1.look d with
    | none => rw [hl] at h1; cases h1
    | some x =>
      rw [hl] at h1
      rcases zComK_look ks _ ts' h1 u v hv with ⟨h2, h3⟩ | ⟨h2, h3⟩
      · exact .inl ⟨.tail _ h2, h3⟩
      · rw [TL.look_put] at h3
        by_cases hdu : d = u
        · rw [if_pos hdu] at h3; subst hdu; exact .inl ⟨.head _, by rw [hl]; exact h3⟩
        · rw [if_neg hdu] at h3
          exact .inr ⟨fun hm => by rcases List.mem_cons.1 hm with e | hm; exact hdu e.symm; exact h2 hm, h3⟩
theorem zCom_look {k : Nat → Bool} {ts1 : TL} (l : List Oper) (ts0 ts' : TL) (h : zCom k ts1 l ts0 = some ts') (u : Nat) (v : AV) (hv : ts'.look u = some v) : (k u = true ∧ ts1.look u = some v) ∨ ((∀ o ∈ l, o.dst = some u → k u = false) ∧ ts0.look u = some v) := by
  rcases zComK_look _ ts0 ts' h u v hv with ⟨h1, h2⟩ | ⟨h1, h2⟩
  · exact .inl ⟨(keptL_mem l).1 h1, h2⟩
  · exact .inr ⟨(keptL_mem l).2 h1, h2⟩
theorem zCom_ok {k : Nat → Bool} {ts1 : TL} {l : List Oper} {ts0 ts' : TL} (h : zCom k ts1 l ts0 = some ts') (hk : Kin k ts0) (hf : ∀ u, (∀ o ∈ l, o.dst ≠ some u) → ts1.look u = ts0.look u) :
    Kin k ts' ∧ ∀ u v, ts'.look u = some v → ts1.look u = some v := by
  refine ⟨fun u v hv => ?_, fun u v hv => ?_⟩ <;> rcases zCom_look l ts0 ts' h u v hv with ⟨h1, h2⟩ | ⟨h1, h2⟩
  · exact h1
  · exact hk u v h2
  · exact h2
  · rw [hf u fun o ho hd => by have e1 := h1 o ho hd; have e2 := hk u v h2; rw [e1] at e2; cases e2]
    exact h2
section
variable {X : Cx} {cl yl : Nat → List AV → HM AV} {ops : List Oper}
theorem zregL_off : ∀ (l : List Oper) (ts : TL) (s : Hp) (ts1 : TL) (s' : Hp), zregL X cl yl ops l ts s = .ok ts1 s' → ∀ u, (∀ o ∈ l, o.dst ≠ some u) → ts1.look u = ts.look u
  | [], ts, s, ts1, s', h, u, hu => by obtain ⟨rfl, rfl⟩ := hp_ok h; rfl
  | o :: os, ts, s, ts1, s', h, u, hu => by
    obtain ⟨v, s1, h1, h2⟩ := hb_ok (show hb (zOne X cl yl ops o ts) (fun v => zregL X cl yl ops os (zputL ts o.dst v)) s = _ from h)
    rw [zregL_off os _ s1 ts1 s' h2 u fun o' ho => hu o' (.tail _ ho), zputL_look, if_neg (hu o (.head _))]
theorem DR.off {S E : Nat → Hp} {τ : Nat → TL} {V : Nat → AV} {m : Nat} (hR : ∀ k, k < m → DR X cl yl ops S E τ V k) {u : Nat} (hu : ∀ k, k < m → (nthO ops k).dst ≠ some u) : ∀ i, i ≤ m → (τ i).look u = (τ 0).look u
  | 0, _ => rfl
  | i + 1, hi => by rw [(hR i (by omega)).put, zputL_look, if_neg (hu i (by omega))]; exact DR.off hR hu i (by omega)
end
/-! ### Which order binds -/
def depG (D : List Nat) (e : Edge) (x : Nat) : Nat := match Region.binds .any e with
  | true => Nat.lor x (Nat.lor (Nat.shiftLeft 1 e.on) (D.getD e.on 0))
  | false => x
noncomputable def depA (D : List Nat) (l : List Edge) : Nat := List.rec (motive := fun _ => Nat) 0 (fun e _ ih => depG D e ih) l
noncomputable def depL (l : List Oper) : List Nat → List Nat := List.rec (motive := fun _ => List Nat → List Nat) (fun D => D) (fun o _ ih D => ih (D ++ [depA D o.after.toList])) l
def pairB2 (l : List Oper) (D : List Nat) : Bool := (List.range l.length).all fun k => (List.range k).all fun j => depB D k j || (nthO l j).apart l.toArray (nthO l k)
noncomputable def drB (l : List Oper) (D : List Nat) : Bool := certB l D && (edgeB l && pairB2 l D)
/-- A region, in the text's order; if it draws, every other one is as good. -/
noncomputable def zReg (X : Cx) (cl yl : Nat → List AV → HM AV) (k n : Nat) (l : List Oper) (draw : Bool) (ts : TL) : HM TL :=
  hg (dstOk n l) (hb (hI draw (hg (drB l (depL l [])) (zdr X cl yl l (depL l []) l 0 [] ts)) (zregL X cl yl l l ts)) fun ts1 => hO (zCom (bitB k) ts1 l ts) hp)
/-- The same, with fewer steps. -/
noncomputable def zRegF (X : Cx) (cl yl : Nat → List AV → HM AV) (k n : Nat) (l : List Oper) (draw : Bool) (ts : TL) (s : Hp) : RT :=
  Bool.rec (motive := fun _ => RT) .no (Rz.rec (motive := fun _ => RT) .no (fun ts1 => zcmK (keptL (bitB k) l) ts1 ts) (Bool.rec (motive := fun _ => HM TL) (zrK X cl yl l l ts) (hg (drB l (depL l [])) (zdr X cl yl l (depL l []) l 0 [] ts)) draw s)) (dstOk n l)
theorem zRegF_eq (X : Cx) (cl yl : Nat → List AV → HM AV) (k n : Nat) (l : List Oper) (draw : Bool) (ts : TL) (s : Hp) : zRegF X cl yl k n l draw ts s = zReg X cl yl k n l draw ts s := by
  unfold zRegF zReg
  cases dstOk n l with
  | false => rfl
  | true =>
    show (Rz.rec (motive := fun _ => RT) .no (fun ts1 => zcmK (keptL (bitB k) l) ts1 ts) _ : RT) = hb _ _ s
    rw [hb_rzK]
    unfold rzK
    have e : (fun ts1 => zcmK (keptL (bitB k) l) ts1 ts) = fun ts1 => hO (zCom (bitB k) ts1 l ts) hp := by
      funext ts1 s'
      exact zcmK_eq ts1 s' _ ts
    rw [e]
    cases draw with
    | true => rfl
    | false => rw [zrK_eq]; rfl
section
variable {X : Cx} {cl yl : Nat → List AV → HM AV} {k n : Nat}
theorem zReg_lm (hX : CxOK X) (hc : CallOK X.P cl) (hy : YieldOK X.P yl) (l : List Oper) (draw : Bool) (ts : TL) : LM (zReg X cl yl k n l draw ts) :=
  LM.ite (LM.bind (LM.ite (LM.ite (zdr_lm hX hc hy _ _ _ _) LM.fail) (zregL_lm hX hc hy _ _)) fun ts1 => LM.opt fun _ => LM.pure _) LM.fail
theorem zReg_ok {r : Option Nat} {mm : Nat} {w0 : World} (hX : CxOK X) (hc : CallOK X.P cl) (hy : YieldOK X.P yl) {id : Nat} {l : List Oper} {draw : Bool} {ts ts' : TL} {s s' : Hp} (h : zReg X cl yl k n l draw ts s = .ok ts' s') (hba : s.ba ≤ s.nx) {ρ : Env} (hf : Fre ρ s s') {ds : List Nat} {a : Act} {w : World} (hz : ZF k n w0 ρ s.gt ts ds a w) {Q : Exit → Act → World → Prop}
    (hQ : ∀ ρ' a' w', Grw ρ ρ' s s' → ZF k n w0 ρ' s'.gt ts' ds a' w' → Q .normal a' w') : (Code.region id l.toArray draw).wpIn (fw r) mm X.P Q a w := by
  have hlm := zReg_lm (k := k) (n := n) hX hc hy l draw ts
  obtain ⟨hnx, _⟩ := hlm.nx h hba
  obtain ⟨h1, h2⟩ := hg_ok h
  obtain ⟨ts1, s1, h3, h4⟩ := hb_ok h2
  obtain ⟨ts2, h5, h6⟩ := hO_ok h4
  obtain ⟨rfl, rfl⟩ := hp_ok h6
  have fin : (∀ u, (∀ o ∈ l, o.dst ≠ some u) → ts1.look u = ts.look u) → ∀ ρ' a' w', Grw ρ ρ' s s1 → a'.tmps.size = n → a'.defers = a.defers → Sl ρ' ts1 a' → ZS w0 ρ' s1.gt w' → Q .normal a' w' := fun hoff ρ' a' w' q1 q2 q3 q4 q5 => by
    obtain ⟨c1, c2⟩ := zCom_ok h5 hz.kin hoff
    obtain ⟨d1, d2⟩ := dfL_le q1.1 hz.dsd
    exact hQ ρ' a' w' q1 ⟨q2, fun u v hv => q4 u v (c2 u v hv), c1, by rw [q3, hz.ds, d1], d2, q5⟩
  cases draw with
  | false =>
    have h3 : zregL X cl yl l l ts s = .ok ts1 s1 := h3
    refine wpIn_region_lit (zregL_ok hX hc hy (n := n) l (fun o ho => dstOk_spec h1 ho) ts s ts1 s1 h3 ρ a w hnx hf hz.size hz.sl hz.zs hba ?_)
    exact fun ρ' a' w' q1 q2 q3 q4 q5 q6 => fin (zregL_off l ts s ts1 s1 h3) ρ' a' w' ⟨q1, q2⟩ q3 q4 q5 q6
  | true =>
    have h3 : hg (drB l (depL l [])) (zdr X cl yl l (depL l []) l 0 [] ts) s = .ok ts1 s1 := h3
    obtain ⟨g1, g2⟩ := hg_ok h3
    simp only [drB, Bool.and_eq_true] at g1
    obtain ⟨g3, g4, g5⟩ := g1
    obtain ⟨S, E, τ, V, a1, a2, a3, a4, a5, _, a7⟩ := zdr_run hX hc hy l 0 rfl _ _ _ _ _ g2
    simp only [Nat.zero_add] at a2 a4 a5 a7
    subst a1; subst a3; subst a2; subst a4
    have hR : ∀ k, k < l.length → DR X cl yl l S E τ V k := fun k hk => a5 k (Nat.zero_le _) hk
    have hA : ∀ j k, j < k → k < l.length → depB (depL l []) k j = true ∨ (nthO l j).apart l.toArray (nthO l k) = true := fun j k hj hk => by
      have := List.all_eq_true.1 (List.all_eq_true.1 g5 k (List.mem_range.2 hk)) j (List.mem_range.2 hj)
      simpa using this
    refine wpIn_region_any hX.mixed ?_
    have hsz : l.toArray.size = l.length := by simp
    rw [hsz]
    refine draw_any (D := depL l []) (ρ0 := ρ) (w0 := w0) (N := n) (df := a.defers) hX hc hy hR (fun j k hj hk => a7 j k (Nat.zero_le _) hj hk) hA g3 g4 (fun o ho => dstOk_spec h1 ho) ?_ l.length [] (S 0) ρ _ a _ rfl ?_
    · refine fun ρ' a' w' q1 q2 q3 q4 q5 q6 => fin (fun u hu => DR.off hR (fun k hk => hu _ (List.mem_of_getElem? (nthO_get hk))) _ (Nat.le_refl _)) ρ' a' w' ⟨q1, q2⟩ q3 q4 q5 q6
    · exact {
        nodup := .nil
        lt := by simp
        topo := .nil
        size := by simp
        mem := fun i hi => by simp [hi]
        closed := fun i hi hl => by
          have : (Array.replicate l.length false).getD i false = false := by simp [hi]
          rw [this] at hl; cases hl
        tg := fun _ => rfl
        le := Env.le.refl ρ
        out := fun _ _ => rfl
        fresh := fun k hk _ x hx1 hx2 => by
          have m1 := S_mono hR k 0 (by omega)
          have m2 := S_mono hR (l.length - (k + 1)) (k + 1) (by omega)
          rw [Nat.zero_add] at m1
          rw [show k + 1 + (l.length - (k + 1)) = l.length by omega] at m2
          exact hf x (by omega) (by omega)
        tn := hz.size
        df := rfl
        sl := fun u v hv => hz.sl u v hv
        zs := hz.zs.grow ⟨rfl, rfl, rfl, Nat.le_refl _, fun _ _ => rfl⟩ }
end
/-! ## Code -/
noncomputable def zX {α : Type} (x : ZX) (n : α) (e : Nat → α) (r : α) : α := ZX.rec (motive := fun _ => α) n e r x
def bV : AV → Option Bool
  | .b x => some x
  | _ => none
noncomputable def zSeq (x y : ZM) : ZM := fun ts ds => hb (x ts ds) fun o => zX o.x (y o.ts o.ds) (fun _ => hp o) (hp o)
noncomputable def zBlk (id : Nat) (x : ZM) : ZM := fun ts ds => hb (x ts ds) fun o => zX o.x (hp o) (fun i => hI (Nat.beq i id) (hp ⟨.nm, o.ts, o.ds⟩) (hp o)) (hp o)
noncomputable def zLoopS (x : ZM) (_ : Nat) (IH : ZM) : ZM := fun ts ds => hb (x ts ds) fun o => zX o.x (IH o.ts o.ds) (fun _ => hp o) (hp o)
noncomputable def zLoop (x : ZM) (fuel : Nat) : ZM := Nat.rec (motive := fun _ => ZM) (fun _ _ => hn) (zLoopS x) fuel
noncomputable def zCnd (c : Operand) (x y : ZM) : ZM := fun ts ds => hO (evO ts c) fun v => hO (bV v) fun b => hI b (x ts ds) (y ts ds)
noncomputable def zJump (pe : Option Code) (ts : TL) (ds : List Nat) : HM ZO := match pe with
  | none => hp ⟨.nm, ts, ds⟩
  | some c => match c with
    | .ret => hp ⟨.rt, ts, ds⟩
    | .exit i => hp ⟨.ex i, ts, ds⟩
    | _ => hn
noncomputable def zEndL (l : Nat) (ts : TL) (ds : List Nat) : HM ZO := hb (rdB l) fun o => match o with
  | .lp st pe _ _ _ _ _ _ => match st with
    | .busy => hn
    | _ => hb (wrB l none) fun _ => zJump pe ts ds
  | _ => hn
noncomputable def zRf (cl : Nat → List AV → HM AV) (rn : Option Nat) (k n : Nat) (g : Operand) (ps : Array Tmp) (as bd : Code) : ZM := fun ts ds => hO (evO ts g) fun v => match v with
  | .f gf us vs => match rn with
    | none => hb (nwB (.dl true)) fun D => hb (nwB (.lp .ready none k ts n ps as bd)) fun l => hb (cl gf (us ++ [.y l] ++ vs)) fun _ => zEndL l ts (D :: ds)
    | some l0 => hb (rdB l0) fun o => match o with
      | .lp _ _ _ _ _ _ _ _ => hb (nwB (.lp .ready none k ts n ps as bd)) fun l => hb (cl gf (us ++ [.y l] ++ vs)) fun _ => zEndL l ts ds
      | _ => hn
  | _ => hn
noncomputable def zRg (X : Cx) (cl yl : Nat → List AV → HM AV) (k n : Nat) (ops : Array Oper) (draw : Bool) : ZM := fun ts ds => hb (zReg X cl yl k n ops.toList draw ts) fun ts' => hp ⟨.nm, ts', ds⟩
noncomputable def zRgF (X : Cx) (cl yl : Nat → List AV → HM AV) (k n : Nat) (ops : Array Oper) (draw : Bool) (ts : TL) (ds : List Nat) (s : Hp) : Rz ZO := Rz.rec (motive := fun _ => Rz ZO) .no (fun ts' s' => .ok ⟨.nm, ts', ds⟩ s') (zRegF X cl yl k n ops.toList draw ts s)
theorem zRgF_eq (X : Cx) (cl yl : Nat → List AV → HM AV) (k n : Nat) (ops : Array Oper) (draw : Bool) : zRgF X cl yl k n ops draw = zRg X cl yl k n ops draw := by
  funext ts ds s
  unfold zRgF
  rw [zRegF_eq]; rfl
noncomputable def zSeqF (x y : ZM) (ts : TL) (ds : List Nat) (s : Hp) : Rz ZO := Rz.rec (motive := fun _ => Rz ZO) .no (fun o s' => ZO.rec (motive := fun _ => Rz ZO) (fun e ts' ds' => ZX.rec (motive := fun _ => Rz ZO) (y ts' ds' s') (fun _ => .ok o s') (.ok o s') e) o) (x ts ds s)
theorem zSeqF_eq (x y : ZM) : zSeqF x y = zSeq x y := by
  funext ts ds s
  show _ = (Rz.rec (motive := fun _ => Rz ZO) .no _ (x ts ds s) : Rz ZO)
  unfold zSeqF
  cases x ts ds s with
  | no => rfl
  | ok o s' => obtain ⟨e, ts', ds'⟩ := o; cases e <;> rfl
noncomputable def avB {α : Type} (v : AV) : (Bool → α) → α → α := AV.rec (motive_1 := fun _ => (Bool → α) → α → α) (motive_2 := fun _ => Unit) (fun b f _ => f b) (fun _ _ _ d => d) (fun _ _ d => d) (fun _ _ _ d => d) (fun _ d => d) (fun _ _ _ _ _ _ d => d) (fun _ d => d) (fun _ _ d => d) (fun _ d => d) (fun _ _ _ _ _ _ d => d) (fun _ _ d => d) (fun _ d => d) (fun _ d => d) (fun _ _ _ _ d => d) (fun _ _ _ d => d) (fun _ _ _ d => d) (fun _ _ _ d => d) () (fun _ _ _ _ => ()) v
noncomputable def zCndF (c : Operand) (x y : ZM) (ts : TL) (ds : List Nat) (s : Hp) : Rz ZO := Option.rec (motive := fun _ => Rz ZO) .no (fun v => avB v (fun b => Bool.rec (motive := fun _ => Rz ZO) (y ts ds s) (x ts ds s) b) .no) (evO ts c)
theorem zCndF_eq (c : Operand) (x y : ZM) : zCndF c x y = zCnd c x y := by
  funext ts ds s
  unfold zCndF zCnd
  cases evO ts c with
  | none => rfl
  | some v =>
    cases v <;> first | rfl | skip
    rename_i b
    cases b <;> rfl
noncomputable def zBlkF (id : Nat) (x : ZM) (ts : TL) (ds : List Nat) (s : Hp) : Rz ZO := Rz.rec (motive := fun _ => Rz ZO) .no (fun o s' => ZO.rec (motive := fun _ => Rz ZO) (fun e ts' ds' => ZX.rec (motive := fun _ => Rz ZO) (.ok o s') (fun i => Bool.rec (motive := fun _ => Rz ZO) (.ok o s') (.ok ⟨.nm, ts', ds'⟩ s') (Nat.beq i id)) (.ok o s') e) o) (x ts ds s)
theorem zBlkF_eq (id : Nat) (x : ZM) : zBlkF id x = zBlk id x := by
  funext ts ds s
  show _ = (Rz.rec (motive := fun _ => Rz ZO) .no _ (x ts ds s) : Rz ZO)
  unfold zBlkF
  cases x ts ds s with
  | no => rfl
  | ok o s' =>
    obtain ⟨e, ts', ds'⟩ := o
    cases e with
    | ex i => show (Bool.rec (motive := fun _ => Rz ZO) _ _ (Nat.beq i id) : Rz ZO) = hI (Nat.beq i id) _ _ s'; cases Nat.beq i id <;> rfl
    | _ => rfl
noncomputable def zLoopSF (x : ZM) (_ : Nat) (IH : ZM) (ts : TL) (ds : List Nat) (s : Hp) : Rz ZO := Rz.rec (motive := fun _ => Rz ZO) .no (fun o s' => ZO.rec (motive := fun _ => Rz ZO) (fun e ts' ds' => ZX.rec (motive := fun _ => Rz ZO) (IH ts' ds' s') (fun _ => .ok o s') (.ok o s') e) o) (x ts ds s)
noncomputable def zLoopF (x : ZM) (fuel : Nat) : ZM := Nat.rec (motive := fun _ => ZM) (fun _ _ => hn) (zLoopSF x) fuel
theorem zLoopF_eq (x : ZM) : ∀ fuel : Nat, zLoopF x fuel = zLoop x fuel
  | 0 => rfl
  | n + 1 => by
    funext ts ds s
    show zLoopSF x n (zLoopF x n) ts ds s = (Rz.rec (motive := fun _ => Rz ZO) .no _ (x ts ds s) : Rz ZO)
    rw [zLoopF_eq x n]
    unfold zLoopSF
    cases x ts ds s with
    | no => rfl
    | ok o s' => obtain ⟨e, ts', ds'⟩ := o; cases e <;> rfl
noncomputable def zc (X : Cx) (cl yl : Nat → List AV → HM AV) (rn : Option Nat) (k n : Nat) (c : Code) : ZM := Code.rec (motive := fun _ => ZM)
  (fun ts ds => hp ⟨.nm, ts, ds⟩)
  (fun _ ops draw => zRg X cl yl k n ops draw)
  (fun _ _ x y => zSeq x y)
  (fun c _ _ x y => zCnd c x y)
  (fun id _ x => zBlk id x)
  (fun _ x => zLoop x 1000000)
  (fun g ps as bd _ _ => zRf cl rn k n g ps as bd)
  (fun i ts ds => hp ⟨.ex i, ts, ds⟩)
  (fun _ x => x)
  (fun _ ts ds => hp ⟨.nm, ts, ds⟩)
  (fun _ _ _ => hn)
  (fun ts ds => hp ⟨.rt, ts, ds⟩)
  (fun _ _ _ => hn) c
noncomputable def zcF (X : Cx) (cl yl : Nat → List AV → HM AV) (rn : Option Nat) (k n : Nat) (c : Code) : ZM := Code.rec (motive := fun _ => ZM)
  (fun ts ds s => .ok ⟨.nm, ts, ds⟩ s)
  (fun _ ops draw => zRgF X cl yl k n ops draw)
  (fun _ _ x y => zSeqF x y)
  (fun c _ _ x y => zCndF c x y)
  (fun id _ x => zBlkF id x)
  (fun _ x => zLoopF x 1000000)
  (fun g ps as bd _ _ => zRf cl rn k n g ps as bd)
  (fun i ts ds s => .ok ⟨.ex i, ts, ds⟩ s)
  (fun _ x => x)
  (fun _ ts ds s => .ok ⟨.nm, ts, ds⟩ s)
  (fun _ _ _ _ => .no)
  (fun ts ds s => .ok ⟨.rt, ts, ds⟩ s)
  (fun _ _ _ _ => .no) c
theorem zcF_eq (X : Cx) (cl yl : Nat → List AV → HM AV) (rn : Option Nat) (k n : Nat) : ∀ c : Code, zcF X cl yl rn k n c = zc X cl yl rn k n c := by
  intro c
  induction c with
  | region id ops draw => exact zRgF_eq X cl yl k n ops draw
  | seq x y hx hy => show zSeqF (zcF X cl yl rn k n x) (zcF X cl yl rn k n y) = _; rw [hx, hy]; exact zSeqF_eq _ _
  | cond c x y hx hy => show zCndF c (zcF X cl yl rn k n x) (zcF X cl yl rn k n y) = _; rw [hx, hy]; exact zCndF_eq _ _ _
  | block id x hx => show zBlkF id (zcF X cl yl rn k n x) = _; rw [hx]; exact zBlkF_eq _ _
  | loop x hx => show zLoopF (zcF X cl yl rn k n x) 1000000 = _; rw [hx]; exact zLoopF_eq _ _
  | scope x hx => exact hx
  | _ => rfl
/-- The same, with runs of one's own at some places. -/
noncomputable def zcO (X : Cx) (cl yl : Nat → List AV → HM AV) (k n : Nat) (t : OV) : Code → ZM := OV.rec (motive := fun _ => Code → ZM)
  (fun c => zcF X cl yl none k n c)
  (fun m _ => m cl yl)
  (fun _ _ a b c => Code.rec (motive := fun _ => ZM) (fun _ _ => hn) (fun _ _ _ _ _ => hn) (fun x y _ _ => zSeqF (a x) (b y)) (fun _ _ _ _ _ _ _ => hn) (fun _ _ _ _ _ => hn) (fun _ _ _ _ => hn) (fun _ _ _ _ _ _ _ _ => hn) (fun _ _ _ => hn) (fun _ _ _ _ => hn) (fun _ _ _ => hn) (fun _ _ _ => hn) (fun _ _ => hn) (fun _ _ _ => hn) c)
  (fun _ a c => Code.rec (motive := fun _ => ZM) (fun _ _ => hn) (fun _ _ _ _ _ => hn) (fun _ _ _ _ _ _ => hn) (fun _ _ _ _ _ _ _ => hn) (fun id x _ => zBlkF id (a x)) (fun x _ => zLoopF (a x) 1000000) (fun _ _ _ _ _ _ _ _ => hn) (fun _ _ _ => hn) (fun x _ => a x) (fun _ _ _ => hn) (fun _ _ _ => hn) (fun _ _ => hn) (fun _ _ _ => hn) c)
  (fun _ _ a b c => Code.rec (motive := fun _ => ZM) (fun _ _ => hn) (fun _ _ _ _ _ => hn) (fun _ _ _ _ _ _ => hn) (fun c x y _ _ => zCndF c (a x) (b y)) (fun _ _ _ _ _ => hn) (fun _ _ _ _ => hn) (fun _ _ _ _ _ _ _ _ => hn) (fun _ _ _ => hn) (fun _ _ _ _ => hn) (fun _ _ _ => hn) (fun _ _ _ => hn) (fun _ _ => hn) (fun _ _ _ => hn) c) t
/-- The round that the frame is of. -/
def RN (ρ : Env) (rn r : Option Nat) : Prop := match rn, r with
  | none, none => True
  | some l, some p => ∃ q, ρ.blk l = some (p, q)
  | _, _ => False
theorem RN.le {ρ ρ' : Env} {rn r : Option Nat} (h : RN ρ rn r) (hl : ρ.le ρ') : RN ρ' rn r := by
  cases rn <;> cases r <;> simp only [RN] at h ⊢
  obtain ⟨q, h⟩ := h
  exact ⟨q, (hl.blk _ _ h).1⟩
def QZ (k n : Nat) (w0 : World) (ρ : Env) (s : Hp) (o : ZO) (s' : Hp) : Exit → Act → World → Prop := fun e a w => e = o.x.of ∧ ∃ ρ', Grw ρ ρ' s s' ∧ ZF k n w0 ρ' s'.gt o.ts o.ds a w
theorem QZ.trans {k n : Nat} {w0 : World} {ρ ρ1 : Env} {s s1 s' : Hp} {o : ZO} {e : Exit} {a : Act} {w : World} (h : QZ k n w0 ρ1 s1 o s' e a w) (hg : Grw ρ ρ1 s s1) (h1 : s.nx ≤ s1.nx) (h2 : s1.nx ≤ s'.nx) : QZ k n w0 ρ s o s' e a w := by
  obtain ⟨he, ρ', g, z⟩ := h
  exact ⟨he, ρ', hg.trans g h1 h2, z⟩
structure CodeOK (P : Program) (rn : Option Nat) (k n : Nat) (c : Code) (m : ZM) : Prop where
  lm : ∀ ts ds, LM (m ts ds)
  ok : ∀ {ts ds s o s'}, m ts ds s = .ok o s' → s.ba ≤ s.nx → ∀ {ρ r a w w0 mm}, Fre ρ s s' → RN ρ rn r → ZF k n w0 ρ s.gt ts ds a w → c.wpIn (fw r) mm P (QZ k n w0 ρ s o s') a w
theorem LM.zX {α : Type} {x : ZX} {m : HM α} {e : Nat → HM α} {r : HM α} (h1 : LM m) (h2 : ∀ i, LM (e i)) (h3 : LM r) : LM (zX x m e r) := by cases x <;> first | exact h1 | exact h2 _ | exact h3
section
variable {P : Program} {rn : Option Nat} {k n : Nat}
theorem CodeOK.skip : CodeOK P rn k n .skip (fun ts ds => hp ⟨.nm, ts, ds⟩) where
  lm := fun _ _ => LM.pure _
  ok := fun h hba ρ r a w w0 mm hf hr hz => by
    obtain ⟨rfl, rfl⟩ := hp_ok h
    exact wpIn_skip ⟨rfl, ρ, Grw.refl _ _ _, hz⟩
theorem CodeOK.label (i : Nat) : CodeOK P rn k n (.label i) (fun ts ds => hp ⟨.nm, ts, ds⟩) where
  lm := fun _ _ => LM.pure _
  ok := fun h hba ρ r a w w0 mm hf hr hz => by
    obtain ⟨rfl, rfl⟩ := hp_ok h
    exact wpIn_label ⟨rfl, ρ, Grw.refl _ _ _, hz⟩
theorem CodeOK.exit (i : Nat) : CodeOK P rn k n (.exit i) (fun ts ds => hp ⟨.ex i, ts, ds⟩) where
  lm := fun _ _ => LM.pure _
  ok := fun h hba ρ r a w w0 mm hf hr hz => by
    obtain ⟨rfl, rfl⟩ := hp_ok h
    exact wpIn_exit ⟨rfl, ρ, Grw.refl _ _ _, hz⟩
theorem CodeOK.ret : CodeOK P rn k n .ret (fun ts ds => hp ⟨.rt, ts, ds⟩) where
  lm := fun _ _ => LM.pure _
  ok := fun h hba ρ r a w w0 mm hf hr hz => by
    obtain ⟨rfl, rfl⟩ := hp_ok h
    exact wpIn_ret ⟨rfl, ρ, Grw.refl _ _ _, hz⟩
theorem CodeOK.no {c : Code} : CodeOK P rn k n c (fun _ _ => hn) where
  lm := fun _ _ => LM.fail
  ok := fun h => by cases h
theorem CodeOK.seq {x y : Code} {mx my : ZM} (hx : CodeOK P rn k n x mx) (hy : CodeOK P rn k n y my) : CodeOK P rn k n (.seq x y) (zSeq mx my) where
  lm := fun ts ds => LM.bind (hx.lm _ _) fun o => LM.zX (hy.lm _ _) (fun _ => LM.pure _) (LM.pure _)
  ok := fun h hba ρ r a w w0 mm hf hr hz => by
    obtain ⟨o1, s1, h1, h2⟩ := hb_ok h
    obtain ⟨n1, b1⟩ := (hx.lm _ _).nx h1 hba
    obtain ⟨n2, _⟩ := (LM.zX (hy.lm _ _) (fun _ => LM.pure _) (LM.pure _)).nx h2 b1
    refine wpIn_seq (wpIn_mono (hx.ok h1 hba (hf.left n2) hr hz) fun e a1 w1 ⟨he, ρ1, g, z⟩ => ?_)
    obtain ⟨x1, ts1, ds1⟩ := o1
    cases x1 with
    | nm =>
      subst he
      exact wpIn_mono (hy.ok h2 b1 (hf.right g n1) (hr.le g.1) z) fun e a w hq => hq.trans g n1 n2
    | ex i =>
      obtain ⟨rfl, rfl⟩ := hp_ok h2
      subst he
      exact ⟨rfl, ρ1, g, z⟩
    | rt =>
      obtain ⟨rfl, rfl⟩ := hp_ok h2
      subst he
      exact ⟨rfl, ρ1, g, z⟩
theorem CodeOK.block {id : Nat} {x : Code} {mx : ZM} (hx : CodeOK P rn k n x mx) : CodeOK P rn k n (.block id x) (zBlk id mx) where
  lm := fun ts ds => LM.bind (hx.lm _ _) fun o => LM.zX (LM.pure _) (fun _ => LM.ite (LM.pure _) (LM.pure _)) (LM.pure _)
  ok := fun h hba ρ r a w w0 mm hf hr hz => by
    obtain ⟨o1, s1, h1, h2⟩ := hb_ok h
    obtain ⟨n1, b1⟩ := (hx.lm _ _).nx h1 hba
    obtain ⟨n2, _⟩ := (LM.zX (LM.pure _) (fun _ => LM.ite (LM.pure _) (LM.pure _)) (LM.pure _)).nx h2 b1
    refine wpIn_block (wpIn_mono (hx.ok h1 hba (hf.left n2) hr hz) fun e a1 w1 ⟨he, ρ1, g, z⟩ => ?_)
    obtain ⟨x1, ts1, ds1⟩ := o1
    cases x1 with
    | nm =>
      obtain ⟨rfl, rfl⟩ := hp_ok h2
      subst he
      exact ⟨rfl, ρ1, g, z⟩
    | rt =>
      obtain ⟨rfl, rfl⟩ := hp_ok h2
      subst he
      exact ⟨rfl, ρ1, g, z⟩
    | ex i =>
      subst he
      simp only [ZX.of, Exit.inBlock]
      by_cases hi : i = id
      · subst hi
        have h2 : hI (Nat.beq i i) (hp (ZO.mk .nm ts1 ds1)) (hp (ZO.mk (.ex i) ts1 ds1)) s1 = .ok _ _ := h2
        rw [Nat.beq_refl] at h2
        obtain ⟨rfl, rfl⟩ := hp_ok h2
        rw [if_pos rfl]
        exact ⟨rfl, ρ1, g, z⟩
      · have h2 : hI (Nat.beq i id) (hp (ZO.mk .nm ts1 ds1)) (hp (ZO.mk (.ex i) ts1 ds1)) s1 = .ok _ _ := h2
        rw [beq_ff hi] at h2
        obtain ⟨rfl, rfl⟩ := hp_ok h2
        rw [if_neg hi]
        exact ⟨rfl, ρ1, g, z⟩
theorem CodeOK.scope {x : Code} {mx : ZM} (hx : CodeOK P rn k n x mx) : CodeOK P rn k n (.scope x) mx where
  lm := hx.lm
  ok := fun {ts ds s o s'} h hba ρ r a w w0 mm hf hr hz => wpIn_scope_straight (wpIn_mono (hx.ok h hba hf hr hz) fun e a1 w1 ⟨he, hq⟩ => by
    subst he
    obtain ⟨x1, ts1, ds1⟩ := o
    cases x1 <;> exact ⟨rfl, hq⟩)
theorem CodeOK.cond {c : Operand} {x y : Code} {mx my : ZM} (hx : CodeOK P rn k n x mx) (hy : CodeOK P rn k n y my) : CodeOK P rn k n (.cond c x y) (zCnd c mx my) where
  lm := fun ts ds => LM.opt fun _ => LM.opt fun _ => LM.ite (hx.lm _ _) (hy.lm _ _)
  ok := fun h hba ρ r a w w0 mm hf hr hz => by
    obtain ⟨v, hv, h1⟩ := hO_ok h
    obtain ⟨b, hb, h2⟩ := hO_ok h1
    have p1 := (evO_spec hz.sl hv).1
    cases v <;> first | (cases hb; done) | skip
    injection hb with hb; subst hb
    rename_i b
    refine wpIn_cond (t := b) (by rw [p1]; simp [cv]) ?_
    cases b with
    | true => exact hx.ok h2 hba hf hr hz
    | false => exact hy.ok h2 hba hf hr hz
theorem zLoop_lm {x : Code} {mx : ZM} (hx : CodeOK P rn k n x mx) : ∀ (f : Nat) (ts : TL) (ds : List Nat), LM (zLoop mx f ts ds)
  | 0, _, _ => LM.fail
  | f + 1, ts, ds => LM.bind (hx.lm _ _) fun o => LM.zX (zLoop_lm hx f _ _) (fun _ => LM.pure _) (LM.pure _)
theorem CodeOK.loop {x : Code} {mx : ZM} (hx : CodeOK P rn k n x mx) (f : Nat) : CodeOK P rn k n (.loop x) (zLoop mx f) where
  lm := zLoop_lm hx f
  ok := fun {ts ds s o s'} h hba ρ r a w w0 mm hf hr hz => by
    obtain ⟨nn, _⟩ := (zLoop_lm hx f _ _).nx h hba
    refine wpIn_loop_ghost (fun g a w => ∃ ts ds s1 ρ1, zLoop mx g ts ds s1 = .ok o s' ∧ s1.ba ≤ s1.nx ∧ s.nx ≤ s1.nx ∧ Grw ρ ρ1 s s1 ∧ Fre ρ1 s1 s' ∧ ZF k n w0 ρ1 s1.gt ts ds a w) f ⟨ts, ds, s, ρ, h, hba, Nat.le_refl _, Grw.refl _ _ _, hf, hz⟩ ?_
    rintro g a1 w1 ⟨ts1, ds1, s1, ρ1, e1, e2, e3, e4, e5, e6⟩
    cases g with
    | zero => cases e1
    | succ g =>
      obtain ⟨o2, s2, h1, h2⟩ := hb_ok (show hb (mx ts1 ds1) (fun o => zX o.x (zLoop mx g o.ts o.ds) (fun _ => hp o) (hp o)) s1 = _ from e1)
      obtain ⟨n1, b1⟩ := (hx.lm _ _).nx h1 e2
      obtain ⟨n2, _⟩ := (LM.zX (zLoop_lm hx g _ _) (fun _ => LM.pure _) (LM.pure _)).nx h2 b1
      refine wpIn_mono (hx.ok h1 e2 (e5.left n2) (hr.le e4.1) e6) fun e a2 w2 ⟨he, ρ2, g2, z2⟩ => ?_
      obtain ⟨x2, ts2, ds2⟩ := o2
      cases x2 with
      | nm =>
        subst he
        exact ⟨g, Nat.lt_succ_self g, ts2, ds2, s2, ρ2, h2, b1, by omega, e4.trans g2 e3 n1, e5.right g2 n1, z2⟩
      | ex i =>
        obtain ⟨rfl, rfl⟩ := hp_ok h2
        subst he
        exact ⟨rfl, ρ2, e4.trans g2 e3 n1, z2⟩
      | rt =>
        obtain ⟨rfl, rfl⟩ := hp_ok h2
        subst he
        exact ⟨rfl, ρ2, e4.trans g2 e3 n1, z2⟩
theorem CodeOK.region {X : Cx} {cl yl : Nat → List AV → HM AV} (hX : CxOK X) (hc : CallOK X.P cl) (hy : YieldOK X.P yl) {id : Nat} {ops : Array Oper} {draw : Bool} : CodeOK X.P rn k n (.region id ops draw) (zRg X cl yl k n ops draw) where
  lm := fun ts ds => LM.bind (zReg_lm hX hc hy _ _ _) fun _ => LM.pure _
  ok := fun h hba ρ r a w w0 mm hf hr hz => by
    obtain ⟨ts1, s1, h1, h2⟩ := hb_ok h
    obtain ⟨rfl, rfl⟩ := hp_ok h2
    obtain ⟨l⟩ := ops
    exact zReg_ok hX hc hy h1 hba hf hz fun ρ' a' w' g z => ⟨rfl, ρ', g, z⟩
end
/-- One's own runs are right where they stand. -/
noncomputable def OvOK (P : Program) (k n : Nat) (t : OV) : Code → Prop := OV.rec (motive := fun _ => Code → Prop) (fun _ => True) (fun m c => ∀ cl yl, CallOK P cl → YieldOK P yl → CodeOK P none k n c (m cl yl)) (fun _ _ a b c => match c with
  | .seq x y => a x ∧ b y
  | _ => True) (fun _ a c => match c with
  | .block _ x => a x
  | .loop x => a x
  | .scope x => a x
  | _ => True) (fun _ _ a b c => match c with
  | .cond _ x y => a x ∧ b y
  | _ => True) t
/-! ## Loops over functions, rounds, calls -/
section
variable {w0 w : World} {ρ : Env} {G : GH}
/-- The record of a loop lies where its name says. -/
theorem ZS.lp (h : ZS w0 ρ G w) {l : Nat} {st : LoopState} {pe : Option Code} {mk : Nat} {ts : TL} {sz : Nat} {ps : Array Tmp} {as bd : Code} (hl : G l = some (.lp st pe mk ts sz ps as bd)) :
    ∃ (ad : Nat) (arr : Array Value) (D fn : Nat), ρ.blk l = some (ad, 0) ∧ w.heap[ad]? = some (.loop { state := st, pending := pe, fn, tmps := arr, params := ps, assign := as, body := bd, defers := D }) ∧ arr.size = sz ∧ (∀ t v, ts.look t = some v → (arr[t]? = some (cv ρ v) ∧ Dm ρ v) ∧ bitB mk t = true) ∧
      ∀ st' pe', ZS w0 ρ (setG G l (some (.lp st' pe' mk ts sz ps as bd))) (w.putObj ad (.loop { state := st', pending := pe', fn, tmps := arr, params := ps, assign := as, body := bd, defers := D })) := by
  obtain ⟨⟨ad, q⟩, h1, _, h2, arr, D, fn, h3, h4, h5⟩ := h.at_ hl
  obtain rfl : q = 0 := h2
  refine ⟨ad, arr, D, fn, h1, h3, h4, h5, fun st' pe' => h.upd hl h1 (grownBy_putObj' w ad _) (Env.le.refl ρ) (fun _ _ _ => rfl) ⟨rfl, arr, D, fn, ?_, h4, h5⟩⟩
  exact World.putObj_heap_same (Array.getElem?_eq_some_iff.1 h3).1
theorem ZS.drop {l : Nat} {o : AO} (h : ZS w0 ρ (setG G l (some o)) w) : ZS w0 ρ (setG G l none) w := h.sub fun n x hx => by
  unfold setG at hx ⊢
  split at hx
  · cases hx
  · rename_i hn; rw [if_neg hn]; exact hx
theorem ZS.dl (h : ZS w0 ρ G w) {D : Nat} (hl : G D = some (.dl true)) : ∃ ad, ρ.blk D = some (ad, 0) ∧ w.heap[ad]? = some (.deferred (some [])) ∧ ZS w0 ρ (setG G D none) (w.putObj ad (.deferred none)) := by
  obtain ⟨⟨ad, q⟩, h1, _, h2, h3⟩ := h.at_ hl
  obtain rfl : q = 0 := h2
  refine ⟨ad, h1, h3, ZS.drop (o := .dl false) (l := D) ?_⟩
  exact h.upd hl h1 (grownBy_putObj' w ad _) (Env.le.refl ρ) (fun _ _ _ => rfl) ⟨rfl, World.putObj_heap_same (Array.getElem?_eq_some_iff.1 h3).1⟩
end
theorem zJump_lm (pe : Option Code) (ts : TL) (ds : List Nat) : LM (zJump pe ts ds) := by
  unfold zJump
  (repeat (first | exact LM.pure _ | exact LM.fail | split))
theorem zEndL_lm (l : Nat) (ts : TL) (ds : List Nat) : LM (zEndL l ts ds) := by
  unfold zEndL
  refine LM.bind (LM.read _) fun o => ?_
  split
  · split
    · exact LM.fail
    · exact LM.bind (LM.write _ _) fun _ => zJump_lm _ _ _
  · exact LM.fail
/-- What the pending jump does. -/
def JumpQ (F : Fence) (mm : Nat) (P : Program) (Q : Exit → Act → World → Prop) (a : Act) (w : World) : Option Code → Prop
  | none => Q .normal a w
  | some c => c.wpIn F mm P Q a w
theorem zJump_ok {pe : Option Code} {ts : TL} {ds : List Nat} {s s' : Hp} {o : ZO} (h : zJump pe ts ds s = .ok o s') : s' = s ∧ o.ts = ts ∧ o.ds = ds ∧ ∀ {P : Program} {F : Fence} {mm : Nat} {Q : Exit → Act → World → Prop} {a : Act} {w : World}, Q o.x.of a w → JumpQ F mm P Q a w pe := by
  cases pe with
  | none => obtain ⟨rfl, rfl⟩ := hp_ok h; exact ⟨rfl, rfl, rfl, fun h => h⟩
  | some c =>
    cases c <;> first
      | (cases h; done)
      | (obtain ⟨rfl, rfl⟩ := hp_ok h; exact ⟨rfl, rfl, rfl, fun h => wpIn_ret h⟩)
      | (obtain ⟨rfl, rfl⟩ := hp_ok h; exact ⟨rfl, rfl, rfl, fun h => wpIn_exit h⟩)
theorem zEndL_ok {l : Nat} {ts : TL} {ds : List Nat} {s s' : Hp} {o : ZO} (h : zEndL l ts ds s = .ok o s') {P : Program} {w0 w : World} {ρ : Env} (hz : ZS w0 ρ s.gt w) {ad : Nat} (hl : ρ.blk l = some (ad, 0)) :
    s'.nx = s.nx ∧ o.ts = ts ∧ o.ds = ds ∧ ∃ jump w', (Instr.endLoop ad).run P w = .ok jump w' ∧ ZS w0 ρ s'.gt w' ∧ ∀ {F : Fence} {mm : Nat} {Q : Exit → Act → World → Prop} {a : Act}, Q o.x.of a w' → JumpQ F mm P Q a w' jump := by
  unfold zEndL at h
  obtain ⟨ob, s1, h1, h2⟩ := hb_ok h
  obtain ⟨g1, g2, g3⟩ := rdB_gt h1
  split at h2
  · rename_i st pe mk ts' sz ps as bd
    obtain ⟨ad', arr, D, fn, e1, e2, e3, e4, e5⟩ := hz.lp g1
    obtain rfl : ad' = ad := by rw [e1] at hl; injection hl with hl; injection hl
    split at h2
    · cases h2
    · rename_i hst
      obtain ⟨u, s2, h3, h4⟩ := hb_ok h2
      obtain ⟨_, k2, k3⟩ := wrB_gt h3
      obtain ⟨rfl, j2, j3, j4⟩ := zJump_ok h4
      refine ⟨by rw [k3, g3], j2, j3, pe, _, run_endLoop e2 (fun e => hst e), ?_, fun hq => j4 hq⟩
      rw [k2, g2]
      exact (e5 .exhausted pe).drop
  · cases h2
section
variable {P : Program} {k n : Nat}
theorem zRf_lm {cl : Nat → List AV → HM AV} (hc : CallOK P cl) (rn : Option Nat) (g : Operand) (ps : Array Tmp) (as bd : Code) (ts : TL) (ds : List Nat) : LM (zRf cl rn k n g ps as bd ts ds) := by
  unfold zRf
  refine LM.opt fun v => ?_
  split
  · split
    · exact LM.bind (LM.new _) fun D => LM.bind (LM.new _) fun l => LM.bind (hc.lm _ _) fun _ => zEndL_lm _ _ _
    · refine LM.bind (LM.read _) fun o => ?_
      split
      · exact LM.bind (LM.new _) fun l => LM.bind (hc.lm _ _) fun _ => zEndL_lm _ _ _
      · exact LM.fail
  · exact LM.fail
/-- The call itself, from the record laid on. -/
theorem zRf_call {cl : Nat → List AV → HM AV} (hc : CallOK P cl) {gf : Nat} {us vs : List AV} {l : Nat} {ts : TL} {ds' : List Nat} {s s' : Hp} {o : ZO} (h : hb (cl gf (us ++ [.y l] ++ vs)) (fun _ => zEndL l ts ds') s = .ok o s') (hba : s.ba ≤ s.nx) {ρ : Env} (hf : Fre ρ s s') {r : Option Nat} {a : Act} {w1 w0 : World} {mm ad : Nat}
    (hl : ρ.blk l = some (ad, 0)) (hd : DmL ρ us ∧ DmL ρ vs) (hz : ZS w0 ρ s.gt w1) (hfa : ZF k n w0 ρ s.gt ts ds' a w1) {Q : Exit → Act → World → Prop} (hQ : ∀ e a w, QZ k n w0 ρ s o s' e a w → Q e a w) :
    (∃ d, d = ({ target := .fn (.func gf) (cvL ρ vs).toArray, args := (cvL ρ us).toArray ++ #[.func (.yield ad) #[] #[]] } : Deferred) ∧ (invoke d.target d.args).run P w1 = .ok (.enter gf (d.args ++ (cvL ρ vs).toArray)) w1 ∧
      CallsIn (fw r) (mm - 1) P gf (d.args ++ (cvL ρ vs).toArray) w1 (rangePost (fw r) mm P ad Q a)) := by
  obtain ⟨v3, s3, h1, h2⟩ := hb_ok h
  obtain ⟨n1, b1⟩ := (hc.lm _ _).nx h1 hba
  have hdl : DmL ρ (us ++ [.y l] ++ vs) := (DmL_iff ρ _).2 fun x hx => by
    rcases List.mem_append.1 hx with hx | hx
    · rcases List.mem_append.1 hx with hx | hx
      · exact (DmL_iff ρ _).1 hd.1 x hx
      · rw [List.mem_singleton] at hx; subst hx; simp [Dm, hl]
    · exact (DmL_iff ρ _).1 hd.2 x hx
  obtain ⟨n2, _⟩ := (zEndL_lm l ts ds').nx h2 b1
  obtain ⟨c1, c2⟩ := hc.ok h1 (hf.left n2) hdl hz
  have harg : (cvL ρ (us ++ [.y l] ++ vs)).toArray = ((cvL ρ us).toArray ++ #[.func (.yield ad) #[] #[]]) ++ (cvL ρ vs).toArray := by
    apply Array.ext'
    simp [cvL_eq, cv, hl]
  refine ⟨_, rfl, ?_, ?_⟩
  · simp [invoke, callFunc_run c1, Sem.run_bind]
  · rw [harg] at c2
    refine callsIn_fw.2 (Calls.mono c2 fun e w3 ⟨ρ3, q1, q2, q3, q4, q5⟩ => ?_)
    subst q3
    obtain ⟨z1, z2, z3, jump, w4, z4, z5, z6⟩ := zEndL_ok h2 (P := P) q5 (q1.blk _ _ hl).1
    obtain ⟨d1, d2⟩ := dfL_le q1 hfa.dsd
    refine ⟨jump, w4, z4, ?_⟩
    have hj := z6 (F := fw r) (mm := mm) (Q := Q) (a := a) (hQ _ _ _ ⟨rfl, ρ3, ⟨q1, fun x hx => q2 x (by omega)⟩, (by rw [z2, z3]; exact ⟨hfa.size, hfa.sl.mono q1, hfa.kin, by rw [d1]; exact hfa.ds, d2, z5⟩)⟩)
    · cases jump <;> exact hj
end
theorem enter_in {P : Program} {w : World} {l : Nat} {q : Loop} (h : w.heap[l]? = some (.loop q)) (fn : FuncId) (ts : Array Value) (ps : Array Tmp) (x y : Code) : (Instr.enterLoop fn ts ps x y (some l)).run P w = .ok (w.heap.size, []) (w.alloc (.loop { state := .ready, pending := none, fn, tmps := ts, params := ps, assign := x, body := y, defers := q.defers })) := by
  simp only [Instr.enterLoop, Sem.run_bind, run_getLoop h, run_newObj_alloc, Result.andThen, Sem.run_pure]
theorem Below.alloc_ {B : Nat} {w : World} (o : Obj) (h : B ≤ w.heap.size) : Below B w (w.alloc o) := (Below.refl B w).alloc h o
theorem ZS.newObj {w0 w : World} {ρ : Env} {G : GH} (h : ZS w0 ρ G w) {n : Nat} {o : AO} (hn : ρ.blk n = none) (ob : Obj) (ho : OH (ρ.lay n (w.heap.size, 0) 0) n 0 o (some ob)) : ZS w0 (ρ.lay n (w.heap.size, 0) 0) (setG G n (some o)) (w.alloc ob) :=
  h.new hn (Below.alloc_ ob (Nat.le_refl _)) (Nat.le_refl _) (by rw [World.alloc_heap_new]; exact ho)
theorem Env.lay_grw {ρ : Env} {s s' : Hp} {p : Nat × Nat} {c : Nat} (hn : ρ.blk s.nx = none) (h : s'.nx = s.nx + 1) : Grw ρ (ρ.lay s.nx p c) s s' := ⟨Env.lay_le hn, fun n hx => ρ.lay_ne (by omega)⟩
theorem CodeOK.rangeFunc {P : Program} {k n : Nat} {cl : Nat → List AV → HM AV} (hc : CallOK P cl) (rn : Option Nat) (g : Operand) (ps : Array Tmp) (as bd : Code) : CodeOK P rn k n (.rangeFunc g ps as bd) (zRf cl rn k n g ps as bd) where
  lm := zRf_lm hc rn g ps as bd
  ok := fun {ts ds s o s'} h hba ρ r a w w0 mm hf hr hz => by
    obtain ⟨v, hv, h1⟩ := hO_ok h
    obtain ⟨p1, p2⟩ := evO_spec hz.sl hv
    cases v <;> first | (cases h1; done) | skip
    rename_i gf us vs
    simp only [cv] at p1
    simp only [Dm] at p2
    have lp_oh : ∀ {ρ' : Env} {l D fn : Nat}, ρ.le ρ' → OH ρ' l 0 (.lp .ready none k ts n ps as bd) (some (.loop { state := .ready, pending := none, fn, tmps := a.tmps, params := ps, assign := as, body := bd, defers := D })) := fun hle => ⟨rfl, a.tmps, _, _, rfl, hz.size, fun t v ht => ⟨(hz.sl.mono hle) t v ht, hz.kin t v ht⟩⟩
    have hres : ∀ (l : Nat) (w1 : World), (resolve a.eval (rangeCall g l) 0).run P w1 = .ok { target := .fn (.func gf) (cvL ρ vs).toArray, args := (cvL ρ us).toArray ++ #[.func (.yield l) #[] #[]] } w1 := fun l w1 => by
      simp only [resolve, p1]
      simp [go_sem, Deferred.ofValue]
    cases rn with
    | none =>
      cases r with
      | some r => exact hr.elim
      | none =>
        obtain ⟨D, s1, h2, h3⟩ := hb_ok h1
        obtain ⟨rfl, g2, g3⟩ := nwB_gt h2
        obtain ⟨l, s2, h4, h5⟩ := hb_ok h3
        obtain ⟨rfl, g5, g6⟩ := nwB_gt h4
        obtain ⟨n1, b1⟩ := (LM.new _).nx h2 hba
        obtain ⟨n2, b2⟩ := (LM.new _).nx h4 b1
        obtain ⟨n3, _⟩ := (LM.bind (hc.lm _ _) fun _ => zEndL_lm _ _ _).nx h5 b2
        have f1 : ρ.blk s.nx = none := hf _ (Nat.le_refl _) (by omega)
        have gr1 : Grw ρ (ρ.lay s.nx (w.heap.size, 0) 0) s s1 := Env.lay_grw f1 g3
        have f2 : (ρ.lay s.nx (w.heap.size, 0) 0).blk s1.nx = none := by rw [gr1.2 _ (.inr (Nat.le_refl _))]; exact hf _ (by omega) (by omega)
        have gr2 : Grw (ρ.lay s.nx (w.heap.size, 0) 0) ((ρ.lay s.nx (w.heap.size, 0) 0).lay s1.nx (w.heap.size + 1, 0) 0) s1 s2 := Env.lay_grw f2 g6
        have gr : Grw ρ _ s s2 := gr1.trans gr2 n1 n2
        refine wpIn_rangeFunc fun fn hfn => ?_
        have z1 : ZS w0 (ρ.lay s.nx (w.heap.size, 0) 0) s1.gt (w.alloc (.deferred (some []))) := by
          rw [g2]; exact hz.zs.newObj f1 _ ⟨rfl, rfl⟩
        have z2 : ZS w0 ((ρ.lay s.nx (w.heap.size, 0) 0).lay s1.nx (w.heap.size + 1, 0) 0) s2.gt ((w.alloc (.deferred (some []))).alloc (.loop { state := .ready, pending := none, fn, tmps := a.tmps, params := ps, assign := as, body := bd, defers := w.heap.size })) := by
          rw [g5]
          have := z1.newObj f2 (o := .lp .ready none k ts n ps as bd) (.loop { state := .ready, pending := none, fn, tmps := a.tmps, params := ps, assign := as, body := bd, defers := w.heap.size }) (by rw [World.size_alloc]; exact lp_oh gr.1)
          rw [World.size_alloc] at this
          exact this
        have e1 : ((ρ.lay s.nx (w.heap.size, 0) 0).lay s1.nx (w.heap.size + 1, 0) 0).blk s.nx = some (w.heap.size, 0) := by
          rw [Env.lay_ne _ (by omega)]; exact (Env.lay_same _ _ _ _).1
        obtain ⟨d1, d2⟩ := dfL_le gr.1 hz.dsd
        obtain ⟨m1, m2⟩ := cvL_mono gr.1 us p2.1
        obtain ⟨m3, m4⟩ := cvL_mono gr.1 vs p2.2
        obtain ⟨d, hd, hinv, hcall⟩ := zRf_call (r := none) (mm := mm) (a := { a with defers := [{ target := .collected w.heap.size, args := #[] }] ++ a.defers }) hc h5 b2 (hf.right gr (by omega)) (Env.lay_same _ _ _ _).1 ⟨m2, m4⟩ z2
          ⟨hz.size, hz.sl.mono gr.1, hz.kin, by show _ :: a.defers = _ :: dfL _ ds; rw [d1, hz.ds]; simp only [e1]; rfl, fun D hD => by
            rcases List.mem_cons.1 hD with rfl | hD
            · rw [e1]; rfl
            · exact d2 D hD, z2⟩ (fun e a w hq => hq.trans gr (by omega) n3)
        rw [m1, m3] at hd
        rw [m3] at hinv hcall
        refine ⟨w.heap.size + 1, [{ target := .collected w.heap.size, args := #[] }], _, d, _, gf, _, _, run_enterLoop_outer _ _ _ _ _, ?_, fun _ _ => trivial, hinv, (fun h => by cases h), hcall⟩
        rw [hd]; exact hres _ _
    | some l0 =>
      cases r with
      | none => exact hr.elim
      | some r =>
        obtain ⟨q, hr⟩ := hr
        obtain ⟨ob, s1, h2, h3⟩ := hb_ok h1
        obtain ⟨g1, g2, g3⟩ := rdB_gt h2
        cases ob <;> first | (cases h3; done) | skip
        obtain ⟨ad, arr, D, fn0, e1, e2, _⟩ := hz.zs.lp g1
        rw [hr] at e1
        injection e1 with e1
        injection e1 with e1 _
        subst e1
        obtain ⟨l, s2, h4, h5⟩ := hb_ok h3
        obtain ⟨rfl, g5, g6⟩ := nwB_gt h4
        obtain ⟨n1, b1⟩ := (LM.read _).nx h2 hba
        obtain ⟨n2, b2⟩ := (LM.new _).nx h4 b1
        obtain ⟨n3, _⟩ := (LM.bind (hc.lm _ _) fun _ => zEndL_lm _ _ _).nx h5 b2
        have f1 : ρ.blk s1.nx = none := hf _ n1 (by omega)
        have gr1 : Grw ρ (ρ.lay s1.nx (w.heap.size, 0) 0) s1 s2 := Env.lay_grw f1 g6
        have gr : Grw ρ (ρ.lay s1.nx (w.heap.size, 0) 0) s s2 := (Grw.refl ρ s s1).trans gr1 n1 n2
        refine wpIn_rangeFunc fun fn hfn => ?_
        have z2 : ZS w0 (ρ.lay s1.nx (w.heap.size, 0) 0) s2.gt (w.alloc (.loop { state := .ready, pending := none, fn, tmps := a.tmps, params := ps, assign := as, body := bd, defers := D })) := by
          rw [g5, g2]
          exact hz.zs.newObj f1 (o := .lp .ready none k ts n ps as bd) _ (lp_oh gr.1)
        obtain ⟨d1, d2⟩ := dfL_le gr.1 hz.dsd
        obtain ⟨m1, m2⟩ := cvL_mono gr.1 us p2.1
        obtain ⟨m3, m4⟩ := cvL_mono gr.1 vs p2.2
        obtain ⟨d, hd, hinv, hcall⟩ := zRf_call (r := some r) (mm := mm) (a := { a with defers := [] ++ a.defers }) hc h5 b2 (hf.right gr (by omega)) (Env.lay_same _ _ _ _).1 ⟨m2, m4⟩ z2
          ⟨hz.size, hz.sl.mono gr.1, hz.kin, by show a.defers = _; rw [d1, hz.ds], d2, z2⟩ (fun e a w hq => hq.trans gr (by omega) n3)
        rw [m1, m3] at hd
        rw [m3] at hinv hcall
        refine ⟨w.heap.size, [], _, d, _, gf, _, _, enter_in e2 _ _ _ _ _, ?_, fun _ _ => trivial, hinv, (fun h => by cases h), hcall⟩
        rw [hd]; exact hres _ _
noncomputable def zRes1 (tab : TT) (ts : TL) (r : ResultVar) : HM AV := match r with
  | .tmp t => hO (ts.look t) hp
  | .cell a t => hO (ts.look a) fun v => hO (lookI tab t) fun i => zLoad i v
noncomputable def zResL (tab : TT) (ts : TL) (l : List ResultVar) : HM (List AV) := List.rec (motive := fun _ => HM (List AV)) (hp []) (fun r _ ih => hb (zRes1 tab ts r) fun v => hb ih fun vs => hp (v :: vs)) l
def oneV : List AV → AV
  | [v] => v
  | vs => .t vs
noncomputable def zRes (tab : TT) (ts : TL) (l : List ResultVar) : HM AV := hb (zResL tab ts l) fun vs => hp (oneV vs)
def resV (tmps : Array Value) (r : ResultVar) : Sem Value := match r with
  | .tmp t => pure (tmps.getD t undef)
  | .cell a t => do loadVar t (← asAddr (tmps.getD a undef))
theorem zRes1_lm (tab : TT) (ts : TL) (r : ResultVar) : LM (zRes1 tab ts r) := by
  cases r with
  | tmp t => exact LM.opt fun _ => LM.pure _
  | cell a t =>
    refine LM.opt fun v => LM.opt fun i => ?_
    unfold zLoad
    (repeat (first | exact LM.fail | exact LM.pure _ | refine LM.opt fun _ => ?_ | refine LM.bind (LM.read _) fun _ => ?_ | refine LM.ite ?_ ?_ | unfold hg | split))
theorem zResL_lm (tab : TT) (ts : TL) : ∀ l, LM (zResL tab ts l)
  | [] => LM.pure _
  | r :: l => LM.bind (zRes1_lm tab ts r) fun v => LM.bind (zResL_lm tab ts l) fun _ => LM.pure _
section
variable {P : Program} {tab : TT}
theorem zRes1_ok (hT : TabOk P tab) {ts : TL} {r : ResultVar} {s s' : Hp} {v : AV} (h : zRes1 tab ts r s = .ok v s') {ρ : Env} {w0 w : World} {a : Act} (hs : Sl ρ ts a) (hz : ZS w0 ρ s.gt w) : s'.gt = s.gt ∧ Dm ρ v ∧ (resV a.tmps r).run P w = .ok (cv ρ v) w := by
  cases r with
  | tmp t =>
    obtain ⟨u, h1, h2⟩ := hO_ok h
    obtain ⟨rfl, rfl⟩ := hp_ok h2
    obtain ⟨h3, h4⟩ := hs t _ h1
    exact ⟨rfl, h4, by simp [resV, Array.getD_eq_getD_getElem?, h3]⟩
  | cell x t =>
    obtain ⟨u, h1, h2⟩ := hO_ok h
    obtain ⟨i, h3, h4⟩ := hO_ok h2
    obtain ⟨h5, h6⟩ := hs x _ h1
    obtain ⟨g1, g2, g3⟩ := zLoad_run (hT t i h3) hz h6 h4
    refine ⟨g1, g2, ?_⟩
    cases u <;> first | (cases h4; done) | skip
    simp only [resV, Array.getD_eq_getD_getElem?, h5, Option.getD_some]
    simp only [Instr.loadAt, cv, Instr.sureAddr, pure_bind] at g3
    simp only [cv, asAddr, pure_bind]
    exact g3
theorem mapM_ok {ts : TL} (hT : TabOk P tab) {ρ : Env} {w0 w : World} {a : Act} (hs : Sl ρ ts a) : ∀ (l : List ResultVar) (s : Hp) (vs : List AV) (s' : Hp), zResL tab ts l s = .ok vs s' → ZS w0 ρ s.gt w → s'.gt = s.gt ∧ DmL ρ vs ∧ (l.mapM (resV a.tmps)).run P w = .ok (cvL ρ vs) w
  | [], s, vs, s', h, hz => by
    obtain ⟨rfl, rfl⟩ := hp_ok h
    exact ⟨rfl, trivial, by simp [cvL]⟩
  | r :: l, s, vs, s', h, hz => by
    obtain ⟨v, s1, h1, h2⟩ := hb_ok (show hb (zRes1 tab ts r) (fun v => hb (zResL tab ts l) fun vs => hp (v :: vs)) s = _ from h)
    obtain ⟨us, s2, h3, h4⟩ := hb_ok h2
    obtain ⟨rfl, rfl⟩ := hp_ok h4
    obtain ⟨g1, g2, g3⟩ := zRes1_ok hT h1 hs hz
    obtain ⟨e1, e2, e3⟩ := mapM_ok hT hs l s1 us _ h3 (by rw [g1]; exact hz)
    refine ⟨e1.trans g1, ⟨g2, e2⟩, ?_⟩
    rw [List.mapM_cons]
    simp [Sem.run_bind, g3, e3, Result.andThen, cvL]
theorem zRes_ok {ts : TL} (hT : TabOk P tab) {fn : Func} {s s' : Hp} {v : AV} (h : zRes tab ts fn.results.toList s = .ok v s') {ρ : Env} {w0 w : World} {a : Act} (hs : Sl ρ ts a) (hz : ZS w0 ρ s.gt w) : s'.gt = s.gt ∧ Dm ρ v ∧ (results fn a.tmps).run P w = .ok (cv ρ v) w := by
  obtain ⟨vs, s1, h1, h2⟩ := hb_ok h
  obtain ⟨rfl, rfl⟩ := hp_ok h2
  obtain ⟨g1, g2, g3⟩ := mapM_ok hT hs _ _ _ _ h1 hz
  have e2 : fn.results.mapM (resV a.tmps) = List.toArray <$> fn.results.toList.mapM (resV a.tmps) := by
    generalize fn.results = rs
    obtain ⟨l⟩ := rs
    exact List.mapM_toArray
  have e3 : (results fn a.tmps) = (fn.results.mapM (resV a.tmps)) >>= fun vs => pure (if h : vs.size = 1 then vs[0] else .tuple vs) := rfl
  refine ⟨g1, ?_, ?_⟩
  · rcases vs with _ | ⟨x, _ | ⟨y, vs⟩⟩
    · simp [oneV, Dm, DmL]
    · simp only [DmL] at g2; exact g2.1
    · simp only [oneV, Dm]; exact g2
  · rw [e3, e2]
    simp only [Sem.run_bind, map_eq_pure_bind, g3, Result.andThen, Sem.run_pure]
    rcases vs with _ | ⟨x, _ | ⟨y, vs⟩⟩ <;> simp [oneV, cvL, cv]
end
/-! ## Calls and rounds -/
noncomputable def ckBa : HM Unit := fun s => Bool.rec (motive := fun _ => Rz Unit) .no (.ok () s) (Nat.ble s.ba s.nx)
theorem ckBa_ok {s s' : Hp} {u : Unit} (h : ckBa s = .ok u s') : s' = s ∧ s.ba ≤ s.nx := by
  unfold ckBa at h
  cases hb : Nat.ble s.ba s.nx with
  | false => rw [hb] at h; cases h
  | true => rw [hb] at h; injection h with _ h; exact ⟨h.symm, Nat.le_of_ble_eq_true hb⟩
theorem LM.ckBa : LM ckBa := fun s a s' h hba => by
  obtain ⟨rfl, _⟩ := ckBa_ok h
  refine ⟨0, 0, by simp, by simp, Nat.le_refl _, rfl, by simp, fun t ht => ⟨t, ?_, ht.nx, ht.ba, by simp, by simp, fun n => ?_⟩⟩
  · unfold Go.Proofs.YtiodmphhjgkgjaaGreat.ckBa
    rw [ht.nx, ht.ba, Nat.ble_eq_true_of_le hba]
  · split
    · rename_i hn
      rcases hn with hn | hn
      · exact ht.gt n (.inl hn)
      · simp at hn
    · rfl
section
variable {X : Cx} {cl yl : Nat → List AV → HM AV}
theorem zc_ok (hX : CxOK X) (hc : CallOK X.P cl) (hy : YieldOK X.P yl) (rn : Option Nat) (k n : Nat) (c : Code) : CodeOK X.P rn k n c (zc X cl yl rn k n c) := by
  induction c with
  | skip => exact CodeOK.skip
  | region id ops draw => exact CodeOK.region hX hc hy
  | seq x y hx hy => exact CodeOK.seq hx hy
  | cond c x y hx hy => exact CodeOK.cond hx hy
  | block id x hx => exact CodeOK.block hx
  | loop x hx => exact CodeOK.loop hx 1000000
  | rangeFunc g ps as bd _ _ => exact CodeOK.rangeFunc hc rn g ps as bd
  | exit i => exact CodeOK.exit i
  | scope x hx => exact CodeOK.scope hx
  | label i => exact CodeOK.label i
  | goto _ => exact CodeOK.no
  | ret => exact CodeOK.ret
  | refuse _ => exact CodeOK.no
theorem zcF_ok (hX : CxOK X) (hc : CallOK X.P cl) (hy : YieldOK X.P yl) (rn : Option Nat) (k n : Nat) (c : Code) : CodeOK X.P rn k n c (zcF X cl yl rn k n c) := by
  rw [zcF_eq]; exact zc_ok hX hc hy rn k n c
end
section
variable {X : Cx} {cl yl : Nat → List AV → HM AV}
theorem zcO_ok (hX : CxOK X) (hc : CallOK X.P cl) (hy : YieldOK X.P yl) (k n : Nat) : ∀ (t : OV) (c : Code), OvOK X.P k n t c → CodeOK X.P none k n c (zcO X cl yl k n t c)
  | .no, c, _ => zcF_ok hX hc hy none k n c
  | .here m, c, h => h cl yl hc hy
  | .two a b, c, h => by
    cases c with
    | seq x y =>
      have h1 := CodeOK.seq (zcO_ok hX hc hy k n a x h.1) (zcO_ok hX hc hy k n b y h.2)
      rw [← zSeqF_eq] at h1
      exact h1
    | _ => exact CodeOK.no
  | .one a, c, h => by
    cases c with
    | block id x =>
      have h1 := CodeOK.block (id := id) (zcO_ok hX hc hy k n a x h)
      rw [← zBlkF_eq] at h1
      exact h1
    | loop x =>
      have h1 := CodeOK.loop (zcO_ok hX hc hy k n a x h) 1000000
      rw [← zLoopF_eq] at h1
      exact h1
    | scope x => exact CodeOK.scope (zcO_ok hX hc hy k n a x h)
    | _ => exact CodeOK.no
  | .cn a b, c, h => by
    cases c with
    | cond c x y =>
      have h1 := CodeOK.cond (c := c) (zcO_ok hX hc hy k n a x h.1) (zcO_ok hX hc hy k n b y h.2)
      rw [← zCndF_eq] at h1
      exact h1
    | _ => exact CodeOK.no
/-- The runs of one's own are right. -/
def CxOV (X : Cx) : Prop := ∀ f fn k t c, X.ft f = some (fn, k) → X.ov f = some t → fn.body = some c → OvOK X.P k fn.ntmps t c
/-- The code that a function runs. -/
noncomputable def zcV (X : Cx) (cl yl : Nat → List AV → HM AV) (k n : Nat) (f : Nat) (c : Code) : ZM := Option.rec (motive := fun _ => ZM) (zcF X cl yl none k n c) (fun t => zcO X cl yl k n t c) (X.ov f)
theorem zcV_ok (hX : CxOK X) (hV : CxOV X) (hc : CallOK X.P cl) (hy : YieldOK X.P yl) {f k : Nat} {fn : Func} {c : Code} (h1 : X.ft f = some (fn, k)) (h2 : fn.body = some c) : CodeOK X.P none k fn.ntmps c (zcV X cl yl k fn.ntmps f c) := by
  unfold zcV
  cases h : X.ov f with
  | none => exact zcF_ok hX hc hy none k fn.ntmps c
  | some t => exact zcO_ok hX hc hy k fn.ntmps t c (hV f fn k t c h1 h h2)
end
noncomputable def zMk (ds : List Nat) : HM Unit := List.rec (motive := fun _ => HM Unit) (hp ()) (fun D _ ih => hb (rdB D) fun o => match o with
  | .dl b => hg b (hb (wrB D none) fun _ => ih)
  | _ => hn) ds
theorem zMk_cons (D : Nat) (ds : List Nat) : zMk (D :: ds) = hb (rdB D) fun o => match o with
  | .dl b => hg b (hb (wrB D none) fun _ => zMk ds)
  | _ => hn := rfl
theorem zMk_lm : ∀ ds, LM (zMk ds)
  | [] => LM.pure _
  | D :: ds => by
    rw [zMk_cons]
    refine LM.bind (LM.read _) fun o => ?_
    split
    · exact LM.ite (LM.bind (LM.write _ _) fun _ => zMk_lm ds) LM.fail
    · exact LM.fail
theorem zMk_ok {P : Program} {fn : Func} {tmps : Array Value} {R : Ending → World → Prop} {m : Nat} {w0 : World} {ρ : Env} : ∀ (ds : List Nat) (s : Hp) (u : Unit) (s1 : Hp), zMk ds s = .ok u s1 → ∀ w, ZS w0 ρ s.gt w →
    (∀ w1, ZS w0 ρ s1.gt w1 → ∃ v, (results fn tmps).run P w1 = .ok v w1 ∧ R (.returned v) w1) → LeavesInM (fw none) m P fn tmps R (dfL ρ ds) .returning w
  | [], s, u, s1, h, w, hz, hR => by
    obtain ⟨_, rfl⟩ := hp_ok h
    obtain ⟨v, h1, h2⟩ := hR w hz
    exact ⟨v, h1, h2⟩
  | D :: ds, s, u, s1, h, w, hz, hR => by
    rw [zMk_cons] at h
    obtain ⟨o, s2, h1, h2⟩ := hb_ok h
    obtain ⟨g1, g2, g3⟩ := rdB_gt h1
    cases o <;> first | (cases h2; done) | skip
    obtain ⟨h3, h4⟩ := hg_ok h2
    subst h3
    obtain ⟨u2, s3, h5, h6⟩ := hb_ok h4
    obtain ⟨_, k2, k3⟩ := wrB_gt h5
    obtain ⟨ad, e1, e2, e3⟩ := hz.dl g1
    refine ⟨by simp, .inl ⟨ad, _, by simp [e1], run_takeDeferred e2, ?_⟩⟩
    exact zMk_ok ds s3 u s1 h6 _ (by rw [k2, g2]; exact e3) hR
noncomputable def argTL (mk : Nat) (vs : List AV) : Nat → TL := List.rec (motive := fun _ => Nat → TL) (fun _ => .nil) (fun v _ ih i => Bool.rec (motive := fun _ => TL) (ih (Nat.add i 1)) (.cons i v (ih (Nat.add i 1))) (bitB mk i)) vs
theorem argTL_look {mk : Nat} : ∀ (vs : List AV) (i u : Nat) (x : AV), (argTL mk vs i).look u = some x → i ≤ u ∧ vs[u - i]? = some x ∧ bitB mk u = true
  | [], i, u, x, h => by cases h
  | v :: vs, i, u, x, h => by
    have h1 : (Bool.rec (motive := fun _ => TL) (argTL mk vs (i + 1)) (.cons i v (argTL mk vs (i + 1))) (bitB mk i)).look u = some x := h
    have next : (argTL mk vs (i + 1)).look u = some x → i ≤ u ∧ (v :: vs)[u - i]? = some x ∧ bitB mk u = true := fun h => by
      obtain ⟨h1, h2, h3⟩ := argTL_look vs (i + 1) u x h
      refine ⟨by omega, ?_, h3⟩
      rw [show u - i = (u - (i + 1)) + 1 by omega]
      simpa using h2
    cases hb : bitB mk i with
    | false => rw [hb] at h1; exact next h1
    | true =>
      rw [hb] at h1
      have h2 : (TL.cons i v (argTL mk vs (i + 1))).look u = some x := h1
      rw [TL.look_cons] at h2
      by_cases hu : i = u
      · rw [if_pos hu] at h2; subst hu; exact ⟨Nat.le_refl _, by simpa using h2, hb⟩
      · rw [if_neg hu] at h2; exact next h2
noncomputable def zFin (X : Cx) (fn : Func) (o : ZO) : HM AV := hb (zMk o.ds) fun _ => zRes X.tab o.ts fn.results.toList
noncomputable def zCallN (X : Cx) (cl yl : Nat → List AV → HM AV) (f : Nat) (vs : List AV) : HM AV := hO (X.ft f) fun p => hO p.1.body fun c => hg (Nat.ble vs.length p.1.ntmps)
  (hb (zcV X cl yl p.2 p.1.ntmps f c (argTL p.2 vs 0) []) fun o => zX o.x (zFin X p.1 o) (fun _ => hn) (zFin X p.1 o))
noncomputable def zCall (X : Cx) (cl yl : Nat → List AV → HM AV) (f : Nat) (vs : List AV) : HM AV := hb ckBa fun _ => zCallN X cl yl f vs
theorem zFin_lm (X : Cx) (fn : Func) (o : ZO) : LM (zFin X fn o) := LM.bind (zMk_lm _) fun _ => LM.bind (zResL_lm _ _ _) fun _ => LM.pure _
section
variable {X : Cx} {cl yl : Nat → List AV → HM AV}
theorem zCallN_lm (hX : CxOK X) (hV : CxOV X) (hc : CallOK X.P cl) (hy : YieldOK X.P yl) (f : Nat) (vs : List AV) : LM (zCallN X cl yl f vs) := fun s a s' h => by
  obtain ⟨p, h3, h4⟩ := hO_ok (show hO (X.ft f) _ s = _ from h)
  obtain ⟨c, h5, h6⟩ := hO_ok h4
  have h7 : LM (hg (Nat.ble vs.length p.1.ntmps) (hb (zcV X cl yl p.2 p.1.ntmps f c (argTL p.2 vs 0) []) fun o => zX o.x (zFin X p.1 o) (fun _ => hn) (zFin X p.1 o))) :=
    LM.ite (LM.bind ((zcV_ok hX hV hc hy h3 h5).lm _ _) fun o => LM.zX (zFin_lm _ _ _) (fun _ => LM.fail) (zFin_lm _ _ _)) LM.fail
  have e : zCallN X cl yl f vs = hg (Nat.ble vs.length p.1.ntmps) (hb (zcV X cl yl p.2 p.1.ntmps f c (argTL p.2 vs 0) []) fun o => zX o.x (zFin X p.1 o) (fun _ => hn) (zFin X p.1 o)) := by
    unfold zCallN
    rw [h3]
    show hO p.1.body _ = _
    rw [h5]; rfl
  rw [e] at h ⊢
  exact h7 s a s' h
theorem zCall_ok (hX : CxOK X) (hV : CxOV X) (hc : CallOK X.P cl) (hy : YieldOK X.P yl) : CallOK X.P (zCall X cl yl) where
  lm := fun f vs => LM.bind LM.ckBa fun _ => zCallN_lm hX hV hc hy f vs
  ok := fun {f vs s v s'} h ρ w w0 hf hd hz => by
    obtain ⟨u, s1, h1, h2⟩ := hb_ok h
    obtain ⟨rfl, hba⟩ := ckBa_ok h1
    · obtain ⟨p, h3, h4⟩ := hO_ok (show hO (X.ft f) _ s1 = _ from h2)
      obtain ⟨c, h5, h6⟩ := hO_ok h4
      obtain ⟨h7, h8⟩ := hg_ok h6
      obtain ⟨o, s2, h9, h10⟩ := hb_ok h8
      obtain ⟨fn, k⟩ := p
      dsimp only at h5 h7 h8 h9 h10
      obtain ⟨hfn, hbody⟩ := hX.ft f fn k h3
      have hlen := Nat.le_of_ble_eq_true h7
      have hcode := zcV_ok hX hV hc hy h3 h5
      obtain ⟨n1, b1⟩ := (hcode.lm _ _).nx h9 hba
      obtain ⟨n2, _⟩ := (LM.zX (zFin_lm X fn o) (fun _ => LM.fail) (zFin_lm X fn o)).nx h10 b1
      have hfin : (o.x = .nm ∨ o.x = .rt) ∧ zFin X fn o s2 = .ok v s' := by
        cases hx : o.x with
        | nm => rw [hx] at h10; exact ⟨.inl rfl, h10⟩
        | ex i => rw [hx] at h10; cases h10
        | rt => rw [hx] at h10; exact ⟨.inr rfl, h10⟩
      refine ⟨hbody, (callsIn_wide (n := 5)).1 (callsIn_of_wp_marks (F := fw none) hfn h5 trivial ?_)⟩
      refine wpIn_mono (hcode.ok h9 hba (r := none) (mm := 5) (w0 := w0) (ρ := ρ) (Fre.left hf n2) trivial ⟨?_, ?_, ?_, rfl, by simp, hz⟩) ?_
      · simp [cvL_len]; omega
      · intro t x hx
        obtain ⟨_, e2, e3⟩ := argTL_look vs 0 t x hx
        have hlt : t < vs.length := (List.getElem?_eq_some_iff.1 e2).1
        refine ⟨?_, (DmL_iff ρ _).1 hd x (List.mem_of_getElem? e2)⟩
        rw [Array.getElem?_append_left (by simpa [cvL_len] using hlt)]
        simp only [Nat.sub_zero] at e2
        simp [cvL_eq, e2]
      · exact fun t x hx => (argTL_look vs 0 t x hx).2.2
      · rintro e a w1 ⟨he, ρ1, g, z⟩
        obtain ⟨u2, s3, e1, e2⟩ := hb_ok hfin.2
        obtain ⟨n3, b3⟩ := (zMk_lm _).nx e1 b1
        have key : LeavesInM (fw none) 5 X.P fn a.tmps (CallR w0 ρ s1 v s') a.defers .returning w1 := by
          rw [z.ds]
          refine zMk_ok o.ds s2 u2 s3 e1 w1 z.zs fun w3 z3 => ?_
          obtain ⟨k1, k2, k3⟩ := zRes_ok hX.tab e2 z.sl z3
          refine ⟨_, k3, ρ1, g.1, fun x hx => g.2 x ?_, rfl, k2, by rw [k1]; exact z3⟩
          rcases hx with hx | hx
          · exact .inl hx
          · exact .inr (by omega)
        rcases hfin.1 with hx | hx <;> rw [hx] at he <;> subst he <;> exact key
end
end Go.Proofs.YtiodmphhjgkgjaaGreat
