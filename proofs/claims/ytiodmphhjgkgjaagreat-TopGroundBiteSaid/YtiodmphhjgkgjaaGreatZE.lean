/- What is built: lemmas for the rows of this seat. No conditions. -/
import Derived.Test.YtiodmphhjgkgjaaGreatZD
set_option linter.all false
namespace Go.Proofs.YtiodmphhjgkgjaaGreat
open Go.RowKit
/-! ## What is built -/
section
variable {P : Program} {tab : TT} {o : Oper}
theorem run_buildS (hT : TabOk P tab) {t e m : Nat} {i i' : TI} (hi : lookI tab t = some i) (hl : i.d = .sl e) (hi' : lookI tab e = some i') {vs : List Value} (h2 : ∀ v ∈ vs, v.cells.size = i'.size) (hm : vs.length = m) (h24 : m * i'.size ≤ 16777216) (w : World) :
    (Instr.buildSlice t m (pairsFrom 0 vs).toArray).run P w = .ok (.slice (some ⟨w.heap.size, 0, none⟩) m m) (w.alloc (.cells (catC vs).toArray e)) := by
  obtain ⟨z, hz1, hz2⟩ := (hT e i' hi').zv w
  have hsz := (hT e i' hi').sz w
  have hfill : ∀ cells : Array Value, cells.size = m * i'.size → Instr.fill (fun i => some (i * i'.size, i'.size)) cells (pairsFrom 0 vs) = some (catC vs).toArray := fun cells hc => by
    rw [fill_seq vs 0 cells h2 (by rw [Nat.zero_add, hm, hc]; exact Nat.le_refl _)]
    simp only [Nat.zero_mul, List.take_zero, List.nil_append, Nat.zero_add]
    rw [List.drop_of_length_le (by simp [hc, hm]), List.append_nil]
  have hrun : (Instr.buildSlice t m (pairsFrom 0 vs).toArray).run P w = .ok (.slice (some ⟨w.heap.size, 0, none⟩) m m) (w.alloc (.cells (catC vs).toArray e)) := by
    simp only [Instr.buildSlice, Sem.run_bind, run_underlying ((hT t i hi).sl hl), Result.andThen_ok, hsz, if_neg (show ¬ m * i'.size > 2 ^ 24 by omega)]
    by_cases h0 : m * i'.size = 0
    · simp only [h0, if_true, Sem.run_pure, Result.andThen_ok]
      have := hfill ((Array.range 0).map fun _ => default) (by simp [h0])
      simp [this, newRow]
    · simp only [h0, if_false, Sem.run_bind, hz1, Result.andThen_ok, Sem.run_pure]
      have := hfill ((Array.range (m * i'.size)).map fun x => z.cells[x % z.cells.size]!) (by simp)
      simp only [this]
      simp [newRow]
  exact hrun
theorem run_buildSt (hT : TabOk P tab) {t : TypeId} {i : TI} (hi : lookI tab t = some i) {l : List (Nat × Nat)} (hl : i.d = .st l) {pv : List (Nat × Value)} {cellsL : List Value} (hfL : fillL (fun j => match l[j]? with
      | none => none
      | some p => match lookI tab p.2 with
        | none => none
        | some q => some (p.1, q.size)) i.zero pv = some cellsL) (w : World) : (Instr.build t pv.toArray).run P w = .ok (.agg cellsL.toArray) w := by
  obtain ⟨cells, hcells⟩ : ∃ cells, cells = cellsL.toArray := ⟨_, rfl⟩
  rw [← hcells]
  have hf := fillL_spec _ pv i.zero cellsL hfL
  rw [← hcells] at hf
  obtain ⟨z, hz1, hz2⟩ := (hT t i hi).zv w
  obtain ⟨fs, f1, f2, f3⟩ := (hT t i hi).st hl
  have hM : ∀ (L : List Field) (w : World), (∀ f ∈ L, P.cellsOf f.type ≠ 0) → (L.mapM (fun f => (do pure (f.offset, ← sizeOf f.type) : Sem (Nat × Nat)))).run P w = .ok (L.map fun f => (f.offset, P.cellsOf f.type)) w := by
    intro L
    induction L with
    | nil => intro w _; simp
    | cons f L ih =>
      intro w hL
      simp only [List.mapM_cons, Sem.run_bind, sizeOf_cells (hL f (.head _)), ih w fun q hq => hL q (.tail _ hq), Result.andThen_ok, Sem.run_pure, List.map_cons]
  have hmono : ∀ (pv : List (Nat × Value)) (p q : Nat → Option (Nat × Nat)) (cs : Array Value) (r : Array Value), (∀ j v, p j = some v → q j = some v) → Instr.fill p cs pv = some r → Instr.fill q cs pv = some r := by
    intro pv
    induction pv with
    | nil => intro p q cs r _ h; exact h
    | cons x pv ih =>
      intro p q cs r hpq h
      obtain ⟨j, v⟩ := x
      simp only [Instr.fill] at h ⊢
      cases hj : p j with
      | none => simp [hj] at h
      | some s =>
        rw [hj] at h
        rw [hpq j s hj]
        simp only at h ⊢
        split at h
        · cases h
        · rename_i hc
          rw [if_neg hc]
          exact ih p q _ r hpq h
  have hfill := hmono pv _ (fun j => (fs.toList.map fun f => (f.offset, P.cellsOf f.type))[j]?) _ cells (fun j v hj => by
    rw [← f2, List.getElem?_map] at hj
    rw [List.getElem?_map]
    cases hq : fs.toList[j]? with
    | none => simp [hq] at hj
    | some f =>
      simp only [hq, Option.map_some] at hj
      cases hq' : lookI tab f.type with
      | none => simp [hq'] at hj
      | some q =>
        simp only [hq', Option.some.injEq] at hj
        subst hj
        simp [(hT _ _ hq').size]) hf
  have hMA : (fs.mapM (fun f => (do pure (f.offset, ← sizeOf f.type) : Sem (Nat × Nat)))).run P w = .ok (fs.toList.map fun f => (f.offset, P.cellsOf f.type)).toArray w := by
    rw [Array.mapM_eq_mapM_toList]
    simp only [Functor.map, Sem.run_bind']
    rw [hM fs.toList w f3]
    rfl
  have hrun : (Instr.build t pv.toArray).run P w = .ok (.agg cells) w := by
    simp only [Instr.build, Sem.run_bind, hz1, run_underlying f1, Result.andThen_ok, hMA, hz2]
    simp only [List.getElem?_toArray]
    rw [hfill]
    rfl
  exact hrun
theorem run_buildAr (hT : TabOk P tab) {t e m : Nat} {i i' : TI} (hi : lookI tab t = some i) (hl : i.d = .ar m e) (hi' : lookI tab e = some i') {pv : List (Nat × Value)} {cellsL : List Value} (hfL : fillL (fun j => some (j * i'.size, i'.size)) i.zero pv = some cellsL) (w : World) : (Instr.build t pv.toArray).run P w = .ok (.agg cellsL.toArray) w := by
  have hf := fillL_spec _ pv i.zero cellsL hfL
  obtain ⟨z, hz1, hz2⟩ := (hT t i hi).zv w
  simp only [Instr.build, Sem.run_bind, hz1, run_underlying ((hT t i hi).ar hl), Result.andThen_ok, (hT e i' hi').sz, hz2, hf]
  rfl
noncomputable def zvP (ts : TL) : List (Nat × Operand) → Option (List (Nat × AV))
  | [] => some []
  | (i, x) :: l => match evO ts x with
    | none => none
    | some v => match zvP ts l with
      | none => none
      | some r => some ((i, v) :: r)
theorem zvP_spec {ρ : Env} {ts : TL} {a : Act} (h : Sl ρ ts a) : ∀ {l : List (Nat × Operand)} {r : List (Nat × AV)}, zvP ts l = some r → l.map (fun p => (p.1, a.eval p.2)) = r.map (fun p => (p.1, cv ρ p.2)) ∧ ∀ p ∈ r, Dm ρ p.2
  | [], r, hr => by injection hr with hr; subst hr; simp
  | (i, x) :: l, r, hr => by
    simp only [zvP] at hr
    split at hr <;> first | (cases hr; done) | skip
    rename_i v hv
    split at hr <;> first | (cases hr; done) | skip
    rename_i r' hr'
    injection hr with hr; subst hr
    obtain ⟨h3, h4⟩ := evO_spec h hv
    obtain ⟨h5, h6⟩ := zvP_spec h hr'
    refine ⟨by simp [h3, h5], fun p hp => ?_⟩
    rcases List.mem_cons.1 hp with rfl | hp
    · exact h4
    · exact h6 p hp
def fillA (f : Nat → Option (Nat × Nat)) : List AV → List (Nat × AV) → Option (List AV)
  | cs, [] => some cs
  | cs, (i, v) :: ps => match f i with
    | none => none
    | some (off, size) => match Nat.beq (cellsA v).length size && Nat.ble (off + size) cs.length with
      | false => none
      | true => fillA f (setManyA cs off (cellsA v)) ps
theorem fillA_spec (ρ : Env) (f : Nat → Option (Nat × Nat)) : ∀ (ps : List (Nat × AV)) (cs r : List AV), (∀ p ∈ ps, Dm ρ p.2) → DmL ρ cs → fillA f cs ps = some r → fillL f (cvL ρ cs) (ps.map fun p => (p.1, cv ρ p.2)) = some (cvL ρ r) ∧ DmL ρ r
  | [], cs, r, _, hd, h => by injection h with h; subst h; exact ⟨rfl, hd⟩
  | (i, v) :: ps, cs, r, hp, hd, h => by
    simp only [fillA] at h
    obtain ⟨c1, c2⟩ := cellsA_cv ρ v
    cases hf : f i with
    | none => rw [hf] at h; cases h
    | some q =>
      obtain ⟨off, size⟩ := q
      rw [hf] at h
      simp only at h
      cases hb : Nat.beq (cellsA v).length size && Nat.ble (off + size) cs.length with
      | false => rw [hb] at h; cases h
      | true =>
        rw [hb] at h
        simp only at h
        have hb' := hb
        rw [Bool.and_eq_true] at hb'
        have l1 := Nat.eq_of_beq_eq_true hb'.1
        have l2 := Nat.le_of_ble_eq_true hb'.2
        obtain ⟨s1, s2, s3⟩ := setManyA_spec ρ off cs (cellsA v) (by omega)
        obtain ⟨r1, r2⟩ := fillA_spec ρ f ps _ r (fun p hp' => hp p (.tail _ hp')) (s2 hd (c2 (hp (i, v) (.head _)))) h
        refine ⟨?_, r2⟩
        simp only [List.map_cons, fillL, hf]
        rw [c1, cvL_len, cvL_len, hb]
        simp only
        rw [← s1]; exact r1
noncomputable def zBuild (tab : TT) (t : TypeId) (parts : Array (Nat × Operand)) (ts : TL) : HM AV := hO (lookI tab t) fun i => hO (toAL i.zero) fun z => hO (zvP ts parts.toList) fun pv => match i.d with
  | .st l => hO (fillA (fun j => match l[j]? with
      | none => none
      | some p => match lookI tab p.2 with
        | none => none
        | some q => some (p.1, q.size)) z pv) fun cs => hp (.g cs)
  | .ar _ e => hO (lookI tab e) fun i' => hO (fillA (fun j => some (j * i'.size, i'.size)) z pv) fun cs => hp (.g cs)
  | _ => hn
theorem ops_build (hT : TabOk P tab) {t : TypeId} {parts : Array (Nat × Operand)} (hop : o.op = .build t parts) : OpS P o (zBuild tab t parts) where
  lm := fun ts => by unfold zBuild; (repeat (first | exact LM.pure _ | exact LM.fail | exact LM.read _ | exact LM.write _ _ | exact LM.new _ | assumption | refine LM.bind ?_ fun _ => ?_ | refine LM.opt fun _ => ?_ | refine LM.ite ?_ ?_ | split))
  ok := fun {ts s r s'} h ρ a w w0 hf hs hz => by
    obtain ⟨i, hi, h1⟩ := hO_ok h
    obtain ⟨z, hzz, h2⟩ := hO_ok h1
    obtain ⟨pv, hpv, h3⟩ := hO_ok h2
    obtain ⟨q1, q2⟩ := zvP_spec hs hpv
    obtain ⟨z1, z2⟩ := toAL_spec ρ hzz
    have e3 : (parts.map fun x => match x with | (i, x) => (i, a.eval x)) = (pv.map fun p => (p.1, cv ρ p.2)).toArray := by
      apply Array.ext'
      simpa using q1
    (try dsimp only at h3)
    cases hl : i.d <;> rw [hl] at h3 <;> first | (cases h3; done) | skip
    · rename_i l
      obtain ⟨cs, hcs, h4⟩ := hO_ok h3
      obtain ⟨rfl, rfl⟩ := hp_ok h4
      obtain ⟨f1, f2⟩ := fillA_spec ρ _ pv z cs q2 z2 hcs
      rw [z1] at f1
      refine Ends.val hz rfl (by simpa [Dm] using f2) ?_
      simp only [execOp, hop]
      rw [e3]
      simp [run_buildSt hT hi hl f1 w, cv]
    · rename_i m e
      obtain ⟨i', hi', h4⟩ := hO_ok h3
      obtain ⟨cs, hcs, h5⟩ := hO_ok h4
      obtain ⟨rfl, rfl⟩ := hp_ok h5
      obtain ⟨f1, f2⟩ := fillA_spec ρ _ pv z cs q2 z2 hcs
      rw [z1] at f1
      refine Ends.val hz rfl (by simpa [Dm] using f2) ?_
      simp only [execOp, hop]
      rw [e3]
      simp [run_buildAr hT hi hl hi' f1 w, cv]
def catA : List AV → List AV
  | [] => []
  | v :: vs => cellsA v ++ catA vs
noncomputable def zvS (ts : TL) (sz : Nat) : Nat → List (Nat × Operand) → Option (List AV)
  | _, [] => some []
  | j, (i, x) :: l => match Nat.beq i j with
    | false => none
    | true => match evO ts x with
      | none => none
      | some v => match Nat.beq (cellsA v).length sz with
        | false => none
        | true => match zvS ts sz (j + 1) l with
          | none => none
          | some r => some (v :: r)
theorem zvS_spec {ρ : Env} {ts : TL} {a : Act} (h : Sl ρ ts a) {sz : Nat} : ∀ {l : List (Nat × Operand)} {j : Nat} {r : List AV}, zvS ts sz j l = some r → l.map (fun p => (p.1, a.eval p.2)) = pairsFrom j (cvL ρ r) ∧ (∀ v ∈ cvL ρ r, v.cells.size = sz) ∧ catC (cvL ρ r) = cvL ρ (catA r) ∧ DmL ρ (catA r)
  | [], j, r, hr => by injection hr with hr; subst hr; simp [cvL, pairsFrom, catC, catA, DmL]
  | (i, x) :: l, j, r, hr => by
    simp only [zvS] at hr
    split at hr <;> first | (cases hr; done) | skip
    rename_i hij
    obtain rfl := Nat.eq_of_beq_eq_true hij
    split at hr <;> first | (cases hr; done) | skip
    rename_i v hv
    split at hr <;> first | (cases hr; done) | skip
    rename_i hb
    split at hr <;> first | (cases hr; done) | skip
    rename_i r' hr'
    injection hr with hr; subst hr
    obtain ⟨h3, h4⟩ := evO_spec h hv
    obtain ⟨h5, h6, h7, h8⟩ := zvS_spec h hr'
    obtain ⟨c1, c2⟩ := cellsA_cv ρ v
    have hsz : (cv ρ v).cells.size = sz := by
      have := congrArg List.length c1
      rw [cvL_len, Nat.eq_of_beq_eq_true hb] at this
      simpa using this
    refine ⟨by simp [h3, h5, cvL, pairsFrom], fun u hu => ?_, ?_, ?_⟩
    · simp only [cvL] at hu
      rcases List.mem_cons.1 hu with rfl | hu
      · exact hsz
      · exact h6 u hu
    · simp only [cvL, catC, catA, c1, h7]
      simp [cvL_eq]
    · exact (DmL_iff ρ _).2 fun u hu => by
        rcases List.mem_append.1 hu with hu | hu
        · exact (DmL_iff ρ _).1 (c2 h4) u hu
        · exact (DmL_iff ρ _).1 h8 u hu
noncomputable def zBuildS (tab : TT) (t m : Nat) (parts : Array (Nat × Operand)) (ts : TL) : HM AV := hO (lookI tab t) fun i => match i.d with
  | .sl e => hO (lookI tab e) fun i' => hO (zvS ts i'.size 0 parts.toList) fun vs => hg (Nat.beq vs.length m) (hg (Nat.ble (m * i'.size) 16777216) (hb (nwB (.cs e (catA vs) none)) fun n => hp (.l n 0 m (some m) 0)))
  | _ => hn
theorem ops_buildS (hT : TabOk P tab) {t m : Nat} {parts : Array (Nat × Operand)} (hop : o.op = .buildSlice t m parts) : OpS P o (zBuildS tab t m parts) where
  lm := fun ts => by unfold zBuildS hg; (repeat (first | exact LM.pure _ | exact LM.fail | exact LM.read _ | exact LM.write _ _ | exact LM.new _ | assumption | refine LM.bind ?_ fun _ => ?_ | refine LM.opt fun _ => ?_ | refine LM.ite ?_ ?_ | split))
  ok := fun {ts s r s'} h ρ a w w0 hf hs hz => by
    obtain ⟨i, hi, h1⟩ := hO_ok h
    (try dsimp only at h1)
    cases hl : i.d <;> rw [hl] at h1 <;> first | (cases h1; done) | skip
    rename_i e
    obtain ⟨i', hi', h2⟩ := hO_ok h1
    obtain ⟨vs, hvs, h3⟩ := hO_ok h2
    obtain ⟨b1, h4⟩ := hg_ok h3
    obtain ⟨b2, h5⟩ := hg_ok h4
    obtain ⟨n, s1, hm, h6⟩ := hb_ok h5
    obtain ⟨rfl, rfl⟩ := hp_ok h6
    obtain ⟨rfl, e2, e3⟩ := nwB_gt hm
    obtain ⟨q1, q2, q3, q4⟩ := zvS_spec hs hvs
    have hn := hf s.nx (Nat.le_refl _) (by omega)
    have e3 : (parts.map fun x => match x with | (i, x) => (i, a.eval x)) = (pairsFrom 0 (cvL ρ vs)).toArray := by
      apply Array.ext'
      simpa using q1
    have hrun := run_buildS (P := P) hT hi hl hi' q2 (by rw [cvL_len]; exact Nat.eq_of_beq_eq_true b1) (Nat.le_of_ble_eq_true b2) w
    rw [q3] at hrun
    refine Ends.new (c := 0) (b := w.heap.size) (q := 0) (f := fun n => .p n 0) hm hz hn ((Below.refl _ _).alloc (Nat.le_refl _) (.cells (cvL ρ (catA vs)).toArray e)) (Nat.le_refl _) (cs_new hn rfl q4) (by simp [Dm, Env.lay]) ?_
    simp only [execOp, hop]
    rw [e3]
    simp [hrun, cv, Env.at_, Env.lay]
end
/-! ## Slices and the builtins on them -/
def repA (n : Nat) (l : List AV) : List AV := match n with
  | 0 => []
  | n + 1 => l ++ repA n l
/-- A number that is not below nought. -/
def znat (v : AV) : Option Nat := match v with
  | .i _ p => match p with
    | .ofNat a => some a
    | .negSucc _ => none
  | _ => none
theorem znat_spec {v : AV} {a : Nat} (h : znat v = some a) : ∃ k, v = .i k (a : Int) := by
  unfold znat at h
  split at h
  · split at h
    · injection h with h; subst h; exact ⟨_, rfl⟩
    · cases h
  · cases h
noncomputable def zMkMap (tab : TT) (kf : Nat → Option KD) (t : TypeId) (r : Option Operand) : HM AV := match r with
  | none => hO (lookI tab t) fun i => match i.d with
    | .mp kt _ => hO (kf kt) fun kd => hb (nwB (.mp kd [] [] 0)) fun n => hp (.m n)
    | _ => hn
  | some _ => hn
noncomputable def zMkSlice (tab : TT) (t : TypeId) (x y : Operand) (ts : TL) : HM AV := hO (evO ts x) fun v => hO (evO ts y) fun u => hO (znat v) fun l => hO (znat u) fun c => hO (lookI tab t) fun i => match i.d with
  | .sl e => hO (lookI tab e) fun k => hO (toAL k.zero) fun z => hg (Nat.ble l c) (hg (Nat.ble (k.bytes * c) 281474976710656) (hg (Nat.ble c 1000000) (hg (Nat.beq k.zero.length k.size) (hb (nwB (.cs e (repA c z) none)) fun n => hp (.l n 0 l (some c) 0)))))
  | _ => hn
section
variable {P : Program} {tab : TT} {o : Oper}
theorem ops_mkMap {kf : Nat → Option KD} {t : TypeId} {r : Option Operand} (hop : o.op = .makeMap t r) : OpS P o (fun _ => zMkMap tab kf t r) where
  lm := fun ts => by unfold zMkMap; (repeat (first | exact LM.pure _ | exact LM.fail | exact LM.read _ | exact LM.write _ _ | exact LM.new _ | assumption | refine LM.bind ?_ fun _ => ?_ | refine LM.opt fun _ => ?_ | refine LM.ite ?_ ?_ | split))
  ok := fun {ts s v s'} h ρ a w w0 hf hs hz => by
    unfold zMkMap at h
    cases r with
    | some _ => cases h
    | none =>
    obtain ⟨i, hi, h1⟩ := hO_ok h
    (try dsimp only at h1)
    cases hd : i.d <;> rw [hd] at h1 <;> first | (cases h1; done) | skip
    rename_i kt et
    obtain ⟨kd, hk, h2⟩ := hO_ok h1
    obtain ⟨n, s1, hm, h3⟩ := hb_ok h2
    obtain ⟨rfl, rfl⟩ := hp_ok h3
    obtain ⟨rfl, e2, e3⟩ := nwB_gt hm
    have hn := hf s.nx (Nat.le_refl _) (by omega)
    refine Ends.new (c := 0) (b := w.heap.size) (q := 0) (f := fun n => .p n 0) hm hz hn ((Below.refl _ _).alloc (Nat.le_refl _) (.map #[] 0)) (Nat.le_refl _) ?_ (by simp [Dm, Env.lay]) ?_
    · refine ⟨rfl, [], ?_, by simp, by simp, fun i s hi => ?_⟩
      · rw [heap_alloc_new w _]
        exact MapP.new
      · simp [Env.lay] at hi
    · have := run_makeMap (P := P) t w
      simp only [execOp, hop, Option.map_none]
      simp [this, cv, Env.lay]
theorem cvL_rep (ρ : Env) (z : List AV) : ∀ n, cvL ρ (repA n z) = (List.replicate n (cvL ρ z)).flatten ∧ (DmL ρ z → DmL ρ (repA n z))
  | 0 => by simp [repA, cvL, DmL]
  | n + 1 => by
    obtain ⟨h1, h2⟩ := cvL_rep ρ z n
    refine ⟨?_, fun h => ?_⟩
    · have : cvL ρ (repA (n + 1) z) = cvL ρ z ++ cvL ρ (repA n z) := by simp [repA, cvL_eq]
      rw [this, h1]; simp [List.replicate_succ]
    · exact (DmL_iff ρ _).2 fun u hu => by
        rcases List.mem_append.1 hu with hu | hu
        · exact (DmL_iff ρ _).1 h u hu
        · exact (DmL_iff ρ _).1 (h2 h) u hu
theorem rep_get {α : Type} (l : List α) : ∀ (n j : Nat), j < n * l.length → ((List.replicate n l).flatten)[j]? = l[j % l.length]?
  | 0, j, h => by simp at h
  | n + 1, j, h => by
    rw [List.replicate_succ, List.flatten_cons]
    by_cases hj : j < l.length
    · rw [List.getElem?_append_left hj, Nat.mod_eq_of_lt hj]
    · rw [List.getElem?_append_right (by omega), rep_get l n (j - l.length) (by rw [Nat.add_mul] at h; omega)]
      congr 1
      exact (Nat.mod_eq_sub_mod (by omega)).symm
theorem made_rep {z : Array Value} {l : List Value} (hz : z.toList = l) (n : Nat) : (madeCells z (n * l.length)).toList = (List.replicate n l).flatten := by
  subst hz
  apply List.ext_getElem?
  intro j
  by_cases hj : j < n * z.toList.length
  · rw [rep_get z.toList n j hj]
    have hpos : 0 < z.toList.length := by
      rcases Nat.eq_zero_or_pos z.toList.length with h | h
      · rw [h] at hj; simp at hj
      · exact h
    have hm : j % z.size < z.size := Nat.mod_lt _ (by simpa using hpos)
    simp only [madeCells, Array.toList_map, List.getElem?_map]
    have h2 : (Array.range (n * z.toList.length)).toList[j]? = some j := by rw [Array.toList_range]; exact List.getElem?_range hj
    rw [h2]
    simp [hm]
  · rw [List.getElem?_eq_none (by simp [madeCells]; simpa using hj), List.getElem?_eq_none (by simp [List.length_flatten]; simpa using hj)]
theorem ops_mkSlice (hT : TabOk P tab) {t : TypeId} {x y : Operand} (hop : o.op = .makeSlice t x y) : OpS P o (zMkSlice tab t x y) where
  lm := fun ts => by unfold zMkSlice hg; (repeat (first | exact LM.pure _ | exact LM.fail | exact LM.read _ | exact LM.write _ _ | exact LM.new _ | assumption | refine LM.bind ?_ fun _ => ?_ | refine LM.opt fun _ => ?_ | refine LM.ite ?_ ?_ | split))
  ok := fun {ts s r s'} h ρ a w w0 hf hs hz => by
    obtain ⟨v, hv, h1⟩ := hO_ok h
    obtain ⟨u, hu, h2⟩ := hO_ok h1
    obtain ⟨l, hl, h3⟩ := hO_ok h2
    obtain ⟨c, hc, h4⟩ := hO_ok h3
    obtain ⟨i, hi, h5⟩ := hO_ok h4
    obtain ⟨p1, p2⟩ := evO_spec hs hv
    obtain ⟨p3, p4⟩ := evO_spec hs hu
    (try dsimp only at h5)
    cases hd : i.d <;> rw [hd] at h5 <;> first | (cases h5; done) | skip
    rename_i e
    obtain ⟨k, hk, h6⟩ := hO_ok h5
    obtain ⟨z, hzz, h7⟩ := hO_ok h6
    obtain ⟨b1, h8⟩ := hg_ok h7
    obtain ⟨b2, h9⟩ := hg_ok h8
    obtain ⟨b3, hA⟩ := hg_ok h9
    obtain ⟨b4, hB⟩ := hg_ok hA
    obtain ⟨n, s1, hm, hC⟩ := hb_ok hB
    obtain ⟨rfl, rfl⟩ := hp_ok hC
    obtain ⟨rfl, e2, e3⟩ := nwB_gt hm
    obtain ⟨kl, rfl⟩ := znat_spec hl
    obtain ⟨kc, rfl⟩ := znat_spec hc
    obtain ⟨z1, z2⟩ := toAL_spec ρ hzz
    have hn := hf s.nx (Nat.le_refl _) (by omega)
    obtain ⟨j, zz, hj, j1, j2, j3, j4⟩ := (hT e k hk).info
    replace b1 := Nat.le_of_ble_eq_true b1
    replace b2 := Nat.le_of_ble_eq_true b2
    replace b3 := Nat.le_of_ble_eq_true b3
    replace b4 := Nat.eq_of_beq_eq_true b4
    obtain ⟨c1, c2⟩ := cvL_rep ρ z c
    have hby : (j.bytes : Int) * (c : Int) ≤ 281474976710656 := by
      rw [j2]
      have : ((k.bytes * c : Nat) : Int) ≤ 281474976710656 := by omega
      rwa [Int.natCast_mul] at this
    have hr := run_make (P := P) w t e j zz ((hT t i hi).sl hd) hj j3 kl kc l c (by omega) (by omega) hby (by omega)
    have hcells : madeCells zz.cells ((c : Int).toNat * j.size) = (cvL ρ (repA c z)).toArray := by
      apply Array.ext'
      rw [j1, ← b4, Int.toNat_natCast, made_rep j4 c, c1, z1]
    rw [hcells] at hr
    refine Ends.new (c := 0) (b := w.heap.size) (q := 0) (f := fun n => .p n 0) hm hz hn ((Below.refl _ _).alloc (Nat.le_refl _) (.cells (cvL ρ (repA c z)).toArray e)) (Nat.le_refl _) (cs_new hn rfl (c2 z2)) (by simp [Dm, Env.lay]) ?_
    simp only [cv] at p1 p3
    simp only [execOp, hop, p1, p3]
    simp [hr, cv, Env.at_, Env.lay]
end
/-! ## Parts of slices -/
noncomputable def evN (ts : TL) (x : Option Operand) : Option (Option Nat) := match x with
  | none => some none
  | some x => match evO ts x with
    | none => none
    | some v => match znat v with
      | none => none
      | some n => some (some n)
inductive OVal : Option Value → Option Nat → Prop
  | none : OVal none none
  | some (k : IntKind) (n : Nat) : OVal (some (.int k n)) (some n)
theorem evN_spec {ρ : Env} {ts : TL} {a : Act} (h : Sl ρ ts a) {x : Option Operand} {r : Option Nat} (hx : evN ts x = some r) : OVal (x.map a.eval) r := by
  unfold evN at hx
  split at hx
  · injection hx with hx; subst hx; exact .none
  · split at hx <;> first | (cases hx; done) | skip
    rename_i v hv
    split at hx <;> first | (cases hx; done) | skip
    rename_i n hn
    injection hx with hx; subst hx
    obtain ⟨k, rfl⟩ := znat_spec hn
    obtain ⟨h1, _⟩ := evO_spec h hv
    simp only [Option.map_some, h1, cv]
    exact .some k n
/-- The bounds of a part: from, to, and up to where it can grow. -/
def sbN (len cap : Nat) (lo hi mx : Option Nat) : Option (Nat × Nat × Nat) :=
  match Nat.ble (mx.getD cap) cap && (match hi with
    | some h => Nat.ble h (mx.getD cap)
    | none => mx.isNone) && Nat.ble (lo.getD 0) (hi.getD len) with
  | true => some (lo.getD 0, hi.getD len, mx.getD cap)
  | false => none
section
variable {P : Program} {tab : TT} {o : Oper}
theorem sliceBound_run (k : IntKind) (n y : Nat) (c : BoundsCode) (h : n ≤ y) (w : World) : (Instr.sliceBound (.int k n) y c).run P w = .ok n w := by
  have : (0 : Int) ≤ n ∧ (n : Int) ≤ y := by omega
  simp [Instr.sliceBound, asIntOf, h]
theorem sb_run {is : Bool} {len cap : Nat} {lo hi mx : Option Nat} {lo' hi' mx' : Option Value} (h1 : OVal lo' lo) (h2 : OVal hi' hi) (h3 : OVal mx' mx) {r : Nat × Nat × Nat} (h : sbN len cap lo hi mx = some r) (w : World) : (Instr.sliceBounds is len cap lo' hi' mx').run P w = .ok r w := by
  unfold sbN at h
  split at h <;> first | (cases h; done) | skip
  rename_i hb
  injection h with h; subst h
  simp only [Bool.and_eq_true] at hb
  obtain ⟨⟨b1, b2⟩, b3⟩ := hb
  replace b1 := Nat.le_of_ble_eq_true b1
  replace b3 := Nat.le_of_ble_eq_true b3
  cases h3 with
  | none =>
    simp only [Option.getD_none] at *
    cases h2 with
    | none =>
      simp only [Option.getD_none] at *
      cases h1 with
      | none => simp [Instr.sliceBounds]
      | some k n => simp only [Option.getD_some] at *; simp [Instr.sliceBounds, sliceBound_run _ _ _ _ b3]
    | some kh h =>
      simp only [Option.getD_some] at *
      replace b2 := Nat.le_of_ble_eq_true b2
      cases h1 with
      | none => simp [Instr.sliceBounds, sliceBound_run _ _ _ _ b2]
      | some k n => simp only [Option.getD_some] at *; simp [Instr.sliceBounds, sliceBound_run _ _ _ _ b2, sliceBound_run _ _ _ _ b3]
  | some km m =>
    simp only [Option.getD_some] at *
    cases h2 with
    | none => simp at b2
    | some kh h =>
      simp only [Option.getD_some] at *
      replace b2 := Nat.le_of_ble_eq_true b2
      cases h1 with
      | none => simp [Instr.sliceBounds, sliceBound_run _ _ _ _ b1, sliceBound_run _ _ _ _ b2]
      | some k n => simp only [Option.getD_some] at *; simp [Instr.sliceBounds, sliceBound_run _ _ _ _ b1, sliceBound_run _ _ _ _ b2, sliceBound_run _ _ _ _ b3]
end
/-- A part whose room is known. -/
def zSlK (n off sz : Nat) (r : Nat × Nat × Nat) : AV := .l n (match Nat.beq r.2.2 r.1 with
  | true => off
  | false => off + r.1 * sz) (r.2.1 - r.1) (some (r.2.2 - r.1)) 0
/-- The empty end of a row whose room is not known: the old name is told no more. -/
noncomputable def zSlE (n t sz : Nat) : HM AV := hb (wrB n none) fun _ => hb (nwB (.ez t sz)) fun m => hp (.l m 0 0 none 0)
noncomputable def zSlU (n off len sk sz : Nat) (lo hi mx : Option Nat) : HM AV := hb (rdB n) fun o => match o with
  | .cs t l op => hg (opIs op sz) (hg (Nat.beq off (sk * sz)) (match mx with
    | some m => hg (Nat.ble (off + m * sz) l.length) (hO (sbN len m lo hi (some m)) fun r => hp (zSlK n off sz r))
    | none => hg (Nat.ble (off + hi.getD len * sz) l.length) (hg (Nat.ble (lo.getD 0) (hi.getD len)) (hI (match lo.getD 0 with
      | 0 => true
      | k + 1 => Nat.ble (off + (k + 2) * sz) l.length) (hp (.l n (off + lo.getD 0 * sz) (hi.getD len - lo.getD 0) none (sk + lo.getD 0))) (hg (Nat.beq (lo.getD 0) (hi.getD len)) (hg (Nat.beq (off + lo.getD 0 * sz) l.length) (zSlE n t sz)))))))
  | _ => hn
noncomputable def zSlV (v : AV) (sz : Nat) (lo hi mx : Option Nat) : HM AV := match v with
  | .ln => hO (sbN 0 0 lo hi mx) fun _ => hp .ln
  | .l n off len c sk => match c with
    | some C => hO (sbN len C lo hi mx) fun r => hp (zSlK n off sz r)
    | none => zSlU n off len sk sz lo hi mx
  | _ => hn
noncomputable def zSlice (tab : TT) (t : TypeId) (x : Operand) (lo hi mx : Option Operand) (ts : TL) : HM AV := hO (evO ts x) fun v => hO (evN ts lo) fun lo => hO (evN ts hi) fun hi => hO (evN ts mx) fun mx => hO (lookI tab t) fun i => match i.d with
  | .sl e => hO (lookI tab e) fun k => hg (Nat.blt 0 k.size) (zSlV v k.size lo hi mx)
  | .ar m e => hO (lookI tab e) fun k => match v with
    | .p n off => hO (sbN m m lo hi mx) fun r => hp (zSlK n off k.size r)
    | _ => hn
  | _ => hn
section
variable {P : Program} {tab : TT} {o : Oper}
theorem zSlK_cv (ρ : Env) (n off sz : Nat) (r : Nat × Nat × Nat) : cv ρ (zSlK n off sz r) = .slice (some (if r.2.2 = r.1 then ρ.at_ n off else (ρ.at_ n off).add (r.1 * sz))) (r.2.1 - r.1) (r.2.2 - r.1) := by
  unfold zSlK
  by_cases h : r.2.2 = r.1
  · rw [show Nat.beq r.2.2 r.1 = true from by rw [h]; exact Nat.beq_refl _]
    simp [cv, h]
  · rw [beq_ff h]
    simp [cv, h, at_add]
theorem ops_slice (hT : TabOk P tab) {t : TypeId} {x : Operand} {lo hi mx : Option Operand} (hop : o.op = .slice t x lo hi mx) : OpS P o (zSlice tab t x lo hi mx) where
  lm := fun ts => by unfold zSlice zSlV zSlU zSlE hg; (repeat (first | exact LM.pure _ | exact LM.fail | exact LM.read _ | exact LM.write _ _ | exact LM.new _ | assumption | refine LM.bind ?_ fun _ => ?_ | refine LM.opt fun _ => ?_ | refine LM.ite ?_ ?_ | split))
  ok := fun {ts s r s'} h ρ a w w0 hf hs hz => by
    obtain ⟨v, hv, h1⟩ := hO_ok h
    obtain ⟨lo', hlo, h2⟩ := hO_ok h1
    obtain ⟨hi', hhi, h3⟩ := hO_ok h2
    obtain ⟨mx', hmx, h4⟩ := hO_ok h3
    obtain ⟨i, hi0, h5⟩ := hO_ok h4
    clear h h1 h2 h3 h4
    obtain ⟨p1, p2⟩ := evO_spec hs hv
    have q1 := evN_spec hs hlo
    have q2 := evN_spec hs hhi
    have q3 := evN_spec hs hmx
    (try dsimp only at h5)
    cases hd : i.d <;> rw [hd] at h5 <;> first | (cases h5; done) | skip
    · -- an array behind a pointer
      rename_i m e
      obtain ⟨k, hk, h6⟩ := hO_ok h5
      obtain ⟨n, off, rfl⟩ : ∃ n off, v = .p n off := by cases v <;> first | (cases h6; done) | exact ⟨_, _, rfl⟩
      obtain ⟨b, hb, h7⟩ := hO_ok h6
      obtain ⟨rfl, rfl⟩ := hp_ok h7
      refine Ends.val hz rfl (by simpa [Dm, zSlK] using p2) ?_
      have e1 := (hT t i hi0).ar hd
      have e2 := (hT e k hk).sz w
      have e3 := sb_run (P := P) (is := false) q1 q2 q3 hb w
      simp only [cv] at p1
      simp [execOp, hop, p1, Instr.sliceAt, run_underlying e1, Instr.sureAddr, e3, e2, zSlK_cv]
    · rename_i e
      obtain ⟨k, hk, h6⟩ := hO_ok h5
      obtain ⟨b0, h7⟩ := hg_ok h6
      have e1 := (hT t i hi0).sl hd
      have e2 := (hT e k hk).sz w
      unfold zSlV at h7
      split at h7
      · -- nil
        obtain ⟨b, hb, h8⟩ := hO_ok h7
        obtain ⟨rfl, rfl⟩ := hp_ok h8
        refine Ends.val hz rfl (by simp [Dm]) ?_
        have e3 := sb_run (P := P) (is := true) q1 q2 q3 hb w
        have hb' := hb
        unfold sbN at hb'
        split at hb' <;> first | (cases hb'; done) | skip
        rename_i hbb
        injection hb' with hb'
        simp only [Bool.and_eq_true] at hbb
        obtain ⟨⟨c1, c2⟩, c3⟩ := hbb
        replace c1 := Nat.le_of_ble_eq_true c1
        replace c3 := Nat.le_of_ble_eq_true c3
        have c4 : hi'.getD 0 = 0 := by
          cases hi' with
          | none => rfl
          | some hh => have := Nat.le_of_ble_eq_true c2; simp only [Option.getD_some]; omega
        subst hb'
        simp only [cv] at p1
        simp [execOp, hop, p1, Instr.sliceAt, Instr.slice, run_underlying e1, e3, e2, cv, c4]
        omega
      · rename_i n off len c sk
        split at h7
        · rename_i C
          obtain ⟨b, hb, h8⟩ := hO_ok h7
          obtain ⟨rfl, rfl⟩ := hp_ok h8
          refine Ends.val hz rfl (by simpa [Dm, zSlK] using p2) ?_
          have e3 := sb_run (P := P) (is := true) q1 q2 q3 hb w
          simp only [cv] at p1
          simp [execOp, hop, p1, Instr.sliceAt, Instr.slice, run_underlying e1, e3, e2, zSlK_cv]
          split <;> rfl
        · -- room that is not known
          unfold zSlU at h7
          obtain ⟨o', s1, f1, h8⟩ := hb_ok h7
          obtain ⟨g1, g2, g3⟩ := rdB_gt f1
          split at h8 <;> first | (cases h8; done) | skip
          rename_i bt l op
          obtain ⟨b1, hA⟩ := hg_ok h8
          obtain ⟨b2, hB⟩ := hg_ok hA
          clear h7 h8 hA
          obtain rfl : op = some k.size := by
            cases op with
            | none => cases b1
            | some z => exact congrArg some (Nat.eq_of_beq_eq_true b1)
          replace b2 := Nat.eq_of_beq_eq_true b2
          obtain ⟨p, hp, hb0, ho⟩ := hz.at_ g1
          obtain ⟨pre, rest, r2, r3, r4, r5⟩ := ho
          simp only at r5
          have room : ∀ a, off + a * k.size ≤ l.length → a ≤ ρ.cap n - sk := fun a ha => by
            have e1 : (sk + a) * k.size ≤ ρ.cap n * k.size := by rw [Nat.add_mul, ← b2]; omega
            have := Nat.le_of_mul_le_mul_right e1 (blt_iff.1 b0)
            omega
          have hv' : cv ρ (.l n off len none sk) = .slice (some (ρ.at_ n off)) len (ρ.cap n - sk) := by simp [cv]
          rw [hv'] at p1
          cases mx' with
          | some m =>
            simp only at hB
            obtain ⟨b3, hC⟩ := hg_ok hB
            obtain ⟨b, hb, hD⟩ := hO_ok hC
            obtain ⟨rfl, rfl⟩ := hp_ok hD
            replace b3 := room m (Nat.le_of_ble_eq_true b3)
            have hb' : sbN len (ρ.cap n - sk) lo' hi' (some m) = some b := by
              unfold sbN at hb ⊢
              simp only [Option.getD_some] at hb ⊢
              rw [show Nat.ble m m = true from Nat.ble_eq_true_of_le (Nat.le_refl _)] at hb
              rw [show Nat.ble m (ρ.cap n - sk) = true from Nat.ble_eq_true_of_le b3]
              exact hb
            refine Ends.val hz g2 (by simpa [Dm, zSlK] using p2) ?_
            have e3 := sb_run (P := P) (is := true) q1 q2 q3 hb' w
            simp [execOp, hop, p1, Instr.sliceAt, Instr.slice, run_underlying e1, e3, e2, zSlK_cv]
            split <;> rfl
          | none =>
            simp only at hB
            obtain ⟨b3, hC⟩ := hg_ok hB
            obtain ⟨b4, hD⟩ := hg_ok hC
            replace b3 := room _ (Nat.le_of_ble_eq_true b3)
            have hb' : sbN len (ρ.cap n - sk) lo' hi' none = some (lo'.getD 0, hi'.getD len, ρ.cap n - sk) := by
              unfold sbN
              simp only [Option.getD_none]
              rw [show Nat.ble (ρ.cap n - sk) (ρ.cap n - sk) = true from Nat.ble_eq_true_of_le (Nat.le_refl _), b4]
              cases hi' with
              | none => rfl
              | some hh =>
                simp only [Option.getD_some] at b3 ⊢
                rw [show Nat.ble hh (ρ.cap n - sk) = true from Nat.ble_eq_true_of_le b3]
                rfl
            have e3 := sb_run (P := P) (is := true) q1 q2 q3 hb' w
            obtain ⟨b5, hb5⟩ : ∃ b5, b5 = (match lo'.getD 0 with
              | 0 => true
              | k' + 1 => Nat.ble (off + (k' + 2) * k.size) l.length) := ⟨_, rfl⟩
            rw [← hb5] at hD
            cases b5 with
            | false =>
              obtain ⟨b6, hE⟩ := hg_ok (show hg _ _ s1 = _ from hD)
              obtain ⟨b7, hE2⟩ := hg_ok hE
              obtain ⟨u1, s2, f2, hF⟩ := hb_ok hE2
              obtain ⟨mm, s3, f3, hG⟩ := hb_ok hF
              obtain ⟨rfl, rfl⟩ := hp_ok hG
              obtain ⟨_, g4, g5⟩ := wrB_gt f2
              obtain ⟨rfl, g6, g7⟩ := nwB_gt f3
              replace b6 := Nat.eq_of_beq_eq_true b6
              replace b7 := Nat.eq_of_beq_eq_true b7
              have hns : ρ.blk s2.nx = none := hf s2.nx (by omega) (by omega)
              have hskl : sk + lo'.getD 0 ≤ ρ.cap n := by
                have e1 : (sk + lo'.getD 0) * k.size ≤ ρ.cap n * k.size := by rw [Nat.add_mul, ← b2]; omega
                exact Nat.le_of_mul_le_mul_right e1 (blt_iff.1 b0)
              generalize hlo0 : lo'.getD 0 = j at *
              have hskk : (ρ.cap n - sk - j) * k.size = ρ.cap n * k.size - sk * k.size - j * k.size := by rw [Nat.sub_mul, Nat.sub_mul]
              obtain ⟨ρ2, hρ2⟩ : ∃ ρ2, ρ2 = ρ.lay s2.nx (p.1, if ρ.cap n - sk = j then p.2 + off else p.2 + off + j * k.size) (ρ.cap n - sk - j) := ⟨_, rfl⟩
              have hcv2 : cv ρ2 (.l s2.nx 0 0 none 0) = .slice (some (if ρ.cap n - sk = j then ρ.at_ n off else ρ.at_ n (off + j * k.size))) 0 (ρ.cap n - sk - j) := by
                subst hρ2
                simp only [cv, Env.at_, (ρ.lay_same _ _ _).1, (ρ.lay_same _ _ _).2, hp, Option.getD_some, Nat.add_zero, Nat.sub_zero]
                by_cases hC : ρ.cap n - sk = j
                · rw [if_pos hC, if_pos hC]
                · rw [if_neg hC, if_neg hC]
                  simp [Nat.add_assoc]
              have hrun : (execOp a.eval o).run P w = .ok (.value (cv ρ2 (.l s2.nx 0 0 none 0))) w := by
                rw [hcv2]
                simp [execOp, hop, p1, Instr.sliceAt, Instr.slice, run_underlying e1, e3, e2, ← b6]
                by_cases hC : ρ.cap n - sk = j
                · rw [if_pos hC, if_pos hC]
                · rw [if_neg hC, if_neg hC]; simp [at_add]
              rw [hrun]
              have hz2 : ZS w0 ρ2 (setG (setG s.gt n none) s2.nx (some (.ez bt k.size))) w := by
                subst hρ2
                refine hz.ren g1 hp hns ⟨rfl, rfl, rfl, Nat.le_refl _, fun _ _ _ => rfl⟩ ?_
                by_cases hC : ρ.cap n - sk = j
                · rw [if_pos hC]
                  refine ⟨(pre ++ cvL ρ l ++ rest).take (p.2 + off), (pre ++ cvL ρ l ++ rest).drop (p.2 + off), ?_, by rw [List.take_append_drop]; exact r3, .inl ?_⟩
                  · rw [List.length_take, List.length_append, List.length_append, cvL_len]; omega
                  · rw [(ρ.lay_same _ _ _).2]; omega
                · rw [if_neg hC]
                  refine ⟨pre ++ cvL ρ l, rest, ?_, r3, .inr ?_⟩
                  · rw [List.length_append, cvL_len]; omega
                  · rw [(ρ.lay_same _ _ _).2, hskk]; omega
              refine ⟨ρ2, by subst hρ2; exact Env.lay_le hns, fun x hx' => by subst hρ2; exact ρ.lay_ne (by omega), rfl, by subst hρ2; simp [Dm, Env.lay], ?_⟩
              rw [g6, g4, g2]
              exact hz2
            | true =>
            have b5 := hb5.symm
            obtain ⟨rfl, rfl⟩ := hp_ok (show Go.Proofs.YtiodmphhjgkgjaaGreat.hp _ s1 = _ from hD)
            refine Ends.val hz g2 (by simpa [Dm] using p2) ?_
            have e4 : lo'.getD 0 = 0 ∨ ¬ (ρ.cap n - sk = lo'.getD 0) := by
              cases hl0 : lo'.getD 0 with
              | zero => exact .inl rfl
              | succ j =>
                rw [hl0] at b5
                have := room _ (Nat.le_of_ble_eq_true b5)
                right; omega
            simp [execOp, hop, p1, Instr.sliceAt, Instr.slice, run_underlying e1, e3, e2, cv]
            refine ⟨?_, by omega⟩
            rcases e4 with e4 | e4
            · rw [e4]; simp [addr_add0]
            · rw [if_neg e4]; simp [at_add]
      · cases h7
end
end Go.Proofs.YtiodmphhjgkgjaaGreat
