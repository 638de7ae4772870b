/- The parameters of a round, laid on the loops own slots.: lemmas for the rows of this seat. No conditions. -/
import Derived.Test.YtiodmphhjgkgjaaGreatZH
set_option linter.all false
namespace Go.Proofs.YtiodmphhjgkgjaaGreat
open Go.RowKit
/-- The parameters of a round, laid on the loop's own slots. -/
noncomputable def prmL (mk sz : Nat) (ps : List Tmp) : List AV → TL → Option TL := List.rec (motive := fun _ => List AV → TL → Option TL)
  (fun vs ts => List.rec (motive := fun _ => Option TL) (some ts) (fun _ _ _ => none) vs)
  (fun p _ ih vs ts => List.rec (motive := fun _ => Option TL) none (fun v vs _ => Bool.rec (motive := fun _ => Option TL) none (Bool.rec (motive := fun _ => Option TL) (ih vs ts) (ih vs (.cons p v ts)) (bitB mk p)) (Nat.blt p sz)) vs) ps
theorem prmL_nil (mk sz : Nat) (vs : List AV) (ts ts' : TL) (h : prmL mk sz [] vs ts = some ts') : vs = [] ∧ ts' = ts := by
  cases vs with
  | nil => injection h with h; exact ⟨rfl, h.symm⟩
  | cons => cases h
theorem prmL_cons {mk sz : Nat} {p : Tmp} {ps : List Tmp} {vs : List AV} {ts ts' : TL} (h : prmL mk sz (p :: ps) vs ts = some ts') : ∃ v us, vs = v :: us ∧ p < sz ∧ ((bitB mk p = true ∧ prmL mk sz ps us (.cons p v ts) = some ts') ∨ (bitB mk p = false ∧ prmL mk sz ps us ts = some ts')) := by
  cases vs with
  | nil => cases h
  | cons v us =>
    have h1 : (Bool.rec (motive := fun _ => Option TL) none (Bool.rec (motive := fun _ => Option TL) (prmL mk sz ps us ts) (prmL mk sz ps us (.cons p v ts)) (bitB mk p)) (Nat.blt p sz)) = some ts' := h
    cases hl : Nat.blt p sz with
    | false => rw [hl] at h1; cases h1
    | true =>
      rw [hl] at h1
      refine ⟨v, us, rfl, blt_iff.1 hl, ?_⟩
      cases hb : bitB mk p with
      | true => rw [hb] at h1; exact .inl ⟨rfl, h1⟩
      | false => rw [hb] at h1; exact .inr ⟨rfl, h1⟩
theorem prmL_ok {mk sz : Nat} {ρ : Env} : ∀ (ps : List Tmp) (vs : List AV) (ts ts' : TL) (arr : Array Value), prmL mk sz ps vs ts = some ts' → arr.size = sz → DmL ρ vs → (∀ t v, ts.look t = some v → (arr[t]? = some (cv ρ v) ∧ Dm ρ v) ∧ bitB mk t = true) →
    ps.length = vs.length ∧ ((ps.zip (cvL ρ vs)).foldl (fun tmps (x : Tmp × Value) => tmps.setIfInBounds x.1 x.2) arr).size = sz ∧ ∀ t v, ts'.look t = some v → (((ps.zip (cvL ρ vs)).foldl (fun tmps (x : Tmp × Value) => tmps.setIfInBounds x.1 x.2) arr)[t]? = some (cv ρ v) ∧ Dm ρ v) ∧ bitB mk t = true
  | [], vs, ts, ts', arr, h, hn, hd, hs => by
    obtain ⟨rfl, rfl⟩ := prmL_nil _ _ _ _ _ h
    exact ⟨rfl, by simpa using hn, by simpa using hs⟩
  | p :: ps, vs, ts, ts', arr, h, hn, hd, hs => by
    obtain ⟨v, us, rfl, hp, h1⟩ := prmL_cons h
    simp only [DmL] at hd
    have hn' : (arr.setIfInBounds p (cv ρ v)).size = sz := by simp [hn]
    have step : ∀ t x, ts.look t = some x → t ≠ p → ((arr.setIfInBounds p (cv ρ v))[t]? = some (cv ρ x) ∧ Dm ρ x) ∧ bitB mk t = true := fun t x hx hne => by
      obtain ⟨⟨e1, e2⟩, e3⟩ := hs t x hx
      exact ⟨⟨by rw [Array.getElem?_setIfInBounds_ne (Ne.symm hne)]; exact e1, e2⟩, e3⟩
    have main : ∃ ts1, prmL mk sz ps us ts1 = some ts' ∧ ∀ t x, ts1.look t = some x → ((arr.setIfInBounds p (cv ρ v))[t]? = some (cv ρ x) ∧ Dm ρ x) ∧ bitB mk t = true := by
      rcases h1 with ⟨hb, h1⟩ | ⟨hb, h1⟩
      · refine ⟨_, h1, fun t x hx => ?_⟩
        rw [TL.look_cons] at hx
        by_cases hpt : p = t
        · rw [if_pos hpt] at hx; subst hpt; injection hx with hx; subst hx
          exact ⟨⟨by simp [hn, hp], hd.1⟩, hb⟩
        · rw [if_neg hpt] at hx; exact step t x hx (Ne.symm hpt)
      · refine ⟨_, h1, fun t x hx => step t x hx fun e => ?_⟩
        subst e
        have := (hs t x hx).2
        rw [hb] at this; cases this
    obtain ⟨ts1, h2, h3⟩ := main
    obtain ⟨f1, f2, f3⟩ := prmL_ok ps us ts1 ts' _ h2 hn' hd.2 h3
    refine ⟨by simp [f1], ?_, ?_⟩
    · simpa [cvL] using f2
    · simpa [cvL] using f3
/-- A round ends. -/
noncomputable def zEndR (l : Nat) (o2 : ZO) : HM AV := hb (rdB l) fun o => match o with
  | .lp _ _ mk ts sz ps as bd => zX o2.x (hb (wrB l (some (.lp .ready none mk ts sz ps as bd))) fun _ => hp (.b true)) (fun i => hb (wrB l (some (.lp .done (some (.exit i)) mk ts sz ps as bd))) fun _ => hp (.b false))
    (hb (wrB l (some (.lp .done (some .ret) mk ts sz ps as bd))) fun _ => hp (.b false))
  | _ => hn
/-- A round begins. -/
noncomputable def zBegR (l : Nat) : HM Unit := hb (rdB l) fun o => match o with
  | .lp st pe mk ts sz ps as bd => match st with
    | .ready => wrB l (some (.lp .busy pe mk ts sz ps as bd))
    | _ => hn
  | _ => hn
noncomputable def zYl (X : Cx) (cl yl : Nat → List AV → HM AV) (l : Nat) (vs : List AV) : HM AV := hb ckBa fun _ => hb (rdB l) fun o => match o with
  | .lp _ _ mk ts sz ps as bd => hO (prmL mk sz ps.toList vs ts) fun ts1 =>
    hb (zcF X cl yl (some l) mk sz as ts1 []) fun o1 => zX o1.x (hb (zBegR l) fun _ => hb (zcF X cl yl (some l) mk sz bd o1.ts o1.ds) fun o2 => zEndR l o2) (fun _ => hn) hn
  | _ => hn
theorem zBegR_lm (l : Nat) : LM (zBegR l) := by
  unfold zBegR
  refine LM.bind (LM.read _) fun o => ?_
  split
  · split
    · exact LM.write _ _
    · exact LM.fail
  · exact LM.fail
theorem zEndR_lm (l : Nat) (o : ZO) : LM (zEndR l o) := by
  unfold zEndR
  refine LM.bind (LM.read _) fun o => ?_
  split
  · exact LM.zX (LM.bind (LM.write _ _) fun _ => LM.pure _) (fun _ => LM.bind (LM.write _ _) fun _ => LM.pure _) (LM.bind (LM.write _ _) fun _ => LM.pure _)
  · exact LM.fail
theorem zBegR_ok {l : Nat} {u : Unit} {s s' : Hp} (h : zBegR l s = .ok u s') {P : Program} {w0 w : World} {ρ : Env} (hz : ZS w0 ρ s.gt w) {ad : Nat} (hl : ρ.blk l = some (ad, 0)) : s'.nx = s.nx ∧ ∃ w', (Instr.beginRound ad).run P w = .ok () w' ∧ ZS w0 ρ s'.gt w' := by
  obtain ⟨o, s1, h1, h2⟩ := hb_ok h
  obtain ⟨g1, g2, g3⟩ := rdB_gt h1
  cases o <;> first | (cases h2; done) | skip
  rename_i st pe mk ts sz ps as bd
  obtain ⟨ad', arr, D, fn, e1, e2, e3, e4, e5⟩ := hz.lp g1
  obtain rfl : ad' = ad := by rw [e1] at hl; injection hl with hl; injection hl
  cases st <;> first | (cases h2; done) | skip
  obtain ⟨_, k2, k3⟩ := wrB_gt h2
  exact ⟨by rw [k3, g3], _, run_beginRound e2 rfl, by rw [k2, g2]; exact e5 .busy pe⟩
theorem zEndR_ok {l : Nat} {o2 : ZO} {s s' : Hp} {v : AV} (h : zEndR l o2 s = .ok v s') {P : Program} {w0 w : World} {ρ : Env} (hz : ZS w0 ρ s.gt w) {ad : Nat} (hl : ρ.blk l = some (ad, 0)) {R : Ending → World → Prop} {a : Act} (hR : ∀ w', ZS w0 ρ s'.gt w' → R (.returned (cv ρ v)) w') : s'.nx = s.nx ∧ Dm ρ v ∧ roundPost P ad R o2.x.of a w := by
  obtain ⟨o, s1, h1, h2⟩ := hb_ok h
  obtain ⟨g1, g2, g3⟩ := rdB_gt h1
  cases o <;> first | (cases h2; done) | skip
  rename_i st pe mk ts sz ps as bd
  obtain ⟨ad', arr, D, fn, e1, e2, e3, e4, e5⟩ := hz.lp g1
  obtain rfl : ad' = ad := by rw [e1] at hl; injection hl with hl; injection hl
  dsimp only at h2
  cases hx : o2.x with
  | nm =>
    rw [hx] at h2
    obtain ⟨u, s2, h3, h4⟩ := hb_ok (show hb (wrB l _) _ s1 = _ from h2)
    obtain ⟨rfl, rfl⟩ := hp_ok h4
    obtain ⟨_, k2, k3⟩ := wrB_gt h3
    refine ⟨by rw [k3, g3], trivial, _, _, run_endRound none e2, ?_⟩
    simpa [cv] using hR _ (by rw [k2, g2]; exact e5 .ready none)
  | ex i =>
    rw [hx] at h2
    obtain ⟨u, s2, h3, h4⟩ := hb_ok (show hb (wrB l _) _ s1 = _ from h2)
    obtain ⟨rfl, rfl⟩ := hp_ok h4
    obtain ⟨_, k2, k3⟩ := wrB_gt h3
    refine ⟨by rw [k3, g3], trivial, _, _, run_endRound (some (.exit i)) e2, ?_⟩
    simpa [cv] using hR _ (by rw [k2, g2]; exact e5 .done (some (.exit i)))
  | rt =>
    rw [hx] at h2
    obtain ⟨u, s2, h3, h4⟩ := hb_ok (show hb (wrB l _) _ s1 = _ from h2)
    obtain ⟨rfl, rfl⟩ := hp_ok h4
    obtain ⟨_, k2, k3⟩ := wrB_gt h3
    refine ⟨by rw [k3, g3], trivial, _, _, run_endRound (some .ret) e2, ?_⟩
    simpa [cv] using hR _ (by rw [k2, g2]; exact e5 .done (some .ret))
section
variable {X : Cx} {cl yl : Nat → List AV → HM AV}
theorem zYl_ok (hX : CxOK X) (hc : CallOK X.P cl) (hy : YieldOK X.P yl) : YieldOK X.P (zYl X cl yl) where
  lm := fun l vs => LM.bind LM.ckBa fun _ => LM.bind (LM.read _) fun o => by
    split
    · exact LM.opt fun ts1 => LM.bind ((zcF_ok hX hc hy _ _ _ _).lm _ _) fun o1 => LM.zX (LM.bind (zBegR_lm _) fun _ => LM.bind ((zcF_ok hX hc hy _ _ _ _).lm _ _) fun o2 => zEndR_lm _ _) (fun _ => LM.fail) LM.fail
    · exact LM.fail
  ok := fun {l vs s v s'} h ρ w w0 hf hd hz => by
    obtain ⟨u, s1, h1, h2⟩ := hb_ok h
    obtain ⟨rfl, hba⟩ := ckBa_ok h1
    obtain ⟨o, s2, h3, h4⟩ := hb_ok h2
    obtain ⟨g1, g2, g3⟩ := rdB_gt h3
    obtain ⟨n0, b0⟩ := (LM.read _).nx h3 hba
    cases o <;> first | (cases h4; done) | skip
    rename_i st pe mk ts sz ps as bd
    obtain ⟨ad, arr, D, fn, e1, e2, e3, e4, e5⟩ := hz.lp g1
    obtain ⟨ts1, h5, h6⟩ := hO_ok h4
    obtain ⟨o1, s3, h7, h8⟩ := hb_ok h6
    have hA := zcF_ok hX hc hy (some l) mk sz as
    have hB := zcF_ok hX hc hy (some l) mk sz bd
    obtain ⟨n1, b1⟩ := (hA.lm _ _).nx h7 b0
    cases hx : o1.x with
    | ex i => rw [hx] at h8; cases h8
    | rt => rw [hx] at h8; cases h8
    | nm =>
      rw [hx] at h8
      obtain ⟨u4, s4, h9, h10⟩ := hb_ok (show hb (zBegR l) _ s3 = _ from h8)
      obtain ⟨o2, s5, h11, h12⟩ := hb_ok h10
      obtain ⟨n2, b2⟩ := (zBegR_lm _).nx h9 b1
      obtain ⟨n3, b3⟩ := (hB.lm _ _).nx h11 b2
      obtain ⟨n4, _⟩ := (zEndR_lm _ _).nx h12 b3
      obtain ⟨p1, p2, p3⟩ := prmL_ok ps.toList vs ts ts1 arr h5 e3 hd e4
      have hyr := run_yield (P := X.P) (args := (cvL ρ vs).toArray) e2 (by simp [cvL_len, ← p1])
      have hfold : (ps.zip (cvL ρ vs).toArray).foldl (fun tmps (x : Tmp × Value) => tmps.setIfInBounds x.1 x.2) arr = (ps.toList.zip (cvL ρ vs)).foldl (fun tmps (x : Tmp × Value) => tmps.setIfInBounds x.1 x.2) arr := by
        obtain ⟨pl⟩ := ps
        simp
      have had : ((ρ.blk l).getD (0, 0)).1 = ad := by rw [e1]; rfl
      rw [had]
      refine (show ∀ r, r = _ → Ends X.P w0 ρ s1 v s' r from fun r hr => ?_) _ hyr
      subst hr
      intro m
      refine roundIn_of_wpIn trivial ?_
      have hzf : ZF mk sz w0 ρ s2.gt ts1 [] { tmps := (ps.zip (cvL ρ vs).toArray).foldl (fun tmps (x : Tmp × Value) => tmps.setIfInBounds x.1 x.2) arr, defers := [] } w :=
        ⟨by rw [hfold]; exact p2, fun t x hx => by rw [hfold]; exact (p3 t x hx).1, fun t x hx => (p3 t x hx).2, rfl, by simp, by rw [g2]; exact hz⟩
      have hf2 : Fre ρ s2 s' := fun n a b => hf n (by omega) b
      refine wpIn_mono (hA.ok h7 b0 (r := some ad) (mm := m) (hf2.left (by omega)) ⟨0, e1⟩ hzf) ?_
      rintro e a1 w1 ⟨he, ρ1, gr1, z1⟩
      rw [hx] at he
      subst he
      have l1 := (gr1.1.blk _ _ e1).1
      obtain ⟨k1, w2, k2, k3⟩ := zBegR_ok h9 (P := X.P) z1.zs l1
      refine ⟨w2, k2, ?_⟩
      have hf3 : Fre ρ1 s4 s' := fun n a b => (hf2.right gr1 n1) n (by omega) b
      refine wpIn_mono (hB.ok h11 b2 (r := some ad) (mm := m) (hf3.left (by omega)) ⟨0, l1⟩ ⟨z1.size, z1.sl, z1.kin, z1.ds, z1.dsd, k3⟩) ?_
      rintro e a3 w3 ⟨he, ρ2, gr2, z2⟩
      subst he
      have l2 := (gr2.1.blk _ _ l1).1
      have hall : ∀ w', ZS w0 ρ2 s'.gt w' → Dm ρ2 v → ∃ ρ', ρ.le ρ' ∧ (∀ n, n < s1.nx ∨ s'.nx ≤ n → ρ'.blk n = ρ.blk n) ∧ cv ρ2 v = cv ρ' v ∧ Dm ρ' v ∧ ZS w0 ρ' s'.gt w' := fun w' hz' hdv =>
        ⟨ρ2, gr1.1.trans gr2.1, fun n hn => by rw [gr2.2 n (by omega), gr1.2 n (by omega)], rfl, hdv, hz'⟩
      have hdv : Dm ρ2 v := (zEndR_ok (R := fun _ _ => True) (a := a3) h12 (P := X.P) z2.zs l2 fun _ _ => trivial).2.1
      exact (zEndR_ok h12 (P := X.P) z2.zs l2 fun w' hz' => hall w' hz' hdv).2.2
end
/-! ## The tower -/
noncomputable def zES (X : Cx) (_ : Nat) (E : (Nat → List AV → HM AV) × (Nat → List AV → HM AV)) : (Nat → List AV → HM AV) × (Nat → List AV → HM AV) := (zCall X E.1 E.2, zYl X E.1 E.2)
noncomputable def zE (X : Cx) (n : Nat) : (Nat → List AV → HM AV) × (Nat → List AV → HM AV) := Nat.rec (motive := fun _ => (Nat → List AV → HM AV) × (Nat → List AV → HM AV)) (fun _ _ => hn, fun _ _ => hn) (zES X) n
theorem zE_ok {X : Cx} (hX : CxOK X) (hV : CxOV X) : ∀ n, CallOK X.P (zE X n).1 ∧ YieldOK X.P (zE X n).2
  | 0 => ⟨⟨fun _ _ => LM.fail, fun h => by cases h⟩, ⟨fun _ _ => LM.fail, fun h => by cases h⟩⟩
  | n + 1 => ⟨zCall_ok hX hV (zE_ok hX hV n).1 (zE_ok hX hV n).2, zYl_ok hX (zE_ok hX hV n).1 (zE_ok hX hV n).2⟩
noncomputable def hp0 : Hp := ⟨hz, 0, 0, 0, 0⟩
def isTrue : Rz AV → Bool
  | .ok v _ => match v with
    | .b x => x
    | _ => false
  | .no => false
/-! ## Functions, as a tree -/
inductive FTr where
  | no
  | lf (i : Nat) (f : Func) (k : Nat)
  | nd (l r : FTr)
noncomputable def FTr.go (t : FTr) (f : Nat) : Nat → Option (Func × Nat) := FTr.rec (motive := fun _ => Nat → Option (Func × Nat)) (fun _ => none) (fun i fn k _ => Bool.rec (motive := fun _ => Option (Func × Nat)) none (some (fn, k)) (Nat.beq i f))
  (fun _ _ a b n => Bool.rec (motive := fun _ => Option (Func × Nat)) (a (Nat.div n 2)) (b (Nat.div n 2)) (Nat.beq (Nat.mod n 2) 1)) t
noncomputable def FTr.get (t : FTr) (f : Nat) : Option (Func × Nat) := t.go f f
inductive FTOk (P : Program) : FTr → Prop where
  | no : FTOk P .no
  | lf {i k : Nat} {fn : Func} (h : P.funcs[i]? = some fn ∧ hasBody P i = true) : FTOk P (.lf i fn k)
  | nd {l r : FTr} (h : FTOk P l) (h' : FTOk P r) : FTOk P (.nd l r)
theorem ft_lf {P : Program} {i k : Nat} {fn : Func} (h : P.funcs[i]? = some fn ∧ hasBody P i = true) : FTOk P (.lf i fn k) := .lf h
theorem ft_nd {P : Program} {l r : FTr} (h : FTOk P l) (h' : FTOk P r) : FTOk P (.nd l r) := .nd h h'
theorem FTr.go_ok {P : Program} : ∀ (t : FTr), FTOk P t → ∀ (f n : Nat) (fn : Func) (k : Nat), t.go f n = some (fn, k) → P.funcs[f]? = some fn ∧ hasBody P f = true
  | .no, _, f, n, fn, k, h => by cases h
  | .lf i g m, hok, f, n, fn, k, h => by
    have h1 : (Bool.rec (motive := fun _ => Option (Func × Nat)) none (some (g, m)) (Nat.beq i f) : Option (Func × Nat)) = some (fn, k) := h
    cases hb : Nat.beq i f with
    | false => rw [hb] at h1; cases h1
    | true =>
      rw [hb] at h1
      injection h1 with h1
      injection h1 with h1 _
      obtain rfl := Nat.eq_of_beq_eq_true hb
      subst h1
      cases hok with
      | lf h => exact h
  | .nd a b, .nd hok1 hok2, f, n, fn, k, h => by
    have h1 : (Bool.rec (motive := fun _ => Option (Func × Nat)) (a.go f (Nat.div n 2)) (b.go f (Nat.div n 2)) (Nat.beq (Nat.mod n 2) 1) : Option (Func × Nat)) = some (fn, k) := h
    cases hb : Nat.beq (Nat.mod n 2) 1 with
    | false => rw [hb] at h1; exact FTr.go_ok a hok1 f _ fn k h1
    | true => rw [hb] at h1; exact FTr.go_ok b hok2 f _ fn k h1
/-! ## Closed runs in pieces -/
noncomputable def Code.flat (c : Code) : List Code := Code.rec (motive := fun _ => List Code) [.skip] (fun i o d => [.region i o d]) (fun _ _ x y => x ++ y) (fun c x y _ _ => [.cond c x y]) (fun i x _ => [.block i x]) (fun x _ => [.loop x]) (fun g ps x y _ _ => [.rangeFunc g ps x y]) (fun i => [.exit i]) (fun x _ => [.scope x]) (fun i => [.label i]) (fun i => [.goto i]) [.ret] (fun x => [.refuse x]) c
/-- Several codes, one behind another. -/
def wpL (P : Program) (mm : Nat) (cs : List Code) (Q : Exit → Act → World → Prop) : Act → World → Prop := match cs with
  | [] => Q .normal
  | c :: cs => c.wpIn (fw none) mm P (Exit.then (wpL P mm cs Q) Q)
section
variable {P : Program} {mm : Nat}
theorem then_mono {Q' Q : Exit → Act → World → Prop} {K K' : Act → World → Prop} (hK : ∀ a w, K a w → K' a w) (hQ : ∀ e a w, Q e a w → Q' e a w) : ∀ e a w, Exit.then K Q e a w → Exit.then K' Q' e a w := fun e a w h => by
  cases e <;> first | exact hK a w h | exact hQ _ a w h
theorem wpL_mono {Q Q' : Exit → Act → World → Prop} (hq : ∀ e a w, Q e a w → Q' e a w) : ∀ (cs : List Code) (a : Act) (w : World), wpL P mm cs Q a w → wpL P mm cs Q' a w
  | [], a, w, h => hq _ a w h
  | c :: cs, a, w, h => wpIn_mono h (then_mono (wpL_mono hq cs) hq)
theorem wpL_append {Q : Exit → Act → World → Prop} : ∀ (xs ys : List Code) (a : Act) (w : World), wpL P mm xs (Exit.then (wpL P mm ys Q) Q) a w → wpL P mm (xs ++ ys) Q a w
  | [], ys, a, w, h => h
  | c :: xs, ys, a, w, h => wpIn_mono h fun e a w h => by
    cases e <;> first | exact wpL_append xs ys a w h | exact h
theorem wpL_append' {Q : Exit → Act → World → Prop} : ∀ (xs ys : List Code) (a : Act) (w : World), wpL P mm (xs ++ ys) Q a w → wpL P mm xs (Exit.then (wpL P mm ys Q) Q) a w
  | [], ys, a, w, h => h
  | c :: xs, ys, a, w, h => wpIn_mono h fun e a w h => by
    cases e <;> first | exact wpL_append' xs ys a w h | exact h
theorem wpL_one {c : Code} {Q : Exit → Act → World → Prop} {a : Act} {w : World} (h : wpL P mm [c] Q a w) : c.wpIn (fw none) mm P Q a w :=
  wpIn_mono h fun e a w h => by cases e <;> exact h
theorem wpL_flat : ∀ (c : Code) {Q : Exit → Act → World → Prop} {a : Act} {w : World}, wpL P mm (Code.flat c) Q a w → c.wpIn (fw none) mm P Q a w := by
  intro c
  induction c with
  | seq x y hx hy =>
    intro Q a w h
    exact wpIn_seq (hx (wpL_mono (then_mono (fun a w h => hy h) fun _ _ _ h => h) _ _ _ (wpL_append' (Code.flat x) (Code.flat y) a w h)))
  | _ => exact fun h => wpL_one h
end
/-! ### a state told anew, by other names -/
def rnE (r : List Nat) (n m : Nat) : Bool := match nthL r n with
  | some m' => Nat.beq m' m
  | none => false
mutual
/-- A value, told by other names. -/
def eqv (r : List Nat) (v u : AV) : Bool := match v, u with
  | .b x, .b y => x == y
  | .i k n, .i k' n' => Nat.beq (knd k) (knd k') && zeq n n'
  | .s l, .s l' => decide (l = l')
  | .p n q, .p n' q' => rnE r n n' && Nat.beq q q'
  | .pn, .pn => true
  | .l n q l c k, .l n' q' l' c' k' => rnE r n n' && (Nat.beq q q' && (Nat.beq l l' && (decide (c = c') && Nat.beq k k')))
  | .ln, .ln => true
  | .mn, .mn => true
  | .fn, .fn => true
  | .ni, .ni => true
  | .g l, .g l' => eqvL r l l'
  | .t l, .t l' => eqvL r l l'
  | _, _ => false
def eqvL (r : List Nat) (v u : List AV) : Bool := match v, u with
  | [], [] => true
  | x :: l, y :: l' => eqv r x y && eqvL r l l'
  | _, _ => false
end
def eqo (r : List Nat) : AO → AO → Bool
  | .cs t l o, .cs t' l' o' => Nat.beq t t' && (eqvL r l l' && decide (o = o'))
  | _, _ => false
/-- The names behind other names. -/
def Env.ren (ρ : Env) (r : List Nat) : Env := ⟨fun n => (nthL r n).bind ρ.blk, fun n => ρ.cap ((nthL r n).getD 0), fun _ _ => none⟩
theorem ren_blk {ρ : Env} {r : List Nat} {n m : Nat} (h : rnE r n m = true) : (ρ.ren r).blk n = ρ.blk m ∧ (ρ.ren r).cap n = ρ.cap m := by
  unfold rnE at h
  cases hr : nthL r n with
  | none => rw [hr] at h; cases h
  | some m' =>
    rw [hr] at h
    have := Nat.eq_of_beq_eq_true h
    subst this
    simp [Env.ren, hr]
mutual
theorem eqv_ok {ρ : Env} {r : List Nat} : ∀ (v u : AV), eqv r v u = true → Dm ρ u → cv (ρ.ren r) v = cv ρ u ∧ Dm (ρ.ren r) v
  | .b x, u, h, hd => by
    cases u <;> first | (simp [eqv, eqvL] at h; done) | skip
    rename_i y
    simp only [eqv, beq_iff_eq] at h
    subst h; exact ⟨rfl, trivial⟩
  | .i k n, u, h, hd => by
    cases u <;> first | (simp [eqv, eqvL] at h; done) | skip
    simp only [eqv, Bool.and_eq_true] at h
    obtain rfl := knd_inj h.1
    obtain rfl := of_decide_eq_true ((zeq_eq _ _).symm.trans h.2)
    exact ⟨rfl, trivial⟩
  | .s l, u, h, hd => by
    cases u <;> first | (simp [eqv, eqvL] at h; done) | skip
    simp only [eqv, decide_eq_true_eq] at h
    subst h; exact ⟨rfl, trivial⟩
  | .p n q, u, h, hd => by
    cases u <;> first | (simp [eqv, eqvL] at h; done) | skip
    simp only [eqv, Bool.and_eq_true] at h
    obtain ⟨h1, _⟩ := ren_blk (ρ := ρ) h.1
    obtain rfl := Nat.eq_of_beq_eq_true h.2
    simp only [Dm] at hd
    simp only [cv, Dm, Env.at_, h1]
    exact ⟨trivial, hd⟩
  | .pn, u, h, hd => by cases u <;> first | (simp [eqv, eqvL] at h; done) | exact ⟨rfl, trivial⟩
  | .l n q l c k, u, h, hd => by
    cases u <;> first | (simp [eqv, eqvL] at h; done) | skip
    simp only [eqv, Bool.and_eq_true, decide_eq_true_eq] at h
    obtain ⟨h1, h2, h3, h4, h5⟩ := h
    obtain ⟨e1, e2⟩ := ren_blk (ρ := ρ) h1
    obtain rfl := Nat.eq_of_beq_eq_true h2
    obtain rfl := Nat.eq_of_beq_eq_true h3
    obtain rfl := Nat.eq_of_beq_eq_true h5
    subst h4
    simp only [Dm] at hd
    simp only [cv, Dm, Env.at_, e1, e2]
    exact ⟨trivial, hd⟩
  | .ln, u, h, hd => by cases u <;> first | (simp [eqv, eqvL] at h; done) | exact ⟨rfl, trivial⟩
  | .m n, u, h, hd => by cases u <;> (simp [eqv, eqvL] at h; done)
  | .mn, u, h, hd => by cases u <;> first | (simp [eqv, eqvL] at h; done) | exact ⟨rfl, trivial⟩
  | .f g us vs, u, h, hd => by cases u <;> (simp [eqv, eqvL] at h; done)
  | .y n, u, h, hd => by cases u <;> (simp [eqv, eqvL] at h; done)
  | .fn, u, h, hd => by cases u <;> first | (simp [eqv, eqvL] at h; done) | exact ⟨rfl, trivial⟩
  | .ni, u, h, hd => by cases u <;> first | (simp [eqv, eqvL] at h; done) | exact ⟨rfl, trivial⟩
  | .ii t v, u, h, hd => by cases u <;> (simp [eqv, eqvL] at h; done)
  | .g l, u, h, hd => by
    cases u <;> first | (simp [eqv, eqvL] at h; done) | skip
    simp only [eqv] at h
    simp only [Dm] at hd
    obtain ⟨h1, h2⟩ := eqvL_ok l _ h hd
    simp only [cv, Dm, h1]
    exact ⟨trivial, h2⟩
  | .t l, u, h, hd => by
    cases u <;> first | (simp [eqv, eqvL] at h; done) | skip
    simp only [eqv] at h
    simp only [Dm] at hd
    obtain ⟨h1, h2⟩ := eqvL_ok l _ h hd
    simp only [cv, Dm, h1]
    exact ⟨trivial, h2⟩
  | .st n i, u, h, hd => by cases u <;> (simp [eqv, eqvL] at h; done)
theorem eqvL_ok {ρ : Env} {r : List Nat} : ∀ (v u : List AV), eqvL r v u = true → DmL ρ u → cvL (ρ.ren r) v = cvL ρ u ∧ DmL (ρ.ren r) v
  | [], u, h, hd => by cases u <;> first | (simp [eqv, eqvL] at h; done) | exact ⟨rfl, trivial⟩
  | x :: l, u, h, hd => by
    cases u <;> first | (simp [eqv, eqvL] at h; done) | skip
    simp only [eqvL, Bool.and_eq_true] at h
    simp only [DmL] at hd
    obtain ⟨h1, h2⟩ := eqv_ok x _ h.1 hd.1
    obtain ⟨h3, h4⟩ := eqvL_ok l _ h.2 hd.2
    simp only [cvL, DmL, h1, h3]
    exact ⟨trivial, h2, h4⟩
end
/-! ### a state laid out -/
noncomputable def hpG (l : List AO) : Nat → HT → HT := List.rec (motive := fun _ => Nat → HT → HT) (fun _ h => h) (fun o _ ih i h => ih (Nat.add i 1) (h.set i (some o))) l
noncomputable def hpL (l : List AO) : Hp := ⟨hpG l 0 hz, l.length, 0, 0, 0⟩
theorem hpG_get : ∀ (l : List AO) (i : Nat) (h : HT) (n : Nat) (o : AO), i + l.length ≤ 32768 → n < 32768 → (hpG l i h).get n = some o → (i ≤ n ∧ l[n - i]? = some o) ∨ h.get n = some o
  | [], i, h, n, o, _, _, hg => .inr hg
  | x :: l, i, h, n, o, hl, hn, hg => by
    rw [List.length_cons] at hl
    rcases hpG_get l (i + 1) (h.set i (some x)) n o (by omega) hn hg with ⟨h1, h2⟩ | h1
    · refine .inl ⟨by omega, ?_⟩
      rw [show n - i = (n - (i + 1)) + 1 by omega]
      simpa using h2
    · rw [HT.get_set (by omega) hn] at h1
      by_cases he : i = n
      · rw [if_pos he] at h1
        injection h1 with h1
        subst h1; subst he
        exact .inl ⟨Nat.le_refl _, by simp⟩
      · rw [if_neg he] at h1; exact .inr h1
theorem hpL_gt {l : List AO} (hl : Nat.ble l.length 32768 = true) {n : Nat} {o : AO} (h : (hpL l).gt n = some o) : l[n]? = some o := by
  have hl := Nat.le_of_ble_eq_true hl
  rw [Hp.gt_eq] at h
  by_cases hn : n < 32768
  · rw [if_pos hn] at h
    rcases hpG_get l 0 hz n o (by omega) hn h with ⟨_, h2⟩ | h2
    · exact h2
    · rw [HT.get_hz] at h2; cases h2
  · rw [if_neg hn] at h; cases h
noncomputable def zcL (X : Cx) (cl yl : Nat → List AV → HM AV) (k n : Nat) (cs : List Code) : ZM := List.rec (motive := fun _ => ZM) (fun ts ds s => .ok ⟨.nm, ts, ds⟩ s) (fun c _ ih => zSeqF (zcF X cl yl none k n c) ih) cs
def tlK (r : List Nat) (ts' : TL → Nat → Option AV) (t1 : TL) : TL → Bool
  | .nil => true
  | .cons t v l => (match ts' t1 t with
    | some u => eqv r v u
    | none => false) && tlK r ts' t1 l
def aoK (r : List Nat) (s' : Nat → Option AO) : List Nat → List AO → Bool
  | [], [] => true
  | m :: ms, o :: os => (match s' m with
    | some o' => eqo r o o'
    | none => false) && aoK r s' ms os
  | _, _ => false
def ndB : List Nat → Bool
  | [] => true
  | n :: l => l.all (fun m => !(Nat.beq n m)) && ndB l
def isNm : ZX → Bool
  | .nm => true
  | _ => false
/-- What is told of a state is so, by other names. -/
noncomputable def chkS (r : List Nat) (ts : TL) (l : List AO) (o : Rz ZO) : Bool := match o with
  | .no => false
  | .ok o s' => isNm o.x && (o.ds.isEmpty && (ndB r && (tlK r TL.look o.ts ts && aoK r s'.gt r l)))
theorem tlK_ok {r : List Nat} {ts' : TL} : ∀ {ts : TL}, tlK r TL.look ts' ts = true → ∀ t v, ts.look t = some v → ∃ u, ts'.look t = some u ∧ eqv r v u = true
  | .nil, _, t, v, h => by cases h
  | .cons t0 v0 l, hk, t, v, h => by
    simp only [tlK, Bool.and_eq_true] at hk
    rw [TL.look_cons] at h
    by_cases he : t0 = t
    · rw [if_pos he] at h
      injection h with h
      subst h; subst he
      have h1 := hk.1
      split at h1
      · rename_i u hu; exact ⟨u, hu, h1⟩
      · cases h1
    · rw [if_neg he] at h
      exact tlK_ok hk.2 t v h
theorem aoK_ok {r : List Nat} {s' : Nat → Option AO} : ∀ {ms : List Nat} {os : List AO}, aoK r s' ms os = true → ms.length = os.length ∧ ∀ (i : Nat) (o : AO), os[i]? = some o → ∃ m o', ms[i]? = some m ∧ s' m = some o' ∧ eqo r o o' = true
  | [], [], _ => ⟨rfl, fun i o h => by simp at h⟩
  | [], _ :: _, h => by simp [aoK] at h
  | _ :: _, [], h => by simp [aoK] at h
  | m :: ms, x :: os, hk => by
    simp only [aoK, Bool.and_eq_true] at hk
    obtain ⟨g1, g2⟩ := aoK_ok hk.2
    refine ⟨by simp [g1], fun i o h => ?_⟩
    cases i with
    | zero =>
      simp only [List.getElem?_cons_zero, Option.some.injEq] at h
      subst h
      have h1 := hk.1
      split at h1
      · rename_i u hu; exact ⟨m, u, rfl, hu, h1⟩
      · cases h1
    | succ i =>
      simp only [List.getElem?_cons_succ] at h ⊢
      exact g2 i o h
theorem ndB_ok : ∀ {l : List Nat}, ndB l = true → ∀ i j m : Nat, l[i]? = some m → l[j]? = some m → i = j
  | [], _, i, j, m, h, _ => by simp at h
  | n :: l, hk, i, j, m, hi, hj => by
    simp only [ndB, Bool.and_eq_true, List.all_eq_true] at hk
    have key : ∀ i, l[i]? = some m → n ≠ m := fun i hi e => by
      have := hk.1 m (List.mem_of_getElem? hi)
      subst e
      rw [Nat.beq_refl] at this
      cases this
    cases i with
    | zero =>
      simp only [List.getElem?_cons_zero, Option.some.injEq] at hi
      subst hi
      cases j with
      | zero => rfl
      | succ j => simp only [List.getElem?_cons_succ] at hj; exact absurd rfl (key j hj)
    | succ i =>
      simp only [List.getElem?_cons_succ] at hi
      cases j with
      | zero => simp only [List.getElem?_cons_zero, Option.some.injEq] at hj; exact absurd hj (key i hi)
      | succ j => simp only [List.getElem?_cons_succ] at hj; rw [ndB_ok hk.2 i j m hi hj]
theorem eqo_ok {ρ : Env} {r : List Nat} {n m q : Nat} {o o' : AO} {x : Option Obj} (h : eqo r o o' = true) (hn : rnE r n m = true) (ho : OH ρ m q o' x) : OH (ρ.ren r) n q o x := by
  cases o <;> cases o' <;> first | (simp [eqo] at h; done) | skip
  simp only [eqo, Bool.and_eq_true, decide_eq_true_eq] at h
  obtain ⟨h1, h2, h3⟩ := h
  obtain rfl := Nat.eq_of_beq_eq_true h1
  subst h3
  obtain ⟨pre, rest, e1, e2, e3, e4⟩ := ho
  obtain ⟨f1, f2⟩ := eqvL_ok _ _ h2 e3
  refine ⟨pre, rest, e1, by rw [f1]; exact e2, f2, ?_⟩
  rename_i l op l'
  have hlen : l.length = l'.length := by
    have := congrArg List.length f1
    simpa [cvL_len] using this
  cases op with
  | none => exact e4
  | some sz => show (ρ.ren r).cap n * sz = _; rw [(ren_blk hn).2, hlen]; exact e4
theorem chk_zf {k n : Nat} {w0 w : World} {ρ : Env} {a : Act} {o : ZO} {s' : Hp} {r : List Nat} {ts : TL} {l : List AO} (hl : Nat.ble l.length 32768 = true) (hc : chkS r ts l (.ok o s') = true) (hz : ZF k n w0 ρ s'.gt o.ts o.ds a w) : (∀ n, l.length ≤ n → (ρ.ren r).blk n = none) ∧ ZF k n w0 (ρ.ren r) (hpL l).gt ts [] a w := by
  simp only [chkS, Bool.and_eq_true] at hc
  obtain ⟨h1, h2, h3, h4, h5⟩ := hc
  have hd : o.ds = [] := by simpa using h2
  obtain ⟨h6, h7⟩ := aoK_ok h5
  have hg : ∀ i x, (hpL l).gt i = some x → ∃ m o', rnE r i m = true ∧ r[i]? = some m ∧ s'.gt m = some o' ∧ eqo r x o' = true := fun i x hi => by
    obtain ⟨m, o', e1, e2, e3⟩ := h7 i x (hpL_gt hl hi)
    exact ⟨m, o', by unfold rnE; rw [nthL_eq, e1]; exact Nat.beq_refl m, e1, e2, e3⟩
  refine ⟨fun i hi => ?_, hz.size, fun t v hv => ?_, fun t v hv => ?_, ?_, by simp, hz.zs.base, fun i x hi => ?_, fun i j x y p q hi hj hp hq hne => ?_⟩
  · have : nthL r i = none := by rw [nthL_eq, List.getElem?_eq_none_iff]; omega
    simp [Env.ren, this]
  · obtain ⟨u, e1, e2⟩ := tlK_ok h4 t v hv
    obtain ⟨f1, f2⟩ := hz.sl t u e1
    obtain ⟨g1, g2⟩ := eqv_ok v u e2 f2
    exact ⟨by rw [g1]; exact f1, g2⟩
  · obtain ⟨u, e1, e2⟩ := tlK_ok h4 t v hv
    exact hz.kin t u e1
  · rw [hz.ds, hd]; rfl
  · obtain ⟨m, o', e0, e1, e2, e3⟩ := hg i x hi
    obtain ⟨p, f1, f2, f3⟩ := hz.zs.all m o' e2
    exact ⟨p, by rw [(ren_blk e0).1]; exact f1, f2, eqo_ok e3 e0 f3⟩
  · obtain ⟨m, o1, e0, e1, e2, _⟩ := hg i x hi
    obtain ⟨m', o2, e0', e1', e2', _⟩ := hg j y hj
    rw [(ren_blk e0).1] at hp
    rw [(ren_blk e0').1] at hq
    exact hz.zs.inj m m' o1 o2 p q e2 e2' hp hq fun e => hne (ndB_ok h3 i j m e1 (by rw [e]; exact e1'))
/-! ### pieces -/
def TrueR (w0 : World) : Ending → World → Prop := fun e w => e = .returned (.bool true) ∧ Below w0.heap.size w0 w
/-- From this state on a function's body comes to 'true'. -/
def GoT (P : Program) (fn : Func) (k : Nat) (cs : List Code) (ts : TL) (l : List AO) : Prop := ∀ (w0 : World) (ρ : Env) (a : Act) (w : World), (∀ n, l.length ≤ n → ρ.blk n = none) → ZF k fn.ntmps w0 ρ (hpL l).gt ts [] a w →
  wpL P 5 cs (fun e a w => (e = .normal ∨ e = .ret) ∧ LeavesInM (fw none) 5 P fn a.tmps (TrueR w0) a.defers .returning w) a w
section
variable {X : Cx} {cl yl : Nat → List AV → HM AV}
theorem zcL_ok (hX : CxOK X) (hc : CallOK X.P cl) (hy : YieldOK X.P yl) {k n : Nat} : ∀ (cs : List Code), (∀ ts ds, LM (zcL X cl yl k n cs ts ds)) ∧ ∀ {ts ds s o s'}, zcL X cl yl k n cs ts ds s = .ok o s' → s.ba ≤ s.nx → ∀ {ρ a w w0}, Fre ρ s s' → ZF k n w0 ρ s.gt ts ds a w → wpL X.P 5 cs (QZ k n w0 ρ s o s') a w
  | [] => ⟨fun _ _ => LM.pure _, fun h hba ρ a w w0 hf hz => by
    injection h with h1 h2
    subst h1; subst h2
    exact ⟨rfl, ρ, Grw.refl _ _ _, hz⟩⟩
  | c :: cs => by
    obtain ⟨h1, h2⟩ := zcL_ok hX hc hy (k := k) (n := n) cs
    have hcc := zcF_ok hX hc hy none k n c
    have e : zcL X cl yl k n (c :: cs) = zSeq (zcF X cl yl none k n c) (zcL X cl yl k n cs) := zSeqF_eq _ _
    refine ⟨fun ts ds => by rw [e]; exact LM.bind (hcc.lm _ _) fun o => LM.zX (h1 _ _) (fun _ => LM.pure _) (LM.pure _), fun {ts ds s o s'} h hba ρ a w w0 hf hz => ?_⟩
    rw [e] at h
    obtain ⟨o1, s1, h3, h4⟩ := hb_ok h
    obtain ⟨n1, b1⟩ := (hcc.lm _ _).nx h3 hba
    obtain ⟨n2, _⟩ := (LM.zX (h1 _ _) (fun _ => LM.pure _) (LM.pure _)).nx h4 b1
    refine wpIn_mono (hcc.ok h3 hba (r := none) (mm := 5) (hf.left n2) trivial hz) fun e a1 w1 ⟨he, ρ1, g, z⟩ => ?_
    obtain ⟨x1, ts1, ds1⟩ := o1
    cases x1 with
    | nm =>
      subst he
      exact wpL_mono (fun e a w hq => hq.trans g n1 n2) _ _ _ (h2 h4 b1 (hf.right g n1) z)
    | ex i =>
      obtain ⟨rfl, rfl⟩ := hp_ok h4
      subst he
      exact ⟨rfl, ρ1, g, z⟩
    | rt =>
      obtain ⟨rfl, rfl⟩ := hp_ok h4
      subst he
      exact ⟨rfl, ρ1, g, z⟩
theorem go_step (hX : CxOK X) (hc : CallOK X.P cl) (hy : YieldOK X.P yl) {fn : Func} {k : Nat} {xs ys : List Code} {ts ts' : TL} {l l' : List AO} (r : List Nat) (h : chkS r ts' l' (zcL X cl yl k fn.ntmps xs ts [] (hpL l)) = true) (hl : Nat.ble l'.length 32768 = true) (hn : GoT X.P fn k ys ts' l') : GoT X.P fn k (xs ++ ys) ts l := fun w0 ρ a w hf hz => by
  cases hr : zcL X cl yl k fn.ntmps xs ts [] (hpL l) with
  | no => rw [hr] at h; simp [chkS] at h
  | ok o s' =>
    rw [hr] at h
    refine wpL_append _ _ _ _ (wpL_mono (fun e a1 w1 ⟨he, ρ1, g, z⟩ => ?_) _ _ _ ((zcL_ok hX hc hy xs).2 hr (Nat.zero_le _) (fun n h1 _ => hf n h1) hz))
    obtain ⟨h1, h2⟩ := chk_zf hl h z
    have hx : o.x = .nm := by
      simp only [chkS, Bool.and_eq_true] at h
      cases hx : o.x <;> have h3 := h.1 <;> rw [hx] at h3 <;> first | rfl | cases h3
    rw [hx] at he
    subst he
    exact hn w0 _ a1 w1 h1 h2
noncomputable def lastB (X : Cx) (cl yl : Nat → List AV → HM AV) (fn : Func) (k : Nat) (xs : List Code) (ts : TL) (l : List AO) : Bool := isTrue (hb (zcL X cl yl k fn.ntmps xs ts []) (fun o => zX o.x (zFin X fn o) (fun _ => hn) (zFin X fn o)) (hpL l))
theorem go_last (hX : CxOK X) (hc : CallOK X.P cl) (hy : YieldOK X.P yl) {fn : Func} {k : Nat} {xs : List Code} {ts : TL} {l : List AO} (h : lastB X cl yl fn k xs ts l = true) : GoT X.P fn k xs ts l := fun w0 ρ a w hf hz => by
  unfold lastB at h
  cases hr : hb (zcL X cl yl k fn.ntmps xs ts []) (fun o => zX o.x (zFin X fn o) (fun _ => hn) (zFin X fn o)) (hpL l) with
  | no => rw [hr] at h; cases h
  | ok v s' =>
    rw [hr] at h
    obtain ⟨o, s2, h9, h10⟩ := hb_ok hr
    obtain ⟨q1, q2⟩ := zcL_ok hX hc hy (k := k) (n := fn.ntmps) xs
    obtain ⟨n1, b1⟩ := (q1 _ _).nx h9 (Nat.zero_le _)
    obtain ⟨n2, _⟩ := (LM.zX (zFin_lm X fn o) (fun _ => LM.fail) (zFin_lm X fn o)).nx h10 b1
    have hfin : (o.x = .nm ∨ o.x = .rt) ∧ zFin X fn o s2 = .ok v s' := by
      cases hx : o.x with
      | nm => rw [hx] at h10; exact ⟨.inl rfl, h10⟩
      | ex i => rw [hx] at h10; cases h10
      | rt => rw [hx] at h10; exact ⟨.inr rfl, h10⟩
    refine wpL_mono (fun e a1 w1 ⟨he, ρ1, g, z⟩ => ?_) _ _ _ (q2 h9 (Nat.zero_le _) (fun n h1 _ => hf n h1) hz)
    refine ⟨by rcases hfin.1 with hx | hx <;> rw [hx] at he <;> subst he <;> simp [ZX.of], ?_⟩
    obtain ⟨u2, s3, e1, e2⟩ := hb_ok hfin.2
    rw [z.ds]
    refine zMk_ok o.ds s2 u2 s3 e1 w1 z.zs fun w3 z3 => ?_
    obtain ⟨k1, k2, k3⟩ := zRes_ok hX.tab e2 z.sl z3
    refine ⟨_, k3, ?_, z3.base⟩
    cases v <;> first | (cases h; done) | skip
    rename_i x
    obtain rfl : x = true := h
    simp [cv]
theorem go_start (hX : CxOK X) {f k : Nat} {fn : Func} {c : Code} (hft : X.ft f = some (fn, k)) (hb : fn.body = some c) (h : GoT X.P fn k (Code.flat c) .nil []) (w : World) : Calls X.P f #[] w (TrueR w) := by
  obtain ⟨hfn, _⟩ := hX.ft f fn k hft
  refine (callsIn_wide (n := 5)).1 (callsIn_of_wp_marks (F := fw none) hfn hb trivial ?_)
  refine wpIn_mono (wpL_flat c (h w ⟨fun _ => none, fun _ => 0, fun _ _ => none⟩ _ w (fun _ _ => rfl) ⟨by simp, fun t v hv => (by cases hv), fun t v hv => (by cases hv), rfl, by simp, Below.refl _ _, fun n o hn => ?_, fun n m o o' p q hn => ?_⟩)) ?_
  · have := hpL_gt (l := []) rfl hn; simp at this
  · have := hpL_gt (l := []) rfl hn; simp at this
  · rintro e a w1 ⟨he, hl⟩
    rcases he with rfl | rfl <;> exact hl
end
/-! ## Pieces by numbers -/
def GoF (X : Cx) (f i : Nat) (ts : TL) (l : List AO) : Prop := ∀ fn k c, X.ft f = some (fn, k) → fn.body = some c → GoT X.P fn k ((Code.flat c).drop i) ts l
noncomputable def stepB (X : Cx) (n f i j : Nat) (ts : TL) (l : List AO) (r : List Nat) (ts' : TL) (l' : List AO) : Bool := Option.rec (motive := fun _ => Bool) false (fun p => Option.rec (motive := fun _ => Bool) false (fun c => chkS r ts' l' (zcL X (zE X n).1 (zE X n).2 p.2 p.1.ntmps (((Code.flat c).drop i).take (j - i)) ts [] (hpL l)) && Nat.ble l'.length 32768) p.1.body) (X.ft f)
theorem go_cut {X : Cx} (hX : CxOK X) (hV : CxOV X) {n f i j : Nat} {ts : TL} {l : List AO} {r : List Nat} {ts' : TL} {l' : List AO} (hij : Nat.ble i j = true) (h : stepB X n f i j ts l r ts' l' = true) (hn : GoF X f j ts' l') : GoF X f i ts l := fun fn k c hft hb => by
  unfold stepB at h
  rw [hft] at h
  dsimp only at h
  rw [hb] at h
  dsimp only at h
  rw [Bool.and_eq_true] at h
  have e : (Code.flat c).drop i = ((Code.flat c).drop i).take (j - i) ++ (Code.flat c).drop j := by
    have h1 := Nat.le_of_ble_eq_true hij
    conv => lhs; rw [← List.take_append_drop (j - i) ((Code.flat c).drop i)]
    rw [List.drop_drop, show i + (j - i) = j by omega]
  rw [e]
  exact go_step hX (zE_ok hX hV n).1 (zE_ok hX hV n).2 r h.1 h.2 (hn fn k c hft hb)
noncomputable def endB (X : Cx) (n f i : Nat) (ts : TL) (l : List AO) : Bool := Option.rec (motive := fun _ => Bool) false (fun p => Option.rec (motive := fun _ => Bool) false (fun c => lastB X (zE X n).1 (zE X n).2 p.1 p.2 ((Code.flat c).drop i) ts l) p.1.body) (X.ft f)
theorem go_end {X : Cx} (hX : CxOK X) (hV : CxOV X) {n f i : Nat} {ts : TL} {l : List AO} (h : endB X n f i ts l = true) : GoF X f i ts l := fun fn k c hft hb => by
  unfold endB at h
  rw [hft] at h
  dsimp only at h
  rw [hb] at h
  exact go_last hX (zE_ok hX hV n).1 (zE_ok hX hV n).2 h
theorem go_all {X : Cx} (hX : CxOK X) {f : Nat} (hs : (X.ft f).isSome = true) (hb : ((X.ft f).bind (fun p => p.1.body)).isSome = true) (h : GoF X f 0 .nil []) (w : World) : Calls X.P f #[] w (TrueR w) := by
  obtain ⟨⟨fn, k⟩, hft⟩ := Option.isSome_iff_exists.1 hs
  rw [hft] at hb
  obtain ⟨c, hc⟩ := Option.isSome_iff_exists.1 hb
  exact go_start hX hft hc (h fn k c hft hc) w
/-! ## Runs of one's own: chunks out of names -/
section
open Classical in
noncomputable def frX (ρ : Env) (G : GH) (ex : List Nat) (n : Nat) : Option Chunk := if n ∈ ex then none else match G n with
  | some o => match ρ.blk n with
    | some p => some (.prd p.1 (fun x => OH ρ n p.2 o x))
    | none => none
  | none => none
noncomputable def frC (ρ : Env) (G : GH) (ex : List Nat) : List Chunk := (List.range 32768).filterMap (frX ρ G ex)
theorem frX_some {ρ : Env} {G : GH} {ex : List Nat} {n : Nat} {c : Chunk} (h : frX ρ G ex n = some c) : n ∉ ex ∧ ∃ o p, G n = some o ∧ ρ.blk n = some p ∧ c = .prd p.1 (fun x => OH ρ n p.2 o x) := by
  unfold frX at h
  by_cases hn : n ∈ ex
  · rw [if_pos hn] at h; cases h
  · rw [if_neg hn] at h
    cases hg : G n with
    | none => rw [hg] at h; cases h
    | some o =>
      rw [hg] at h
      cases hp : ρ.blk n with
      | none => simp only [hp] at h; cases h
      | some p => simp only [hp] at h; injection h with h; exact ⟨hn, o, p, rfl, rfl, h.symm⟩
theorem frX_of {ρ : Env} {G : GH} {ex : List Nat} {n : Nat} {o : AO} {p : Nat × Nat} (hn : n ∉ ex) (hg : G n = some o) (hp : ρ.blk n = some p) : frX ρ G ex n = some (.prd p.1 (fun x => OH ρ n p.2 o x)) := by
  unfold frX
  rw [if_neg hn, hg]
  simp only [hp]
theorem frC_mem {ρ : Env} {G : GH} {ex : List Nat} (hG : ∀ n o, G n = some o → n < 32768) {n : Nat} {o : AO} {p : Nat × Nat} (hn : n ∉ ex) (hg : G n = some o) (hp : ρ.blk n = some p) : Chunk.prd p.1 (fun x => OH ρ n p.2 o x) ∈ frC ρ G ex :=
  List.mem_filterMap.2 ⟨n, List.mem_range.2 (hG n o hg), frX_of hn hg hp⟩
variable {w0 w w' : World} {ρ : Env} {G : GH}
theorem frC_st (hz : ZS w0 ρ G w) (ex : List Nat) : St w0 (frC ρ G ex) w where
  base := hz.base
  all := fun c hc => by
    obtain ⟨n, _, h⟩ := List.mem_filterMap.1 hc
    obtain ⟨_, o, p, h1, h2, rfl⟩ := frX_some h
    obtain ⟨p', e1, e2, e3⟩ := hz.all n o h1
    obtain rfl : p' = p := Option.some.inj (e1.symm.trans h2)
    exact ⟨e2, (hz.lt h1 h2).1, e3⟩
  apart := by
    unfold frC
    rw [List.pairwise_filterMap]
    refine List.Pairwise.imp (R := fun a b => a < b) ?_ (List.pairwise_lt_range (n := 32768))
    intro a b hab c hc d hd
    obtain ⟨_, o, p, h1, h2, rfl⟩ := frX_some hc
    obtain ⟨_, o', q, h3, h4, rfl⟩ := frX_some hd
    intro _ x hx hy
    simp only [Chunk.at_, Option.some.injEq] at hx hy
    exact hz.inj a b o o' p q h1 h3 h2 h4 (by omega) (hx.trans hy.symm)
theorem zs_st (hz : ZS w0 ρ G w) {n : Nat} {o : AO} {p : Nat × Nat} (hn : G n = some o) (hp : ρ.blk n = some p) : St w0 (.prd p.1 (fun x => OH ρ n p.2 o x) :: frC ρ G [n]) w where
  base := hz.base
  all := fun c hc => by
    rcases List.mem_cons.1 hc with rfl | hc
    · obtain ⟨p', e1, e2, e3⟩ := hz.all n o hn
      obtain rfl : p' = p := Option.some.inj (e1.symm.trans hp)
      exact ⟨e2, (hz.lt hn hp).1, e3⟩
    · exact (frC_st hz [n]).all c hc
  apart := .cons (fun c hc => by
    obtain ⟨m, _, h⟩ := List.mem_filterMap.1 hc
    obtain ⟨hm, o', q, h1, h2, rfl⟩ := frX_some h
    intro _ x hx hy
    simp only [Chunk.at_, Option.some.injEq] at hx hy
    exact hz.inj n m o o' p q hn h1 hp h2 (fun e => hm (by rw [e]; exact .head _)) (hx.trans hy.symm)) (frC_st hz [n]).apart
theorem st_zs (hG : ∀ n o, G n = some o → n < 32768) (hz : ZS w0 ρ G w) {n : Nat} {o o' : AO} {p : Nat × Nat} (hn : G n = some o) (hp : ρ.blk n = some p) (hs : St w0 (.prd p.1 (fun x => OH ρ n p.2 o' x) :: frC ρ G [n]) w') : ZS w0 ρ (setG G n (some o')) w' where
  base := hs.base
  all := fun m x hm => by
    unfold setG at hm
    split at hm
    · rename_i he; subst he
      injection hm with hm; subst hm
      obtain ⟨h1, h2, h3⟩ := hs.all _ (.head _)
      exact ⟨p, hp, h1, h3⟩
    · rename_i hne
      obtain ⟨q, e1, _, _⟩ := hz.all m x hm
      obtain ⟨h1, h2, h3⟩ := hs.all _ (.tail _ (frC_mem hG (ex := [n]) (fun h => hne (List.mem_singleton.1 h).symm) hm e1))
      exact ⟨q, e1, h1, h3⟩
  inj := fun a b x y p' q' ha hb hpa hpb hne => by
    have key : ∀ c x, setG G n (some o') c = some x → ∃ y, G c = some y := fun c x hc => by
      unfold setG at hc
      split at hc
      · rename_i he; subst he; exact ⟨o, hn⟩
      · exact ⟨x, hc⟩
    obtain ⟨x', h1⟩ := key a x ha
    obtain ⟨y', h2⟩ := key b y hb
    exact hz.inj a b x' y' p' q' h1 h2 hpa hpb hne
variable {P : Program} {k N : Nat} {ts ts' : TL} {ds : List Nat} {a : Act} {c : Code} {r : Option Nat} {mm : Nat}
/-- What a run of one's own knows of slots. -/
def SlT (ρ : Env) (ts : TL) (S : TS) : Prop := ∀ t v, look S t = some v → ∃ u, ts.look t = some u ∧ v = cv ρ u
theorem SlT.nil : SlT ρ ts [] := fun t v h => by cases h
theorem SlT.cons {t : Nat} {u : AV} {S : TS} (hu : ts.look t = some u) (h : SlT ρ ts S) : SlT ρ ts ((t, cv ρ u) :: S) := fun t' v hv => by
  simp only [look] at hv
  split at hv
  · rename_i he
    have := Nat.eq_of_beq_eq_true he
    subst this
    injection hv with hv
    exact ⟨u, hu, hv.symm⟩
  · exact h t' v hv
theorem zf_hd (hz : ZF k N w0 ρ G ts ds a w) {S : TS} (hS : SlT ρ ts S) {A : List Chunk} (hst : St w0 A w) : Hd w0 N (dfL ρ ds) S A a w where
  size := hz.size
  slots := fun t v hv => by
    obtain ⟨u, h1, rfl⟩ := hS t v hv
    exact (hz.sl t u h1).1
  ds := hz.ds
  st := hst
/-- How a run of one's own ends. -/
structure OvQ (w0 : World) (ρ : Env) (ts' : TL) (D : List Deferred) (B : List Chunk) (e : Exit) (ds : List Deferred) (S : TS) (A : List Chunk) : Prop where
  he : e = .normal
  hd : ds = D
  hs : ∀ t u, ts'.look t = some u → look S t = some (cv ρ u)
  hA : ∀ w, St w0 A w → St w0 B w
theorem code_tr1 (hz : ZF k N w0 ρ G ts ds a w) (hG : ∀ n o, G n = some o → n < 32768) {n : Nat} {o o' : AO} {p : Nat × Nat} (hn : G n = some o) (hp : ρ.blk n = some p) {S : TS} (hS : SlT ρ ts S) (hts : ∀ t u, ts'.look t = some u → Dm ρ u ∧ bitB k t = true)
    (h : ∀ F : List Chunk, (∀ m x q, m ≠ n → G m = some x → ρ.blk m = some q → Chunk.prd q.1 (fun y => OH ρ m q.2 x y) ∈ F) → Tr P r w0 N c (dfL ρ ds) S (.prd p.1 (fun x => OH ρ n p.2 o x) :: F) (OvQ w0 ρ ts' (dfL ρ ds) (.prd p.1 (fun x => OH ρ n p.2 o' x) :: F))) :
    c.wpIn (fw r) mm P (fun e a' w' => e = .normal ∧ ZF k N w0 ρ (setG G n (some o')) ts' ds a' w') a w := by
  refine wpIn_mono (h (frC ρ G [n]) (fun m x q hm hx hq => frC_mem hG (fun h => hm (List.mem_singleton.1 h)) hx hq) mm a w (zf_hd hz hS (zs_st hz.zs hn hp))) ?_
  rintro e a' w' ⟨ds', S', A, ⟨he, hds, hsl, hA⟩, hd⟩
  exact ⟨he, hd.size, fun t v hv => ⟨hd.slots t _ (hsl t v hv), (hts t v hv).1⟩, fun t v hv => (hts t v hv).2, by rw [hd.ds, hds], hz.dsd, st_zs hG hz.zs hn hp (hA w' hd.st)⟩
end
/-! ## Maps gone through: which entries were come to -/
def keysNd (es : List (AV × AV)) : Bool := match es with
  | [] => true
  | e :: l => (l.all fun x => !(keyEq e.1 x.1)) && keysNd l
def esL {kd : KD} (ks : List (KK kd × AV)) : List (AV × AV) := ks.map fun x => (x.1.1, x.2)
theorem esL_of {kd : KD} : ∀ {es : List (AV × AV)}, (∀ e ∈ es, keyB kd e.1 = true) → ∃ ks : List (KK kd × AV), esL ks = es
  | [], _ => ⟨[], rfl⟩
  | e :: es, h => by
    obtain ⟨ks, hk⟩ := esL_of (es := es) fun e he => h e (.tail _ he)
    exact ⟨(⟨e.1, h e (.head _)⟩, e.2) :: ks, by simp [esL] at hk ⊢; exact hk⟩
theorem keysNd_ok {kd : KD} : ∀ {ks : List (KK kd × AV)}, keysNd (esL ks) = true → (ks.map Prod.fst).Nodup
  | [], _ => .nil
  | e :: ks, h => by
    simp only [esL, List.map_cons, keysNd, Bool.and_eq_true, List.all_eq_true] at h
    rw [List.map_cons]
    refine List.nodup_cons.2 ⟨fun hm => ?_, keysNd_ok h.2⟩
    obtain ⟨x, hx, hxe⟩ := List.mem_map.1 hm
    have h1 := h.1 (x.1.1, x.2) (List.mem_map.2 ⟨x, hx, rfl⟩)
    rw [hxe] at h1
    have h2 : keyEq e.1.1 e.1.1 = true := (keyEq_iff e.1.2 e.1.2).2 rfl
    simp only [h2] at h1
    cases h1
theorem lkA_mem {kd : KD} {k : KK kd} {u : AV} : ∀ {ks : List (KK kd × AV)}, (ks.map Prod.fst).Nodup → (lkA (esL ks) k.1 = some u ↔ (k, u) ∈ ks)
  | [], _ => by simp [esL, lkA]
  | e :: ks, h => by
    obtain ⟨a, v⟩ := e
    rw [List.map_cons, List.nodup_cons] at h
    have ih := lkA_mem (k := k) (u := u) h.2
    have e1 : lkA (esL ((a, v) :: ks)) k.1 = match keyEq a.1 k.1 with
      | true => some v
      | false => lkA (esL ks) k.1 := rfl
    rw [e1]
    cases hk : keyEq a.1 k.1 with
    | true =>
      have hak : a = k := Subtype.ext ((keyEq_iff a.2 k.2).1 hk)
      subst hak
      simp only [Option.some.injEq, List.mem_cons, Prod.mk.injEq, true_and]
      constructor
      · intro h; exact .inl h.symm
      · rintro (h1 | h1)
        · exact h1.symm
        · exact absurd (List.mem_map.2 ⟨_, h1, rfl⟩) h.1
    | false =>
      have hne : k ≠ a := fun e => by
        subst e
        rw [(keyEq_iff k.2 k.2).2 rfl] at hk; cases hk
      simp only [ih, List.mem_cons, Prod.mk.injEq, hne, false_and, false_or]
theorem mpF_some {ρ : Env} {kd : KD} {ks : List (KK kd × AV)} (hn : (ks.map Prod.fst).Nodup) {k : KK kd} {v : Value} : mpF ρ (esL ks) kd k = some v ↔ ∃ u, (k, u) ∈ ks ∧ v = cv ρ u := by
  unfold mpF
  cases hl : lkA (esL ks) k.1 with
  | none =>
    simp only [Option.map_none]
    constructor
    · intro h; cases h
    · rintro ⟨u, h, _⟩
      rw [(lkA_mem hn).2 h] at hl; cases hl
  | some u =>
    simp only [Option.map_some, Option.some.injEq]
    constructor
    · intro h; exact ⟨u, (lkA_mem hn).1 hl, h.symm⟩
    · rintro ⟨u', h, rfl⟩
      rw [(lkA_mem hn).2 h] at hl
      injection hl with hl; rw [hl]
/-- Some entries were come to, others not yet. -/
structure Gone {kd : KD} (ks : List (KK kd × AV)) (vs : List (KK kd)) (k1 k2 : List (KK kd × AV)) : Prop where
  perm : (k1 ++ k2).Perm ks
  vs : vs = k1.map Prod.fst
section
variable {ρ : Env} {kd : KD} {ks : List (KK kd × AV)} {vs : List (KK kd)} {k1 k2 : List (KK kd × AV)}
theorem Gone.start (ks : List (KK kd × AV)) : Gone ks [] [] ks := ⟨by simp, rfl⟩
theorem Gone.next (hn : (ks.map Prod.fst).Nodup) (h : Gone ks vs k1 k2) {k : KK kd} {v : Value} (hk : mpF ρ (esL ks) kd k = some v) (hv : k ∉ vs) : ∃ u k2', v = cv ρ u ∧ (k, u) ∈ ks ∧ Gone ks (vs ++ [k]) (k1 ++ [(k, u)]) k2' := by
  obtain ⟨u, h1, h2⟩ := (mpF_some hn).1 hk
  have h3 : (k, u) ∈ k2 := by
    have := h.perm.mem_iff.2 h1
    rcases List.mem_append.1 this with h4 | h4
    · exact absurd (by rw [h.vs]; exact List.mem_map.2 ⟨_, h4, rfl⟩) hv
    · exact h4
  obtain ⟨a, b, rfl⟩ := List.append_of_mem h3
  refine ⟨u, a ++ b, h2, h1, ⟨?_, by rw [h.vs]; simp⟩⟩
  refine List.Perm.trans ?_ h.perm
  rw [List.append_assoc]
  refine List.Perm.append_left _ ?_
  exact (List.perm_middle (a := (k, u)) (l₁ := a) (l₂ := b)).symm
theorem Gone.done (hn : (ks.map Prod.fst).Nodup) (h : Gone ks vs k1 k2) (hall : ∀ k v, mpF ρ (esL ks) kd k = some v → k ∈ vs) : k1.Perm ks := by
  have : k2 = [] := by
    cases k2 with
    | nil => rfl
    | cons e l =>
      obtain ⟨k, u⟩ := e
      exfalso
      have h1 : (k, u) ∈ ks := h.perm.mem_iff.1 (List.mem_append.2 (.inr (.head _)))
      have h2 := hall k _ ((mpF_some hn).2 ⟨u, h1, rfl⟩)
      rw [h.vs] at h2
      have h3 := (h.perm.map Prod.fst).nodup_iff.2 hn
      rw [List.map_append, List.nodup_append] at h3
      exact h3.2.2 k h2 k (by simp) rfl
  subst this
  simpa using h.perm
theorem Gone.sub (h : Gone ks vs k1 k2) {e : KK kd × AV} (he : e ∈ k1) : e ∈ ks := h.perm.mem_iff.1 (List.mem_append.2 (.inl he))
end
end Go.Proofs.YtiodmphhjgkgjaaGreat
