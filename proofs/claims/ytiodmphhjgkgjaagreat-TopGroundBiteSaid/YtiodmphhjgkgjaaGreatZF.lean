/- len, cap, max, min, copy, clear: lemmas for the rows of this seat. No conditions. -/
import Derived.Test.YtiodmphhjgkgjaaGreatZE
set_option linter.all false
namespace Go.Proofs.YtiodmphhjgkgjaaGreat
open Go.RowKit
/-! ## len, cap, max, min, copy, clear -/
noncomputable def zLenStr (P : Program) (t : TypeId) (v : AV) : HM AV := match P.underlying t with
  | some .string => match v with
    | .s l => hp (.i .i64 (l.length : Int))
    | _ => hn
  | _ => hn
noncomputable def zLen (P : Program) (tab : TT) (t : TypeId) (x : Operand) (ts : TL) : HM AV := hO (evO ts x) fun v => hO (lookI tab t) fun i => match i.d with
  | .sl _ => match v with
    | .l _ _ len _ _ => hp (.i .i64 (len : Int))
    | .ln => hp (.i .i64 0)
    | _ => hn
  | .ar m _ => hp (.i .i64 (m : Int))
  | _ => zLenStr P t v
noncomputable def zCap (tab : TT) (t : TypeId) (x : Operand) (ts : TL) : HM AV := hO (evO ts x) fun v => hO (lookI tab t) fun i => match i.d with
  | .sl _ => match v with
    | .l _ _ _ c _ => match c with
      | some c => hp (.i .i64 (c : Int))
      | none => hn
    | .ln => hp (.i .i64 0)
    | _ => hn
  | _ => hn
def zmx (b : Bool) (v : AV) (l : List AV) : Option AV := match l with
  | [] => some v
  | u :: l => match v with
    | .i k x => match u with
      | .i _ y => zmx b (.i k (match (match b with | true => zlt x y | false => zlt y x) with | true => y | false => x)) l
      | _ => none
    | _ => none
noncomputable def zMx (b : Bool) (xs : Array Operand) (ts : TL) : HM AV := hO (zvL ts xs.toList) fun l => match l with
  | [] => hn
  | v :: l => hO (zmx b v l) hp
def cutA (v : AV) (n : Nat) : AV := match v with
  | .l m off _ c sk => .l m off n c sk
  | v => v
noncomputable def zPut (n off : Nat) (vs : List AV) (r : AV) : HM AV := hb (rdB n) fun o => match o with
  | .cs t l op => hg (Nat.ble (off + vs.length) l.length) (hg (vs.all notTL) (hb (wrB n (some (.cs t (setManyA l off vs) op))) fun _ => hp r))
  | _ => hn
noncomputable def zCopy (tab : TT) (t : TypeId) (x y : Operand) (ts : TL) : HM AV := hO (evO ts x) fun v => hO (evO ts y) fun u => hO (lookI tab t) fun i => match i.d with
  | .sl e => hO (lookI tab e) fun k => match v with
    | .l n off len _ _ => hb (zFirst k.size (cutA u (Nat.min (lenA u) len))) fun cs => zPut n off cs (.i .i64 ((Nat.min (lenA u) len : Nat) : Int))
    | .ln => match u with
      | .ln => hp (.i .i64 0)
      | .l _ _ _ _ _ => hp (.i .i64 0)
      | _ => hn
    | _ => hn
  | _ => hn
noncomputable def zClear (tab : TT) (t : TypeId) (x : Operand) (ts : TL) : HM AV := hO (evO ts x) fun v => hO (lookI tab t) fun i => match i.d with
  | .sl e => hO (lookI tab e) fun k => hO (toAL k.zero) fun z => match v with
    | .ln => hp (.t [])
    | .l n off len _ _ => match len with
      | 0 => hp (.t [])
      | len + 1 => hg (Nat.beq k.zero.length k.size) (zPut n off (repA (len + 1) z) (.t []))
    | _ => hn
  | _ => hn
section
variable {P : Program} {tab : TT} {o : Oper}
theorem ops_len (hT : TabOk P tab) {t : TypeId} {x : Operand} (hop : o.op = .call { callee := .builtin .len, args := #[x], argTypes := #[t] }) : OpS P o (zLen P tab t x) where
  lm := fun ts => by unfold zLen zLenStr; (repeat (first | exact LM.pure _ | exact LM.fail | exact LM.read _ | exact LM.write _ _ | exact LM.new _ | assumption | refine LM.bind ?_ fun _ => ?_ | refine LM.opt fun _ => ?_ | refine LM.ite ?_ ?_ | split))
  ok := fun {ts s r s'} h ρ a w w0 hf hs hz => by
    obtain ⟨v, hv, h1⟩ := hO_ok h
    obtain ⟨i, hi, h2⟩ := hO_ok h1
    obtain ⟨p1, p2⟩ := evO_spec hs hv
    clear h h1
    (try dsimp only at h2)
    have hb0 : execOp a.eval o = (do pure (Next.value (← Builtin.len_ #[t] o.type #[cv ρ v]))) := by
      rw [exec_builtin hop, BigFrame.builtin_len]; simp [p1]
    have str : zLenStr P t v s = .ok r s' → Ends P w0 ρ s r s' ((execOp a.eval o).run P w) := fun h3 => by
      rw [hb0]
      clear h2 hb0 p1 p2 hv
      unfold zLenStr at h3
      cases hu : P.underlying t with
      | none => rw [hu] at h3; cases h3
      | some d =>
        rw [hu] at h3
        cases d <;> first | (cases h3; done) | skip
        cases v <;> first | (cases h3; done) | skip
        obtain ⟨rfl, rfl⟩ := hp_ok h3
        refine Ends.val hz rfl (by simp [Dm]) ?_
        simp [cv, Builtin.len_, run_underlying hu, goInt]
        try (first | rfl | (rw [← ByteArray.size_data]; simp))
    cases hd : i.d <;> rw [hd] at h2 <;> first | exact str h2 | skip
    · rename_i m e
      obtain ⟨rfl, rfl⟩ := hp_ok h2
      refine Ends.val hz rfl (by simp [Dm]) ?_
      rw [hb0]
      simp [cv, Builtin.len_, run_underlying ((hT t i hi).ar hd), goInt]
    · rename_i e
      (try dsimp only at h2)
      split at h2 <;> first | (cases h2; done) | skip
      · obtain ⟨rfl, rfl⟩ := hp_ok h2
        refine Ends.val hz rfl (by simp [Dm]) ?_
        rw [hb0]
        simp [cv, Builtin.len_, run_underlying ((hT t i hi).sl hd), goInt]
      · obtain ⟨rfl, rfl⟩ := hp_ok h2
        refine Ends.val hz rfl (by simp [Dm]) ?_
        rw [hb0]
        simp [cv, Builtin.len_, run_underlying ((hT t i hi).sl hd), goInt]
theorem ops_cap (hT : TabOk P tab) {t : TypeId} {x : Operand} (hop : o.op = .call { callee := .builtin .cap, args := #[x], argTypes := #[t] }) : OpS P o (zCap tab t x) where
  lm := fun ts => by unfold zCap; (repeat (first | exact LM.pure _ | exact LM.fail | exact LM.read _ | exact LM.write _ _ | exact LM.new _ | assumption | refine LM.bind ?_ fun _ => ?_ | refine LM.opt fun _ => ?_ | refine LM.ite ?_ ?_ | split))
  ok := fun {ts s r s'} h ρ a w w0 hf hs hz => by
    obtain ⟨v, hv, h1⟩ := hO_ok h
    obtain ⟨i, hi, h2⟩ := hO_ok h1
    obtain ⟨p1, p2⟩ := evO_spec hs hv
    clear h h1
    (try dsimp only at h2)
    cases hd : i.d <;> rw [hd] at h2 <;> first | (cases h2; done) | skip
    (try dsimp only at h2)
    split at h2 <;> first | (cases h2; done) | skip
    · split at h2 <;> first | (cases h2; done) | skip
      obtain ⟨rfl, rfl⟩ := hp_ok h2
      refine Ends.val hz rfl (by simp [Dm]) ?_
      rw [exec_builtin hop, BigFrame.builtin_cap]
      simp only [cv] at p1
      simp [p1, cv, Builtin.cap_, run_underlying ((hT t i hi).sl hd), goInt]
    · obtain ⟨rfl, rfl⟩ := hp_ok h2
      refine Ends.val hz rfl (by simp [Dm]) ?_
      rw [exec_builtin hop, BigFrame.builtin_cap]
      simp only [cv] at p1
      simp [p1, cv, Builtin.cap_, run_underlying ((hT t i hi).sl hd), goInt]
theorem zmx_max (ρ : Env) (w : World) : ∀ (l : List AV) (v r : AV), zmx true v l = some r → ((cvL ρ l).foldlM Builtin.max2 (cv ρ v)).run P w = .ok (cv ρ r) w ∧ (Dm ρ v → Dm ρ r)
  | [], v, r, h => by injection h with h; subst h; simp [cvL]
  | u :: l, v, r, h => by
    unfold zmx at h
    split at h <;> first | (cases h; done) | skip
    split at h <;> first | (cases h; done) | skip
    rename_i k x _ k' y
    obtain ⟨h1, h2⟩ := zmx_max ρ w l _ r h
    refine ⟨?_, fun _ => h2 (by simp [Dm])⟩
    simp only [cvL, List.foldlM_cons, Sem.run_bind]
    have : (Builtin.max2 (cv ρ (.i k x)) (cv ρ (.i k' y))).run P w = .ok (cv ρ (.i k (match zlt x y with | true => y | false => x))) w := by
      simp only [cv, Builtin.max2, Sem.run_pure, zlt_eq]
      by_cases hxy : x < y
      · simp [hxy]
      · simp [hxy]
    rw [this]
    exact h1
theorem zmx_min (ρ : Env) (w : World) : ∀ (l : List AV) (v r : AV), zmx false v l = some r → ((cvL ρ l).foldlM Builtin.min2 (cv ρ v)).run P w = .ok (cv ρ r) w ∧ (Dm ρ v → Dm ρ r)
  | [], v, r, h => by injection h with h; subst h; simp [cvL]
  | u :: l, v, r, h => by
    unfold zmx at h
    split at h <;> first | (cases h; done) | skip
    split at h <;> first | (cases h; done) | skip
    rename_i k x _ k' y
    obtain ⟨h1, h2⟩ := zmx_min ρ w l _ r h
    refine ⟨?_, fun _ => h2 (by simp [Dm])⟩
    simp only [cvL, List.foldlM_cons, Sem.run_bind]
    have : (Builtin.min2 (cv ρ (.i k x)) (cv ρ (.i k' y))).run P w = .ok (cv ρ (.i k (match zlt y x with | true => y | false => x))) w := by
      simp only [cv, Builtin.min2, Sem.run_pure, zlt_eq]
      by_cases hxy : y < x
      · simp [hxy]
      · simp [hxy]
    rw [this]
    exact h1
theorem ops_max {xs : Array Operand} {ats : Array TypeId} (hop : o.op = .call { callee := .builtin .max, args := xs, argTypes := ats }) : OpS P o (zMx true xs) where
  lm := fun ts => by unfold zMx; (repeat (first | exact LM.pure _ | exact LM.fail | exact LM.read _ | exact LM.write _ _ | exact LM.new _ | assumption | refine LM.bind ?_ fun _ => ?_ | refine LM.opt fun _ => ?_ | refine LM.ite ?_ ?_ | split))
  ok := fun {ts s r s'} h ρ a w w0 hf hs hz => by
    obtain ⟨l, hl, h1⟩ := hO_ok h
    obtain ⟨p1, p2⟩ := zvL_spec hs hl
    cases l with
    | nil => cases h1
    | cons v l =>
      obtain ⟨r', hr, h2⟩ := hO_ok h1
      obtain ⟨rfl, rfl⟩ := hp_ok h2
      simp only [DmL] at p2
      obtain ⟨q1, q2⟩ := zmx_max (P := P) ρ w l v r' hr
      refine Ends.val hz rfl (q2 p2.1) ?_
      rw [exec_builtin hop, BigFrame.builtin_max]
      have e : xs.map a.eval = (cv ρ v :: cvL ρ l).toArray := by apply Array.ext'; simp [p1, cvL]
      simp [e, Builtin.max_, q1]
theorem ops_min {xs : Array Operand} {ats : Array TypeId} (hop : o.op = .call { callee := .builtin .min, args := xs, argTypes := ats }) : OpS P o (zMx false xs) where
  lm := fun ts => by unfold zMx; (repeat (first | exact LM.pure _ | exact LM.fail | exact LM.read _ | exact LM.write _ _ | exact LM.new _ | assumption | refine LM.bind ?_ fun _ => ?_ | refine LM.opt fun _ => ?_ | refine LM.ite ?_ ?_ | split))
  ok := fun {ts s r s'} h ρ a w w0 hf hs hz => by
    obtain ⟨l, hl, h1⟩ := hO_ok h
    obtain ⟨p1, p2⟩ := zvL_spec hs hl
    cases l with
    | nil => cases h1
    | cons v l =>
      obtain ⟨r', hr, h2⟩ := hO_ok h1
      obtain ⟨rfl, rfl⟩ := hp_ok h2
      simp only [DmL] at p2
      obtain ⟨q1, q2⟩ := zmx_min (P := P) ρ w l v r' hr
      refine Ends.val hz rfl (q2 p2.1) ?_
      rw [exec_builtin hop, BigFrame.builtin_min]
      have e : xs.map a.eval = (cv ρ v :: cvL ρ l).toArray := by apply Array.ext'; simp [p1, cvL]
      simp [e, Builtin.min_, q1]
theorem zPut_run {w0 w : World} {ρ : Env} {s s' : Hp} {n off : Nat} {vs : List AV} {r0 r : AV} (hz : ZS w0 ρ s.gt w) (hv : DmL ρ vs) (h : zPut n off vs r0 s = .ok r s') : r = r0 ∧ s'.nx = s.nx ∧ (ρ.blk n).isSome = true ∧ ∃ w', (storeCells (ρ.at_ n off) (cvL ρ vs)).run P w = .ok () w' ∧ ZS w0 ρ s'.gt w' := by
  unfold zPut at h
  obtain ⟨o', s1, e1, h1⟩ := hb_ok h
  obtain ⟨g1, g2, g3⟩ := rdB_gt e1
  split at h1 <;> first | (cases h1; done) | skip
  rename_i bt l op
  obtain ⟨b1, h2⟩ := hg_ok h1
  obtain ⟨b2, h3⟩ := hg_ok h2
  obtain ⟨u', s2, e2, h4⟩ := hb_ok h3
  obtain ⟨rfl, rfl⟩ := hp_ok h4
  obtain ⟨_, g4, g5⟩ := wrB_gt e2
  obtain ⟨p, hp, hb, ho⟩ := hz.at_ g1
  have hone : ∀ v ∈ cvL ρ vs, v.oneCell' = true := fun v hv => by
    rw [cvL_eq] at hv
    obtain ⟨y, hy, rfl⟩ := List.mem_map.1 hv
    exact notTL_spec (List.all_eq_true.1 b2 y hy)
  obtain ⟨w', r1, r2, r3⟩ := cs_put (P := P) hp ho hv hone (Nat.le_of_ble_eq_true b1)
  refine ⟨rfl, g5.trans g3, by rw [hp]; rfl, w', r1, ?_⟩
  rw [g4, g2]
  exact hz.setM g1 hp r2 r3
theorem zPut_lm (n off : Nat) (vs : List AV) (r : AV) : LM (zPut n off vs r) := by unfold zPut hg; (repeat (first | exact LM.pure _ | exact LM.fail | exact LM.read _ | exact LM.write _ _ | exact LM.new _ | assumption | refine LM.bind ?_ fun _ => ?_ | refine LM.opt fun _ => ?_ | refine LM.ite ?_ ?_ | split))
theorem cut_spec (ρ : Env) (u : AV) (n : Nat) (h : n ≤ lenA u) (hk : u = .ln ∨ ∃ m off l c sk, u = .l m off l c sk) : lenA (cutA u n) = n ∧ ∀ sz, (Builtin.firstCells sz n (cv ρ u)) = (Builtin.firstCells sz n (cv ρ (cutA u n))) := by
  rcases hk with rfl | ⟨m, off, l, c, sk, rfl⟩
  · simp [lenA] at h; subst h; exact ⟨rfl, fun _ => rfl⟩
  · exact ⟨rfl, fun _ => by simp [cutA, cv, Builtin.firstCells]⟩
theorem ops_copy (hT : TabOk P tab) {t u : TypeId} {x y : Operand} (hop : o.op = .call { callee := .builtin .copy, args := #[x, y], argTypes := #[t, u] }) : OpS P o (zCopy tab t x y) where
  lm := fun ts => by
    unfold zCopy
    have h1 := zFirst_lm
    have h2 := zPut_lm
    (repeat (first | exact zPut_lm _ _ _ _ | exact zFirst_lm _ _ | exact LM.pure _ | exact LM.fail | refine LM.bind ?_ fun _ => ?_ | refine LM.opt fun _ => ?_ | split))
  ok := fun {ts s r s'} h ρ a w w0 hf hs hz => by
    obtain ⟨v, hv, h1⟩ := hO_ok h
    obtain ⟨u', hu, h2⟩ := hO_ok h1
    obtain ⟨i, hi, h3⟩ := hO_ok h2
    obtain ⟨p1, p2⟩ := evO_spec hs hv
    obtain ⟨p3, p4⟩ := evO_spec hs hu
    clear h h1 h2
    (try dsimp only at h3)
    cases hd : i.d <;> rw [hd] at h3 <;> first | (cases h3; done) | skip
    rename_i e
    obtain ⟨k, hk, h4⟩ := hO_ok h3
    clear h3
    have hb0 : execOp a.eval o = (do pure (Next.value (← Builtin.copy_ #[t, u] o.type #[cv ρ v, cv ρ u']))) := by
      rw [exec_builtin hop, BigFrame.builtin_copy]; simp [p1, p3]
    rw [hb0]
    clear hb0 p1 p3 hv hu
    split at h4 <;> first | (cases h4; done) | skip
    · rename_i n off len c sk
      obtain ⟨cs, s1, e1, h5⟩ := hb_ok h4
      obtain ⟨g1, g2, g3, g4, g5, g6⟩ := zFirst_run (P := P) hz e1
      have hkind : u' = .ln ∨ ∃ m off l c sk, u' = .l m off l c sk := by
        unfold zFirst at e1
        cases u' <;> simp only [cutA] at e1 <;> first | (cases e1; done) | exact .inl rfl | exact .inr ⟨_, _, _, _, _, rfl⟩
      obtain ⟨c1, c2⟩ := cut_spec ρ u' (Nat.min (lenA u') len) (Nat.min_le_left _ _) hkind
      rw [c1, ← c2 k.size] at g6
      have hl : (Builtin.lenOf (cv ρ u')).run P w = .ok (lenA u') w := by
        rcases hkind with rfl | ⟨m, off, l, c, sk, rfl⟩ <;> simp [cv, Builtin.lenOf, lenA]
      have hz1 : ZS w0 ρ s1.gt w := by rw [g1]; exact hz
      obtain ⟨rfl, q1, q2, w', q3, q4⟩ := zPut_run (P := P) hz1 g3 h5
      have hrun : (Builtin.copy_ #[t, u] o.type #[cv ρ (.l n off len c sk), cv ρ u']).run P w = .ok (goInt ((Nat.min (lenA u') len : Nat) : Int)) w' := by
        simp only [cv] at hl g6 ⊢
        simp [Builtin.copy_, run_underlying ((hT t i hi).sl hd), hl, (hT e k hk).sz, g6, q3]
      rw [Sem.run_bind, hrun]
      exact ⟨ρ, Env.le.refl ρ, fun _ _ => rfl, by simp [cv, goInt], by simp [Dm], q4⟩
    · split at h4 <;> first | (cases h4; done) | skip
      all_goals
        obtain ⟨rfl, rfl⟩ := hp_ok h4
        refine Ends.val hz rfl (by simp [Dm]) ?_
        simp [cv, Builtin.copy_, run_underlying ((hT t i hi).sl hd), Builtin.lenOf, (hT e k hk).sz, Builtin.firstCells, goInt, loadCells, loadCellsFrom]
theorem ops_clear (hT : TabOk P tab) {t : TypeId} {x : Operand} (hop : o.op = .call { callee := .builtin .clear, args := #[x], argTypes := #[t] }) : OpS P o (zClear tab t x) where
  lm := fun ts => by
    unfold zClear hg
    (repeat (first | exact zPut_lm _ _ _ _ | exact LM.pure _ | exact LM.fail | refine LM.bind ?_ fun _ => ?_ | refine LM.opt fun _ => ?_ | refine LM.ite ?_ ?_ | split))
  ok := fun {ts s r s'} h ρ a w w0 hf hs hz => by
    obtain ⟨v, hv, h2⟩ := hO_ok h
    obtain ⟨i, hi, h3⟩ := hO_ok h2
    obtain ⟨p1, p2⟩ := evO_spec hs hv
    clear h h2
    (try dsimp only at h3)
    cases hd : i.d <;> rw [hd] at h3 <;> first | (cases h3; done) | skip
    rename_i e
    obtain ⟨k, hk, h4⟩ := hO_ok h3
    obtain ⟨z, hzz, h5⟩ := hO_ok h4
    clear h3 h4
    have hb0 : execOp a.eval o = (do pure (Next.value (← Builtin.clear_ #[t] o.type #[cv ρ v]))) := by
      rw [exec_builtin hop, BigFrame.builtin_clear]; simp [p1]
    rw [hb0]
    clear hb0 p1 hv
    split at h5 <;> first | (cases h5; done) | skip
    · obtain ⟨rfl, rfl⟩ := hp_ok h5
      refine Ends.val hz rfl (by simp [Dm, DmL]) ?_
      simp [cv, cvL, Builtin.clear_, run_underlying ((hT t i hi).sl hd)]
    · rename_i n off len c sk
      split at h5 <;> first | (cases h5; done) | skip
      · obtain ⟨rfl, rfl⟩ := hp_ok h5
        refine Ends.val hz rfl (by simp [Dm, DmL]) ?_
        simp [cv, cvL, Builtin.clear_, run_underlying ((hT t i hi).sl hd)]
      · rename_i len'
        obtain ⟨b1, h6⟩ := hg_ok h5
        obtain ⟨z1, z2⟩ := toAL_spec ρ hzz
        obtain ⟨c1, c2⟩ := cvL_rep ρ z (len' + 1)
        obtain ⟨rfl, q1, q2, w', q3, q4⟩ := zPut_run (P := P) hz (c2 z2) h6
        obtain ⟨zz, hz1, hz2⟩ := (hT e k hk).zv w
        have hcells : (Builtin.zeroCells zz.cells (len' + 1)).toList = cvL ρ (repA (len' + 1) z) := by
          rw [c1, z1]
          have hzl : zz.cells.toList = k.zero := by rw [hz2]
          have hsz : zz.cells.size = k.zero.length := by rw [← hzl]; simp
          have := made_rep hzl (len' + 1)
          rw [← this]
          unfold Builtin.zeroCells madeCells
          rw [hsz]
        rw [Sem.run_bind]
        have hrun : (Builtin.clear_ #[t] o.type #[cv ρ (.l n off (len' + 1) c sk)]).run P w = .ok (.tuple #[]) w' := by
          simp only [cv]
          simp [Builtin.clear_, run_underlying ((hT t i hi).sl hd), hz1, hcells, q3]
        rw [hrun]
        exact ⟨ρ, Env.le.refl ρ, fun _ _ => rfl, by simp [cv, cvL], by simp [Dm, DmL], q4⟩
end
/-! ## Maps -/
def ckEq : List CK → List CK → Bool
  | ks, ls => match ks with
    | [] => match ls with
      | [] => true
      | _ => false
    | k :: ks => match ls with
      | [] => false
      | l :: ls => match k with
        | .b => match l with
          | .b => ckEq ks ls
          | _ => false
        | .i a => match l with
          | .i b => match Nat.beq (knd a) (knd b) with
            | true => ckEq ks ls
            | false => false
          | _ => false
theorem ckEq_eq : ∀ (ks ls : List CK), ckEq ks ls = true → ks = ls
  | [], ls, h => by cases ls <;> simp [ckEq] at h <;> rfl
  | k :: ks, ls, h => by
    cases ls with
    | nil => simp [ckEq] at h
    | cons l ls =>
      cases k <;> cases l <;> simp only [ckEq] at h <;> first | (cases h; done) | skip
      · rw [ckEq_eq ks ls h]
      · split at h <;> first | (cases h; done) | skip
        rename_i hk
        rw [knd_inj hk, ckEq_eq ks ls h]
def kdEq (a b : KD) : Bool := match a with
  | .fl ks => match b with
    | .fl ls => ckEq ks ls
    | _ => false
  | .nt k => match b with
    | .nt l => Nat.beq (knd k) (knd l)
    | _ => false
theorem kdEq_eq {a b : KD} (h : kdEq a b = true) : a = b := by
  cases a <;> cases b <;> simp only [kdEq] at h <;> first | (cases h; done) | skip
  · rw [ckEq_eq _ _ h]
  · rw [knd_inj h]
def updA (es : List (AV × AV)) (k v : AV) : List (AV × AV) := match es with
  | [] => [(k, v)]
  | (a, u) :: es => match keyEq a k with
    | true => (a, v) :: es
    | false => (a, u) :: updA es k v
def delA (es : List (AV × AV)) (k : AV) : List (AV × AV) := match es with
  | [] => []
  | (a, u) :: es => match keyEq a k with
    | true => delA es k
    | false => (a, u) :: delA es k
def stA (sts : List (Nat × AV)) (i : Nat) : Option AV := match sts with
  | [] => none
  | (j, k) :: sts => match Nat.beq j i with
    | true => some k
    | false => stA sts i
noncomputable def zLook (P : Program) (tab : TT) (kf : Nat → Option KD) (t : TypeId) (x y : Operand) (c : Bool) (ts : TL) : HM AV := hO (evO ts x) fun v => hO (evO ts y) fun k => hO (lookI tab t) fun i => match i.d with
  | .mp kt et => hO (kf kt) fun kd => hO ((P.info? et).bind (·.zero)) fun z => hO (toA z) fun z => match v with
    | .m n => hb (rdB n) fun o => match o with
      | .mp kd' es _ _ => hg (kdEq kd kd') (hg (keyB kd k) (match lkA es k with
        | some u => hp (match c with
          | true => .t [u, .b true]
          | false => u)
        | none => hp (match c with
          | true => .t [z, .b false]
          | false => z)))
      | _ => hn
    | _ => hn
  | _ => hn
noncomputable def zUpd (tab : TT) (kf : Nat → Option KD) (t : TypeId) (x y z : Operand) (ts : TL) : HM AV := hO (evO ts x) fun v => hO (evO ts y) fun k => hO (evO ts z) fun u => hO (lookI tab t) fun i => match i.d with
  | .mp kt _ => hO (kf kt) fun kd => match v with
    | .m n => hb (rdB n) fun o => match o with
      | .mp kd' es sts nxt => hg (kdEq kd kd') (hg (keyB kd k) (hb (wrB n (some (.mp kd (updA es k u) sts nxt))) fun _ => hp (.t [])))
      | _ => hn
    | _ => hn
  | _ => hn
noncomputable def zEnt (P : Program) (tab : TT) (kf : Nat → Option KD) (t : TypeId) (x y : Operand) (ts : TL) : HM AV := hO (evO ts x) fun v => hO (evO ts y) fun k => hO (lookI tab t) fun i => match i.d with
  | .mp kt et => hO (kf kt) fun kd => hO ((P.info? et).bind (·.zero)) fun z => hO (toA z) fun z => match v with
    | .m n => hb (rdB n) fun o => match o with
      | .mp kd' es sts nxt => hg (kdEq kd kd') (hg (keyB kd k) (match lkA es k with
        | some u => hb (wrB n (some (.mp kd es ((nxt, k) :: sts) (nxt + 1)))) fun _ => hp (.t [u, .st n nxt])
        | none => hb (wrB n (some (.mp kd (updA es k z) ((nxt, k) :: sts) (nxt + 1)))) fun _ => hp (.t [z, .st n nxt])))
      | _ => hn
    | _ => hn
  | _ => hn
noncomputable def zEst (tab : TT) (kf : Nat → Option KD) (t : TypeId) (x y z : Operand) (ts : TL) : HM AV := hO (evO ts x) fun v => hO (evO ts y) fun q => hO (evO ts z) fun u => hO (lookI tab t) fun i => match i.d with
  | .mp kt _ => hO (kf kt) fun kd => match v with
    | .m n => match q with
      | .st n' j => hg (Nat.beq n n') (hb (rdB n) fun o => match o with
        | .mp kd' es sts nxt => hg (kdEq kd kd') (hO (stA sts j) fun k => hg (keyB kd k) (hb (wrB n (some (.mp kd (updA es k u) sts nxt))) fun _ => hp (.t [])))
        | _ => hn)
      | _ => hn
    | _ => hn
  | _ => hn
noncomputable def zDel (tab : TT) (kf : Nat → Option KD) (t : TypeId) (x y : Operand) (ts : TL) : HM AV := hO (evO ts x) fun v => hO (evO ts y) fun k => hO (lookI tab t) fun i => match i.d with
  | .mp kt _ => hO (kf kt) fun kd => match v with
    | .m n => hb (rdB n) fun o => match o with
      | .mp kd' es _ nxt => hg (kdEq kd kd') (hg (keyB kd k) (hb (wrB n (some (.mp kd (delA es k) [] nxt))) fun _ => hp (.t [])))
      | _ => hn
    | _ => hn
  | _ => hn
section
variable {P : Program} {tab : TT} {o : Oper} {kf : Nat → Option KD}
theorem upd_keys {kd : KD} {k v : AV} (hk : keyB kd k = true) : ∀ {es : List (AV × AV)} {Q : AV → Prop}, (∀ e ∈ es, keyB kd e.1 = true ∧ Q e.2) → Q v → ∀ e ∈ updA es k v, keyB kd e.1 = true ∧ Q e.2
  | [], Q, h, hv, e, he => by simp only [updA, List.mem_singleton] at he; subst he; exact ⟨hk, hv⟩
  | (a, u) :: es, Q, h, hv, e, he => by
    simp only [updA] at he
    split at he
    · rcases List.mem_cons.1 he with rfl | he
      · exact ⟨(h (a, u) (.head _)).1, hv⟩
      · exact h e (.tail _ he)
    · rcases List.mem_cons.1 he with rfl | he
      · exact h (a, u) (.head _)
      · exact upd_keys hk (fun e he => h e (.tail _ he)) hv e he
theorem keyEq_ff {kd : KD} {a b : AV} (ha : keyB kd a = true) (hb : keyB kd b = true) (h : a ≠ b) : keyEq a b = false := by
  cases hc : keyEq a b with
  | true => exact absurd ((keyEq_iff ha hb).1 hc) h
  | false => rfl
theorem keyEq_tt {kd : KD} {a : AV} (ha : keyB kd a = true) : keyEq a a = true := (keyEq_iff ha ha).2 rfl
theorem lk_upd {kd : KD} {k v : AV} (hk : keyB kd k = true) : ∀ {es : List (AV × AV)}, (∀ e ∈ es, keyB kd e.1 = true) → ∀ j, keyB kd j = true → (k = j → lkA (updA es k v) j = some v) ∧ (k ≠ j → lkA (updA es k v) j = lkA es j)
  | [], h, j, hj => by
    simp only [updA, lkA]
    refine ⟨fun e => ?_, fun e => ?_⟩
    · subst e; rw [keyEq_tt hk]
    · rw [keyEq_ff hk hj e]
  | (a, u) :: es, h, j, hj => by
    have ha := h (a, u) (.head _)
    obtain ⟨i1, i2⟩ := lk_upd hk (v := v) (fun e he => h e (.tail _ he)) j hj
    simp only [updA]
    cases hb : keyEq a k with
    | true =>
      obtain rfl := (keyEq_iff ha hk).1 hb
      simp only [lkA]
      refine ⟨fun e => ?_, fun e => ?_⟩
      · subst e; rw [keyEq_tt hk]
      · rw [keyEq_ff hk hj e]
    | false =>
      have hne : a ≠ k := fun e => by subst e; rw [keyEq_tt hk] at hb; cases hb
      simp only [lkA]
      refine ⟨fun e => ?_, fun e => ?_⟩
      · subst e; rw [hb]; exact i1 rfl
      · cases hc : keyEq a j with
        | true => rfl
        | false => exact i2 e
theorem lk_del {kd : KD} {k : AV} (hk : keyB kd k = true) : ∀ {es : List (AV × AV)}, (∀ e ∈ es, keyB kd e.1 = true) → ∀ j, keyB kd j = true → (k = j → lkA (delA es k) j = none) ∧ (k ≠ j → lkA (delA es k) j = lkA es j)
  | [], h, j, hj => by simp [delA, lkA]
  | (a, u) :: es, h, j, hj => by
    have ha := h (a, u) (.head _)
    obtain ⟨i1, i2⟩ := lk_del hk (fun e he => h e (.tail _ he)) j hj
    simp only [delA]
    cases hb : keyEq a k with
    | true =>
      obtain rfl := (keyEq_iff ha hk).1 hb
      simp only [lkA]
      refine ⟨i1, fun e => ?_⟩
      rw [keyEq_ff hk hj e]; exact i2 e
    | false =>
      simp only [lkA]
      refine ⟨fun e => ?_, fun e => ?_⟩
      · subst e; rw [hb]; exact i1 rfl
      · cases hc : keyEq a j with
        | true => rfl
        | false => exact i2 e
theorem del_mem {k : AV} : ∀ {es : List (AV × AV)}, ∀ e ∈ delA es k, e ∈ es
  | [], e, he => by cases he
  | (a, u) :: es, e, he => by
    simp only [delA] at he
    split at he
    · exact .tail _ (del_mem e he)
    · rcases List.mem_cons.1 he with rfl | he
      · exact .head _
      · exact .tail _ (del_mem e he)
theorem mpF_upd {ρ : Env} {kd : KD} {es : List (AV × AV)} (h : ∀ e ∈ es, keyB kd e.1 = true) (k : KK kd) (v : AV) : mpF ρ (updA es k.1 v) kd = updM (mpF ρ es kd) k (cv ρ v) := by
  funext j
  obtain ⟨i1, i2⟩ := lk_upd (v := v) k.2 h j.1 j.2
  simp only [mpF, updM]
  by_cases e : j = k
  · subst e; rw [i1 rfl]; simp
  · rw [if_neg e, i2 (fun e' => e (Subtype.ext e'.symm))]
theorem mpF_del {ρ : Env} {kd : KD} {es : List (AV × AV)} (h : ∀ e ∈ es, keyB kd e.1 = true) (k : KK kd) : mpF ρ (delA es k.1) kd = delM (mpF ρ es kd) k := by
  funext j
  obtain ⟨i1, i2⟩ := lk_del k.2 h j.1 j.2
  simp only [mpF, delM]
  by_cases e : j = k
  · subst e; rw [i1 rfl]; simp
  · rw [if_neg e, i2 (fun e' => e (Subtype.ext e'.symm))]
theorem grown_putObj (w : World) (b : Nat) (x : Obj) : w.grownBy (w.putObj b x) (some b) := ⟨rfl, rfl, rfl, by simp [World.putObj], fun k _ hk => World.putObj_heap_other fun e => hk (by rw [e])⟩
theorem zero_run {et : TypeId} {z : Value} (h : (P.info? et).bind (·.zero) = some z) (w : World) : (zeroValue et).run P w = .ok z w := by
  cases hi : P.info? et with
  | none => rw [hi] at h; cases h
  | some i =>
    rw [hi] at h
    simp only [Option.bind_some] at h
    simp [zeroValue, typeInfo, hi, h]
end
section
variable {P : Program} {tab : TT} {o : Oper} {kf : Nat → Option KD}
/-- The law of entries, with the value. -/
theorem MapP.entryV {κ : Type} [DecidableEq κ] {enc : κ → Value} {kt et t : TypeId} {m : κ → Option Value} {st : List (Nat × κ)} {b : Nat} {w : World} (Ke : KeyEnc P kt enc) (ht : P.underlying t = some (.map kt et)) {z : Value} (hz : ∀ w, (zeroValue et).run P w = .ok z w) (h : MapP enc m st w.heap[b]?) (k : κ) :
    ∃ o s, (Instr.mapEntry t (.map (some b)) (enc k)).run P w = .ok (.tuple #[(m k).getD z, .int .i64 ((s : Nat) : Int)]) (w.putObj b o) ∧ MapP enc (match m k with
      | none => updM m k z
      | some _ => m) ((s, k) :: st) (some o) := by
  obtain ⟨ob, v, s, h1, h2⟩ := MapP.entry (w := w) Ke ht hz h k
  refine ⟨ob, s, ?_, h2⟩
  rw [h1]
  congr 2
  obtain ⟨es, clock, hh, g1, _, _, _, g4, _⟩ := h
  rcases MapP.find Ke g1 g4 k w with ⟨f1, f2, f3⟩ | ⟨j, e, f1, f2, f3, f4⟩
  · have : (Instr.mapEntry t (.map (some b)) (enc k)).run P w = .ok (.tuple #[z, .int .i64 ((clock : Nat) : Int)]) (w.putObj b (.map (es.push { key := enc k, val := z, born := clock }) (clock + 1))) := by
      simp only [Instr.mapEntry, Sem.run_bind, run_underlying ht, Result.andThen_ok, MapKept.run_getObj_map hh, Ke.check, f2, hz, Sem.run_pure]
      rw [MapKept.run_setObj_map _ hh]
      rfl
    rw [this] at h1
    injection h1 with h1
    rw [f1]
    simp at h1
    simp [h1.1]
  · have : ∃ W s', (Instr.mapEntry t (.map (some b)) (enc k)).run P w = .ok (.tuple #[e.val, .int .i64 (s' : Int)]) W := by
      refine ⟨w.putObj b (.map (es.modify j (fun e => { e with key := enc k })) clock), e.born, ?_⟩
      simp only [Instr.mapEntry, Sem.run_bind, run_underlying ht, Result.andThen_ok, MapKept.run_getObj_map hh, Ke.check, f1, f2, Option.map_some, Option.getD_some, f3, Instr.keyThatStays, Ke.stays, if_true, Sem.run_pure]
      rw [MapKept.run_setObj_map _ hh]
      rfl
    obtain ⟨W, s', hW⟩ := this
    rw [hW] at h1
    injection h1 with h1
    rw [f4]
    simp at h1
    simp [h1.1]
theorem map_at {w0 w : World} {ρ : Env} {G : GH} (hz : ZS w0 ρ G w) {n : Nat} {kd : KD} {es : List (AV × AV)} {sts : List (Nat × AV)} {nxt : Nat} (hn : G n = some (.mp kd es sts nxt)) : ∃ b, ρ.blk n = some (b, 0) ∧ OH ρ n 0 (.mp kd es sts nxt) w.heap[b]? := by
  obtain ⟨p, hp, _, ho⟩ := hz.at_ hn
  obtain ⟨b, q⟩ := p
  have : q = 0 := ho.1
  subst this
  exact ⟨b, hp, ho⟩
theorem ops_look (hT : TabOk P tab) (hK : ∀ kt kd, kf kt = some kd → ∀ ρ, KeyEnc P kt (enK ρ kd)) {t : TypeId} {x y : Operand} {c : Bool} (hop : o.op = .lookup t x y c) : OpS P o (zLook P tab kf t x y c) where
  lm := fun ts => by unfold zLook hg; (repeat (first | exact LM.pure _ | exact LM.fail | exact LM.read _ | exact LM.write _ _ | exact LM.new _ | assumption | refine LM.bind ?_ fun _ => ?_ | refine LM.opt fun _ => ?_ | refine LM.ite ?_ ?_ | split))
  ok := fun {ts s r s'} h ρ a w w0 hf hs hz => by
    obtain ⟨v, hv, h1⟩ := hO_ok h
    obtain ⟨k, hk, h2⟩ := hO_ok h1
    obtain ⟨i, hi, h3⟩ := hO_ok h2
    obtain ⟨p1, p2⟩ := evO_spec hs hv
    obtain ⟨p3, p4⟩ := evO_spec hs hk
    clear h h1 h2 hv hk
    (try dsimp only at h3)
    cases hd : i.d <;> rw [hd] at h3 <;> first | (cases h3; done) | skip
    rename_i kt et
    obtain ⟨kd, hkd, h4⟩ := hO_ok h3
    obtain ⟨z0, hz0, h5⟩ := hO_ok h4
    obtain ⟨z, hzz, h6⟩ := hO_ok h5
    clear h3 h4 h5
    obtain ⟨n, rfl⟩ : ∃ n, v = .m n := by cases v <;> first | (cases h6; done) | exact ⟨_, rfl⟩
    obtain ⟨o', s1, e1, h7⟩ := hb_ok h6
    obtain ⟨g1, g2, g3⟩ := rdB_gt e1
    clear h6
    split at h7 <;> first | (cases h7; done) | skip
    rename_i kd' es sts nxt
    obtain ⟨b1, h8⟩ := hg_ok h7
    obtain ⟨b2, h9⟩ := hg_ok h8
    clear h7 h8
    obtain rfl := kdEq_eq b1
    obtain ⟨b, hb, ho⟩ := map_at hz g1
    obtain ⟨_, st, m1, m2, m3, m4⟩ := ho
    have hmt := (hT t i hi).mp hd
    obtain ⟨q1, q2⟩ := toA_spec hzz ρ
    have hl := MapP.look (P := P) (hK kt kd hkd ρ) hmt (zero_run hz0) m1 (⟨k, b2⟩ : KK kd) c
    have hrun : (execOp a.eval o).run P w = .ok (.value (if c then .tuple #[((mpF ρ es kd) ⟨k, b2⟩).getD z0, .bool ((mpF ρ es kd) ⟨k, b2⟩).isSome] else ((mpF ρ es kd) ⟨k, b2⟩).getD z0)) w := by
      simp only [cv] at p1
      simp only [hb, Option.getD_some] at p1
      simp only [execOp, hop, p1, p3]
      rw [Sem.run_bind]
      have e : cv ρ k = enK ρ kd ⟨k, b2⟩ := rfl
      rw [e, hl]
      rfl
    cases hu : lkA es k with
    | some u =>
      rw [hu] at h9
      obtain ⟨rfl, rfl⟩ := hp_ok h9
      have hm : mpF ρ es kd ⟨k, b2⟩ = some (cv ρ u) := by simp [mpF, hu]
      rw [hm] at hrun
      have hud : Dm ρ u := by
        have : ∃ a, (a, u) ∈ es := by
          clear m1 m3 hm hrun g1 e1 hl h9
          induction es with
          | nil => cases hu
          | cons e es ih =>
            obtain ⟨a, u'⟩ := e
            simp only [lkA] at hu
            split at hu
            · injection hu with hu; subst hu; exact ⟨a, .head _⟩
            · obtain ⟨b, hb⟩ := ih (fun e he => m2 e (.tail _ he)) hu
              exact ⟨b, .tail _ hb⟩
        obtain ⟨a, ha⟩ := this
        exact (m2 _ ha).2
      refine Ends.val hz g2 ?_ (hrun.trans ?_)
      · cases c <;> simp [Dm, DmL, hud]
      · cases c <;> simp [cv, cvL]
    | none =>
      rw [hu] at h9
      obtain ⟨rfl, rfl⟩ := hp_ok h9
      have hm : mpF ρ es kd ⟨k, b2⟩ = none := by simp [mpF, hu]
      rw [hm] at hrun
      refine Ends.val hz g2 ?_ (hrun.trans ?_)
      · cases c <;> simp [Dm, DmL, q2]
      · cases c <;> simp [cv, cvL, q1]
theorem ops_upd (hT : TabOk P tab) (hK : ∀ kt kd, kf kt = some kd → ∀ ρ, KeyEnc P kt (enK ρ kd)) {t : TypeId} {x y z : Operand} (hop : o.op = .mapUpdate t x y z ∨ o.op = .insert t x y z) : OpS P o (zUpd tab kf t x y z) where
  lm := fun ts => by unfold zUpd hg; (repeat (first | exact LM.pure _ | exact LM.fail | exact LM.read _ | exact LM.write _ _ | exact LM.new _ | assumption | refine LM.bind ?_ fun _ => ?_ | refine LM.opt fun _ => ?_ | refine LM.ite ?_ ?_ | split))
  ok := fun {ts s r s'} h ρ a w w0 hf hs hz => by
    obtain ⟨v, hv, h1⟩ := hO_ok h
    obtain ⟨k, hk, h2⟩ := hO_ok h1
    obtain ⟨u, hu, h3⟩ := hO_ok h2
    obtain ⟨i, hi, h4⟩ := hO_ok h3
    obtain ⟨p1, p2⟩ := evO_spec hs hv
    obtain ⟨p3, p4⟩ := evO_spec hs hk
    obtain ⟨p5, p6⟩ := evO_spec hs hu
    clear h h1 h2 h3 hv hk hu
    (try dsimp only at h4)
    cases hd : i.d <;> rw [hd] at h4 <;> first | (cases h4; done) | skip
    rename_i kt et
    obtain ⟨kd, hkd, h5⟩ := hO_ok h4
    clear h4
    obtain ⟨n, rfl⟩ : ∃ n, v = .m n := by cases v <;> first | (cases h5; done) | exact ⟨_, rfl⟩
    obtain ⟨o', s1, e1, h7⟩ := hb_ok h5
    obtain ⟨g1, g2, g3⟩ := rdB_gt e1
    clear h5
    split at h7 <;> first | (cases h7; done) | skip
    rename_i kd' es sts nxt
    obtain ⟨b1, h8⟩ := hg_ok h7
    obtain ⟨b2, h9⟩ := hg_ok h8
    clear h7 h8
    obtain rfl := kdEq_eq b1
    obtain ⟨u1, s2, e2, hA⟩ := hb_ok h9
    obtain ⟨rfl, rfl⟩ := hp_ok hA
    obtain ⟨_, g4, g5⟩ := wrB_gt e2
    obtain ⟨b, hb, ho⟩ := map_at hz g1
    obtain ⟨_, st, m1, m2, m3, m4⟩ := ho
    have hmt := (hT t i hi).mp hd
    obtain ⟨ob, q1, q2⟩ := MapP.upd (P := P) (hK kt kd hkd ρ) hmt m1 (⟨k, b2⟩ : KK kd) (cv ρ u)
    have hrun : (execOp a.eval o).run P w = .ok .skip (w.putObj b ob) := by
      simp only [cv] at p1
      simp only [hb, Option.getD_some] at p1
      have e : cv ρ k = enK ρ kd ⟨k, b2⟩ := rfl
      rcases hop with hop | hop <;> (simp only [execOp, hop, p1, p3, p5]; rw [Sem.run_bind, e, q1]; rfl)
    rw [hrun]
    refine ⟨ρ, Env.le.refl ρ, fun _ _ => rfl, by simp [cv, cvL, undef], by simp [Dm, DmL], ?_⟩
    rw [g4, g2]
    refine hz.setM g1 hb (grown_putObj w b ob) ⟨rfl, st, ?_, upd_keys b2 m2 p6, m3, m4⟩
    rw [World.putObj_heap_same (hz.lt g1 hb).1, mpF_upd (fun e he => (m2 e he).1) ⟨k, b2⟩ u]
    exact q2
/-- A stamp is told. -/
def Env.stamp (ρ : Env) (n i s : Nat) : Env := ⟨ρ.blk, ρ.cap, fun m j => if m = n ∧ j = i then some s else ρ.stp m j⟩
theorem Env.stamp_le {ρ : Env} {n i s : Nat} (h : ρ.stp n i = none) : ρ.le (ρ.stamp n i s) := ⟨fun _ _ h => ⟨h, rfl⟩, fun m j s' _ hs => by
  have : ¬ (m = n ∧ j = i) := fun ⟨e1, e2⟩ => by subst e1; subst e2; rw [h] at hs; cases hs
  simp only [Env.stamp, if_neg this]; exact hs⟩
theorem ops_ent (hT : TabOk P tab) (hK : ∀ kt kd, kf kt = some kd → ∀ ρ, KeyEnc P kt (enK ρ kd)) {t : TypeId} {x y : Operand} (hop : o.op = .mapEntry t x y) : OpS P o (zEnt P tab kf t x y) where
  lm := fun ts => by unfold zEnt hg; (repeat (first | exact LM.pure _ | exact LM.fail | exact LM.read _ | exact LM.write _ _ | exact LM.new _ | assumption | refine LM.bind ?_ fun _ => ?_ | refine LM.opt fun _ => ?_ | refine LM.ite ?_ ?_ | split))
  ok := fun {ts s r s'} h ρ a w w0 hf hs hz => by
    obtain ⟨v, hv, h1⟩ := hO_ok h
    obtain ⟨k, hk, h2⟩ := hO_ok h1
    obtain ⟨i, hi, h3⟩ := hO_ok h2
    obtain ⟨p1, p2⟩ := evO_spec hs hv
    obtain ⟨p3, p4⟩ := evO_spec hs hk
    clear h h1 h2 hv hk
    (try dsimp only at h3)
    cases hd : i.d <;> rw [hd] at h3 <;> first | (cases h3; done) | skip
    rename_i kt et
    obtain ⟨kd, hkd, h4⟩ := hO_ok h3
    obtain ⟨z0, hz0, h5⟩ := hO_ok h4
    obtain ⟨z, hzz, h6⟩ := hO_ok h5
    clear h3 h4 h5
    obtain ⟨n, rfl⟩ : ∃ n, v = .m n := by cases v <;> first | (cases h6; done) | exact ⟨_, rfl⟩
    obtain ⟨o', s1, e1, h7⟩ := hb_ok h6
    obtain ⟨g1, g2, g3⟩ := rdB_gt e1
    clear h6
    split at h7 <;> first | (cases h7; done) | skip
    rename_i kd' es sts nxt
    obtain ⟨b1, h8⟩ := hg_ok h7
    obtain ⟨b2, h9⟩ := hg_ok h8
    clear h7 h8
    obtain rfl := kdEq_eq b1
    obtain ⟨b, hb, ho⟩ := map_at hz g1
    obtain ⟨_, st, m1, m2, m3, m4⟩ := ho
    have hmt := (hT t i hi).mp hd
    obtain ⟨q1, q2⟩ := toA_spec hzz ρ
    obtain ⟨ob, sn, r1, r2⟩ := MapP.entryV (P := P) (hK kt kd hkd ρ) hmt (zero_run hz0) m1 (⟨k, b2⟩ : KK kd)
    have hrun : (execOp a.eval o).run P w = .ok (.value (.tuple #[((mpF ρ es kd) ⟨k, b2⟩).getD z0, .int .i64 ((sn : Nat) : Int)])) (w.putObj b ob) := by
      simp only [cv] at p1
      simp only [hb, Option.getD_some] at p1
      have e : cv ρ k = enK ρ kd ⟨k, b2⟩ := rfl
      simp only [execOp, hop, p1, p3]
      rw [Sem.run_bind, e, r1]; rfl
    have hst : ρ.stp n nxt = none := by
      cases hc : ρ.stp n nxt with
      | none => rfl
      | some s' => have := m4 nxt s' hc; omega
    have hle := Env.stamp_le (s := sn) hst
    have fin : ∀ (es' : List (AV × AV)) (u : AV), (mpF ρ es kd ⟨k, b2⟩).getD z0 = cv ρ u → Dm ρ u → (∀ e ∈ es', keyB kd e.1 = true ∧ Dm ρ e.2) → (match mpF ρ es kd ⟨k, b2⟩ with
      | none => updM (mpF ρ es kd) ⟨k, b2⟩ z0
      | some _ => mpF ρ es kd) = mpF ρ es' kd → s'.gt = setG s.gt n (some (.mp kd es' ((nxt, k) :: sts) (nxt + 1))) → r = .t [u, .st n nxt] → Ends P w0 ρ s r s' ((execOp a.eval o).run P w) := by
      intro es' u c1 c2 c3 c4 c5 c6
      subst c6
      rw [hrun]
      refine ⟨ρ.stamp n nxt sn, hle, fun _ _ => rfl, ?_, ?_, ?_⟩
      · simp [cv, cvL, Env.stamp, c1, (cv_mono hle u c2).1, ← (cv_mono hle u c2).1]
      · have hbs : ((ρ.stamp n nxt sn).blk n).isSome = true := by show (ρ.blk n).isSome = true; rw [hb]; rfl
        simp only [Dm, DmL]
        exact ⟨(cv_mono hle u c2).2, ⟨hbs, by simp [Env.stamp]⟩, trivial⟩
      · rw [c5]
        refine hz.upd g1 hb (grown_putObj w b ob) hle (fun m j hm => if_neg fun e => hm e.1) ?_
        have hoh : OH ρ n 0 (.mp kd es' [] nxt) (w.putObj b ob).heap[b]? := ⟨rfl, (sn, ⟨k, b2⟩) :: st, by rw [World.putObj_heap_same (hz.lt g1 hb).1, ← c4]; exact r2, c3, by simp, m4⟩
        obtain ⟨_, st', d1, d2, d3, d4⟩ := hoh
        refine ⟨rfl, (sn, ⟨k, b2⟩) :: st, ?_, fun e he => ⟨(c3 e he).1, (cv_mono hle _ (c3 e he).2).2⟩, fun p hp => ?_, fun j s' hj => ?_⟩
        · have e1 : mpF (ρ.stamp n nxt sn) es' kd = mpF ρ es' kd := by
            funext kk
            unfold mpF
            cases hc : lkA es' kk.1 with
            | none => rfl
            | some u' =>
              have : ∃ a, (a, u') ∈ es' := by
                clear c1 c3 c4 c5 d1 d2 hrun
                induction es' with
                | nil => cases hc
                | cons e es ih =>
                  obtain ⟨a, u''⟩ := e
                  simp only [lkA] at hc
                  split at hc
                  · injection hc with hc; subst hc; exact ⟨a, .head _⟩
                  · obtain ⟨b, hb⟩ := ih hc
                    exact ⟨b, .tail _ hb⟩
              obtain ⟨a', ha'⟩ := this
              simp only [Option.map_some]
              rw [(cv_mono hle _ (c3 _ ha').2).1]
          rw [enK_eq (ρ.stamp n nxt sn) ρ, e1, World.putObj_heap_same (hz.lt g1 hb).1, ← c4]
          exact r2
        · rcases List.mem_cons.1 hp with rfl | hp
          · exact ⟨by simp, sn, ⟨k, b2⟩, rfl, by simp [Env.stamp], .head _⟩
          · obtain ⟨x1, s', k', x2, x3, x4⟩ := m3 p hp
            exact ⟨by omega, s', k', x2, hle.stp n p.1 s' (by rw [hb]; rfl) x3, .tail _ x4⟩
        · by_cases hc : j = nxt
          · omega
          · have hj' : ρ.stp n j = some s' := by simpa [Env.stamp, hc] using hj
            have := m4 j s' hj'; omega
    cases hu : lkA es k with
    | some u =>
      rw [hu] at h9
      obtain ⟨u1, s2, e2, hA⟩ := hb_ok h9
      obtain ⟨rfl, rfl⟩ := hp_ok hA
      obtain ⟨_, g4, g5⟩ := wrB_gt e2
      have hm : mpF ρ es kd ⟨k, b2⟩ = some (cv ρ u) := by simp [mpF, hu]
      have hud : Dm ρ u := by
        have : ∃ a, (a, u) ∈ es := by
          clear m1 m3 hm hrun g1 e1 r1 r2 fin h9 m2 hA e2 g4 g5
          induction es with
          | nil => cases hu
          | cons e es ih =>
            obtain ⟨a, u'⟩ := e
            simp only [lkA] at hu
            split at hu
            · injection hu with hu; subst hu; exact ⟨a, .head _⟩
            · obtain ⟨b, hb⟩ := ih hu
              exact ⟨b, .tail _ hb⟩
        obtain ⟨a, ha⟩ := this
        exact (m2 _ ha).2
      exact fin es u (by rw [hm]; rfl) hud m2 (by rw [hm]) (by rw [g4, g2]) rfl
    | none =>
      rw [hu] at h9
      obtain ⟨u1, s2, e2, hA⟩ := hb_ok h9
      obtain ⟨rfl, rfl⟩ := hp_ok hA
      obtain ⟨_, g4, g5⟩ := wrB_gt e2
      have hm : mpF ρ es kd ⟨k, b2⟩ = none := by simp [mpF, hu]
      exact fin (updA es k z) z (by rw [hm]; exact q1.symm) q2 (upd_keys b2 m2 q2) (by rw [hm, ← q1]; exact (mpF_upd (fun e he => (m2 e he).1) ⟨k, b2⟩ z).symm) (by rw [g4, g2]) rfl
theorem stA_mem : ∀ {sts : List (Nat × AV)} {i : Nat} {k : AV}, stA sts i = some k → (i, k) ∈ sts
  | [], i, k, h => by cases h
  | (j, l) :: sts, i, k, h => by
    simp only [stA] at h
    split at h
    · rename_i hb
      injection h with h; subst h
      rw [Nat.eq_of_beq_eq_true hb]; exact .head _
    · exact .tail _ (stA_mem h)
theorem ops_est (hT : TabOk P tab) (hK : ∀ kt kd, kf kt = some kd → ∀ ρ, KeyEnc P kt (enK ρ kd)) {t : TypeId} {x y z : Operand} (hop : o.op = .entryStore t x y z) : OpS P o (zEst tab kf t x y z) where
  lm := fun ts => by unfold zEst hg; (repeat (first | exact LM.pure _ | exact LM.fail | exact LM.read _ | exact LM.write _ _ | exact LM.new _ | assumption | refine LM.bind ?_ fun _ => ?_ | refine LM.opt fun _ => ?_ | refine LM.ite ?_ ?_ | split))
  ok := fun {ts s r s'} h ρ a w w0 hf hs hz => by
    obtain ⟨v, hv, h1⟩ := hO_ok h
    obtain ⟨q, hq, h2⟩ := hO_ok h1
    obtain ⟨u, hu, h3⟩ := hO_ok h2
    obtain ⟨i, hi, h4⟩ := hO_ok h3
    obtain ⟨p1, p2⟩ := evO_spec hs hv
    obtain ⟨p3, p4⟩ := evO_spec hs hq
    obtain ⟨p5, p6⟩ := evO_spec hs hu
    clear h h1 h2 h3 hv hq hu
    (try dsimp only at h4)
    cases hd : i.d <;> rw [hd] at h4 <;> first | (cases h4; done) | skip
    rename_i kt et
    obtain ⟨kd, hkd, h5⟩ := hO_ok h4
    clear h4
    obtain ⟨n, rfl⟩ : ∃ n, v = .m n := by cases v <;> first | (cases h5; done) | exact ⟨_, rfl⟩
    obtain ⟨n', j, rfl⟩ : ∃ n' j, q = .st n' j := by cases q <;> first | (cases h5; done) | exact ⟨_, _, rfl⟩
    obtain ⟨b0, h6⟩ := hg_ok h5
    obtain rfl := Nat.eq_of_beq_eq_true b0
    obtain ⟨o', s1, e1, h7⟩ := hb_ok h6
    obtain ⟨g1, g2, g3⟩ := rdB_gt e1
    clear h5 h6
    split at h7 <;> first | (cases h7; done) | skip
    rename_i kd' es sts nxt
    obtain ⟨b1, h8⟩ := hg_ok h7
    obtain ⟨k, hk, h9⟩ := hO_ok h8
    obtain ⟨b2, hA⟩ := hg_ok h9
    clear h7 h8 h9
    obtain rfl := kdEq_eq b1
    obtain ⟨u1, s2, e2, hB⟩ := hb_ok hA
    obtain ⟨rfl, rfl⟩ := hp_ok hB
    obtain ⟨_, g4, g5⟩ := wrB_gt e2
    obtain ⟨b, hb, ho⟩ := map_at hz g1
    obtain ⟨_, st, m1, m2, m3, m4⟩ := ho
    obtain ⟨x1, sn, k', x2, x3, x4⟩ := m3 _ (stA_mem hk)
    obtain rfl : k' = ⟨k, b2⟩ := Subtype.ext x2
    obtain ⟨ob, q1, q2⟩ := MapP.estore (P := P) (t := t) (hK kt kd hkd ρ) m1 x4 (cv ρ u)
    have hrun : (execOp a.eval o).run P w = .ok .skip (w.putObj b ob) := by
      simp only [cv] at p1 p3
      simp only [hb, Option.getD_some] at p1
      simp only [x3, Option.getD_some] at p3
      simp only [execOp, hop, p1, p3, p5]
      rw [Sem.run_bind, q1]; rfl
    rw [hrun]
    refine ⟨ρ, Env.le.refl ρ, fun _ _ => rfl, by simp [cv, cvL, undef], by simp [Dm, DmL], ?_⟩
    rw [g4, g2]
    refine hz.setM g1 hb (grown_putObj w b ob) ⟨rfl, st, ?_, upd_keys b2 m2 p6, m3, m4⟩
    rw [World.putObj_heap_same (hz.lt g1 hb).1, mpF_upd (fun e he => (m2 e he).1) ⟨k, b2⟩ u]
    exact q2
theorem ops_del (hT : TabOk P tab) (hK : ∀ kt kd, kf kt = some kd → ∀ ρ, KeyEnc P kt (enK ρ kd)) {t u : TypeId} {x y : Operand} (hop : o.op = .call { callee := .builtin .delete, args := #[x, y], argTypes := #[t, u] }) : OpS P o (zDel tab kf t x y) where
  lm := fun ts => by unfold zDel hg; (repeat (first | exact LM.pure _ | exact LM.fail | exact LM.read _ | exact LM.write _ _ | exact LM.new _ | assumption | refine LM.bind ?_ fun _ => ?_ | refine LM.opt fun _ => ?_ | refine LM.ite ?_ ?_ | split))
  ok := fun {ts s r s'} h ρ a w w0 hf hs hz => by
    obtain ⟨v, hv, h1⟩ := hO_ok h
    obtain ⟨k, hk, h2⟩ := hO_ok h1
    obtain ⟨i, hi, h4⟩ := hO_ok h2
    obtain ⟨p1, p2⟩ := evO_spec hs hv
    obtain ⟨p3, p4⟩ := evO_spec hs hk
    clear h h1 h2 hv hk
    (try dsimp only at h4)
    cases hd : i.d <;> rw [hd] at h4 <;> first | (cases h4; done) | skip
    rename_i kt et
    obtain ⟨kd, hkd, h5⟩ := hO_ok h4
    clear h4
    obtain ⟨n, rfl⟩ : ∃ n, v = .m n := by cases v <;> first | (cases h5; done) | exact ⟨_, rfl⟩
    obtain ⟨o', s1, e1, h7⟩ := hb_ok h5
    obtain ⟨g1, g2, g3⟩ := rdB_gt e1
    clear h5
    split at h7 <;> first | (cases h7; done) | skip
    rename_i kd' es sts nxt
    obtain ⟨b1, h8⟩ := hg_ok h7
    obtain ⟨b2, h9⟩ := hg_ok h8
    clear h7 h8
    obtain rfl := kdEq_eq b1
    obtain ⟨u1, s2, e2, hA⟩ := hb_ok h9
    obtain ⟨rfl, rfl⟩ := hp_ok hA
    obtain ⟨_, g4, g5⟩ := wrB_gt e2
    obtain ⟨b, hb, ho⟩ := map_at hz g1
    obtain ⟨_, st, m1, m2, m3, m4⟩ := ho
    have hmt := (hT t i hi).mp hd
    obtain ⟨ob, q1, q2⟩ := MapP.del (P := P) (u := u) (ty := o.type) (hK kt kd hkd ρ) hmt m1 (⟨k, b2⟩ : KK kd)
    have hrun : (execOp a.eval o).run P w = .ok (.value (.tuple #[])) (w.putObj b ob) := by
      simp only [cv] at p1
      simp only [hb, Option.getD_some] at p1
      have e : cv ρ k = enK ρ kd ⟨k, b2⟩ := rfl
      rw [exec_builtin hop, BigFrame.builtin_delete]
      have hx : (#[x, y] : Array Operand).map a.eval = #[.map (some b), enK ρ kd ⟨k, b2⟩] := by simp [p1, p3, e]
      rw [hx, Sem.run_bind, q1]; rfl
    rw [hrun]
    refine ⟨ρ, Env.le.refl ρ, fun _ _ => rfl, by simp [cv, cvL], by simp [Dm, DmL], ?_⟩
    rw [g4, g2]
    refine hz.setM g1 hb (grown_putObj w b ob) ⟨rfl, [], ?_, fun e he => m2 e (del_mem e he), by simp, m4⟩
    rw [World.putObj_heap_same (hz.lt g1 hb).1, mpF_del (fun e he => (m2 e he).1) ⟨k, b2⟩]
    exact q2
end
/-! ## append of so many, all nought -/
noncomputable def zAppM (tab : TT) (t u : TypeId) (x y : Operand) (ts : TL) : HM AV := hO (evO ts x) fun v => hO (evO ts y) fun yv => hO (lookI tab t) fun i => hO (lookI tab u) fun j => match i.d with
  | .sl e => match j.d with
    | .int kk => match kk with
      | .i64 => match v with
        | .ln => match yv with
          | .i ky p => match ky with
            | .i64 => match p with
              | .ofNat m => hO (lookI tab e) fun k => hO (toAL k.zero) fun z => hg (Nat.blt 0 m) (hg (Nat.ble m 1000000) (hg (Nat.ble k.bytes 100000) (hg (Nat.beq k.zero.length k.size) (hb (nwB (.cs e (repA m z) (some k.size))) fun n => hp (.l n 0 m none 0)))))
              | .negSucc _ => hn
            | _ => hn
          | _ => hn
        | _ => hn
      | _ => hn
    | _ => hn
  | _ => hn
section
variable {P : Program} {tab : TT} {o : Oper}
theorem zero_rep {z : Array Value} {l : List Value} (hz : z.toList = l) (n : Nat) : (Builtin.zeroCells z n).toList = (List.replicate n l).flatten := by
  have h : Builtin.zeroCells z n = madeCells z (n * z.size) := rfl
  have h2 : z.size = l.length := by rw [← hz]; simp
  rw [h, h2]
  exact made_rep hz n
theorem ops_appM (hT : TabOk P tab) {t u : TypeId} {x y : Operand} (hop : o.op = .call { callee := .builtin .append, args := #[x, y], argTypes := #[t, u] }) : OpS P o (zAppM tab t u x y) where
  lm := fun ts => by
    unfold zAppM hg
    (repeat (first | exact LM.fail | exact LM.pure _ | refine LM.opt fun _ => ?_ | refine LM.ite ?_ ?_ | refine LM.bind (LM.new _) fun _ => ?_ | split))
  ok := fun {ts s r s'} h ρ a w w0 hf hs hz => by
    obtain ⟨v, hv, h1⟩ := hO_ok h
    obtain ⟨yv, hyv, h2⟩ := hO_ok h1
    obtain ⟨i, hi, h3⟩ := hO_ok h2
    obtain ⟨j, hj, h4⟩ := hO_ok h3
    have p1 := (evO_spec hs hv).1
    have p3 := (evO_spec hs hyv).1
    cases hl : i.d <;> rw [hl] at h4 <;> first | (cases h4; done) | skip
    rename_i e
    cases hl' : j.d <;> rw [hl'] at h4 <;> first | (cases h4; done) | skip
    rename_i kk
    cases kk <;> first | (cases h4; done) | skip
    cases v <;> first | (cases h4; done) | skip
    cases yv <;> first | (cases h4; done) | skip
    rename_i ky p
    cases ky <;> first | (cases h4; done) | skip
    cases p <;> first | (cases h4; done) | skip
    rename_i m
    obtain ⟨k, hk, h5⟩ := hO_ok h4
    obtain ⟨z, hzz, h6⟩ := hO_ok h5
    obtain ⟨b1, h7⟩ := hg_ok h6
    obtain ⟨b2, h8⟩ := hg_ok h7
    obtain ⟨b3, h9⟩ := hg_ok h8
    obtain ⟨b4, hA⟩ := hg_ok h9
    obtain ⟨n, s1, hm, hB⟩ := hb_ok hA
    obtain ⟨rfl, rfl⟩ := hp_ok hB
    obtain ⟨rfl, e2, e3⟩ := nwB_gt hm
    clear h h1 h2 h3 h4 h5 h6 h7 h8 h9 hA hB
    replace b1 := blt_iff.1 b1
    replace b2 := Nat.le_of_ble_eq_true b2
    replace b3 := Nat.le_of_ble_eq_true b3
    replace b4 := Nat.eq_of_beq_eq_true b4
    obtain ⟨z1, z2⟩ := toAL_spec ρ hzz
    have hns := hf s.nx (Nat.le_refl _) (by omega)
    obtain ⟨q, zz, hq, j1, j2, j3, j4⟩ := (hT e k hk).info
    have hn : m ≠ 0 := by omega
    have hbm : m * q.bytes ≤ 1000000 * 100000 := Nat.mul_le_mul b2 (by omega)
    have hw' : IntKind.i64.wrap (m : Int) = m := by rw [IntKind.wrap_i64]; omega
    have h63' : ¬ (9223372036854775807 < (m : Int)) := by omega
    have h48' : ¬ (281474976710656 < Builtin.nextslicecap m 0 * q.bytes) := by rw [nextslicecap_zero b1]; omega
    have h48i : ¬ (281474976710656 < (m : Int) * (q.bytes : Int)) := by rw [← Int.natCast_mul]; omega
    have hneg : ¬ ((m : Int) < 0) := by omega
    have hzs : zz.cells.size = k.size := by rw [← b4, ← j4]; simp
    have hnews : (if m * q.size = 0 then #[] else Builtin.zeroCells zz.cells m) = (cvL ρ (repA m z)).toArray := by
      have hc : (Builtin.zeroCells zz.cells m) = (cvL ρ (repA m z)).toArray := by
        apply Array.ext'
        rw [zero_rep j4 m, (cvL_rep ρ z m).1, z1]
      split
      · rename_i h0
        rw [← hc]
        have : (Builtin.zeroCells zz.cells m).size = 0 := by rw [size_zeroCells, hzs, ← j1]; exact h0
        exact (Array.eq_empty_of_size_eq_zero this).symm
      · exact hc
    obtain ⟨gc, hgc⟩ : ∃ gc, gc = grownCap w m 0 e := ⟨_, rfl⟩
    have hge := grownCap_ge w m 0 e
    rw [← hgc] at hge
    have hrun : (Builtin.append_ #[t, u] o.type #[.slice none 0 0, .int .i64 (m : Int)]).run P w = .ok (.slice (some ⟨w.heap.size, 0, none⟩) m gc) (w.drew.alloc (.cells ((cvL ρ (repA m z)).toArray ++ Builtin.zeroCells zz.cells (gc - m)) e)) := by
      rw [← hnews, hgc]
      by_cases hs0 : q.size = 0
      · simp [Builtin.append_, run_underlying ((hT t i hi).sl hl), run_underlying ((hT u j hj).int hl'), sizeOf, typeInfo, zeroValue, hq, j3, asInt, asIntOf, hw', hneg, h48i, hn, h63', h48', Question.forced, run_firstCells_none, newRow, grownCap, hs0]
      · have hms : ¬ m * q.size = 0 := fun e => by rcases Nat.mul_eq_zero.1 e with h | h <;> omega
        simp only [if_neg hms]
        simp [Builtin.append_, run_underlying ((hT t i hi).sl hl), run_underlying ((hT u j hj).int hl'), sizeOf, typeInfo, zeroValue, hq, j3, asInt, asIntOf, hw', hneg, h48i, hn, h63', h48', Question.forced, run_firstCells_none, newRow, grownCap, hms]
    have hB := (Below.refl w.heap.size w).drew.alloc (Nat.le_refl _) (.cells ((cvL ρ (repA m z)).toArray ++ Builtin.zeroCells zz.cells (gc - m)) e)
    refine Ends.new (c := gc) (b := w.heap.size) (q := 0) (f := fun n => .p n 0) hm hz hns hB (Nat.le_refl _) ?_ (by simp [Dm, Env.lay]) ?_
    · obtain ⟨c1, c2⟩ := cvL_mono (Env.lay_le (p := (w.heap.size, 0)) (c := gc) hns) (repA m z) ((cvL_rep ρ z m).2 z2)
      refine ⟨[], (Builtin.zeroCells zz.cells (gc - m)).toList, rfl, ?_, c2, ?_⟩
      · have hh := heap_alloc_new w.drew (.cells ((cvL ρ (repA m z)).toArray ++ Builtin.zeroCells zz.cells (gc - m)) e)
        have hsz : w.drew.heap.size = w.heap.size := rfl
        rw [hsz] at hh
        rw [hh, c1]
        congr 2
        apply Array.ext'
        simp
      · show (ρ.lay s.nx (w.heap.size, 0) gc).cap s.nx * k.size = _
        rw [(ρ.lay_same _ _ _).2]
        have h1 : (repA m z).length = m * k.size := by
          have h2 := (cvL_rep ρ z m).1
          have h3 := congrArg List.length h2
          rw [cvL_len, z1] at h3
          rw [h3, List.length_flatten]
          simp [b4]
        rw [h1, Array.length_toList, size_zeroCells, hzs, ← Nat.add_mul]
        congr 1
        omega
    · rw [exec_builtin hop, BigFrame.builtin_append]
      simp only [cv] at p1 p3
      simp only [List.map_toArray, List.map_cons, List.map_nil, p1, p3, Sem.run_bind]
      have : (Value.int IntKind.i64 (Int.ofNat m)) = .int .i64 (m : Int) := rfl
      rw [this, hrun]
      simp [Result.andThen_ok, cv, Env.at_, Env.lay]
end
/-! ## a byte of a string -/
noncomputable def isStr (P : Program) (t : Nat) : Bool := match P.underlying t with
  | some d => match d with
    | .string => true
    | _ => false
  | none => false
theorem isStr_spec {P : Program} {t : Nat} (h : isStr P t = true) : P.underlying t = some .string := by
  unfold isStr at h
  cases hd : P.underlying t with
  | none => rw [hd] at h; cases h
  | some d => rw [hd] at h; cases d <;> first | (cases h; done) | rfl
noncomputable def zIxS (P : Program) (t : TypeId) (x y : Operand) (ts : TL) : HM AV := hO (evO ts x) fun v => hO (evO ts y) fun u => match v with
  | .s l => hg (isStr P t) (hO (zix u l.length) fun a => hO (nthL l a) fun b => hp (.i .u8 (Int.ofNat b.toNat)))
  | _ => hn
theorem ops_ixS {P : Program} {o : Oper} {t : TypeId} {x y : Operand} (hop : o.op = .index t x y) : OpS P o (zIxS P t x y) where
  lm := fun ts => by
    unfold zIxS hg
    (repeat (first | exact LM.fail | exact LM.pure _ | refine LM.opt fun _ => ?_ | refine LM.ite ?_ ?_ | split))
  ok := fun {ts s r s'} h ρ a w w0 hf hs hz => by
    obtain ⟨v, hv, h1⟩ := hO_ok h
    obtain ⟨u, hu, h2⟩ := hO_ok h1
    have p1 := (evO_spec hs hv).1
    have p3 := (evO_spec hs hu).1
    cases v <;> first | (cases h2; done) | skip
    rename_i l
    obtain ⟨b1, h3⟩ := hg_ok h2
    obtain ⟨j, hj, h4⟩ := hO_ok h3
    obtain ⟨b, hb, h5⟩ := hO_ok h4
    obtain ⟨rfl, rfl⟩ := hp_ok h5
    obtain ⟨⟨k, rfl⟩, hlt⟩ := zix_spec hj
    refine Ends.val hz rfl (by simp [Dm]) ?_
    have ht := isStr_spec b1
    have hsz : (⟨l.toArray⟩ : ByteArray).size = l.length := by simp [ByteArray.size]
    have hbd : (0 : Int) ≤ j ∧ (j : Int) < (⟨l.toArray⟩ : ByteArray).size := by rw [hsz]; omega
    have := run_index_string w t (⟨l.toArray⟩ : ByteArray) k j ht
    rw [dif_pos hbd] at this
    have e : (⟨l.toArray⟩ : ByteArray)[(j : Int).toNat]'(by have := hbd.2; omega) = b := by
      rw [nthL_eq, List.getElem?_eq_getElem hlt] at hb
      exact (Option.some.inj hb)
    rw [e] at this
    simp only [cv] at p1 p3
    simp [execOp, hop, p1, p3, this, cv]
/-! ## Quick arms: the same runs with fewer steps of the kernel -/
abbrev RT := Rz TL
noncomputable def TL.lkK (ts : TL) (u : Nat) (f : AV → RT) : RT := TL.rec (motive := fun _ => RT) .no (fun t v _ ih => Bool.rec (motive := fun _ => RT) ih (f v) (Nat.beq t u)) ts
theorem TL.lkK_eq (u : Nat) (f : AV → RT) : ∀ ts : TL, ts.lkK u f = Option.rec (motive := fun _ => RT) .no f (ts.look u)
  | .nil => rfl
  | .cons t v r => by
    show (Bool.rec (motive := fun _ => RT) (r.lkK u f) (f v) (Nat.beq t u) : RT) = Option.rec (motive := fun _ => RT) .no f (Bool.rec (motive := fun _ => Option AV) (r.look u) (some v) (Nat.beq t u))
    cases Nat.beq t u with
    | false => exact TL.lkK_eq u f r
    | true => rfl
noncomputable def opK (x : Operand) (ts : TL) (f : AV → RT) : RT := Operand.rec (motive := fun _ => TL → (AV → RT) → RT) (fun t ts f => ts.lkK t f) (fun c _ f => Option.rec (motive := fun _ => RT) .no f (toA c)) (fun _ _ _ => .no) (fun g _ f => f (.f g [] [])) x ts f
theorem opK_eq (x : Operand) (ts : TL) (f : AV → RT) : opK x ts f = Option.rec (motive := fun _ => RT) .no f (evO ts x) := by
  cases x with
  | tmp t => exact TL.lkK_eq t f ts
  | _ => rfl
/-- A run handed on. -/
noncomputable def rzK {α : Type} (k : α → Hp → RT) (r : Rz α) : RT := Rz.rec (motive := fun _ => RT) .no k r
theorem hb_rzK {α : Type} (m : HM α) (f : α → HM TL) (s : Hp) : hb m f s = rzK f (m s) := rfl
theorem rzK_hb {α β : Type} (m : HM α) (f : α → HM β) (k : β → Hp → RT) (s : Hp) : rzK k (hb m f s) = rzK (fun a s' => rzK k (f a s')) (m s) := by
  show rzK k (Rz.rec (motive := fun _ => Rz β) .no f (m s)) = _
  cases m s <;> rfl
theorem rzK_hO {α β : Type} (o : Option α) (f : α → HM β) (k : β → Hp → RT) (s : Hp) : rzK k (hO o f s) = Option.rec (motive := fun _ => RT) .no (fun a => rzK k (f a s)) o := by
  cases o <;> rfl
theorem rzK_op {β : Type} (x : Operand) (ts : TL) (f : AV → HM β) (k : β → Hp → RT) (s : Hp) : rzK k (hO (evO ts x) f s) = opK x ts (fun v => rzK k (f v s)) := by
  rw [rzK_hO, opK_eq]
theorem rzK_hg {β : Type} (b : Bool) (m : HM β) (k : β → Hp → RT) (s : Hp) : rzK k (hg b m s) = Bool.rec (motive := fun _ => RT) .no (rzK k (m s)) b := by
  cases b <;> rfl
/-! ### what a value is -/
noncomputable def avP (v : AV) : (Nat → Nat → RT) → RT := AV.rec (motive_1 := fun _ => (Nat → Nat → RT) → RT) (motive_2 := fun _ => Unit) (fun _ _ => .no) (fun _ _ _ => .no) (fun _ _ => .no) (fun n q f => f n q) (fun _ => .no) (fun _ _ _ _ _ _ => .no) (fun _ => .no) (fun _ _ => .no) (fun _ => .no) (fun _ _ _ _ _ _ => .no) (fun _ _ => .no) (fun _ => .no) (fun _ => .no) (fun _ _ _ _ => .no) (fun _ _ _ => .no) (fun _ _ _ => .no) (fun _ _ _ => .no) () (fun _ _ _ _ => ()) v
noncomputable def avT (v : AV) : (List AV → RT) → RT := AV.rec (motive_1 := fun _ => (List AV → RT) → RT) (motive_2 := fun _ => Unit) (fun _ _ => .no) (fun _ _ _ => .no) (fun _ _ => .no) (fun _ _ _ => .no) (fun _ => .no) (fun _ _ _ _ _ _ => .no) (fun _ => .no) (fun _ _ => .no) (fun _ => .no) (fun _ _ _ _ _ _ => .no) (fun _ _ => .no) (fun _ => .no) (fun _ => .no) (fun _ _ _ _ => .no) (fun _ _ _ => .no) (fun l _ f => f l) (fun _ _ _ => .no) () (fun _ _ _ _ => ()) v
/-- The numbers, or something else. -/
noncomputable def avI (v : AV) : (IntKind → Int → RT) → RT → RT := AV.rec (motive_1 := fun _ => (IntKind → Int → RT) → RT → RT) (motive_2 := fun _ => Unit) (fun _ _ d => d) (fun k n f _ => f k n) (fun _ _ d => d) (fun _ _ _ d => d) (fun _ d => d) (fun _ _ _ _ _ _ d => d) (fun _ d => d) (fun _ _ d => d) (fun _ d => d) (fun _ _ _ _ _ _ d => d) (fun _ _ d => d) (fun _ d => d) (fun _ d => d) (fun _ _ _ _ d => d) (fun _ _ _ d => d) (fun _ _ _ d => d) (fun _ _ _ d => d) () (fun _ _ _ _ => ()) v
noncomputable def avN (v : AV) : (AV → RT) → RT := AV.rec (motive_1 := fun _ => (AV → RT) → RT) (motive_2 := fun _ => Unit) (fun _ _ => .no) (fun _ _ _ => .no) (fun _ _ => .no) (fun n q f => f (.p n q)) (fun _ => .no) (fun _ _ _ _ _ _ => .no) (fun _ => .no) (fun _ _ => .no) (fun _ => .no) (fun g us vs _ _ f => f (.f g us vs)) (fun n f => f (.y n)) (fun _ => .no) (fun _ => .no) (fun _ _ _ _ => .no) (fun _ _ _ => .no) (fun _ _ _ => .no) (fun _ _ _ => .no) () (fun _ _ _ _ => ()) v
/-- A slice, or an array's place. -/
noncomputable def avL (v : AV) : (Nat → Nat → Nat → RT) → (Nat → Nat → RT) → RT := AV.rec (motive_1 := fun _ => (Nat → Nat → Nat → RT) → (Nat → Nat → RT) → RT) (motive_2 := fun _ => Unit) (fun _ _ _ => .no) (fun _ _ _ _ => .no) (fun _ _ _ => .no) (fun n q _ g => g n q) (fun _ _ => .no) (fun n q l _ _ f _ => f n q l) (fun _ _ => .no) (fun _ _ _ => .no) (fun _ _ => .no) (fun _ _ _ _ _ _ _ => .no) (fun _ _ _ => .no) (fun _ _ => .no) (fun _ _ => .no) (fun _ _ _ _ _ => .no) (fun _ _ _ _ => .no) (fun _ _ _ _ => .no) (fun _ _ _ _ => .no) () (fun _ _ _ _ => ()) v
noncomputable def aoC (o : AO) : (List AV → RT) → RT := AO.rec (motive := fun _ => (List AV → RT) → RT) (fun _ l _ f => f l) (fun _ _ _ _ _ => .no) (fun _ _ _ _ _ _ _ _ _ => .no) (fun _ _ => .no) (fun _ _ _ => .no) o
noncomputable def nthK (l : List AV) : Nat → (AV → RT) → RT := List.rec (motive := fun _ => Nat → (AV → RT) → RT) (fun _ _ => .no) (fun a _ ih i k => Nat.rec (motive := fun _ => RT) (k a) (fun j _ => ih j k) i) l
theorem nthK_eq : ∀ (l : List AV) (i : Nat) (k : AV → RT), nthK l i k = Option.rec (motive := fun _ => RT) .no k (nthL l i)
  | [], i, k => by cases i <;> rfl
  | a :: l, 0, k => rfl
  | a :: l, i + 1, k => nthK_eq l i k
/-! ### numbers -/
def isubN (a b : Nat) : Int := Nat.rec (motive := fun _ => Int) (.ofNat (Nat.sub a b)) (fun k _ => .negSucc k) (Nat.sub b a)
theorem isubN_eq (a b : Nat) : isubN a b = (a : Int) - (b : Int) := by
  show (Nat.rec (motive := fun _ => Int) (.ofNat (a - b)) (fun k _ => .negSucc k) (b - a) : Int) = _
  cases h : b - a with
  | zero => show ((a - b : Nat) : Int) = _; omega
  | succ k => show Int.negSucc k = _; omega
noncomputable def iadd (x y : Int) : Int := Int.rec (motive := fun _ => Int) (fun a => Int.rec (motive := fun _ => Int) (fun b => .ofNat (Nat.add a b)) (fun b => isubN a (Nat.succ b)) y) (fun a => Int.rec (motive := fun _ => Int) (fun b => isubN b (Nat.succ a)) (fun b => .negSucc (Nat.succ (Nat.add a b))) y) x
theorem iadd_eq (x y : Int) : iadd x y = x + y := by
  cases x with
  | ofNat a =>
    cases y with
    | ofNat b => rfl
    | negSucc b => show isubN a (b + 1) = (a : Int) + _; rw [isubN_eq, Int.negSucc_eq]; omega
  | negSucc a =>
    cases y with
    | ofNat b => show isubN b (a + 1) = _ + (b : Int); rw [isubN_eq, Int.negSucc_eq]; omega
    | negSucc b => rfl
noncomputable def isub (x y : Int) : Int := Int.rec (motive := fun _ => Int) (fun a => Int.rec (motive := fun _ => Int) (fun b => isubN a b) (fun b => .ofNat (Nat.succ (Nat.add a b))) y) (fun a => Int.rec (motive := fun _ => Int) (fun b => .negSucc (Nat.add a b)) (fun b => isubN b a) y) x
theorem isub_eq (x y : Int) : isub x y = x - y := by
  cases x with
  | ofNat a =>
    cases y with
    | ofNat b => exact isubN_eq a b
    | negSucc b => show ((a + b + 1 : Nat) : Int) = _; rw [Int.negSucc_eq]; show _ = (a : Int) - _; omega
  | negSucc a =>
    cases y with
    | ofNat b => show Int.negSucc (a + b) = _; rw [Int.negSucc_eq, Int.negSucc_eq]; show _ = _ - (b : Int); omega
    | negSucc b => show isubN b a = _; rw [isubN_eq, Int.negSucc_eq, Int.negSucc_eq]; omega
noncomputable def imul (x y : Int) : Int := Int.rec (motive := fun _ => Int) (fun a => Int.rec (motive := fun _ => Int) (fun b => .ofNat (Nat.mul a b)) (fun b => Int.mul (.ofNat a) (.negSucc b)) y) (fun a => Int.mul (.negSucc a) y) x
theorem imul_eq (x y : Int) : imul x y = x * y := by
  cases x <;> cases y <;> rfl
noncomputable def zltK (x y : Int) : Bool := Int.rec (motive := fun _ => Bool) (fun a => Int.rec (motive := fun _ => Bool) (fun b => Nat.blt a b) (fun _ => false) y) (fun a => Int.rec (motive := fun _ => Bool) (fun _ => true) (fun b => Nat.blt b a) y) x
theorem zltK_eq (x y : Int) : zltK x y = zlt x y := by cases x <;> cases y <;> rfl
noncomputable def zeqK (x y : Int) : Bool := Int.rec (motive := fun _ => Bool) (fun a => Int.rec (motive := fun _ => Bool) (fun b => Nat.beq a b) (fun _ => false) y) (fun a => Int.rec (motive := fun _ => Bool) (fun _ => false) (fun b => Nat.beq a b) y) x
theorem zeqK_eq (x y : Int) : zeqK x y = zeq x y := by cases x <;> cases y <;> rfl
noncomputable def notK (b : Bool) : Bool := Bool.rec (motive := fun _ => Bool) true false b
theorem notK_eq (b : Bool) : notK b = !b := by cases b <;> rfl
noncomputable def in64K (n : Int) : Bool := Int.rec (motive := fun _ => Bool) (fun a => Nat.blt a 9223372036854775808) (fun a => Nat.blt a 9223372036854775808) n
theorem in64K_eq (n : Int) : in64K n = in64 n := by cases n <;> rfl
noncomputable def wr64K (n : Int) : Int := Bool.rec (motive := fun _ => Int) (IntKind.i64.wrap n) n (in64K n)
theorem wr64K_eq (n : Int) : wr64K n = wr64 n := by unfold wr64K wr64; rw [in64K_eq]
noncomputable def wrKK (k : IntKind) (n : Int) : Int := IntKind.rec (motive := fun _ => Int → Int) IntKind.i8.wrap IntKind.i16.wrap IntKind.i32.wrap wr64K IntKind.u8.wrap IntKind.u16.wrap IntKind.u32.wrap IntKind.u64.wrap k n
theorem wrKK_eq (k : IntKind) (n : Int) : wrKK k n = wrK k n := by cases k <;> first | exact wr64K_eq n | rfl
noncomputable def zarK (op : BinOp) : IntKind → Int → Int → Option AV := BinOp.rec (motive := fun _ => IntKind → Int → Int → Option AV)
  (fun k x y => some (.i k (wrKK k (iadd x y)))) (fun k x y => some (.i k (wrKK k (isub x y)))) (fun k x y => some (.i k (wrKK k (imul x y)))) (zar .quo) (zar .rem) (zar .and) (zar .or) (zar .xor) (zar .shl) (zar .shr) (zar .andNot)
  (fun _ x y => some (.b (zeqK x y))) (fun _ x y => some (.b (notK (zeqK x y)))) (fun _ x y => some (.b (zltK x y))) (fun _ x y => some (.b (notK (zltK y x)))) (fun _ x y => some (.b (zltK y x))) (fun _ x y => some (.b (notK (zltK x y)))) op
theorem zarK_eq (op : BinOp) (k : IntKind) (x y : Int) : zarK op k x y = zar op k x y := by
  cases op <;> first | rfl | skip
  · show some (AV.i k (wrKK k (iadd x y))) = some (.i k (wrK k (x + y))); rw [wrKK_eq, iadd_eq]
  · show some (AV.i k (wrKK k (isub x y))) = some (.i k (wrK k (x - y))); rw [wrKK_eq, isub_eq]
  · show some (AV.i k (wrKK k (imul x y))) = some (.i k (wrK k (x * y))); rw [wrKK_eq, imul_eq]
  · show some (AV.b (zeqK x y)) = some (.b (zeq x y)); rw [zeqK_eq]
  · show some (AV.b (notK (zeqK x y))) = some (.b (!(zeq x y))); rw [zeqK_eq, notK_eq]
  · show some (AV.b (zltK x y)) = some (.b (zlt x y)); rw [zltK_eq]
  · show some (AV.b (notK (zltK y x))) = some (.b (!(zlt y x))); rw [zltK_eq, notK_eq]
  · show some (AV.b (zltK y x)) = some (.b (zlt y x)); rw [zltK_eq]
  · show some (AV.b (notK (zltK x y))) = some (.b (!(zlt x y))); rw [zltK_eq, notK_eq]
noncomputable def kndK (k : IntKind) : Nat := IntKind.rec (motive := fun _ => Nat) 0 1 2 3 4 5 6 7 k
theorem kndK_eq (k : IntKind) : kndK k = knd k := by cases k <;> rfl
noncomputable def isShiftK (op : BinOp) : Bool := BinOp.rec (motive := fun _ => Bool) false false false false false false false false true true false false false false false false false op
theorem isShiftK_eq (op : BinOp) : isShiftK op = isShift op := by cases op <;> rfl
noncomputable def zbiK (op : BinOp) (k k' : IntKind) (x y : Int) : Option AV := Bool.rec (motive := fun _ => Option AV) (Bool.rec (motive := fun _ => Option AV) none (zarK op k x y) (Nat.beq (kndK k) (kndK k'))) (zsh op k x y) (isShiftK op)
theorem zbiK_eq (P : Program) (tab : TT) (fk : Nat → Option (List CK)) (op : BinOp) (t : TypeId) (k k' : IntKind) (x y : Int) : zbiK op k k' x y = zBin P tab fk op t (.i k x) (.i k' y) := by
  unfold zbiK zBin
  rw [isShiftK_eq, kndK_eq, kndK_eq, zarK_eq]
  dsimp only
  cases isShift op with
  | true => rfl
  | false => dsimp only; cases Nat.beq (knd k) (knd k') <;> rfl
/-! ### memory -/
noncomputable def rdK (n : Nat) (s : Hp) (f : AO → Hp → RT) : RT := Hp.rec (motive := fun _ => RT) (fun h nx R W ba => Bool.rec (motive := fun _ => RT) .no (Bool.rec (motive := fun _ => RT) .no (Option.rec (motive := fun _ => RT) .no (fun o => f o (lgRx s n h nx R W ba)) (HT.get h n)) (Nat.blt n 32768)) (Nat.blt n nx)) s
theorem rdK_eq (n : Nat) (s : Hp) (f : AO → Hp → RT) : rdK n s f = rzK f (rdB n s) := by
  show (Bool.rec (motive := fun _ => RT) .no (Bool.rec (motive := fun _ => RT) .no (Option.rec (motive := fun _ => RT) .no (fun o => f o (lgR s n)) (HT.get s.h n)) (Nat.blt n 32768)) (Nat.blt n s.nx) : RT) = rzK f (Bool.rec (motive := fun _ => Rz AO) .no (Option.rec (motive := fun _ => Rz AO) .no (fun o => .ok o (lgR s n)) (s.gt n)) (Nat.blt n s.nx))
  cases Nat.blt n s.nx with
  | false => rfl
  | true =>
    unfold Hp.gt
    cases Nat.blt n 32768 with
    | false => rfl
    | true => dsimp only; cases HT.get s.h n <;> rfl
theorem rzK_rd {β : Type} (n : Nat) (f : AO → HM β) (k : β → Hp → RT) (s : Hp) : rzK k (hb (rdB n) f s) = rdK n s (fun o s' => rzK k (f o s')) := by
  rw [rzK_hb, rdK_eq]
/-- How a load of a type is done. -/
noncomputable def ldSp (tab : TT) (t : TypeId) : Option (Option Nat) := Option.rec (motive := fun _ => Option (Option Nat)) none (fun i => some (Bool.rec (motive := fun _ => Option Nat) none (some i.size) (rowD i.d))) (lookI tab t)
noncomputable def ldX (q : Option Nat) (off : Nat) (k : AV → Hp → RT) (s : Hp) (l : List AV) : RT := Option.rec (motive := fun _ => RT) (nthK l off (fun v => k v s)) (fun sz => Bool.rec (motive := fun _ => RT) .no (k (.g ((l.drop off).take sz)) s) (Nat.beq ((l.drop off).take sz).length sz)) q
noncomputable def ldK (tab : TT) (t : TypeId) (v : AV) (s : Hp) (k : AV → Hp → RT) : RT := Option.rec (motive := fun _ => RT) .no (fun q => avP v (fun n off => rdK n s (fun o s' => aoC o (ldX q off k s')))) (ldSp tab t)
theorem ldK_eq (tab : TT) (t : TypeId) (v : AV) (s : Hp) (k : AV → Hp → RT) : ldK tab t v s k = rzK k (hO (lookI tab t) (fun i => zLoad i v) s) := by
  rw [rzK_hO]
  unfold ldK ldSp
  cases lookI tab t with
  | none => rfl
  | some i =>
    dsimp only
    cases v <;> first | rfl | skip
    rename_i n off
    unfold zLoad
    dsimp only
    rw [rzK_rd]
    show rdK n s (fun o s' => aoC o (ldX _ off k s')) = _
    congr 1
    funext o s'
    cases o <;> first | rfl | skip
    rename_i t' l op
    show ldX _ off k s' l = _
    unfold ldX
    dsimp only
    cases rowD i.d with
    | true => dsimp only; rw [rzK_hg]; rfl
    | false => dsimp only; rw [nthK_eq, rzK_hO]; rfl
/-- A field's place in a struct. -/
noncomputable def faOf (tab : TT) (t : TypeId) (f : Nat) : Option Nat := Option.rec (motive := fun _ => Option Nat) none (fun i => TD.rec (motive := fun _ => Option Nat) none (fun _ => none) (fun l => Option.rec (motive := fun _ => Option Nat) none (fun p => some p.1) (nthL l f)) (fun _ _ => none) (fun _ => none) (fun _ => none) (fun _ _ => none) i.d) (lookI tab t)
noncomputable def faK (tab : TT) (t : TypeId) (f : Nat) (v : AV) (s : Hp) (k : AV → Hp → RT) : RT := avP v (fun n off => Option.rec (motive := fun _ => RT) .no (fun q => k (.p n (Nat.add off q)) s) (faOf tab t f))
theorem faK_eq (tab : TT) (t : TypeId) (x : Operand) (f : Nat) (ts : TL) (s : Hp) (k : AV → Hp → RT) : opK x ts (fun v => faK tab t f v s k) = rzK k (zFA tab t x f ts s) := by
  unfold zFA
  rw [rzK_op]
  congr 1
  funext v
  cases v <;> first | rfl | skip
  rename_i n off
  show (Option.rec (motive := fun _ => RT) .no (fun q => k (.p n (off + q)) s) (faOf tab t f) : RT) = rzK k (hO (lookI tab t) _ s)
  rw [rzK_hO]
  unfold faOf
  cases lookI tab t with
  | none => rfl
  | some i =>
    dsimp only
    cases i.d <;> first | rfl | skip
    rename_i l
    dsimp only
    rw [rzK_hO]
    cases nthL l f <;> rfl
noncomputable def exK (i : Nat) (v : AV) (s : Hp) (k : AV → Hp → RT) : RT := avT v (fun l => nthK l i (fun u => k u s))
theorem exK_eq (x : Operand) (i : Nat) (ts : TL) (s : Hp) (k : AV → Hp → RT) : opK x ts (fun v => exK i v s k) = rzK k (zExtract x i ts s) := by
  unfold zExtract
  rw [rzK_op]
  congr 1
  funext v
  cases v <;> first | rfl | skip
  show nthK _ _ _ = rzK k (hO _ hp s)
  rw [nthK_eq, rzK_hO]; rfl
theorem nilK_eq (x : Operand) (ts : TL) (s : Hp) (k : AV → Hp → RT) : opK x ts (fun v => avN v (fun u => k u s)) = rzK k (zNilCheck x ts s) := by
  unfold zNilCheck
  rw [rzK_op]
  congr 1
  funext v
  cases v <;> rfl
theorem mvK_eq (x : Operand) (ts : TL) (s : Hp) (k : AV → Hp → RT) : opK x ts (fun v => k v s) = rzK k (zMove x ts s) := by
  unfold zMove
  rw [rzK_op]; rfl
noncomputable def biK (P : Program) (tab : TT) (fk : Nat → Option (List CK)) (op : BinOp) (t : TypeId) (v u : AV) (s : Hp) (k : AV → Hp → RT) : RT := avI v (fun a x => avI u (fun b y => Option.rec (motive := fun _ => RT) .no (fun r => k r s) (zbiK op a b x y)) .no) (Option.rec (motive := fun _ => RT) .no (fun r => k r s) (zBin P tab fk op t v u))
theorem biK_eq (P : Program) (tab : TT) (fk : Nat → Option (List CK)) (op : BinOp) (t : TypeId) (x y : Operand) (ts : TL) (s : Hp) (k : AV → Hp → RT) : opK x ts (fun v => opK y ts (fun u => biK P tab fk op t v u s k)) = rzK k (zBinO P tab fk op t x y ts s) := by
  unfold zBinO
  rw [rzK_op]
  congr 1
  funext v
  rw [rzK_op]
  congr 1
  funext u
  rw [rzK_hO]
  cases v <;> first | rfl | skip
  rename_i a x
  cases u <;> first | rfl | skip
  rename_i b y
  show (Option.rec (motive := fun _ => RT) .no (fun r => k r s) (zbiK op a b x y) : RT) = _
  rw [zbiK_eq P tab fk op t]; rfl
/-- How an element's place is found: in a slice, or in an array of so many. -/
noncomputable def iaOf (tab : TT) (t : TypeId) : Option (Option Nat × Nat) := Option.rec (motive := fun _ => Option (Option Nat × Nat)) none (fun i => TD.rec (motive := fun _ => Option (Option Nat × Nat)) none (fun _ => none) (fun _ => none) (fun m e => Option.rec (motive := fun _ => Option (Option Nat × Nat)) none (fun j => some (some m, j.size)) (lookI tab e)) (fun e => Option.rec (motive := fun _ => Option (Option Nat × Nat)) none (fun j => some (none, j.size)) (lookI tab e)) (fun _ => none) (fun _ _ => none) i.d) (lookI tab t)
noncomputable def ixK (u : AV) (m : Nat) (f : Nat → RT) : RT := avI u (fun _ p => Int.rec (motive := fun _ => RT) (fun a => Bool.rec (motive := fun _ => RT) .no (f a) (Nat.blt a m)) (fun _ => .no) p) .no
theorem ixK_eq (u : AV) (m : Nat) (f : Nat → RT) : ixK u m f = Option.rec (motive := fun _ => RT) .no f (zix u m) := by
  cases u <;> first | rfl | skip
  rename_i kk p
  cases p with
  | negSucc a => rfl
  | ofNat a =>
    show (Bool.rec (motive := fun _ => RT) .no (f a) (Nat.blt a m) : RT) = Option.rec (motive := fun _ => RT) .no f (match Nat.blt a m with | true => some a | false => none)
    cases Nat.blt a m <;> rfl
noncomputable def iaK (tab : TT) (t : TypeId) (v u : AV) (s : Hp) (k : AV → Hp → RT) : RT := Option.rec (motive := fun _ => RT) .no (fun q => Prod.rec (motive := fun _ => RT) (fun m z => Option.rec (motive := fun _ => RT) (avL v (fun n off len => ixK u len (fun a => k (.p n (Nat.add off (Nat.mul a z))) s)) (fun _ _ => .no)) (fun m => avL v (fun _ _ _ => .no) (fun n off => ixK u m (fun a => k (.p n (Nat.add off (Nat.mul a z))) s))) m) q) (iaOf tab t)
theorem iaK_eq (tab : TT) (t : TypeId) (x y : Operand) (ts : TL) (s : Hp) (k : AV → Hp → RT) : opK x ts (fun v => opK y ts (fun u => iaK tab t v u s k)) = rzK k (zIA tab t x y ts s) := by
  unfold zIA
  rw [rzK_op]
  congr 1
  funext v
  rw [rzK_op]
  congr 1
  funext u
  rw [rzK_hO]
  unfold iaK iaOf
  cases lookI tab t with
  | none => rfl
  | some i =>
    dsimp only
    cases i.d <;> first | rfl | skip
    · rename_i m e
      dsimp only
      rw [rzK_hO]
      cases lookI tab e with
      | none => rfl
      | some j =>
        dsimp only
        cases v <;> first | rfl | skip
        show ixK _ _ _ = _
        rw [ixK_eq]
        dsimp only
        rw [rzK_hO]; rfl
    · rename_i e
      dsimp only
      rw [rzK_hO]
      cases lookI tab e with
      | none => rfl
      | some j =>
        dsimp only
        cases v <;> first | rfl | skip
        show ixK _ _ _ = _
        rw [ixK_eq]
        dsimp only
        rw [rzK_hO]; rfl
/-! ### stores -/
noncomputable def aoA (o : AO) : (Nat → List AV → Option Nat → RT) → RT := AO.rec (motive := fun _ => (Nat → List AV → Option Nat → RT) → RT) (fun t l op f => f t l op) (fun _ _ _ _ _ => .no) (fun _ _ _ _ _ _ _ _ _ => .no) (fun _ _ => .no) (fun _ _ _ => .no) o
/-- One cell, or several. -/
noncomputable def avS (v : AV) : RT → RT → RT := AV.rec (motive_1 := fun _ => RT → RT → RT) (motive_2 := fun _ => Unit) (fun _ a _ => a) (fun _ _ a _ => a) (fun _ a _ => a) (fun _ _ a _ => a) (fun a _ => a) (fun _ _ _ _ _ a _ => a) (fun a _ => a) (fun _ a _ => a) (fun a _ => a) (fun _ _ _ _ _ a _ => a) (fun _ a _ => a) (fun a _ => a) (fun a _ => a) (fun _ _ _ a _ => a) (fun _ _ _ b => b) (fun _ _ _ b => b) (fun _ _ a _ => a) () (fun _ _ _ _ => ()) v
noncomputable def setX (l : List AV) : Nat → AV → (List AV → RT) → RT := List.rec (motive := fun _ => Nat → AV → (List AV → RT) → RT) (fun _ _ _ => .no) (fun a r ih i v k => Nat.rec (motive := fun _ => RT) (k (v :: r)) (fun j _ => ih j v (fun r' => k (a :: r'))) i) l
theorem setMany_nl (l : List AV) : setManyA l 0 [] = l := by cases l <;> simp [setManyA]
theorem setX_eq : ∀ (l : List AV) (i : Nat) (v : AV) (k : List AV → RT), setX l i v k = Bool.rec (motive := fun _ => RT) .no (k (setManyA l i [v])) (Nat.ble (i + 1) l.length)
  | [], i, v, k => by cases i <;> rfl
  | a :: r, 0, v, k => by
    rw [show Nat.ble (0 + 1) (a :: r).length = true from by simp [Nat.ble_eq]]
    show k (v :: r) = k (setManyA (a :: r) 0 [v])
    simp [setManyA, setMany_nl]
  | a :: r, i + 1, v, k => by
    show setX r i v (fun r' => k (a :: r')) = _
    rw [setX_eq r i v, show Nat.ble (i + 1 + 1) (a :: r).length = Nat.ble (i + 1) r.length from rfl, show setManyA (a :: r) (i + 1) [v] = a :: setManyA r i [v] from by simp [setManyA]]
noncomputable def wrbK (n : Nat) (x : Option AO) (s : Hp) (f : Hp → RT) : RT := Hp.rec (motive := fun _ => RT) (fun h nx R W ba => f (lgW ⟨h.set n x, nx, R, W, ba⟩ n)) s
theorem rd_wr {n : Nat} {s s' : Hp} {o : AO} (h : rdB n s = .ok o s') (x : Option AO) {β : Type} (f : Unit → HM β) (k : β → Hp → RT) : rzK k (hb (wrB n x) f s') = wrbK n x s' (fun s'' => rzK k (f () s'')) := by
  obtain ⟨h1, h2, rfl⟩ := rdB_ok h
  rw [rzK_hb]
  have g1 : (lgR s n).gt n = some o := by
    rw [lgR_eq]; cases Nat.blt n s.ba <;> exact h2
  have g2 : Nat.blt n (lgR s n).nx = true := by
    rw [lgR_eq]; cases Nat.blt n s.ba <;> exact blt_iff.2 h1
  have : wrB n x (lgR s n) = .ok () (lgW ((lgR s n).put n x) n) := by
    unfold wrB; rw [g2, g1]
  rw [this]; rfl
theorem rzK_rdW (n : Nat) (f g : AO → Hp → RT) (s : Hp) (h : ∀ o s', rdB n s = .ok o s' → f o s' = g o s') : rdK n s f = rdK n s g := by
  rw [rdK_eq, rdK_eq]
  cases hr : rdB n s with
  | no => rfl
  | ok o s' => exact h o s' hr
noncomputable def st1K (v x : AV) (s : Hp) (k : AV → Hp → RT) : RT := avP v (fun n off => rdK n s (fun o s' => aoA o (fun t l op => setX l off x (fun l' => wrbK n (some (.cs t l' op)) s' (k (.t []))))))
noncomputable def stK (tab : TT) (t : TypeId) (v x : AV) (s : Hp) (k : AV → Hp → RT) : RT := Option.rec (motive := fun _ => RT) .no (fun i => avS x (Bool.rec (motive := fun _ => RT) .no (st1K v x s k) (Nat.beq 1 i.size)) (rzK k (zStore i v x s))) (lookI tab t)
theorem st1K_eq (i : TI) (v x : AV) (hx : cellsA x = [x]) (hn : notTL x = true) (s : Hp) (k : AV → Hp → RT) : Bool.rec (motive := fun _ => RT) .no (st1K v x s k) (Nat.beq 1 i.size) = rzK k (zStore i v x s) := by
  cases v <;> first | (unfold zStore; cases Nat.beq 1 i.size <;> rfl; done) | skip
  rename_i n off
  unfold zStore
  dsimp only
  rw [hx, rzK_hg]
  show _ = Bool.rec (motive := fun _ => RT) Rz.no _ (Nat.beq 1 i.size)
  cases Nat.beq 1 i.size with
  | false => rfl
  | true =>
    dsimp only
    rw [rzK_hg, show [x].all notTL = true from by simp [hn]]
    dsimp only
    rw [rzK_rd]
    show rdK n s (fun o s' => aoA o (fun t l op => setX l off x (fun l' => wrbK n (some (.cs t l' op)) s' (k (.t []))))) = _
    refine rzK_rdW n _ _ s fun o s' ho => ?_
    cases o <;> first | rfl | skip
    rename_i t' l op
    show setX l off x _ = _
    rw [setX_eq]
    dsimp only
    rw [rzK_hg]
    show _ = Bool.rec (motive := fun _ => RT) Rz.no _ (Nat.ble (off + 1) l.length)
    cases Nat.ble (off + 1) l.length with
    | false => rfl
    | true =>
      dsimp only
      rw [rd_wr ho]; rfl
theorem stK_eq (tab : TT) (t : TypeId) (x y : Operand) (ts : TL) (s : Hp) (k : AV → Hp → RT) : opK x ts (fun v => opK y ts (fun u => stK tab t v u s k)) = rzK k (zSt tab t x y ts s) := by
  unfold zSt
  rw [rzK_op]
  congr 1
  funext v
  rw [rzK_op]
  congr 1
  funext u
  rw [rzK_hO]
  unfold stK
  cases lookI tab t with
  | none => rfl
  | some i =>
    dsimp only
    cases u <;> first | rfl | exact st1K_eq i v _ rfl rfl s k
/-! ### new blocks -/
noncomputable def nwK (o : AO) (s : Hp) (f : Nat → Hp → RT) : RT := Hp.rec (motive := fun _ => RT) (fun h nx R W ba => Bool.rec (motive := fun _ => RT) .no (f nx ⟨h.set nx (some o), Nat.add nx 1, R, W, ba⟩) (Nat.blt nx 32768)) s
theorem rzK_nw {β : Type} (o : AO) (f : Nat → HM β) (k : β → Hp → RT) (s : Hp) : rzK k (hb (nwB o) f s) = nwK o s (fun n s' => rzK k (f n s')) := by
  rw [rzK_hb, nwB_eq]
  show _ = Bool.rec (motive := fun _ => RT) Rz.no _ (Nat.blt s.nx 32768)
  cases Nat.blt s.nx 32768 <;> rfl
noncomputable def alSp (tab : TT) (t : TypeId) : Option (List AV) := Option.rec (motive := fun _ => Option (List AV)) none (fun i => toAL i.zero) (lookI tab t)
noncomputable def alK (tab : TT) (t : TypeId) (s : Hp) (k : AV → Hp → RT) : RT := Option.rec (motive := fun _ => RT) .no (fun z => nwK (.cs t z none) s (fun n => k (.p n 0))) (alSp tab t)
theorem alK_eq (tab : TT) (t : TypeId) (s : Hp) (k : AV → Hp → RT) : alK tab t s k = rzK k (zAlloc tab t s) := by
  unfold zAlloc alK alSp
  rw [rzK_hO]
  cases lookI tab t with
  | none => rfl
  | some i =>
    dsimp only
    rw [rzK_hO]
    cases toAL i.zero with
    | none => rfl
    | some z => dsimp only; rw [rzK_nw]; rfl
/-! ### maps -/
noncomputable def bothN (v u : AV) (f : Int → Int → Bool) (d : Bool) : Bool := AV.rec (motive_1 := fun _ => AV → (Int → Int → Bool) → Bool → Bool) (motive_2 := fun _ => Unit) (fun _ _ _ d => d) (fun _ n u f d => AV.rec (motive_1 := fun _ => Int → (Int → Int → Bool) → Bool → Bool) (motive_2 := fun _ => Unit) (fun _ _ _ d => d) (fun _ m n f _ => f n m) (fun _ _ _ d => d) (fun _ _ _ _ d => d) (fun _ _ d => d) (fun _ _ _ _ _ _ _ d => d) (fun _ _ d => d) (fun _ _ _ d => d) (fun _ _ d => d) (fun _ _ _ _ _ _ _ d => d) (fun _ _ _ d => d) (fun _ _ d => d) (fun _ _ d => d) (fun _ _ _ _ _ d => d) (fun _ _ _ _ d => d) (fun _ _ _ _ d => d) (fun _ _ _ _ d => d) () (fun _ _ _ _ => ()) u n f d)
  (fun _ _ _ d => d) (fun _ _ _ _ d => d) (fun _ _ d => d) (fun _ _ _ _ _ _ _ d => d) (fun _ _ d => d) (fun _ _ _ d => d) (fun _ _ d => d) (fun _ _ _ _ _ _ _ d => d) (fun _ _ _ d => d) (fun _ _ d => d) (fun _ _ d => d) (fun _ _ _ _ _ d => d) (fun _ _ _ _ d => d) (fun _ _ _ _ d => d) (fun _ _ _ _ d => d) () (fun _ _ _ _ => ()) v u f d
noncomputable def zsmK (xs : List AV) : List AV → Bool := List.rec (motive := fun _ => List AV → Bool) (fun ys => List.rec (motive := fun _ => Bool) true (fun _ _ _ => false) ys) (fun x xs ih ys => List.rec (motive := fun _ => Bool) false (fun y ys _ => bothN x y (fun n m => Bool.rec (motive := fun _ => Bool) false (ih ys) (zeqK n m)) (zsame (x :: xs) (y :: ys))) ys) xs
theorem zsmK_eq : ∀ xs ys : List AV, zsmK xs ys = zsame xs ys
  | [], ys => by cases ys <;> rfl
  | x :: xs, ys => by
    cases ys with
    | nil => rfl
    | cons y ys =>
      show bothN x y _ (zsame (x :: xs) (y :: ys)) = _
      cases x <;> first | rfl | skip
      cases y <;> first | rfl | skip
      rename_i k n k' m
      show (Bool.rec (motive := fun _ => Bool) false (zsmK xs ys) (zeqK n m) : Bool) = _
      rw [zsmK_eq xs ys, zeqK_eq]
      conv => rhs; unfold zsame
      dsimp only
      cases zeq n m <;> rfl
noncomputable def isG (v : AV) : Option (List AV) := AV.rec (motive_1 := fun _ => Option (List AV)) (motive_2 := fun _ => Unit) (fun _ => none) (fun _ _ => none) (fun _ => none) (fun _ _ => none) none (fun _ _ _ _ _ => none) none (fun _ => none) none (fun _ _ _ _ _ => none) (fun _ => none) none none (fun _ _ _ => none) (fun cs _ => some cs) (fun _ _ => none) (fun _ _ => none) () (fun _ _ _ _ => ()) v
noncomputable def kyK (a b : AV) : Bool := Option.rec (motive := fun _ => Bool) (keyEq a b) (fun l => Option.rec (motive := fun _ => Bool) false (fun m => zsmK l m) (isG b)) (isG a)
theorem kyK_eq (a b : AV) : kyK a b = keyEq a b := by
  cases a <;> first | rfl | skip
  rename_i l
  cases b <;> first | rfl | skip
  rename_i m
  exact zsmK_eq l m
noncomputable def lkAK (k : AV) (es : List (AV × AV)) : Option AV := List.rec (motive := fun _ => Option AV) none (fun e _ ih => Prod.rec (motive := fun _ => Option AV) (fun a v => Bool.rec (motive := fun _ => Option AV) ih (some v) (kyK a k)) e) es
theorem lkAK_eq (k : AV) : ∀ es : List (AV × AV), lkAK k es = lkA es k
  | [] => rfl
  | (a, v) :: es => by
    show (Bool.rec (motive := fun _ => Option AV) (lkAK k es) (some v) (kyK a k) : Option AV) = _
    rw [lkAK_eq k es, kyK_eq]
    simp only [lkA]
    cases keyEq a k <;> rfl
noncomputable def lkSp (P : Program) (tab : TT) (kf : Nat → Option KD) (t : TypeId) : Option (KD × AV) := Option.rec (motive := fun _ => Option (KD × AV)) none (fun i => TD.rec (motive := fun _ => Option (KD × AV)) none (fun _ => none) (fun _ => none) (fun _ _ => none) (fun _ => none) (fun _ => none) (fun kt et => Option.rec (motive := fun _ => Option (KD × AV)) none (fun kd => Option.rec (motive := fun _ => Option (KD × AV)) none (fun z => Option.rec (motive := fun _ => Option (KD × AV)) none (fun z => some (kd, z)) (toA z)) ((P.info? et).bind (·.zero))) (kf kt)) i.d) (lookI tab t)
noncomputable def avM (v : AV) : (Nat → RT) → RT := AV.rec (motive_1 := fun _ => (Nat → RT) → RT) (motive_2 := fun _ => Unit) (fun _ _ => .no) (fun _ _ _ => .no) (fun _ _ => .no) (fun _ _ _ => .no) (fun _ => .no) (fun _ _ _ _ _ _ => .no) (fun _ => .no) (fun n f => f n) (fun _ => .no) (fun _ _ _ _ _ _ => .no) (fun _ _ => .no) (fun _ => .no) (fun _ => .no) (fun _ _ _ _ => .no) (fun _ _ _ => .no) (fun _ _ _ => .no) (fun _ _ _ => .no) () (fun _ _ _ _ => ()) v
noncomputable def aoM (o : AO) : (KD → List (AV × AV) → RT) → RT := AO.rec (motive := fun _ => (KD → List (AV × AV) → RT) → RT) (fun _ _ _ _ => .no) (fun kd es _ _ f => f kd es) (fun _ _ _ _ _ _ _ _ _ => .no) (fun _ _ => .no) (fun _ _ _ => .no) o
noncomputable def lkR (c : Bool) (z : AV) (r : Option AV) : AV := Bool.rec (motive := fun _ => AV) (Option.rec (motive := fun _ => AV) z (fun u => u) r) (Option.rec (motive := fun _ => AV) (.t [z, .b false]) (fun u => .t [u, .b true]) r) c
noncomputable def lookK (P : Program) (tab : TT) (kf : Nat → Option KD) (t : TypeId) (c : Bool) (v key : AV) (s : Hp) (k : AV → Hp → RT) : RT := Option.rec (motive := fun _ => RT) .no (fun q => Prod.rec (motive := fun _ => RT) (fun kd z => avM v (fun n => rdK n s (fun o s' => aoM o (fun kd' es => Bool.rec (motive := fun _ => RT) .no (Bool.rec (motive := fun _ => RT) .no (k (lkR c z (lkAK key es)) s') (keyB kd key)) (kdEq kd kd'))))) q) (lkSp P tab kf t)
theorem lookK_eq (P : Program) (tab : TT) (kf : Nat → Option KD) (t : TypeId) (x y : Operand) (c : Bool) (ts : TL) (s : Hp) (k : AV → Hp → RT) : opK x ts (fun v => opK y ts (fun u => lookK P tab kf t c v u s k)) = rzK k (zLook P tab kf t x y c ts s) := by
  unfold zLook
  rw [rzK_op]
  congr 1
  funext v
  rw [rzK_op]
  congr 1
  funext key
  rw [rzK_hO]
  unfold lookK lkSp
  cases lookI tab t with
  | none => rfl
  | some i =>
    dsimp only
    cases i.d <;> first | rfl | skip
    rename_i kt et
    dsimp only
    rw [rzK_hO]
    cases kf kt with
    | none => rfl
    | some kd =>
      dsimp only
      rw [rzK_hO]
      cases (P.info? et).bind (·.zero) with
      | none => rfl
      | some z =>
        dsimp only
        rw [rzK_hO]
        cases toA z with
        | none => rfl
        | some z =>
          dsimp only
          cases v <;> first | rfl | skip
          rename_i n
          dsimp only
          rw [rzK_rd]
          show rdK n s (fun o s' => aoM o (fun kd' es => Bool.rec (motive := fun _ => RT) .no (Bool.rec (motive := fun _ => RT) .no (k (lkR c z (lkAK key es)) s') (keyB kd key)) (kdEq kd kd'))) = _
          congr 1
          funext o s'
          cases o <;> first | rfl | skip
          rename_i kd' es _ _
          dsimp only
          rw [rzK_hg, rzK_hg]
          show (Bool.rec (motive := fun _ => RT) Rz.no (Bool.rec (motive := fun _ => RT) Rz.no (k (lkR c z (lkAK key es)) s') (keyB kd key)) (kdEq kd kd') : RT) = _
          rw [lkAK_eq]
          congr 2
          cases lkA es key <;> cases c <;> rfl
inductive ZX where
  | nm
  | ex (i : Nat)
  | rt
structure ZO where
  x : ZX
  ts : TL
  ds : List Nat
def ZX.of : ZX → Exit
  | .nm => .normal
  | .ex i => .exit i
  | .rt => .ret
abbrev ZM := TL → List Nat → HM ZO
/-- Where a function's code has runs of one's own. -/
inductive OV where
  | no
  | here (m : (Nat → List AV → HM AV) → (Nat → List AV → HM AV) → ZM)
  | two (a b : OV)
  | one (a : OV)
  | cn (a b : OV)
end Go.Proofs.YtiodmphhjgkgjaaGreat
