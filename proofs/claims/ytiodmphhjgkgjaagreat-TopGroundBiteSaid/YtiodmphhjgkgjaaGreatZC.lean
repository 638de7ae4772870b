/- steps: lemmas for the rows of this seat. No conditions. -/
import Derived.Test.YtiodmphhjgkgjaaGreatZB
set_option linter.all false
namespace Go.Proofs.YtiodmphhjgkgjaaGreat
open Go.RowKit
section
variable {P : Program} {tab : TT} {o : Oper}
theorem ops_box {t : TypeId} {x : Operand} (hop : o.op = .box t x) : OpS P o (zBox t x) where
  lm := fun ts => by unfold zBox; (repeat (first | exact LM.pure _ | exact LM.fail | exact LM.read _ | exact LM.write _ _ | exact LM.new _ | assumption | refine LM.bind ?_ fun _ => ?_ | refine LM.opt fun _ => ?_ | refine LM.ite ?_ ?_ | split))
  ok := fun {ts s v s'} h ρ a w w0 hf hs hz => by
    obtain ⟨u, hu, h⟩ := hO_ok h
    obtain ⟨n, s1, hm, h⟩ := hb_ok h
    obtain ⟨rfl, rfl⟩ := hp_ok h
    obtain ⟨rfl, e2, e3⟩ := nwB_gt hm
    obtain ⟨h1, h2⟩ := evO_spec hs hu
    obtain ⟨h3, h4⟩ := cellsA_cv ρ u
    have hn := hf s.nx (Nat.le_refl _) (by omega)
    have hc : (cv ρ u).cells = (cvL ρ (cellsA u)).toArray := by apply Array.ext'; simpa using h3
    refine Ends.new (c := 0) (b := w.heap.size) (q := 0) (f := fun n => .p n 0) hm hz hn ((Below.refl _ _).alloc (Nat.le_refl _) (.cells (cvL ρ (cellsA u)).toArray t)) (Nat.le_refl _) (cs_new hn rfl (h4 h2)) (by simp [Dm, Env.lay]) ?_
    simp [execOp, hop, Instr.box, h1, newVar, newRow, hc, cv, Env.at_, Env.lay]
theorem ops_nilCheck {x : Operand} (hop : o.op = .nilCheck x) : OpS P o (zNilCheck x) where
  lm := fun ts => by unfold zNilCheck; (repeat (first | exact LM.pure _ | exact LM.fail | exact LM.read _ | exact LM.write _ _ | exact LM.new _ | assumption | refine LM.bind ?_ fun _ => ?_ | refine LM.opt fun _ => ?_ | refine LM.ite ?_ ?_ | split))
  ok := fun h ρ a w w0 hf hs hz => by
    obtain ⟨u, hu, h⟩ := hO_ok h
    obtain ⟨h1, h2⟩ := evO_spec hs hu
    cases u <;> first | (cases h; done) | (obtain ⟨rfl, rfl⟩ := hp_ok h; refine Ends.val hz rfl h2 (by simp [execOp, hop, h1, cv]))
theorem ops_extract {x : Operand} {i : Nat} (hop : o.op = .extract x i) : OpS P o (zExtract x i) where
  lm := fun ts => by unfold zExtract; (repeat (first | exact LM.pure _ | exact LM.fail | exact LM.read _ | exact LM.write _ _ | exact LM.new _ | assumption | refine LM.bind ?_ fun _ => ?_ | refine LM.opt fun _ => ?_ | refine LM.ite ?_ ?_ | split))
  ok := fun h ρ a w w0 hf hs hz => by
    obtain ⟨u, hu, h⟩ := hO_ok h
    obtain ⟨h1, h2⟩ := evO_spec hs hu
    cases u <;> first | (cases h; done) | skip
    rename_i l
    obtain ⟨y, hy, h⟩ := hO_ok h
    obtain ⟨rfl, rfl⟩ := hp_ok h
    rw [nthL_eq] at hy
    simp only [Dm] at h2
    refine Ends.val hz rfl (DmL_get h2 hy) ?_
    simp [execOp, hop, h1, cv, Instr.extract, cvL_get, hy]
theorem ops_un {op : UnOp} {t : TypeId} {x : Operand} (hop : o.op = .unOp op t x) : OpS P o (zUn op x) where
  lm := fun ts => by unfold zUn; (repeat (first | exact LM.pure _ | exact LM.fail | exact LM.read _ | exact LM.write _ _ | exact LM.new _ | assumption | refine LM.bind ?_ fun _ => ?_ | refine LM.opt fun _ => ?_ | refine LM.ite ?_ ?_ | split))
  ok := fun h ρ a w w0 hf hs hz => by
    obtain ⟨u, hu, h⟩ := hO_ok h
    obtain ⟨h1, h2⟩ := evO_spec hs hu
    obtain ⟨r, hr, h⟩ := hO_ok h
    obtain ⟨rfl, rfl⟩ := hp_ok h
    cases op <;> simp only [zNot] at hr <;> first | (cases hr; done) | skip
    all_goals cases u <;> simp only at hr <;> first | (cases hr; done) | skip
    all_goals
      injection hr with hr; subst hr
      refine Ends.val hz rfl (by simp [Dm]) ?_
      simp [execOp, hop, h1, cv, Op.unary, Op.intArith]
theorem ops_conv (hT : TabOk P tab) {t u : TypeId} {x : Operand} (hop : o.op = .convert t u x) : OpS P o (zConv tab t u x) where
  lm := fun ts => by unfold zConv; (repeat (first | exact LM.pure _ | exact LM.fail | exact LM.read _ | exact LM.write _ _ | exact LM.new _ | assumption | refine LM.bind ?_ fun _ => ?_ | refine LM.opt fun _ => ?_ | refine LM.ite ?_ ?_ | split))
  ok := fun h ρ a w w0 hf hs hz => by
    obtain ⟨y, hy, h⟩ := hO_ok h
    obtain ⟨h1, h2⟩ := evO_spec hs hy
    cases y <;> first | (cases h; done) | skip
    rename_i k n
    obtain ⟨i, hi, h⟩ := hO_ok h
    obtain ⟨j, hj, h⟩ := hO_ok h
    (try dsimp only at h)
    cases hk : j.d <;> rw [hk] at h <;> first | (cases h; done) | skip
    rename_i k'
    obtain ⟨rfl, rfl⟩ := hp_ok h
    obtain ⟨d1, e1, _⟩ := (hT t i hi).und
    have e2 := (hT u j hj).int hk
    refine Ends.val hz rfl (by simp [Dm]) ?_
    simp only [cv] at h1
    simp [execOp, hop, h1, cv, convert, run_underlying e1, run_underlying e2, Conv.intToInt, wrK_eq]
theorem ops_mkFunc {fn : Fn} {xs ys : Array Operand} (hop : o.op = .makeFunc fn xs ys) : OpS P o (zMkFunc fn xs ys) where
  lm := fun ts => by unfold zMkFunc; (repeat (first | exact LM.pure _ | exact LM.fail | exact LM.read _ | exact LM.write _ _ | exact LM.new _ | assumption | refine LM.bind ?_ fun _ => ?_ | refine LM.opt fun _ => ?_ | refine LM.ite ?_ ?_ | split))
  ok := fun h ρ a w w0 hf hs hz => by
    unfold zMkFunc at h
    split at h
    · obtain ⟨us, hu, h⟩ := hO_ok h
      obtain ⟨vs, hv, h⟩ := hO_ok h
      obtain ⟨rfl, rfl⟩ := hp_ok h
      obtain ⟨h1, h2⟩ := zvL_spec hs hu
      obtain ⟨h3, h4⟩ := zvL_spec hs hv
      refine Ends.val hz rfl (by simp [Dm, h2, h4]) ?_
      have e1 : xs.map a.eval = (cvL ρ us).toArray := by apply Array.ext'; simp [h1]
      have e2 : ys.map a.eval = (cvL ρ vs).toArray := by apply Array.ext'; simp [h3]
      simp [execOp, hop, Instr.makeFunc, cv, e1, e2]
    · cases h
theorem ops_fa (hT : TabOk P tab) {t : TypeId} {x : Operand} {f : Nat} (hop : o.op = .fieldAddr t x f) : OpS P o (zFA tab t x f) where
  lm := fun ts => by unfold zFA; (repeat (first | exact LM.pure _ | exact LM.fail | exact LM.read _ | exact LM.write _ _ | exact LM.new _ | assumption | refine LM.bind ?_ fun _ => ?_ | refine LM.opt fun _ => ?_ | refine LM.ite ?_ ?_ | split))
  ok := fun h ρ a w w0 hf hs hz => by
    obtain ⟨y, hy, h⟩ := hO_ok h
    obtain ⟨h1, h2⟩ := evO_spec hs hy
    cases y <;> first | (cases h; done) | skip
    rename_i n off
    obtain ⟨i, hi, h⟩ := hO_ok h
    (try dsimp only at h)
    cases hl : i.d <;> rw [hl] at h <;> first | (cases h; done) | skip
    rename_i l
    obtain ⟨p, hp, h⟩ := hO_ok h
    obtain ⟨rfl, rfl⟩ := hp_ok h
    rw [nthL_eq] at hp
    obtain ⟨fo, ft⟩ := p
    have := run_fieldAt_ok (P := P) (hT t i hi) hl hp ((ρ.blk n).getD (0, 0)).1 (((ρ.blk n).getD (0, 0)).2 + off) w
    refine Ends.val hz rfl (by simpa [Dm] using h2) ?_
    simp [execOp, hop, h1, cv, Env.at_, this, Nat.add_assoc]
theorem zix_spec {v : AV} {m a : Nat} (h : zix v m = some a) : (∃ k, v = .i k (a : Int)) ∧ a < m := by
  unfold zix at h
  split at h
  · split at h
    · rename_i b
      split at h
      · rename_i hb
        injection h with h; subst h
        exact ⟨⟨_, rfl⟩, blt_iff.1 hb⟩
      · cases h
    · cases h
  · cases h
theorem ops_ia (hT : TabOk P tab) {t : TypeId} {x y : Operand} (hop : o.op = .indexAddr t x y) : OpS P o (zIA tab t x y) where
  lm := fun ts => by unfold zIA; (repeat (first | exact LM.pure _ | exact LM.fail | exact LM.read _ | exact LM.write _ _ | exact LM.new _ | assumption | refine LM.bind ?_ fun _ => ?_ | refine LM.opt fun _ => ?_ | refine LM.ite ?_ ?_ | split))
  ok := fun h ρ a w w0 hf hs hz => by
    obtain ⟨v, hv, h⟩ := hO_ok h
    obtain ⟨u, hu, h⟩ := hO_ok h
    obtain ⟨h1, h2⟩ := evO_spec hs hv
    obtain ⟨h3, h4⟩ := evO_spec hs hu
    obtain ⟨i, hi, h⟩ := hO_ok h
    (try dsimp only at h)
    cases hl : i.d <;> rw [hl] at h <;> first | (cases h; done) | skip
    rotate_left
    · rename_i e
      obtain ⟨j, hj, h⟩ := hO_ok h
      obtain ⟨n, off, len, c, sk, rfl⟩ : ∃ n off len c sk, v = .l n off len c sk := by cases v <;> first | (cases h; done) | exact ⟨_, _, _, _, _, rfl⟩
      obtain ⟨b, hb, h⟩ := hO_ok h
      obtain ⟨rfl, rfl⟩ := hp_ok h
      obtain ⟨⟨k, rfl⟩, hlt⟩ := zix_spec hb
      refine Ends.val hz rfl (by simpa [Dm] using h2) ?_
      have e1 := (hT t i hi).sl hl
      have e2 := (hT e j hj).sz w
      have e3 : (0 : Int) ≤ b ∧ (b : Int) < len := by omega
      simp only [cv] at h1 h3
      simp [execOp, hop, h1, h3, cv, Env.at_, Instr.indexAt, run_underlying e1, asIntOf, e2, hlt, Addr.add_none, Nat.add_assoc]
    · rename_i m e
      obtain ⟨j, hj, h⟩ := hO_ok h
      obtain ⟨n, off, rfl⟩ : ∃ n off, v = .p n off := by cases v <;> first | (cases h; done) | exact ⟨_, _, rfl⟩
      obtain ⟨b, hb, h⟩ := hO_ok h
      obtain ⟨rfl, rfl⟩ := hp_ok h
      obtain ⟨⟨k, rfl⟩, hlt⟩ := zix_spec hb
      refine Ends.val hz rfl (by simpa [Dm] using h2) ?_
      have e1 := (hT t i hi).ar hl
      have e2 := (hT e j hj).sz w
      have e3 : (0 : Int) ≤ b ∧ (b : Int) < m := by omega
      simp only [cv] at h1 h3
      simp [execOp, hop, h1, h3, cv, Env.at_, Instr.indexAt, run_underlying e1, asIntOf, e2, hlt, Instr.sureAddr, Addr.add_none, Nat.add_assoc]
end
section
variable {P : Program} {tab : TT} {o : Oper}
theorem splice (pre a rest vs : List Value) (off : Nat) (h : off + vs.length ≤ a.length) : (pre ++ a ++ rest).take (pre.length + off) ++ vs ++ (pre ++ a ++ rest).drop (pre.length + off + vs.length) = pre ++ (a.take off ++ vs ++ a.drop (off + vs.length)) ++ rest := by
  rw [List.append_assoc pre a rest, List.take_length_add_append, Nat.add_assoc, List.drop_length_add_append, List.take_append_of_le_length (by omega), List.drop_append_of_le_length (by omega)]
  simp
theorem cs_put {ρ : Env} {w : World} {n : Nat} {p : Nat × Nat} {t : TypeId} {l vs : List AV} {op : Option Nat} {off : Nat} (hp : ρ.blk n = some p) (h : OH ρ n p.2 (.cs t l op) w.heap[p.1]?) (hv : DmL ρ vs) (h1 : ∀ v ∈ cvL ρ vs, v.oneCell' = true) (hl : off + vs.length ≤ l.length) :
    ∃ w', (storeCells (ρ.at_ n off) (cvL ρ vs)).run P w = .ok () w' ∧ w.grownBy w' (some p.1) ∧ OH ρ n p.2 (.cs t (setManyA l off vs) op) w'.heap[p.1]? := by
  obtain ⟨pre, rest, h2, h3, h4, h5⟩ := h
  obtain ⟨s1, s2, s3⟩ := setManyA_spec ρ off l vs hl
  have hat : (ρ.at_ n off) = ⟨p.1, p.2 + off, none⟩ := by simp [Env.at_, hp]
  have hst := run_storeCells_at P p.1 (p.2 + off) t (cvL ρ vs) 0 _ w h3 (by simp [cvL_len]; omega) h1
  rw [Nat.add_zero] at hst
  refine ⟨_, by rw [hat]; exact hst, grown_setRow, pre, rest, h2, ?_, s2 h4 hv, ?_⟩
  · rw [setRow_heap w p.1 _ _ t _ h3]
    congr 2
    rw [s1, setMany_eq _ _ _ (by rw [cvL_len, cvL_len]; exact hl)]
    rw [← h2, List.toList_toArray, splice _ _ _ _ _ (by rw [cvL_len, cvL_len]; exact hl)]
  · cases op with
    | none => exact h5
    | some sz => show ρ.cap n * sz = _; rw [s3]; exact h5
theorem ZS.setM {w0 w w' : World} {ρ : Env} {G : GH} (h : ZS w0 ρ G w) {n : Nat} {o o' : AO} (hn : G n = some o) {p : Nat × Nat} (hp : ρ.blk n = some p) (hg : w.grownBy w' (some p.1)) (ho : OH ρ n p.2 o' w'.heap[p.1]?) : ZS w0 ρ (setG G n (some o')) w' :=
  h.upd hn hp hg (Env.le.refl ρ) (fun _ _ _ => rfl) ho
theorem ops_store (hT : TabOk P tab) {t : TypeId} {x y : Operand} (hop : o.op = .store t x y) : OpS P o (zSt tab t x y) where
  lm := fun ts => by unfold zSt zStore hg; (repeat (first | exact LM.pure _ | exact LM.fail | exact LM.read _ | exact LM.write _ _ | exact LM.new _ | assumption | refine LM.bind ?_ fun _ => ?_ | refine LM.opt fun _ => ?_ | refine LM.ite ?_ ?_ | split))
  ok := fun {ts s v s'} h ρ a w w0 hf hs hz => by
    obtain ⟨u, hu, h⟩ := hO_ok h
    obtain ⟨x', hx, h⟩ := hO_ok h
    obtain ⟨i, hi, h⟩ := hO_ok h
    obtain ⟨h1, h2⟩ := evO_spec hs hu
    obtain ⟨h3, h4⟩ := evO_spec hs hx
    obtain ⟨c1, c2⟩ := cellsA_cv ρ x'
    unfold zStore at h
    split at h <;> first | (cases h; done) | skip
    rename_i n off
    obtain ⟨b1, h⟩ := hg_ok h
    obtain ⟨b2, h⟩ := hg_ok h
    obtain ⟨o, s1, e1, h⟩ := hb_ok h
    obtain ⟨g1, g2, g3⟩ := rdB_gt e1
    split at h <;> first | (cases h; done) | skip
    rename_i bt l op
    obtain ⟨b3, h⟩ := hg_ok h
    obtain ⟨u', s2, e2, h⟩ := hb_ok h
    obtain ⟨rfl, rfl⟩ := hp_ok h
    obtain ⟨_, g4, g5⟩ := wrB_gt e2
    obtain ⟨p, hp, hb, ho⟩ := hz.at_ g1
    have hone : ∀ v ∈ cvL ρ (cellsA x'), v.oneCell' = true := fun v hv => by
      rw [cvL_eq] at hv
      obtain ⟨y, hy, rfl⟩ := List.mem_map.1 hv
      exact notTL_spec (List.all_eq_true.1 b2 y hy)
    obtain ⟨w', r1, r2, r3⟩ := cs_put (P := P) hp ho (c2 h4) hone (Nat.le_of_ble_eq_true b3)
    have hsz : (cv ρ x').cells.size = i.size := by
      have := congrArg List.length c1
      rw [cvL_len, Nat.eq_of_beq_eq_true b1] at this
      simpa using this
    have hrun : (execOp a.eval o).run P w = .ok .skip w' := by
      simp only [cv] at h1
      simp [execOp, hop, h1, h3, Instr.storeAt, Instr.sureAddr, storeVar, (hT t i hi).sz, hsz, c1, r1]
    rw [hrun]
    refine ⟨ρ, Env.le.refl ρ, fun _ _ => rfl, by simp [cv, cvL, undef], by simp [Dm, DmL], ?_⟩
    rw [g4, g2]
    exact hz.setM g1 hp r2 r3
theorem DmL_dt {ρ : Env} {l : List AV} (h : DmL ρ l) (a b : Nat) : DmL ρ ((l.drop a).take b) := DmL_sub h fun _ hv => List.mem_of_mem_drop (List.mem_of_mem_take hv)
theorem cvL_dt (ρ : Env) (l : List AV) (a b : Nat) : cvL ρ ((l.drop a).take b) = ((cvL ρ l).drop a).take b := by simp [cvL_eq]
theorem part_run {t : TypeId} {j : TI} (hj : TIok P t j) {ρ : Env} {cs : List AV} {a : Nat} {r : AV} {s s' : Hp} (hd : DmL ρ cs) (h : (match rowD j.d with
      | true => hp (.g ((cs.drop a).take j.size))
      | false => hO (nthL cs a) hp : HM AV) s = .ok r s') (w : World) : s = s' ∧ Dm ρ r ∧ (part t (cvL ρ cs).toArray a).run P w = .ok (cv ρ r) w := by
  cases hr : rowD j.d with
  | true =>
    simp only [hr] at h
    obtain ⟨rfl, rfl⟩ := hp_ok h
    refine ⟨rfl, by simpa [Dm] using DmL_dt hd a j.size, ?_⟩
    rw [run_part_row hj (by rw [← rowD_eq]; exact hr) w]
    simp only [cv, cvL_dt]
    congr 2
    apply Array.ext'
    simp [List.extract_eq_drop_take]
  | false =>
    simp only [hr] at h
    obtain ⟨u, hu, h⟩ := hO_ok h
    obtain ⟨rfl, rfl⟩ := hp_ok h
    rw [nthL_eq] at hu
    exact ⟨rfl, DmL_get hd hu, run_part_sc hj (by rw [← rowD_eq]; exact hr) (by rw [List.getElem?_toArray, cvL_get, hu]; rfl) w⟩
theorem ops_fld (hT : TabOk P tab) {t : TypeId} {x : Operand} {f : Nat} (hop : o.op = .field t x f) : OpS P o (zFld tab t x f) where
  lm := fun ts => by unfold zFld; (repeat (first | exact LM.pure _ | exact LM.fail | exact LM.read _ | exact LM.write _ _ | exact LM.new _ | assumption | refine LM.bind ?_ fun _ => ?_ | refine LM.opt fun _ => ?_ | refine LM.ite ?_ ?_ | split))
  ok := fun h ρ a w w0 hf hs hz => by
    obtain ⟨y, hy, h⟩ := hO_ok h
    obtain ⟨h1, h2⟩ := evO_spec hs hy
    obtain ⟨cs, rfl⟩ : ∃ cs, y = .g cs := by cases y <;> first | (cases h; done) | exact ⟨_, rfl⟩
    obtain ⟨i, hi, h⟩ := hO_ok h
    (try dsimp only at h)
    cases hl : i.d <;> rw [hl] at h <;> first | (cases h; done) | skip
    rename_i l
    obtain ⟨p, hp, h⟩ := hO_ok h
    obtain ⟨j, hj, h⟩ := hO_ok h
    rw [nthL_eq] at hp
    simp only [Dm] at h2
    obtain ⟨rfl, h3, h4⟩ := part_run (hT p.2 j hj) h2 h w
    obtain ⟨fs, f1, f2, f3⟩ := (hT t i hi).st hl
    refine Ends.val hz rfl h3 ?_
    rw [← f2, List.getElem?_map] at hp
    obtain ⟨fd, hfd, rfl⟩ := Option.map_eq_some_iff.1 hp
    have hfd' : fs[f]? = some fd := by simpa using hfd
    simp [execOp, hop, h1, cv, Instr.field, run_underlying f1, hfd', asAgg, h4]
theorem ops_ix (hT : TabOk P tab) {t : TypeId} {x y : Operand} (hop : o.op = .index t x y) : OpS P o (zIx tab t x y) where
  lm := fun ts => by unfold zIx; (repeat (first | exact LM.pure _ | exact LM.fail | exact LM.read _ | exact LM.write _ _ | exact LM.new _ | assumption | refine LM.bind ?_ fun _ => ?_ | refine LM.opt fun _ => ?_ | refine LM.ite ?_ ?_ | split))
  ok := fun h ρ a w w0 hf hs hz => by
    obtain ⟨v, hv, h⟩ := hO_ok h
    obtain ⟨u, hu, h⟩ := hO_ok h
    obtain ⟨h1, h2⟩ := evO_spec hs hv
    obtain ⟨h3, h4⟩ := evO_spec hs hu
    obtain ⟨i, hi, h⟩ := hO_ok h
    (try dsimp only at h)
    cases hl : i.d <;> rw [hl] at h <;> first | (cases h; done) | skip
    rename_i m e
    obtain ⟨j, hj, h⟩ := hO_ok h
    obtain ⟨cs, rfl⟩ : ∃ cs, v = .g cs := by cases v <;> first | (cases h; done) | exact ⟨_, rfl⟩
    obtain ⟨b, hb, hx⟩ := hO_ok h
    obtain ⟨⟨k, rfl⟩, hlt⟩ := zix_spec hb
    simp only [Dm] at h2
    obtain ⟨rfl, h5, h6⟩ := part_run (hT e j hj) h2 hx w
    refine Ends.val hz rfl h5 ?_
    have e1 := (hT t i hi).ar hl
    have e2 := (hT e j hj).sz w
    simp only [cv] at h1 h3
    simp [execOp, hop, h1, h3, cv, Instr.index, run_underlying e1, asIntOf, e2, hlt, h6]
end
/-! ## Two values -/
structure FlatKey (P : Program) (t : TypeId) (ks : List CK) : Prop where
  eq : ∀ (xs ys : List AV), ckM ks xs = true → ckM ks ys = true → ∀ ρ w, (Op.equal t (.agg (cvL ρ xs).toArray) (.agg (cvL ρ ys).toArray)).run P w = .ok (zsame xs ys) w
  guard : P.eqGuardType P.depth t = false
def isShift : BinOp → Bool
  | .shl => true
  | .shr => true
  | _ => false
def isEq (op : BinOp) (b : Bool) : Option AV := match op with
  | .eql => some (.b b)
  | .neq => some (.b (!b))
  | _ => none
noncomputable def zBin (P : Program) (tab : TT) (fk : Nat → Option (List CK)) (op : BinOp) (t : TypeId) (v u : AV) : Option AV := match v with
  | .i k x => match u with
    | .i k' y => match isShift op with
      | true => zsh op k x y
      | false => match Nat.beq (knd k) (knd k') with
        | true => zar op k x y
        | false => none
    | _ => none
  | .b x => match u with
    | .b y => match P.underlying t with
      | some .bool => isEq op (x == y)
      | _ => none
    | _ => none
  | .g xs => match u with
    | .g ys => match fk t with
      | some ks => match ckM ks xs with
        | true => match ckM ks ys with
          | true => isEq op (zsame xs ys)
          | false => none
        | false => none
      | none => none
    | _ => none
  | .pn => match P.underlying t with
    | some (.pointer _) => match u with
      | .pn => isEq op true
      | .p _ _ => isEq op false
      | _ => none
    | _ => none
  | .p _ _ => match P.underlying t with
    | some (.pointer _) => match u with
      | .pn => isEq op false
      | _ => none
    | _ => none
  | .l _ _ _ _ _ => match P.underlying t with
    | some (.slice _) => match u with
      | .ln => isEq op false
      | _ => none
    | _ => none
  | .ln => match P.underlying t with
    | some (.slice _) => match u with
      | .ln => isEq op true
      | _ => none
    | _ => none
  | .m _ => match P.underlying t with
    | some (.map _ _) => match u with
      | .mn => isEq op false
      | _ => none
    | _ => none
  | .mn => match P.underlying t with
    | some (.map _ _) => match u with
      | .mn => isEq op true
      | _ => none
    | _ => none
  | _ => none
noncomputable def zBinO (P : Program) (tab : TT) (fk : Nat → Option (List CK)) (op : BinOp) (t : TypeId) (x y : Operand) (ts : TL) : HM AV := hO (evO ts x) fun v => hO (evO ts y) fun u => hO (zBin P tab fk op t v u) hp
section
variable {P : Program} {tab : TT} {o : Oper} {fk : Nat → Option (List CK)}
theorem isEq_run {op : BinOp} {b : Bool} {r : AV} (h : isEq op b = some r) {t : TypeId} {x y : Operand} {X Y : Value} {w : World} (hg : ∀ op, (eqGuard op t x y X Y).run P w = .ok () w) (he : (Op.equal t X Y).run P w = .ok b w) (hb : binOp .eql t X Y = (do pure (.bool (← Op.equal t X Y)))) (hb' : binOp .neq t X Y = (do pure (.bool (!(← Op.equal t X Y)))))
    (ρ : Env) : ((do eqGuard op t x y X Y; binOp op t X Y : Sem Value)).run P w = .ok (cv ρ r) w ∧ Dm ρ r := by
  cases op <;> simp only [isEq] at h <;> first | (cases h; done) | skip
  all_goals
    injection h with h; subst h
    simp [Sem.run_bind, hg, hb, hb', he, cv, Dm]
theorem eg_val {op : BinOp} {t : TypeId} {x y : Operand} {X Y : Value} {w : World} (h1 : X ≠ .nilIface) (h2 : ∀ a, X ≠ .agg a) : (eqGuard op t x y X Y).run P w = .ok () w := by
  cases X <;> first | exact absurd rfl h1 | exact absurd rfl (h2 _) | (simp only [eqGuard, Sem.run_bind, Sem.run_ite]; split <;> rfl)
theorem eqp1 (d : Nat) {t e : TypeId} (hu : P.underlying t = some (.pointer e)) (b : Option Addr) (w : World) : (Op.equalIn (d + 1) t (.pointer none) (.pointer b)).run P w = .ok b.isNone w := by simp [Op.equalIn, run_underlying hu]
theorem eqp2 (d : Nat) {t e : TypeId} (hu : P.underlying t = some (.pointer e)) (b : Addr) (w : World) : (Op.equalIn (d + 1) t (.pointer (some b)) (.pointer none)).run P w = .ok false w := by simp [Op.equalIn, run_underlying hu]
theorem eqs1 (d : Nat) {t e : TypeId} (hu : P.underlying t = some (.slice e)) (b : Option Addr) (l c l' c' : Nat) (w : World) : (Op.equalIn (d + 1) t (.slice none l c) (.slice b l' c')).run P w = .ok b.isNone w := by simp [Op.equalIn, run_underlying hu]
theorem eqs2 (d : Nat) {t e : TypeId} (hu : P.underlying t = some (.slice e)) (b : Addr) (l c l' c' : Nat) (w : World) : (Op.equalIn (d + 1) t (.slice (some b) l c) (.slice none l' c')).run P w = .ok false w := by simp [Op.equalIn, run_underlying hu]
theorem eqm1 (d : Nat) {t k e : TypeId} (hu : P.underlying t = some (.map k e)) (b : Option Nat) (w : World) : (Op.equalIn (d + 1) t (.map none) (.map b)).run P w = .ok b.isNone w := by simp [Op.equalIn, run_underlying hu]
theorem eqm2 (d : Nat) {t k e : TypeId} (hu : P.underlying t = some (.map k e)) (b : Nat) (w : World) : (Op.equalIn (d + 1) t (.map (some b)) (.map none)).run P w = .ok false w := by simp [Op.equalIn, run_underlying hu]
theorem zBin_run {op : BinOp} {t : TypeId} {v u r : AV} (hF : ∀ t ks, fk t = some ks → FlatKey P t ks) (h : zBin P tab fk op t v u = some r) (x y : Operand) (ρ : Env) (w : World) : ((do eqGuard op t x y (cv ρ v) (cv ρ u); binOp op t (cv ρ v) (cv ρ u) : Sem Value)).run P w = .ok (cv ρ r) w ∧ Dm ρ r := by
  unfold zBin at h
  split at h
  · -- numbers
    split at h
    · rename_i k x' _ k' y'
      have hg : (eqGuard op t x y (cv ρ (.i k x')) (cv ρ (.i k' y'))).run P w = .ok () w := eg_val (by simp [cv]) (by simp [cv])
      rw [Sem.run_bind, hg]
      cases hsh : isShift op with
      | true => simp only [hsh] at h; exact zsh_run h t ρ w
      | false =>
        simp only [hsh] at h
        split at h
        · rename_i hk
          obtain rfl := knd_inj hk
          exact zar_run h t ρ w (by cases op <;> simp [isShift] at hsh ⊢)
        · cases h
    · cases h
  · split at h
    · rename_i x' _ y'
      split at h
      · rename_i hu
        refine isEq_run h (fun op => eg_val (by simp [cv]) (by simp [cv])) ?_ rfl rfl ρ
        simp only [cv, Op.equal, Op.maxDepth]
        exact run_equalIn_bool' w 9999 t x' y' hu
      · cases h
    · cases h
  · split at h
    · rename_i xs _ ys
      split at h
      · rename_i ks hks
        have hk := hF t ks hks
        split at h
        · rename_i m1
          split at h
          · rename_i m2
            refine isEq_run h (fun op => run_eqGuard_agg w op t x y _ _ hk.guard) (hk.eq xs ys m1 m2 ρ w) rfl rfl ρ
          · cases h
        · cases h
      · cases h
    · cases h
  all_goals first
    | (cases h; done)
    | (split at h <;> first | (cases h; done) | skip
       rename_i hu
       split at h <;> first | (cases h; done) | (refine isEq_run h (fun op => eg_val (by simp [cv]) (by simp [cv])) ?_ rfl rfl ρ; simp only [cv, Op.equal, Op.maxDepth]; first | exact eqp1 9999 hu _ w | exact eqp2 9999 hu _ w | exact eqs1 9999 hu _ _ _ _ _ w | exact eqs2 9999 hu _ _ _ _ _ w | exact eqm1 9999 hu _ w | exact eqm2 9999 hu _ w))
theorem ops_bin (hF : ∀ t ks, fk t = some ks → FlatKey P t ks) {op : BinOp} {t tt : TypeId} {x y : Operand} (hop : o.op = .binOp op t x y tt) : OpS P o (zBinO P tab fk op t x y) where
  lm := fun ts => by unfold zBinO; (repeat (first | exact LM.pure _ | exact LM.fail | exact LM.read _ | exact LM.write _ _ | exact LM.new _ | assumption | refine LM.bind ?_ fun _ => ?_ | refine LM.opt fun _ => ?_ | refine LM.ite ?_ ?_ | split))
  ok := fun h ρ a w w0 hf hs hz => by
    obtain ⟨v, hv, h⟩ := hO_ok h
    obtain ⟨u, hu, h⟩ := hO_ok h
    obtain ⟨r, hr, h⟩ := hO_ok h
    obtain ⟨rfl, rfl⟩ := hp_ok h
    obtain ⟨h1, h2⟩ := evO_spec hs hv
    obtain ⟨h3, h4⟩ := evO_spec hs hu
    obtain ⟨h5, h6⟩ := zBin_run hF hr x y ρ w
    refine Ends.val hz rfl h6 ?_
    simp only [execOp, hop, h1, h3]
    rw [Sem.run_bind, h5]
    rfl
end
end Go.Proofs.YtiodmphhjgkgjaaGreat
