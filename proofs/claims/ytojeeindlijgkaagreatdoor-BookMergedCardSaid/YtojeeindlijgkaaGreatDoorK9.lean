/- Calls of function values: lemmas for the rows of this seat. No conditions. -/
import Derived.Laws.StructEq
import Derived.Test.YtojeeindlijgkaaGreatDoorK5
set_option linter.all false
namespace Go.Proofs.YtojeeindlijgkaaGreatDoor
open Go.RowKit
/-! ## Calls of function values -/
section
variable {P : Program} {w0 : World} {n : Nat} {ds : List Deferred} {ops : List Oper} {o : Oper} {os : List Oper} {ks : List Kind} {ts : TS} {A : List Chunk} {K : TS → List Chunk → Prop} {d : Tmp} {f : FuncId} {x : Operand} {xs : Array Operand} {ats : Array TypeId} {us bs vs avs : List Value}
/-- A call that makes memory of which something is said. -/
theorem ot_callC {X : Type} (v : X → Value) (A' : X → List Chunk) (p : X → Prop) (hm : ∀ x, ∀ c ∈ A' x, c.mut = true) (hh : ks.headD .wr ≠ .rd) (hop : o.op = .call { callee := .value x, args := xs, argTypes := ats }) (hd : o.dst = some d) (hw : wantB ops ts o = some true) (hf : evT ts x = some (.func (.func f) us.toArray vs.toArray)) (hb : hasBody P f = true) (ha : EvL ts xs.toList bs) (hl : us ++ bs ++ vs = avs)
  (hc : ∀ w, St w0 A w → Calls P f avs.toArray w fun e w' => ∃ x, e = .returned (v x) ∧ p x ∧ St w (A' x) w') (hk : ∀ x, p x → OT P w0 n ds ops os ks.tail ((d, v x) :: ts) (A' x ++ A) K) : OT P w0 n ds ops (o :: os) ks ts A K := by
 subst hl
 refine ot_cr hh fun a w hh => ?_
 unfold wpV
 rw [if_pos (wantB_spec hh hw)]
 refine callv_upV hh hop hf hb ha ((hc w hh.st).mono fun e w' hr => ?_)
 obtain ⟨x, rfl, hp, hr⟩ := hr
 exact ⟨_, rfl, _, fun _ => hr.base, hh.st.join hr (hm x), by rw [hd]; exact hk x hp⟩
/-- A call that writes to what is the caller's own. -/
theorem ot_callW {X : Type} (v : X → Value) (A' : X → List Chunk) (p : X → Prop) (hh : ks.headD .wr = .wr) (hop : o.op = .call { callee := .value x, args := xs, argTypes := ats }) (hd : o.dst = some d) (hw : wantB ops ts o = some true) (hf : evT ts x = some (.func (.func f) us.toArray vs.toArray)) (hb : hasBody P f = true) (ha : EvL ts xs.toList bs) (hl : us ++ bs ++ vs = avs)
  (hc : ∀ w, St w0 A w → Calls P f avs.toArray w fun e w' => ∃ x, e = .returned (v x) ∧ p x ∧ St w0 (A' x) w') (hk : ∀ x, p x → OT P w0 n ds ops os ks.tail ((d, v x) :: ts) (A' x) K) : OT P w0 n ds ops (o :: os) ks ts A K := by
 subst hl
 refine ot_wr hh fun a w hh => ?_
 unfold wpV
 rw [if_pos (wantB_spec hh hw)]
 refine callv_upV hh hop hf hb ha ((hc w hh.st).mono fun e w' hr => ?_)
 obtain ⟨x, rfl, hp, hr⟩ := hr
 exact ⟨_, rfl, _, (fun e => by cases e), hr, by rw [hd]; exact hk x hp⟩
theorem ot_callW0 {X : Type} (v : X → Value) (A' : X → List Chunk) (p : X → Prop) (hh : ks.headD .wr = .wr) (hop : o.op = .call { callee := .value x, args := xs, argTypes := ats }) (hd : o.dst = none) (hw : wantB ops ts o = some true) (hf : evT ts x = some (.func (.func f) us.toArray vs.toArray)) (hb : hasBody P f = true) (ha : EvL ts xs.toList bs) (hl : us ++ bs ++ vs = avs)
  (hc : ∀ w, St w0 A w → Calls P f avs.toArray w fun e w' => ∃ x, e = .returned (v x) ∧ p x ∧ St w0 (A' x) w') (hk : ∀ x, p x → OT P w0 n ds ops os ks.tail ts (A' x) K) : OT P w0 n ds ops (o :: os) ks ts A K := by
 subst hl
 refine ot_wr hh fun a w hh => ?_
 unfold wpV
 rw [if_pos (wantB_spec hh hw)]
 refine callv_upV hh hop hf hb ha ((hc w hh.st).mono fun e w' hr => ?_)
 obtain ⟨x, rfl, hp, hr⟩ := hr
 exact ⟨_, rfl, _, (fun e => by cases e), hr, by rw [hd]; exact hk x hp⟩
/-- A call that only computes something of which something is said. -/
theorem ot_callQ {X : Type} (v : X → Value) (p : X → Prop) (hh : ks.headD .wr ≠ .rd) (hop : o.op = .call { callee := .value x, args := xs, argTypes := ats }) (hd : o.dst = some d) (hw : wantB ops ts o = some true) (hf : evT ts x = some (.func (.func f) us.toArray vs.toArray)) (hb : hasBody P f = true) (ha : EvL ts xs.toList bs) (hl : us ++ bs ++ vs = avs)
  (hc : ∀ w, St w0 A w → Calls P f avs.toArray w fun e w' => ∃ x, e = .returned (v x) ∧ p x ∧ Below w.heap.size w w') (hk : ∀ x, p x → OT P w0 n ds ops os ks.tail ((d, v x) :: ts) A K) : OT P w0 n ds ops (o :: os) ks ts A K :=
 ot_callC v (fun _ => []) p (fun _ _ h => by cases h) hh hop hd hw hf hb ha hl (fun w hs => (hc w hs).mono fun e w' ⟨x, h1, h2, h3⟩ => ⟨x, h1, h2, St.nil h3⟩) hk
end
/-! ## does, stock -/
set_option maxRecDepth 20000 in
theorem does_any (gs : Nat) (recv : Value) (x : Ln) (f : Nat → Int) (hx : LnOk x) (hf : ∀ k, -100000 ≤ f k ∧ f k ≤ 100000) {c0 : Chunk} {A : List Chunk} {w0 w : World} (hs : St w0 (c0 :: .blk gs 78 (fnC f 8) :: A) w) :
  Calls Tryz.prog 83 #[recv, .pointer (some ⟨gs, 0, none⟩), lnV x] w fun e w' => e = .returned (.tuple #[]) ∧ St w0 (c0 :: .blk gs 78 (fnC (stStep 999 f x) 8) :: A) w' := by
 have hst : stStep 999 f x = fun k => if k = x.th.toNat then (if x.kd = 2 then 0 else f k) + x.vl else f k := if_neg (by have := hx.st; omega)
 rw [hst]
 clear hst
 obtain ⟨st, ck, kd, th, vl⟩ := x
 have o3 := hx.th
 have o4 := hx.vl
 have o2 := hx.kd
 clear hx
 unfold lnV
 dsimp only at *
 obtain ⟨k, rfl, hk⟩ := toNat_eq o3.1
 rw [hk]
 have hfk := hf k
 refine fn_v tk (n := 25) (A := c0 :: .blk gs 78 (fnC f 8) :: A) Tryz.func83 rfl rfl (Nat.le_of_ble_eq_true rfl) hs ?_
 have cf := fun (f : Nat → Int) A (hA : Chunk.blk gs 78 (fnC f 8) ∈ A) => cell_fnC (w0 := w0) (j := k) hA (by omega)
 rcases o2 with rfl | rfl
 ·((conv => whnf); (repeat ((first | (apply VStop.mk; refine tr_region_draw (id := 3) (by kernel_rfl) [0, 1, 2, 3, 4, 5, 6, 7, 8, 9, 10, 11] [.rd, .rd, .rd, .rd, .rd, .rd, .rd, .rd, .rd, .rd, .rd, .wr] rfl (by kernel_rfl) ?_; apply ot_v tk) | (apply VLd.mk; first | exact cf _ _ (.tail _ (.tail _ (.head _)))) | (apply VIx.mk (j := k); exact rfl; omega) | (apply VSt.old; (focus (repeat (first | (with_reducible exact Upd.here) | (with_reducible apply Upd.there))); done); exact ble_fnC (by omega); exact setMany_fnC1 (by omega)) | (apply VLd.mk; (focus ((repeat (first | ((with_reducible apply ld_blk); exact rfl) | (with_reducible apply ld_skip))); done))) | (apply VRng.mk; omega) | apply VBr.f | (apply v_f; omega) | (apply VNew.mk; intro g hg)); (conv => whnf))))
  (apply VRet.mk)
  refine ret0 (by first | exact .inl rfl | exact .inr rfl) rfl ?_
  exact fun w h => ⟨rfl, by
   have e : fnC (fun j => if j = k then (if (1 : Int) = 2 then 0 else f j) + vl else f j) 8 = fnC (fun i => if i = k then f k + vl else f i) 8 := fnC_congr fun i hi => by split <;> simp_all
   rw [e]
   exact h.sub (.cons _ (List.Sublist.refl _))⟩
 ·((conv => whnf); (repeat ((first | (apply VStop.mk; (first | refine tr_region_draw (id := 2) (by kernel_rfl) [0, 1, 2, 3, 4, 5] [.rd, .rd, .rd, .rd, .rd, .wr] rfl (by kernel_rfl) ?_ | refine tr_region_draw (id := 3) (by kernel_rfl) [0, 1, 2, 3, 4, 5, 6, 7, 8, 9, 10, 11] [.rd, .rd, .rd, .rd, .rd, .rd, .rd, .rd, .rd, .rd, .rd, .wr] rfl (by kernel_rfl) ?_); apply ot_v tk) | (apply VLd.mk; first | exact cf _ _ (.tail _ (.tail _ (.head _)))) | (apply VIx.mk (j := k); exact rfl; omega) | (apply VSt.old; (focus (repeat (first | (with_reducible exact Upd.here) | (with_reducible apply Upd.there))); done); exact ble_fnC (by omega); exact setMany_fnC1 (by omega)) | (apply VLd.mk; (focus ((repeat (first | ((with_reducible apply ld_blk); exact rfl) | (with_reducible apply ld_skip))); done))) | (apply VRng.mk; omega) | apply VBr.t | (apply v_t; omega) | (apply VNew.mk; intro g hg)); (conv => whnf))))
  (apply VRet.mk)
  refine ret0 (by first | exact .inl rfl | exact .inr rfl) rfl ?_
  exact fun w h => ⟨rfl, by
   have e : fnC (fun j => if j = k then (if (2 : Int) = 2 then 0 else f j) + vl else f j) 8 = fnC (fun i => if i = k then (if k = k then 0 else f k) + vl else (if i = k then 0 else f i)) 8 := fnC_congr fun i hi => by split <;> simp_all
   rw [e]
   exact h.sub (.cons _ (List.Sublist.refl _))⟩
theorem run_eqItems_ints {P : Program} {w : World} {e : TypeId} (he : P.underlying e = some (.int .i64)) (d : Nat) (L M : List Int) : ∀ is : List Nat, (∀ i ∈ is, i < L.length ∧ i < M.length) →
  (Op.eqItems (d + 1) e 1 (i64s L).toArray (i64s M).toArray is).run P w = .ok (is.all (fun i => L[i]?.getD 0 == M[i]?.getD 0)) w := by
 intro is
 induction is with
 | nil => intro _; rfl
 | cons i is ih =>
  intro h
  obtain ⟨h1, h2⟩ := h i (by simp)
  have p1 : (part e (i64s L).toArray i).run P w = .ok (.int .i64 (L[i]?.getD 0)) w := run_part_int he _ _ _ _ (by simp [i64s, h1])
  have p2 : (part e (i64s M).toArray i).run P w = .ok (.int .i64 (M[i]?.getD 0)) w := run_part_int he _ _ _ _ (by simp [i64s, h2])
  have p3 := run_equalIn_int (P := P) w d e .i64 .i64 (L[i]?.getD 0) (M[i]?.getD 0) he
  simp only [Op.eqItems, Nat.mul_one, Sem.run_bind, p1, p2, p3, Result.andThen_ok, List.all_cons]
  cases hb : (L[i]?.getD 0 == M[i]?.getD 0)
  ·simp
  ·simp only [Bool.not_true, Bool.false_eq_true, if_false, Bool.true_and]
   exact ih (fun j hj => h j (List.mem_cons_of_mem _ hj))
theorem run_equal_ints {P : Program} {w : World} {t e : TypeId} {n : Nat} {i : TypeInfo} (ht : P.underlying t = some (.array n e)) (he : P.underlying e = some (.int .i64)) (hi : P.info? e = some i) (hc : P.cellsOf e = 1) (L M : List Int) (hL : L.length = n) (hM : M.length = n) :
  (Op.equal t (.agg (i64s L).toArray) (.agg (i64s M).toArray)).run P w = .ok ((List.range n).all (fun i => L[i]?.getD 0 == M[i]?.getD 0)) w := by
 rw [show Op.equal t = Op.equalIn (9998 + 1 + 1) t from rfl, run_equalIn_array w _ _ _ ht hi, hc]
 exact run_eqItems_ints he 9998 L M _ (fun i hi => by have := List.mem_range.1 hi; omega)
def stV (f : Nat → Int) : Value := .agg #[.int .i64 (f 0), .int .i64 (f 1), .int .i64 (f 2), .int .i64 (f 3), .int .i64 (f 4), .int .i64 (f 5), .int .i64 (f 6), .int .i64 (f 7)]
theorem st_eq (f : Nat → Int) : ∃ b : Bool, (b = true → fnC f 8 = fnC (fun _ => 0) 8) ∧ ∀ w, (Op.equal 78 (stV f) (stV fun _ => 0)).run Tryz.prog w = .ok b w := by
 have hu : Tryz.prog.underlying 2 = some (.int .i64) := by kernel_rfl
 obtain ⟨i, hi⟩ := info_of_underlying hu
 refine ⟨_, fun hb => ?_, fun w => run_equal_ints (t := 78) (e := 2) (n := 8) (by kernel_rfl) hu hi (by kernel_rfl) [f 0, f 1, f 2, f 3, f 4, f 5, f 6, f 7] [0, 0, 0, 0, 0, 0, 0, 0] rfl rfl⟩
 have h := List.all_eq_true.1 hb
 refine fnC_congr fun i hi => ?_
 have := h i (List.mem_range.2 hi)
 obtain rfl | rfl | rfl | rfl | rfl | rfl | rfl | rfl : i = 0 ∨ i = 1 ∨ i = 2 ∨ i = 3 ∨ i = 4 ∨ i = 5 ∨ i = 6 ∨ i = 7 := by omega
 all_goals simpa using this
theorem stF_cut {a : Int} {l : List Ln} : ∀ {k j : Nat}, j + k = l.length → (∀ i, j ≤ i → i < l.length → a < (lnAt l i).st) → stF a l = stF a (l.take j)
 | 0, j, hj, _ => by rw [show j = l.length by omega, List.take_length]
 | k + 1, j, hj, h => by
  rw [stF_cut (k := k) (j := j + 1) (by omega) fun i h1 h2 => h i (by omega) h2, stF_step a (by omega)]
  exact if_pos (h j (by omega) (by omega))
theorem stStep_big {a : Int} {f : Nat → Int} {x : Ln} (hx : LnOk x) (h : ¬a < x.st) : stStep a f x = stStep 999 f x := by
 unfold stStep
 rw [if_neg h, if_neg (by have := hx.st; omega)]
set_option maxRecDepth 20000 in
theorem stock56_any (a : Int) (gd : Nat) (B : Option Addr) (c : Nat) (l : List Ln) (w : World) (hd : w.cell? ⟨gd, 0, none⟩ = some (.slice B l.length c)) (h : BookR w B l) (hV : Valid l) : Calls Tryz.prog 56 #[.pointer (some ⟨gd, 0, none⟩), .int .i64 a] w fun e w' => e = .returned (stV (stF a l)) ∧ Below w.heap.size w w' := by
 have hm := hV.len
 have cd : ∀ A, CellAt w A gd 0 _ := fun A => CellAt.base hd
 refine fn_v tk (n := 34) (A := []) Tryz.func56 rfl rfl (Nat.le_of_ble_eq_true rfl) (St.nil (Below.refl _ _)) ?_
 ((conv => whnf); (repeat ((first | (apply VLd.mk; exact cd _) | (apply VNew.mk; intro g hg)); (conv => whnf))); apply VStop.mk)
 revert g hg
 intro g5 hg5
 revert g hg
 intro g4 hg4
 refine v_loop (fun gm ds ts A => ds = [] ∧ ∃ j : Nat, j + gm = l.length ∧ A = [.blk g5 78 (fnC (stF a (l.take j)) 8), .blk g4 78 (fnC (fun _ => 0) 8)] ∧ ts = [(1, .int .i64 a), (4, .pointer (some ⟨g4, 0, none⟩)), (5, .pointer (some ⟨g5, 0, none⟩)), (6, .func (.func 83) #[.pointer (some ⟨gd, 0, none⟩)] #[]), (15, .slice B l.length c), (16, .int .i64 (l.length : Int)), (17, .int .i64 (j : Int))]) l.length (l := [(1, _), (4, _), (5, _), (6, _), (15, _), (16, _), (17, _)]) (B := _) ?_ (List.Sublist.refl _) ⟨rfl, 0, by omega, rfl, rfl⟩ ?_
 ·exact ⟨rfl, rfl, rfl, rfl, rfl, rfl, rfl, trivial⟩
 rintro gm ds ts A ⟨rfl, j, hj, rfl, rfl⟩
 by_cases hlt : j < l.length
 ·obtain ⟨b, o, rfl⟩ := book_addr h hlt
  have c1 := fun A => ln_cells h hlt A
  have hst := stF_step a hlt
  have hbd := stF_bd a hV.ok j (by omega)
  have ok := hV.lnOk hlt
  have kd := fun (f : Nat → Int) (hf : ∀ k, -100000 ≤ f k ∧ f k ≤ 100000) {c0 : Chunk} {A : List Chunk} {w1 : World} (hs : St w (c0 :: .blk g5 78 (fnC f 8) :: A) w1) => does_any g5 (.pointer (some ⟨gd, 0, none⟩)) (lnAt l j) f ok hf hs
  have hcut := stF_cut (a := a) (l := l) (k := l.length - j) (j := j) (by omega)
  have hlater : a < (lnAt l j).st → ∀ i, j ≤ i → i < l.length → a < (lnAt l i).st := fun h1 i h2 h3 => by
   rcases Nat.eq_or_lt_of_le h2 with rfl | h2
   ·exact h1
   ·have := before_iff.1 (hV.ord j i h2 h3); omega
  have hbig := fun f h => stStep_big (a := a) (f := f) ok h
  unfold lnL at c1
  unfold lnV at kd
  generalize lnAt l j = x at *
  generalize hf : stF a (l.take j) = f at *
  by_cases e1 : a < x.st
  ·have hz := hcut (hlater e1)
   obtain ⟨be, hb1, hb2⟩ := st_eq f
   rw [hz]
   cases be
   ·(apply tr_v tk; (conv => whnf); (repeat ((first | (apply VStop.mk; (refine ot_build0 (t := 78) tk rfl rfl rfl rfl rfl (fun m e h => by cases h; exact ⟨_, rfl⟩) ?_); apply ot_v tk) | (apply VLdN.mk; exact c1 _; exact rfl) | (apply VIx.mk (j := j); exact rfl; omega) | (apply VEq.mk false; kernel_rfl; exact hb2) | (apply VLd.mk; (focus ((repeat (first | ((with_reducible apply ld_blk); exact rfl) | (with_reducible apply ld_skip))); done))) | (apply VLdN.mk; (focus ((repeat (first | (with_reducible apply ldn_blk) | (with_reducible apply ldn_skip))); done)); exact rfl) | apply VBr.t | apply VBr.f | (apply v_t; omega) | (apply VNew.mk; intro g hg) | (apply VSt.mk; (focus ((repeat (first | (with_reducible exact At.here) | (with_reducible apply At.there))); done)); exact rfl)); (conv => whnf))))
    ((apply VRet.mk); refine ret1 (by first | exact .inl rfl | exact .inr rfl) rfl (by exact rv_row tk rfl rfl rfl (by first | exact cells_blk_all (by (repeat (first | exact List.Mem.head _ | assumption | refine List.Mem.tail _ ?_))) | exact cells_row0 (by (repeat (first | exact List.Mem.head _ | assumption | refine List.Mem.tail _ ?_)))) rfl) ?_; exact fun w h => ⟨rfl, h.base⟩)
   ·(apply tr_v tk; (conv => whnf); (repeat ((first | (apply VStop.mk; (refine ot_build0 (t := 78) tk rfl rfl rfl rfl rfl (fun m e h => by cases h; exact ⟨_, rfl⟩) ?_); apply ot_v tk) | (apply VLdN.mk; exact c1 _; exact rfl) | (apply VIx.mk (j := j); exact rfl; omega) | (apply VEq.mk true; kernel_rfl; exact hb2) | (apply VLd.mk; (focus ((repeat (first | ((with_reducible apply ld_blk); exact rfl) | (with_reducible apply ld_skip))); done))) | (apply VLdN.mk; (focus ((repeat (first | (with_reducible apply ldn_blk) | (with_reducible apply ldn_skip))); done)); exact rfl) | apply VBr.t | (apply v_t; omega) | (apply VNew.mk; intro g hg) | (apply VSt.mk; (focus ((repeat (first | (with_reducible exact At.here) | (with_reducible apply At.there))); done)); exact rfl)); (conv => whnf))))
    (apply VRet.mk)
    refine ret1 (by first | exact .inl rfl | exact .inr rfl) rfl (by exact rv_row tk rfl rfl rfl (by first | exact cells_blk_all (by (repeat (first | exact List.Mem.head _ | assumption | refine List.Mem.tail _ ?_))) | exact cells_row0 (by (repeat (first | exact List.Mem.head _ | assumption | refine List.Mem.tail _ ?_)))) rfl) ?_
    exact fun w h => ⟨by show Ending.returned (Value.agg (fnC (fun _ => 0) 8).toArray) = .returned (.agg (fnC f 8).toArray); rw [hb1 rfl], h.base⟩
  ·rw [hbig f e1] at hst
   have hfb : ∀ k, -100000 ≤ f k ∧ f k ≤ 100000 := fun k => by have := hbd k; omega
   (apply tr_v tk; (conv => whnf); (repeat ((first | (apply VCall.stop; (refine ot_callW (X := Unit) (us := [.pointer (some ⟨gd, 0, none⟩)]) (vs := []) (fun _ => .tuple #[]) (fun _ => _ :: .blk g5 78 (fnC (stStep 999 f x) 8) :: _) (fun _ => True) rfl rfl rfl rfl rfl (by kernel_rfl) (evl_of rfl) rfl (fun w1 hs => (kd f hfb hs).mono fun e w' h => ⟨(), h.1, trivial, h.2⟩) (fun _ _ => ?_)); apply ot_v tk) | (apply VLdN.mk; exact c1 _; exact rfl) | (apply VIx.mk (j := j); exact rfl; omega) | (apply VLd.mk; (focus ((repeat (first | ((with_reducible apply ld_blk); exact rfl) | (with_reducible apply ld_skip))); done))) | (apply VLdN.mk; (focus ((repeat (first | (with_reducible apply ldn_blk) | (with_reducible apply ldn_skip))); done)); exact rfl) | (apply VRng.mk; omega) | apply VBr.t | apply VBr.f | (apply v_t; omega) | (apply v_f; omega) | (apply VNew.mk; intro g hg) | (apply VSt.mk; (focus ((repeat (first | (with_reducible exact At.here) | (with_reducible apply At.there))); done)); exact rfl)); (conv => whnf))))
   exact v_rnd (gm - 1) (by omega) (l := [(1, _), (4, _), (5, _), (6, _), (15, _), (16, _), (17, _)]) (B := _) ⟨rfl, rfl, rfl, rfl, rfl, rfl, rfl, trivial⟩ (.cons _ (List.Sublist.refl _)) ⟨rfl, j + 1, by omega, by rw [hst], rfl⟩
 obtain rfl : j = l.length := by omega
 rw [List.take_length]
 obtain ⟨be, hb1, hb2⟩ := st_eq (stF a l)
 cases be
 ·(apply tr_v tk; (conv => whnf); (repeat ((first | (apply VStop.mk; (refine ot_build0 (t := 78) tk rfl rfl rfl rfl rfl (fun m e h => by cases h; exact ⟨_, rfl⟩) ?_); apply ot_v tk) | (apply VEq.mk false; kernel_rfl; exact hb2) | (apply VLdN.mk; (focus ((repeat (first | (with_reducible apply ldn_blk) | (with_reducible apply ldn_skip))); done)); exact rfl) | apply VBr.f | (apply v_f; omega) | (apply VSt.mk; (focus ((repeat (first | (with_reducible exact At.here) | (with_reducible apply At.there))); done)); exact rfl)); (conv => whnf))))
  ((apply VRet.mk); refine ret1 (by first | exact .inl rfl | exact .inr rfl) rfl (by exact rv_row tk rfl rfl rfl (by first | exact cells_blk_all (by (repeat (first | exact List.Mem.head _ | assumption | refine List.Mem.tail _ ?_))) | exact cells_row0 (by (repeat (first | exact List.Mem.head _ | assumption | refine List.Mem.tail _ ?_)))) rfl) ?_; exact fun w h => ⟨rfl, h.base⟩)
 ·(apply tr_v tk; (conv => whnf); (repeat ((first | (apply VStop.mk; (refine ot_build0 (t := 78) tk rfl rfl rfl rfl rfl (fun m e h => by cases h; exact ⟨_, rfl⟩) ?_); apply ot_v tk) | (apply VEq.mk true; kernel_rfl; exact hb2) | (apply VLdN.mk; (focus ((repeat (first | (with_reducible apply ldn_blk) | (with_reducible apply ldn_skip))); done)); exact rfl) | apply VBr.t | apply VBr.f | (apply v_f; omega) | (apply VSt.mk; (focus ((repeat (first | (with_reducible exact At.here) | (with_reducible apply At.there))); done)); exact rfl)); (conv => whnf))))
  (apply VRet.mk)
  refine ret1 (by first | exact .inl rfl | exact .inr rfl) rfl (by exact rv_row tk rfl rfl rfl (by first | exact cells_blk_all (by (repeat (first | exact List.Mem.head _ | assumption | refine List.Mem.tail _ ?_))) | exact cells_row0 (by (repeat (first | exact List.Mem.head _ | assumption | refine List.Mem.tail _ ?_)))) rfl) ?_
  exact fun w h => ⟨by show Ending.returned (Value.agg (fnC (fun _ => 0) 8).toArray) = .returned (.agg (fnC (stF a l) 8).toArray); rw [hb1 rfl], h.base⟩
end Go.Proofs.YtojeeindlijgkaaGreatDoor
