/- Calls of function values: lemmas for the rows of this seat. No conditions. -/
import Derived.Laws.StructEq
import Derived.Test.YtiodmphhjgkgjaaGreatTab
import Derived.Test.YtiodmphhjgkgjaaGreatV8
set_option linter.all false
namespace Go.Proofs.YtiodmphhjgkgjaaGreat
open Go.RowKit
/-! ## Calls of function values -/
section
variable {P : Program} {w0 : World} {n : Nat} {ds : List Deferred} {ops : List Oper} {o : Oper} {os : List Oper} {ks : List Kind} {ts : TS} {A : List Chunk} {K : TS → List Chunk → Prop} {d : Tmp} {f : FuncId} {x : Operand} {xs : Array Operand} {ats : Array TypeId} {us bs vs avs : List Value}
/-- A call that makes memory of which something is said. -/
theorem ot_callC {X : Type} (v : X → Value) (A' : X → List Chunk) (p : X → Prop) (hm : ∀ x, ∀ c ∈ A' x, c.mut = true) (hh : ks.headD .wr ≠ .rd) (hop : o.op = .call { callee := .value x, args := xs, argTypes := ats }) (hd : o.dst = some d) (hw : wantB ops ts o = some true) (hf : evT ts x = some (.func (.func f) us.toArray vs.toArray)) (hb : hasBody P f = true) (ha : EvL ts xs.toList bs) (hl : us ++ bs ++ vs = avs)
  (hc : ∀ w, St w0 A w → Calls P f avs.toArray w fun e w' => ∃ x, e = .returned (v x) ∧ p x ∧ St w (A' x) w') (hk : ∀ x, p x → OT P w0 n ds ops os ks.tail ((d, v x) :: ts) (A' x ++ A) K) : OT P w0 n ds ops (o :: os) ks ts A K := by
 subst hl
 refine ot_cr hh fun a w hh => ?_
 unfold wpV
 rw [if_pos (wantB_spec hh hw)]
 refine callv_upV hh hop hf hb ha ((hc w hh.st).mono fun e w' hr => ?_)
 obtain ⟨x, rfl, hp, hr⟩ := hr
 exact ⟨_, rfl, _, fun _ => hr.base, hh.st.join hr (hm x), by rw [hd]; exact hk x hp⟩
/-- A call that writes to what is the caller's own. -/
theorem ot_callW {X : Type} (v : X → Value) (A' : X → List Chunk) (p : X → Prop) (hh : ks.headD .wr = .wr) (hop : o.op = .call { callee := .value x, args := xs, argTypes := ats }) (hd : o.dst = some d) (hw : wantB ops ts o = some true) (hf : evT ts x = some (.func (.func f) us.toArray vs.toArray)) (hb : hasBody P f = true) (ha : EvL ts xs.toList bs) (hl : us ++ bs ++ vs = avs)
  (hc : ∀ w, St w0 A w → Calls P f avs.toArray w fun e w' => ∃ x, e = .returned (v x) ∧ p x ∧ St w0 (A' x) w') (hk : ∀ x, p x → OT P w0 n ds ops os ks.tail ((d, v x) :: ts) (A' x) K) : OT P w0 n ds ops (o :: os) ks ts A K := by
 subst hl
 refine ot_wr hh fun a w hh => ?_
 unfold wpV
 rw [if_pos (wantB_spec hh hw)]
 refine callv_upV hh hop hf hb ha ((hc w hh.st).mono fun e w' hr => ?_)
 obtain ⟨x, rfl, hp, hr⟩ := hr
 exact ⟨_, rfl, _, (fun e => by cases e), hr, by rw [hd]; exact hk x hp⟩
/-- A call that only computes something of which something is said. -/
theorem ot_callQ {X : Type} (v : X → Value) (p : X → Prop) (hh : ks.headD .wr ≠ .rd) (hop : o.op = .call { callee := .value x, args := xs, argTypes := ats }) (hd : o.dst = some d) (hw : wantB ops ts o = some true) (hf : evT ts x = some (.func (.func f) us.toArray vs.toArray)) (hb : hasBody P f = true) (ha : EvL ts xs.toList bs) (hl : us ++ bs ++ vs = avs)
  (hc : ∀ w, St w0 A w → Calls P f avs.toArray w fun e w' => ∃ x, e = .returned (v x) ∧ p x ∧ Below w.heap.size w w') (hk : ∀ x, p x → OT P w0 n ds ops os ks.tail ((d, v x) :: ts) A K) : OT P w0 n ds ops (o :: os) ks ts A K :=
 ot_callC v (fun _ => []) p (fun _ _ h => by cases h) hh hop hd hw hf hb ha hl (fun w hs => (hc w hs).mono fun e w' ⟨x, h1, h2, h3⟩ => ⟨x, h1, h2, St.nil h3⟩) hk
end
theorem own_addr {w0 w : World} {A : List Chunk} (hs : St w0 A w) {B : Option Addr} {n c sz : Nat} {t : TypeId} {xs : List Value} (h : Chunk.own (.slice B n c) t sz n xs ∈ A) (hn : 0 < n) : ∃ b, B = some ⟨b, 0, none⟩ := by
 rcases (hs.all _ h).2 with ⟨h0, _⟩ | ⟨g, cap, cur, e, _⟩
 ·omega
 ·cases e; exact ⟨g, rfl⟩
section
variable {P : Program} {tab : TT} {w0 w : World} {n : Nat} {r : Option Nat} {ds : List Deferred} {ops : List Oper} {o : Oper} {os : List Oper} {ks : List Kind} {ts : TS} {A : List Chunk} {K : TS → List Chunk → Prop} {Q : PostT} {d : Tmp} {x y : Operand} {t u : TypeId} {i i' : TI}
/-- The whole of an array, as a slice. -/
theorem ot_slice_arr {m e g : Nat} (hT : TabOk P tab) (hop : o.op = .slice t x none none none) (hd : o.dst = some d) (hw : wantB ops ts o = some true) (hx : evT ts x = some (.pointer (some ⟨g, 0, none⟩))) (hi : lookI tab t = some i) (hdd : i.d = .ar m e) (hi' : lookI tab e = some i')
  (hk : OT P w0 n ds ops os ks.tail ((d, .slice (some ⟨g, 0, none⟩) m m) :: ts) A K) : OT P w0 n ds ops (o :: os) ks ts A K :=
 ot_val _ hd hw (fun a w hh => by
  have h1 := (hT t i hi).ar hdd
  have h2 := (hT e i' hi').sz w
  simp only [execOp, hop, hh.ev hx, Instr.sliceAt, Option.map_none, Sem.run_bind, run_underlying h1, Result.andThen_ok, Instr.sureAddr, asAddr, Instr.sliceBounds, Sem.run_pure, h2, Nat.zero_mul, Addr.add_none, Nat.sub_zero]
  by_cases hc : m = 0 <;> simp [hc]) hk
theorem ot_own_addr {B : Option Addr} {cc sz m : Nat} {te : TypeId} {xs : List Value} (hA : .own (.slice B m cc) te sz m xs ∈ A) (hm : 0 < m) (hh : ks.headD .wr = .wr) (h : ∀ b, B = some ⟨b, 0, none⟩ → OT P w0 n ds ops (o :: os) ks ts A K) : OT P w0 n ds ops (o :: os) ks ts A K :=
 ot_fact hh (p := ∃ b, B = some ⟨b, 0, none⟩) (fun w' hs => own_addr hs hA hm) fun ⟨b, e⟩ => h b e
theorem tr_own_addr {c : Code} {B : Option Addr} {cc sz m : Nat} {te : TypeId} {xs : List Value} (hA : .own (.slice B m cc) te sz m xs ∈ A) (hm : 0 < m) (h : ∀ b, B = some ⟨b, 0, none⟩ → Tr P r w0 n c ds ts A Q) : Tr P r w0 n c ds ts A Q :=
 tr_fact (p := ∃ b, B = some ⟨b, 0, none⟩) (fun w' hs => own_addr hs hA hm) fun ⟨b, e⟩ => h b e
end
theorem own_cap {w0 w : World} {A : List Chunk} {g m cap t sz : Nat} {xs : List Value} (hs : St w0 A w) (h : .own (.slice (some ⟨g, 0, none⟩) m cap) t sz m xs ∈ A) : m ≤ cap := by
 rcases (hs.all _ h).2 with ⟨h0, _⟩ | ⟨g, cap, cur, e, _, _, h3, _⟩
 ·cases h0
 ·cases e; exact h3
/-! ## clear, of the end of a row of one's own -/
section
variable {P : Program} {tab : TT} {w0 : World} {n : Nat} {ds : List Deferred} {ops : List Oper} {o : Oper} {os : List Oper} {ks : List Kind} {ts : TS} {A A' : List Chunk} {K : TS → List Chunk → Prop} {d : Tmp}
variable {x y : Operand} {t u : TypeId} {k : IntKind} {g : Nat} {i i' : TI}
theorem ot_clear_own {e m off c cap : Nat} {z0 : Value} {xs : List Value} {bt : TypeId} (hT : TabOk P tab) (hh : ks.headD .wr = .wr) (hop : o.op = .call { callee := .builtin .clear, args := #[x], argTypes := #[t] }) (hd : o.dst = none) (hw : wantB ops ts o = some true) (hx : evT ts x = some (.slice (some ⟨g, off, none⟩) (m - off) c)) (hi : lookI tab t = some i) (hl : i.d = .sl e) (hi' : lookI tab e = some i')
  (hz : i'.zero = [z0]) (h1 : z0.oneCell' = true) (hm : off + 1 ≤ m) (hu : Upd (.own (.slice (some ⟨g, 0, none⟩) m cap) bt 1 m xs) (.own (.slice (some ⟨g, 0, none⟩) m cap) bt 1 m (xs.take off ++ List.replicate (m - off) z0)) A A')
  (hk : OT P w0 n ds ops os ks.tail ts A' K) : OT P w0 n ds ops (o :: os) ks ts A K := by
 refine ot_wroteV hh hd hw (fun a w hh => ?_) hk
 obtain ⟨z, hz1, hz2⟩ := (hT e i' hi').zv w
 have hzc : z.cells = #[z0] := by
  apply Array.ext'; rw [hz2, hz]
 have hb := hh.st.all _ hu.mem
 have hcells : (Builtin.zeroCells z.cells (m - off)).toList = List.replicate (m - off) z0 := by
  rw [hzc]
  apply List.ext_getElem <;> simp [Builtin.zeroCells, Nat.mod_one]
 obtain ⟨hxl, h | ⟨g', cap', cur, he, h2, h3, h4, h5, h6, h7⟩⟩ := hb
 ·cases h.1
 ·cases he
  have hst := run_storeCells_at P g off bt (List.replicate (m - off) z0) 0 cur w h3 (by simp only [List.length_replicate]; omega) (fun v hv => by rw [List.eq_of_mem_replicate hv]; exact h1)
  simp only [Nat.add_zero, List.length_replicate] at hst
  rw [Nat.mul_one] at hxl h6
  refine ⟨.tuple #[], w.setRow g (cur.toList.take off ++ List.replicate (m - off) z0 ++ cur.toList.drop (off + (m - off))).toArray, ?_, hh.st.upd hu rfl grown_setRow ?_ fun b hb => .inl hb⟩
  ·obtain ⟨m', hm'⟩ : ∃ m', m - off = m' + 1 := ⟨m - off - 1, by omega⟩
   rw [exec_builtin hop, BigFrame.builtin_clear]
   simp only [List.map_toArray, List.map_cons, List.map_nil, hh.ev hx, Sem.run_bind]
   rw [hm'] at hst hcells ⊢
   simp [Builtin.clear_, run_underlying ((hT t i hi).sl hl), hz1, hcells, hst]
  ·refine ⟨by simp only [List.length_append, List.length_take, List.length_replicate]; omega, .inr ⟨g, cap, _, rfl, h2, setRow_heap w g cur _ bt _ h3, h4, h5, ?_, ?_⟩⟩
   ·simp; omega
   ·rw [Nat.mul_one] at h7 ⊢
    rw [← h7, List.take_take]
    apply List.ext_getElem
    ·simp; omega
    ·intro q hq1 hq2
     simp [List.getElem_append]
     split <;> split <;> simp_all <;> omega
end
theorem Pick.there_ {B A : List Chunk} {a : Chunk} (h : Pick B A) : Pick B (a :: A) := by
 induction h with
 | nil => exact .nil
 | cons h _ ih => exact .cons (.there h) ih
theorem Pick.of_sub {B A : List Chunk} (h : B.Sublist A) : Pick B A := by
 induction h with
 | slnil => exact .nil
 | cons a h ih => exact ih.there_
 | cons_cons a h ih => exact .cons .here ih
section
variable {P : Program} {tab : TT} {w0 w : World} {n : Nat} {r : Option Nat} {ds : List Deferred} {ops : List Oper} {o : Oper} {os : List Oper} {ks : List Kind} {ts : TS} {A : List Chunk} {K : TS → List Chunk → Prop} {Q : PostT} {d : Tmp} {x y : Operand} {t u : TypeId} {i i' : TI}
/-- A slice is compared with nil. -/
theorem ot_eqnil {B : Option Addr} {l c e : Nat} (hT : TabOk P tab) (hi : lookI tab t = some i) (hdd : i.d = .sl e) (hop : o.op = .binOp .eql t x y u) (hd : o.dst = some d) (hw : wantB ops ts o = some true) (hx : evT ts x = some (.slice B l c)) (hy : evT ts y = some (.slice none 0 0))
  (hk : OT P w0 n ds ops os ks.tail ((d, .bool B.isNone) :: ts) A K) : OT P w0 n ds ops (o :: os) ks ts A K :=
 ot_val _ hd hw (fun a w hd' => by
  have h1 := (hT t i hi).sl hdd
  have e0 := run_equal_slice_nil w t e B l c h1
  have e1 : (eqGuard .eql t x y (.slice B l c) (.slice none 0 0)).run P w = .ok () w := by simp [eqGuard, Sem.run_bind]
  have e2 : (binOp .eql t (.slice B l c) (.slice none 0 0)).run P w = .ok (.bool B.isNone) w := by simp [binOp, e0]
  simp only [execOp, hop, hd'.ev hx, hd'.ev hy, Sem.run_bind, e1, e2, Result.andThen_ok, Sem.run_pure]) hk
theorem ot_st {B : List Chunk} (hh : ks.headD .wr = .wr) (hp : ∀ w, St w0 A w → St w0 B w) (h : OT P w0 n ds ops (o :: os) ks ts B K) : OT P w0 n ds ops (o :: os) ks ts A K := by
 unfold OT at h ⊢
 rw [hh] at h ⊢
 exact fun a w hd => h a w ⟨hd.size, hd.slots, hd.ds, hp w hd.st⟩
end
/-! ## Numbers within bounds -/
/-- Layer 1: what is out of bounds. -/
def badIn (lo hi n : Int) : Bool := decide (n < lo) || decide (hi < n)
def within (lo hi : Int) (l : List Int) : Bool := !l.any (badIn lo hi)
def firstBad {α : Type} (bad : α → Bool) (d : α) (l : List α) : Nat → Nat → Int
 | 0, _ => -1
 | k + 1, j => if bad (l[j]?.getD d) then j else firstBad bad d l k (j + 1)
theorem firstBad_any {α : Type} (bad : α → Bool) (d : α) (l : List α) : ∀ k j, j + k = l.length → decide (0 ≤ firstBad bad d l k j) = (l.drop j).any bad := by
 intro k
 induction k with
 | zero => intro j hj; rw [List.drop_of_length_le (by omega)]; rfl
 | succ k ih =>
  intro j hj
  rw [List.drop_eq_getElem_cons (show j < l.length by omega), List.any_cons, firstBad, List.getElem?_eq_getElem (show j < l.length by omega), Option.getD_some]
  cases h : bad l[j]
  ·simp only [Bool.false_eq_true, if_false, Bool.false_or]; exact ih (j + 1) (by omega)
  ·simp only [if_true, Bool.true_or]; exact decide_eq_true (by omega)
theorem int_cell {w : World} {n : Nat} {b o : Nat} {l : List Int} (h : Reads w w.heap.size 1 (some ⟨b, o, none⟩) n (i64s l)) {k : Nat} (hk : k < n) (A : List Chunk) : CellAt w A b (o + k * 1) (.int .i64 (l[k]?.getD 0)) := by
 obtain ⟨b', o', he, _, h1⟩ := h.int hk
 cases he
 rw [Nat.mul_one]
 exact CellAt.base h1
theorem within_one (lo hi n : Int) : within lo hi [n] = decide (lo ≤ n ∧ n ≤ hi) := by
 unfold within badIn
 rw [Bool.eq_iff_iff]
 simp
set_option maxRecDepth 20000 in
theorem within1B_any (n lo hi : Int) (g1 g2 : Nat) (w : World) (h1 : w.cell? ⟨g1, 0, none⟩ = some (.int .i64 lo)) (h2 : w.cell? ⟨g2, 0, none⟩ = some (.int .i64 hi)) :
  Calls Tryz.prog 46 #[.int .i64 n, .pointer (some ⟨g1, 0, none⟩), .pointer (some ⟨g2, 0, none⟩)] w fun e w' => e = .returned (.bool (badIn lo hi n)) ∧ Below w.heap.size w w' := by
 have hb : badIn lo hi n = (decide (n < lo) || decide (hi < n)) := rfl
 refine fn_v tk (n := 13) (A := []) Tryz.func46 rfl rfl (Nat.le_of_ble_eq_true rfl) (St.nil (Below.refl _ _)) ?_
 by_cases e1 : n < lo
 ·rw [decide_eq_true e1] at hb
  ((conv => whnf); (repeat ((first | (apply VLd.mk; (focus ((repeat (first | ((with_reducible apply ld_blk); exact rfl) | ((with_reducible apply ld_row); exact rfl) | ((with_reducible apply ld_row0); exact rfl) | (with_reducible assumption) | (with_reducible exact CellAt.base (by assumption)) | (with_reducible apply ld_skip))); done))) | apply VBr.t | (apply v_t; omega)); (conv => whnf))))
  (apply VRet.mk)
  refine ret1 (by first | exact .inl rfl | exact .inr rfl) rfl (by exact rv_tmp rfl) ?_
  exact fun w h => ⟨by rw [hb]; rfl, h.base⟩
 ·rw [decide_eq_false e1] at hb
  ((conv => whnf); (repeat ((first | (apply VLd.mk; (focus ((repeat (first | ((with_reducible apply ld_blk); exact rfl) | ((with_reducible apply ld_row); exact rfl) | ((with_reducible apply ld_row0); exact rfl) | (with_reducible assumption) | (with_reducible exact CellAt.base (by assumption)) | (with_reducible apply ld_skip))); done))) | apply VBr.f | (apply v_f; omega) | apply v_d); (conv => whnf))))
  (apply VRet.mk)
  refine ret1 (by first | exact .inl rfl | exact .inr rfl) rfl (by exact rv_tmp rfl) ?_
  exact fun w h => ⟨by rw [hb]; rfl, h.base⟩
set_option maxRecDepth 20000 in
theorem indexB_any (Al : Option Addr) (c : Nat) (l : List Int) (lo hi : Int) (g1 g2 : Nat) (w : World) (h : Reads w w.heap.size 1 Al l.length (i64s l)) (hm : l.length ≤ maxLen) (h1 : w.cell? ⟨g1, 0, none⟩ = some (.int .i64 lo)) (h2 : w.cell? ⟨g2, 0, none⟩ = some (.int .i64 hi)) :
  Calls Tryz.prog 93 #[.slice Al l.length c, .func (.func 46) #[] #[.pointer (some ⟨g1, 0, none⟩), .pointer (some ⟨g2, 0, none⟩)]] w fun e w' => e = .returned (.int .i64 (firstBad (badIn lo hi) 0 l l.length 0)) ∧ Below w.heap.size w w' := by
 unfold maxLen at hm
 have c1 : ∀ A, CellAt w A g1 0 _ := fun A => CellAt.base h1
 have c2 : ∀ A, CellAt w A g2 0 _ := fun A => CellAt.base h2
 refine fn_v tk (n := 19) (A := []) Tryz.func93 rfl rfl (Nat.le_of_ble_eq_true rfl) (St.nil (Below.refl _ _)) ?_
 ((conv => whnf); apply VStop.mk)
 refine v_loop (fun gm ds ts A => ds = [] ∧ A = [] ∧ ∃ j, j + gm = l.length ∧ firstBad (badIn lo hi) 0 l l.length 0 = firstBad (badIn lo hi) 0 l gm j ∧ ts = [(0, .slice Al l.length c), (1, .func (.func 46) #[] #[.pointer (some ⟨g1, 0, none⟩), .pointer (some ⟨g2, 0, none⟩)]), (7, .int .i64 (l.length : Int)), (8, .int .i64 (j : Int))]) l.length (l := [(0, _), (1, _), (7, _), (8, _)]) (B := _) ?_ (List.Sublist.refl _) ⟨rfl, rfl, 0, by omega, rfl, rfl⟩ ?_
 ·exact ⟨rfl, rfl, rfl, rfl, trivial⟩
 rintro gm ds ts A ⟨rfl, rfl, j, hj, hres, rfl⟩
 by_cases hlt : j < l.length
 ·obtain ⟨b, o, rfl, _⟩ := h.2 (by omega)
  have hc := int_cell h hlt
  have hf := fun w1 (hs : St w [] w1) => within1B_any (l[j]?.getD 0) lo hi g1 g2 w1 (c1 _ w1 hs) (c2 _ w1 hs)
  obtain ⟨gm, rfl⟩ : ∃ g, gm = g + 1 := ⟨gm - 1, by omega⟩
  rw [firstBad] at hres
  generalize l[j]?.getD 0 = x at *
  cases hx : badIn lo hi x with
  | true =>
   rw [hx] at hf
   rw [hx, if_pos rfl] at hres
   (apply tr_v tk; (conv => whnf); (repeat ((first | (apply VLd.mk; exact hc _) | (apply VCall.q; kernel_rfl; (focus (intro w1 hs; first | with_reducible apply hf w1 hs))) | apply VBr.t | (apply v_t; omega) | (apply VIx.mk; exact rfl; omega)); (conv => whnf))))
   (apply VRet.mk)
   refine ret1 (by first | exact .inl rfl | exact .inr rfl) rfl (by exact rv_tmp rfl) ?_
   exact fun w h => ⟨by rw [hres], h.base⟩
  | false =>
   rw [hx] at hf
   rw [hx, if_neg (by simp)] at hres
   (apply tr_v tk; (conv => whnf); (repeat ((first | (apply VLd.mk; exact hc _) | (apply VCall.q; kernel_rfl; (focus (intro w1 hs; first | with_reducible apply hf w1 hs))) | (apply VRng.mk; omega) | apply VBr.t | apply VBr.f | (apply v_t; omega) | (apply VIx.mk; exact rfl; omega)); (conv => whnf))))
   exact v_rnd gm (by omega) (l := [(0, _), (1, _), (7, _), (8, _)]) (B := []) ⟨rfl, rfl, rfl, rfl, trivial⟩ (List.nil_sublist _) ⟨rfl, rfl, j + 1, by omega, hres, rfl⟩
 ·obtain rfl : gm = 0 := by omega
  (apply tr_v tk; (conv => whnf); (repeat ((first | apply VBr.f | (apply v_f; omega)); (conv => whnf))))
  (apply VRet.mk)
  refine ret1 (by first | exact .inl rfl | exact .inr rfl) rfl (by exact rv_tmp rfl) ?_
  exact fun w h => ⟨by rw [hres]; rfl, h.base⟩
set_option maxRecDepth 20000 in
theorem containsB_any (Al : Option Addr) (c : Nat) (l : List Int) (lo hi : Int) (g1 g2 : Nat) (w : World) (h : Reads w w.heap.size 1 Al l.length (i64s l)) (hm : l.length ≤ maxLen) (h1 : w.cell? ⟨g1, 0, none⟩ = some (.int .i64 lo)) (h2 : w.cell? ⟨g2, 0, none⟩ = some (.int .i64 hi)) :
  Calls Tryz.prog 45 #[.slice Al l.length c, .func (.func 46) #[] #[.pointer (some ⟨g1, 0, none⟩), .pointer (some ⟨g2, 0, none⟩)]] w fun e w' => e = .returned (.bool (l.any (badIn lo hi))) ∧ Below w.heap.size w w' := by
 have hq := firstBad_any (badIn lo hi) 0 l l.length 0 (by omega)
 rw [List.drop_zero] at hq
 rw [← hq]
 have hf := fun w1 (hs : St w [] w1) => indexB_any Al c l lo hi g1 g2 w1 (hs.reads h) hm (CellAt.base h1 w1 hs) (CellAt.base h2 w1 hs)
 refine fn_v tk (n := 9) (A := []) Tryz.func45 rfl rfl (Nat.le_of_ble_eq_true rfl) (St.nil (Below.refl _ _)) ?_
 ((conv => whnf); (repeat ((first | (apply VCall.q; kernel_rfl; (focus (intro w1 hs; first | with_reducible apply hf w1 hs))) | apply v_d); (conv => whnf))))
 ((apply VRet.mk); refine ret1 (by first | exact .inl rfl | exact .inr rfl) rfl (by exact rv_tmp rfl) ?_; exact fun w h => ⟨rfl, h.base⟩)
set_option maxRecDepth 20000 in
theorem withinB_any (A : Option Addr) (c : Nat) (l : List Int) (lo hi : Int) (w : World) (h : Reads w w.heap.size 1 A l.length (i64s l)) (hm : l.length ≤ maxLen) :
  Calls Tryz.prog 19 #[.int .i64 lo, .int .i64 hi, .slice A l.length c] w fun e w' => e = .returned (.bool (within lo hi l)) ∧ Below w.heap.size w w' := by
 refine fn_v tk (n := 11) (A := []) Tryz.func19 rfl rfl (Nat.le_of_ble_eq_true rfl) (St.nil (Below.refl _ _)) ?_
 ((conv => whnf); (repeat ((apply VNew.mk; intro g hg); (conv => whnf))); apply VCall.stop)
 refine ot_call_q rfl rfl rfl (by kernel_rfl) (evl_of rfl) (fun w1 hs => containsB_any A c l lo hi _ _ w1 (hs.reads h) hm (cell_blk (by (repeat (first | exact List.Mem.head _ | assumption | refine List.Mem.tail _ ?_))) rfl w1 hs) (cell_blk (by (repeat (first | exact List.Mem.head _ | assumption | refine List.Mem.tail _ ?_))) rfl w1 hs)) ?_
 (apply ot_v tk; (conv => whnf))
 ((apply VRet.mk); refine ret1 (by first | exact .inl rfl | exact .inr rfl) rfl (by exact rv_tmp rfl) ?_; exact fun w h => ⟨rfl, h.base⟩)
set_option maxRecDepth 20000 in
theorem within1S_any (n lo hi : Int) (g1 g2 : Nat) (w : World) (h1 : w.cell? ⟨g1, 0, none⟩ = some (.int .i64 lo)) (h2 : w.cell? ⟨g2, 0, none⟩ = some (.int .i64 hi)) :
  Calls Tryz.prog 176 #[.int .i64 n, .pointer (some ⟨g1, 0, none⟩), .pointer (some ⟨g2, 0, none⟩)] w fun e w' => e = .returned (.bool (badIn lo hi n)) ∧ Below w.heap.size w w' := by
 have hb : badIn lo hi n = (decide (n < lo) || decide (hi < n)) := rfl
 refine fn_v tk (n := 13) (A := []) Tryz.func176 rfl rfl (Nat.le_of_ble_eq_true rfl) (St.nil (Below.refl _ _)) ?_
 by_cases e1 : n < lo
 ·rw [decide_eq_true e1] at hb
  ((conv => whnf); (repeat ((first | (apply VLd.mk; (focus ((repeat (first | ((with_reducible apply ld_blk); exact rfl) | ((with_reducible apply ld_row); exact rfl) | ((with_reducible apply ld_row0); exact rfl) | (with_reducible assumption) | (with_reducible exact CellAt.base (by assumption)) | (with_reducible apply ld_skip))); done))) | apply VBr.t | (apply v_t; omega)); (conv => whnf))))
  (apply VRet.mk)
  refine ret1 (by first | exact .inl rfl | exact .inr rfl) rfl (by exact rv_tmp rfl) ?_
  exact fun w h => ⟨by rw [hb]; rfl, h.base⟩
 ·rw [decide_eq_false e1] at hb
  ((conv => whnf); (repeat ((first | (apply VLd.mk; (focus ((repeat (first | ((with_reducible apply ld_blk); exact rfl) | ((with_reducible apply ld_row); exact rfl) | ((with_reducible apply ld_row0); exact rfl) | (with_reducible assumption) | (with_reducible exact CellAt.base (by assumption)) | (with_reducible apply ld_skip))); done))) | apply VBr.f | (apply v_f; omega) | apply v_d); (conv => whnf))))
  (apply VRet.mk)
  refine ret1 (by first | exact .inl rfl | exact .inr rfl) rfl (by exact rv_tmp rfl) ?_
  exact fun w h => ⟨by rw [hb]; rfl, h.base⟩
set_option maxRecDepth 20000 in
theorem indexS_any (Al : Option Addr) (c : Nat) (l : List Int) (lo hi : Int) (g1 g2 : Nat) (w : World) (h : Reads w w.heap.size 1 Al l.length (i64s l)) (hm : l.length ≤ maxLen) (h1 : w.cell? ⟨g1, 0, none⟩ = some (.int .i64 lo)) (h2 : w.cell? ⟨g2, 0, none⟩ = some (.int .i64 hi)) :
  Calls Tryz.prog 93 #[.slice Al l.length c, .func (.func 176) #[] #[.pointer (some ⟨g1, 0, none⟩), .pointer (some ⟨g2, 0, none⟩)]] w fun e w' => e = .returned (.int .i64 (firstBad (badIn lo hi) 0 l l.length 0)) ∧ Below w.heap.size w w' := by
 unfold maxLen at hm
 have c1 : ∀ A, CellAt w A g1 0 _ := fun A => CellAt.base h1
 have c2 : ∀ A, CellAt w A g2 0 _ := fun A => CellAt.base h2
 refine fn_v tk (n := 19) (A := []) Tryz.func93 rfl rfl (Nat.le_of_ble_eq_true rfl) (St.nil (Below.refl _ _)) ?_
 ((conv => whnf); apply VStop.mk)
 refine v_loop (fun gm ds ts A => ds = [] ∧ A = [] ∧ ∃ j, j + gm = l.length ∧ firstBad (badIn lo hi) 0 l l.length 0 = firstBad (badIn lo hi) 0 l gm j ∧ ts = [(0, .slice Al l.length c), (1, .func (.func 176) #[] #[.pointer (some ⟨g1, 0, none⟩), .pointer (some ⟨g2, 0, none⟩)]), (7, .int .i64 (l.length : Int)), (8, .int .i64 (j : Int))]) l.length (l := [(0, _), (1, _), (7, _), (8, _)]) (B := _) ?_ (List.Sublist.refl _) ⟨rfl, rfl, 0, by omega, rfl, rfl⟩ ?_
 ·exact ⟨rfl, rfl, rfl, rfl, trivial⟩
 rintro gm ds ts A ⟨rfl, rfl, j, hj, hres, rfl⟩
 by_cases hlt : j < l.length
 ·obtain ⟨b, o, rfl, _⟩ := h.2 (by omega)
  have hc := int_cell h hlt
  have hf := fun w1 (hs : St w [] w1) => within1S_any (l[j]?.getD 0) lo hi g1 g2 w1 (c1 _ w1 hs) (c2 _ w1 hs)
  obtain ⟨gm, rfl⟩ : ∃ g, gm = g + 1 := ⟨gm - 1, by omega⟩
  rw [firstBad] at hres
  generalize l[j]?.getD 0 = x at *
  cases hx : badIn lo hi x with
  | true =>
   rw [hx] at hf
   rw [hx, if_pos rfl] at hres
   (apply tr_v tk; (conv => whnf); (repeat ((first | (apply VLd.mk; exact hc _) | (apply VCall.q; kernel_rfl; (focus (intro w1 hs; first | with_reducible apply hf w1 hs))) | apply VBr.t | (apply v_t; omega) | (apply VIx.mk; exact rfl; omega)); (conv => whnf))))
   (apply VRet.mk)
   refine ret1 (by first | exact .inl rfl | exact .inr rfl) rfl (by exact rv_tmp rfl) ?_
   exact fun w h => ⟨by rw [hres], h.base⟩
  | false =>
   rw [hx] at hf
   rw [hx, if_neg (by simp)] at hres
   (apply tr_v tk; (conv => whnf); (repeat ((first | (apply VLd.mk; exact hc _) | (apply VCall.q; kernel_rfl; (focus (intro w1 hs; first | with_reducible apply hf w1 hs))) | (apply VRng.mk; omega) | apply VBr.t | apply VBr.f | (apply v_t; omega) | (apply VIx.mk; exact rfl; omega)); (conv => whnf))))
   exact v_rnd gm (by omega) (l := [(0, _), (1, _), (7, _), (8, _)]) (B := []) ⟨rfl, rfl, rfl, rfl, trivial⟩ (List.nil_sublist _) ⟨rfl, rfl, j + 1, by omega, hres, rfl⟩
 ·obtain rfl : gm = 0 := by omega
  (apply tr_v tk; (conv => whnf); (repeat ((first | apply VBr.f | (apply v_f; omega)); (conv => whnf))))
  (apply VRet.mk)
  refine ret1 (by first | exact .inl rfl | exact .inr rfl) rfl (by exact rv_tmp rfl) ?_
  exact fun w h => ⟨by rw [hres]; rfl, h.base⟩
set_option maxRecDepth 20000 in
theorem containsS_any (Al : Option Addr) (c : Nat) (l : List Int) (lo hi : Int) (g1 g2 : Nat) (w : World) (h : Reads w w.heap.size 1 Al l.length (i64s l)) (hm : l.length ≤ maxLen) (h1 : w.cell? ⟨g1, 0, none⟩ = some (.int .i64 lo)) (h2 : w.cell? ⟨g2, 0, none⟩ = some (.int .i64 hi)) :
  Calls Tryz.prog 45 #[.slice Al l.length c, .func (.func 176) #[] #[.pointer (some ⟨g1, 0, none⟩), .pointer (some ⟨g2, 0, none⟩)]] w fun e w' => e = .returned (.bool (l.any (badIn lo hi))) ∧ Below w.heap.size w w' := by
 have hq := firstBad_any (badIn lo hi) 0 l l.length 0 (by omega)
 rw [List.drop_zero] at hq
 rw [← hq]
 have hf := fun w1 (hs : St w [] w1) => indexS_any Al c l lo hi g1 g2 w1 (hs.reads h) hm (CellAt.base h1 w1 hs) (CellAt.base h2 w1 hs)
 refine fn_v tk (n := 9) (A := []) Tryz.func45 rfl rfl (Nat.le_of_ble_eq_true rfl) (St.nil (Below.refl _ _)) ?_
 ((conv => whnf); (repeat ((first | (apply VCall.q; kernel_rfl; (focus (intro w1 hs; first | with_reducible apply hf w1 hs))) | apply v_d); (conv => whnf))))
 ((apply VRet.mk); refine ret1 (by first | exact .inl rfl | exact .inr rfl) rfl (by exact rv_tmp rfl) ?_; exact fun w h => ⟨rfl, h.base⟩)
set_option maxRecDepth 20000 in
theorem withinS_any (A : Option Addr) (c : Nat) (l : List Int) (lo hi : Int) (w : World) (h : Reads w w.heap.size 1 A l.length (i64s l)) (hm : l.length ≤ maxLen) :
  Calls Tryz.prog 90 #[.int .i64 lo, .int .i64 hi, .slice A l.length c] w fun e w' => e = .returned (.bool (within lo hi l)) ∧ Below w.heap.size w w' := by
 refine fn_v tk (n := 11) (A := []) Tryz.func90 rfl rfl (Nat.le_of_ble_eq_true rfl) (St.nil (Below.refl _ _)) ?_
 ((conv => whnf); (repeat ((apply VNew.mk; intro g hg); (conv => whnf))); apply VCall.stop)
 refine ot_call_q rfl rfl rfl (by kernel_rfl) (evl_of rfl) (fun w1 hs => containsS_any A c l lo hi _ _ w1 (hs.reads h) hm (cell_blk (by (repeat (first | exact List.Mem.head _ | assumption | refine List.Mem.tail _ ?_))) rfl w1 hs) (cell_blk (by (repeat (first | exact List.Mem.head _ | assumption | refine List.Mem.tail _ ?_))) rfl w1 hs)) ?_
 (apply ot_v tk; (conv => whnf))
 ((apply VRet.mk); refine ret1 (by first | exact .inl rfl | exact .inr rfl) rfl (by exact rv_tmp rfl) ?_; exact fun w h => ⟨rfl, h.base⟩)
/-! ## A row, and its cup -/
theorem within1B_mem {a lo hi : Int} {bb : Bool} (hb : within lo hi [a] = bb) {g t : Nat} {A : List Chunk} {w0 w : World} (hs : St w0 A w) (hm : Chunk.blk g t [.int .i64 a] ∈ A) :
  Calls Tryz.prog 19 #[.int .i64 lo, .int .i64 hi, .slice (some ⟨g, 0, none⟩) 1 1] w fun e w' => e = .returned (.bool bb) ∧ Below w.heap.size w w' := by
 subst hb
 exact withinB_any (some ⟨g, 0, none⟩) 1 [a] lo hi w (hs.blk_reads hm rfl) (by simp [maxLen])
def rowE (l : List Int) : Int := if within 1 12 [(l.length : Int)] then (if within 0 1000 l then 0 else 3) else 6
theorem rowE_ok {l : List Int} : rowE l = 0 ↔ (1 ≤ l.length ∧ l.length ≤ 12) ∧ ∀ x ∈ l, 0 ≤ x ∧ x ≤ 1000 := by
 have h2 : within 0 1000 l = true ↔ ∀ x ∈ l, 0 ≤ x ∧ x ≤ 1000 := by
  unfold within badIn
  simp only [Bool.not_eq_true', List.any_eq_false, Bool.or_eq_true, decide_eq_true_eq, not_or]
  constructor
  ·intro h x hx
   have := h x hx
   omega
  ·intro h x hx
   have := h x hx
   omega
 unfold rowE
 rw [within_one]
 split
 ·rename_i h1
  have h1 := of_decide_eq_true h1
  split
  ·rename_i h3
   exact ⟨fun _ => ⟨by omega, h2.1 h3⟩, fun _ => rfl⟩
  ·rename_i h3
   exact ⟨fun h => by omega, fun h => absurd (h2.2 h.2) h3⟩
 ·rename_i h1
  have h1 := fun h => h1 (decide_eq_true h)
  exact ⟨fun h => by omega, fun h => absurd (by omega) h1⟩
set_option maxRecDepth 20000 in
theorem checkRow_any (A : Option Addr) (c : Nat) (l : List Int) (w : World) (h : Reads w w.heap.size 1 A l.length (i64s l)) (hm : l.length ≤ maxLen) : Calls Tryz.prog 44 #[.slice A l.length c] w fun e w' => e = .returned (.int .i64 (rowE l)) ∧ Below w.heap.size w w' := by
 have k2 := fun w1 h => withinB_any A c l 0 1000 w1 h hm
 unfold rowE
 refine fn_v tk (n := 13) (A := []) Tryz.func44 rfl rfl (Nat.le_of_ble_eq_true rfl) (St.nil (Below.refl _ _)) ?_
 cases hA : within 1 12 [(l.length : Int)] with
 | false =>
  ((conv => whnf); (repeat ((first | (apply VCall.q; kernel_rfl; (focus (intro w1 hs; first | ((with_reducible apply within1B_mem hA hs); (repeat (first | exact List.Mem.head _ | assumption | refine List.Mem.tail _ ?_)))))) | apply VBr.t | (apply VNew.mk; intro g hg)); (conv => whnf))))
  ((apply VRet.mk); refine ret1 (by first | exact .inl rfl | exact .inr rfl) rfl (by exact rv_tmp rfl) ?_; exact fun w h => ⟨rfl, h.base⟩)
 | true =>
  cases hB : within 0 1000 l with
  | false =>
   rw [hB] at k2
   ((conv => whnf); (repeat ((first | (apply VCall.q; kernel_rfl; (focus (intro w1 hs; first | ((with_reducible apply within1B_mem hA hs); (repeat (first | exact List.Mem.head _ | assumption | refine List.Mem.tail _ ?_))) | with_reducible apply k2 w1 (hs.reads h)))) | apply VBr.t | apply VBr.f | (apply VNew.mk; intro g hg)); (conv => whnf))))
   ((apply VRet.mk); refine ret1 (by first | exact .inl rfl | exact .inr rfl) rfl (by exact rv_tmp rfl) ?_; exact fun w h => ⟨rfl, h.base⟩)
  | true =>
   rw [hB] at k2
   ((conv => whnf); (repeat ((first | (apply VCall.q; kernel_rfl; (focus (intro w1 hs; first | ((with_reducible apply within1B_mem hA hs); (repeat (first | exact List.Mem.head _ | assumption | refine List.Mem.tail _ ?_))) | with_reducible apply k2 w1 (hs.reads h)))) | apply VBr.f | (apply VNew.mk; intro g hg)); (conv => whnf))))
   ((apply VRet.mk); refine ret1 (by first | exact .inl rfl | exact .inr rfl) rfl (by exact rv_tmp rfl) ?_; exact fun w h => ⟨rfl, h.base⟩)
set_option maxRecDepth 20000 in
theorem openB_ok (A : Option Addr) (c : Nat) (l : List Int) (w : World) (h : Reads w w.heap.size 1 A l.length (i64s l)) (hm : l.length ≤ maxLen) (hz : rowE l = 0) : Calls Tryz.prog 18 #[.slice A l.length c] w fun e w' => ∃ g : Nat, e = .returned (.tuple #[.pointer (some ⟨g, 0, none⟩), .int .i64 0]) ∧ True ∧ St w ([] ++ [.blk g 61 [.slice A l.length c]]) w' := by
 have k1 := fun w1 h => checkRow_any A c l w1 h hm
 rw [hz] at k1
 refine fn_v tk (n := 14) (A := []) Tryz.func18 rfl rfl (Nat.le_of_ble_eq_true rfl) (St.nil (Below.refl _ _)) ?_
 ((conv => whnf); (repeat ((first | (apply VCall.q; kernel_rfl; (focus (intro w1 hs; first | with_reducible apply k1 w1 (hs.reads h)))) | apply VBr.f | (apply v_f; omega) | (apply VNew.mk; intro g hg)); (conv => whnf))))
 (apply VRet.mk)
 refine ret2 (by first | exact .inl rfl | exact .inr rfl) rfl (by exact rv_tmp rfl) (by exact rv_tmp rfl) ?_
 exact fun w hs => ⟨_, rfl, trivial, hs⟩
def rAt (l : List Int) (k : Nat) : Int := l[k]?.getD 0
theorem rAt_mem {l : List Int} {k : Nat} (h : k < l.length) : rAt l k ∈ l := by
 unfold rAt
 rw [List.getElem?_eq_getElem h, Option.getD_some]
 exact List.getElem_mem h
theorem row_cell {w : World} {n : Nat} {A : Option Addr} {l : List Int} (h : Reads w w.heap.size 1 A n (i64s l)) {k : Nat} (hk : k < n) : ∃ b o, A = some ⟨b, o, none⟩ ∧ ∀ A, CellAt w A b (o + k * 1) (.int .i64 (rAt l k)) := by
 obtain ⟨b, o, rfl, _⟩ := h.2 (by omega)
 exact ⟨b, o, rfl, fun A => int_cell h hk A⟩
set_option maxRecDepth 20000 in
theorem depth_any (A : Option Addr) (c : Nat) (l : List Int) (i k j : Nat) (w : World) (h : Reads w w.heap.size 1 A l.length (i64s l)) (hm : l.length ≤ 12) (hv : ∀ x ∈ l, 0 ≤ x ∧ x ≤ 1000) (hi : i < l.length) (hk : k < l.length) (hj : j < l.length) : Calls Tryz.prog 48 #[.agg #[.slice A l.length c], .agg #[.int .i64 (i : Int), .int .i64 (k : Int), .int .i64 (j : Int)]] w fun e w' => e = .returned (.int .i64 (min (rAt l i) (rAt l j) - rAt l k)) ∧ Below w.heap.size w w' := by
 obtain ⟨b, o, rfl, _⟩ := row_cell h hi
 have c1 := fun A => int_cell h hi A
 have c2 := fun A => int_cell h hj A
 have c3 := fun A => int_cell h hk A
 have b1 := hv _ (rAt_mem hi)
 have b2 := hv _ (rAt_mem hj)
 have b3 := hv _ (rAt_mem hk)
 unfold rAt at *
 generalize l[i]?.getD 0 = x at *
 generalize l[j]?.getD 0 = y at *
 generalize l[k]?.getD 0 = z at *
 rw [show min x y = if y < x then y else x by split <;> omega]
 refine fn_v tk (n := 25) (A := []) Tryz.func48 rfl rfl (Nat.le_of_ble_eq_true rfl) (St.nil (Below.refl _ _)) ?_
 ((conv => whnf); (repeat ((first | (apply VStop.mk; refine tr_region_lex (id := 1) (by kernel_rfl) [.rd, .rd, .rd, .rd, .rd, .rd, .rd, .rd, .rd, .rd, .rd, .rd, .rd, .rd, .rd, .rd, .rd, .rd, .rd, .rd, .rd] rfl (by kernel_rfl) ?_; apply ot_v tk) | (apply VLd.mk; first | exact c1 _ | exact c2 _ | exact c3 _) | (apply VIx.mk (j := i); exact rfl; omega) | (apply VIx.mk (j := j); exact rfl; omega) | (apply VIx.mk (j := k); exact rfl; omega) | (apply VLd.mk; (focus ((repeat (first | ((with_reducible apply ld_blk); exact rfl) | (with_reducible apply ld_skip))); done))) | (apply VRng.mk; omega) | (apply VNew.mk; intro g hg)); (conv => whnf))))
 ((apply VRet.mk); refine ret1 (by first | exact .inl rfl | exact .inr rfl) rfl (by exact rv_tmp rfl) ?_; exact fun w h => ⟨rfl, h.base⟩)
set_option maxRecDepth 20000 in
theorem offB_any (A : Option Addr) (c : Nat) (l : List Int) (i : Nat) (v : Int) (w : World) (h : Reads w w.heap.size 1 A l.length (i64s l)) (hm : l.length ≤ 12) (hv : ∀ x ∈ l, 0 ≤ x ∧ x ≤ 1000) (hi : i < l.length) (hv2 : 0 ≤ v ∧ v ≤ 1000) : Calls Tryz.prog 20 #[.agg #[.slice A l.length c], .int .i64 (i : Int), .int .i64 v] w fun e w' => e = .returned (.int .i64 (max (rAt l i - v) (v - rAt l i))) ∧ Below w.heap.size w w' := by
 obtain ⟨b, o, rfl, _⟩ := row_cell h hi
 have c1 := fun A => int_cell h hi A
 have b1 := hv _ (rAt_mem hi)
 unfold rAt at *
 generalize l[i]?.getD 0 = x at *
 rw [show max (x - v) (v - x) = if x - v < v - x then v - x else x - v by split <;> omega]
 refine fn_v tk (n := 22) (A := []) Tryz.func20 rfl rfl (Nat.le_of_ble_eq_true rfl) (St.nil (Below.refl _ _)) ?_
 ((conv => whnf); (repeat ((first | (apply VStop.mk; refine tr_region_lex (id := 1) (by kernel_rfl) [.rd, .rd, .rd, .rd, .rd, .rd, .rd, .rd, .rd, .rd, .rd, .rd, .rd, .rd, .rd, .rd] rfl (by kernel_rfl) ?_; apply ot_v tk) | (apply VLd.mk; exact c1 _) | (apply VIx.mk (j := i); exact rfl; omega) | (apply VLd.mk; (focus ((repeat (first | ((with_reducible apply ld_blk); exact rfl) | (with_reducible apply ld_skip))); done))) | (apply VRng.mk; omega) | (apply VNew.mk; intro g hg)); (conv => whnf))))
 ((apply VRet.mk); refine ret1 (by first | exact .inl rfl | exact .inr rfl) rfl (by exact rv_tmp rfl) ?_; exact fun w h => ⟨rfl, h.base⟩)
def mxI (l : List Int) : Nat → Int
 | 0 => rAt l 0
 | j + 1 => if mxI l j < rAt l (j + 1) then rAt l (j + 1) else mxI l j
theorem mxI_mem (l : List Int) : ∀ j, ∃ k, k ≤ j ∧ mxI l j = rAt l k
 | 0 => ⟨0, by omega, rfl⟩
 | j + 1 => by
  obtain ⟨k, h1, h2⟩ := mxI_mem l j
  rw [mxI]
  split
  ·exact ⟨j + 1, by omega, rfl⟩
  ·exact ⟨k, by omega, h2⟩
theorem firstBad_lt {α : Type} (bad : α → Bool) (d : α) (l : List α) : ∀ k j, j + k = l.length → (∃ i, j ≤ i ∧ i < l.length ∧ bad (l[i]?.getD d) = true) → ∃ i : Nat, firstBad bad d l k j = i ∧ i < l.length := by
 intro k
 induction k with
 | zero => rintro j hj ⟨i, h1, h2, _⟩; omega
 | succ k ih =>
  rintro j hj ⟨i, h1, h2, h3⟩
  rw [firstBad]
  cases h : bad (l[j]?.getD d)
  ·refine ih (j + 1) (by omega) ⟨i, ?_, h2, h3⟩
   rcases Nat.lt_or_ge j i with h4 | h4
   ·omega
   ·obtain rfl : i = j := by omega
    rw [h] at h3; cases h3
  ·exact ⟨j, if_pos rfl, by omega⟩
set_option maxRecDepth 20000 in
theorem max98_any (A0 : Option Addr) (c : Nat) (l : List Int) (w : World) (h : Reads w w.heap.size 1 A0 l.length (i64s l)) (hm : 1 ≤ l.length ∧ l.length ≤ 12) :
  Calls Tryz.prog 98 #[.slice A0 l.length c] w fun e w' => e = .returned (.int .i64 (mxI l (l.length - 1))) ∧ Below w.heap.size w w' := by
 obtain ⟨b, o, rfl, _⟩ := row_cell h (k := 0) (by omega)
 have c0 : ∀ A, CellAt w A b (o + 0 * 1) (.int .i64 (rAt l 0)) := fun A => int_cell h (by omega) A
 refine fn_v tk (n := 25) (A := []) Tryz.func98 rfl rfl (Nat.le_of_ble_eq_true rfl) (St.nil (Below.refl _ _)) ?_
 have e0 : rAt l 0 = mxI l 0 := rfl
 rw [e0] at c0
 ((conv => whnf); (repeat ((first | (apply VLd.mk; exact c0 _) | (apply VIx.mk (j := 0); exact rfl; omega) | apply VBr.f | (apply v_f; omega)); (conv => whnf))); apply VStop.mk)
 refine v_loop (fun gm ds ts A => ds = [] ∧ A = [] ∧ ∃ j : Nat, j + 1 + gm = l.length ∧ ts = [(0, .slice (some ⟨b, o, none⟩) l.length c), (3, .int .i64 (mxI l j)), (4, .int .i64 ((j + 1 : Nat) : Int))]) (l.length - 1) (l := [(0, _), (3, _), (4, _)]) (B := []) ?_ (List.nil_sublist _) ⟨rfl, rfl, 0, by omega, rfl⟩ ?_
 ·exact ⟨rfl, rfl, rfl, trivial⟩
 rintro gm ds ts A ⟨rfl, rfl, j, hj, rfl⟩
 by_cases hlt : j + 1 < l.length
 ·have c1 : ∀ A, CellAt w A b (o + (j + 1) * 1) (.int .i64 (rAt l (j + 1))) := fun A => int_cell h hlt A
  have es : mxI l (j + 1) = if mxI l j < rAt l (j + 1) then rAt l (j + 1) else mxI l j := rfl
  generalize rAt l (j + 1) = x at *
  generalize hy : mxI l j = y at *
  (apply tr_v tk; (conv => whnf); (repeat ((first | (apply VLd.mk; exact c1 _) | (apply VIx.mk (j := j + 1); exact rfl; omega) | (apply VRng.mk; omega) | apply VBr.t | (apply v_t; omega)); (conv => whnf))))
  exact v_rnd (gm - 1) (by omega) (l := [(0, _), (3, _), (4, _)]) (B := []) ⟨rfl, rfl, rfl, trivial⟩ (List.nil_sublist _) ⟨rfl, rfl, j + 1, by omega, by rw [es]; rfl⟩
 ·obtain rfl : j = l.length - 1 := by omega
  (apply tr_v tk; (conv => whnf); (repeat ((first | apply VBr.f | (apply v_f; omega)); (conv => whnf))))
  ((apply VRet.mk); refine ret1 (by first | exact .inl rfl | exact .inr rfl) rfl (by exact rv_tmp rfl) ?_; exact fun w h => ⟨rfl, h.base⟩)
set_option maxRecDepth 20000 in
theorem index97_any (A0 : Option Addr) (c : Nat) (l : List Int) (v : Int) (w : World) (h : Reads w w.heap.size 1 A0 l.length (i64s l)) (hm : l.length ≤ 12) :
  Calls Tryz.prog 97 #[.slice A0 l.length c, .int .i64 v] w fun e w' => e = .returned (.int .i64 (firstBad (fun x => decide (v = x)) 0 l l.length 0)) ∧ Below w.heap.size w w' := by
 refine fn_v tk (n := 19) (A := []) Tryz.func97 rfl rfl (Nat.le_of_ble_eq_true rfl) (St.nil (Below.refl _ _)) ?_
 ((conv => whnf); apply VStop.mk)
 refine v_loop (fun gm ds ts A => ds = [] ∧ A = [] ∧ ∃ j, j + gm = l.length ∧ firstBad (fun x => decide (v = x)) 0 l l.length 0 = firstBad (fun x => decide (v = x)) 0 l gm j ∧ ts = [(0, .slice A0 l.length c), (1, .int .i64 v), (7, .int .i64 (l.length : Int)), (8, .int .i64 (j : Int))]) l.length (l := [(0, _), (1, _), (7, _), (8, _)]) (B := _) ?_ (List.Sublist.refl _) ⟨rfl, rfl, 0, by omega, rfl, rfl⟩ ?_
 ·exact ⟨rfl, rfl, rfl, rfl, trivial⟩
 rintro gm ds ts A ⟨rfl, rfl, j, hj, hres, rfl⟩
 by_cases hlt : j < l.length
 ·obtain ⟨b, o, rfl, _⟩ := row_cell h hlt
  have hc := int_cell h hlt
  obtain ⟨gm, rfl⟩ : ∃ g, gm = g + 1 := ⟨gm - 1, by omega⟩
  rw [firstBad] at hres
  generalize l[j]?.getD 0 = x at *
  by_cases hx : v = x
  ·rw [if_pos (decide_eq_true hx)] at hres
   (apply tr_v tk; (conv => whnf); (repeat ((first | (apply VLd.mk; exact hc _) | (apply VIx.mk (j := j); exact rfl; omega) | apply VBr.t | (apply v_t; omega)); (conv => whnf))))
   (apply VRet.mk)
   refine ret1 (by first | exact .inl rfl | exact .inr rfl) rfl (by exact rv_tmp rfl) ?_
   exact fun w h => ⟨by rw [hres], h.base⟩
  ·rw [if_neg (by simpa using hx)] at hres
   (apply tr_v tk; (conv => whnf); (repeat ((first | (apply VLd.mk; exact hc _) | (apply VIx.mk (j := j); exact rfl; omega) | (apply VRng.mk; omega) | apply VBr.t | apply VBr.f | (apply v_t; omega) | (apply v_f; omega)); (conv => whnf))))
   exact v_rnd gm (by omega) (l := [(0, _), (1, _), (7, _), (8, _)]) (B := []) ⟨rfl, rfl, rfl, rfl, trivial⟩ (List.nil_sublist _) ⟨rfl, rfl, j + 1, by omega, hres, rfl⟩
 ·obtain rfl : gm = 0 := by omega
  (apply tr_v tk; (conv => whnf); (repeat ((first | apply VBr.f | (apply v_f; omega)); (conv => whnf))))
  (apply VRet.mk)
  refine ret1 (by first | exact .inl rfl | exact .inr rfl) rfl (by exact rv_tmp rfl) ?_
  exact fun w h => ⟨by rw [hres]; rfl, h.base⟩
def inB (n lo hi : Int) : Bool := decide (lo ≤ n) && decide (n ≤ hi)
theorem inB_iff {n lo hi : Int} : inB n lo hi = true ↔ lo ≤ n ∧ n ≤ hi := by unfold inB; simp
theorem is13_any (n lo hi : Int) (w : World) : Calls Tryz.prog 13 #[.int .i64 n, .int .i64 lo, .int .i64 hi] w fun e w' => e = .returned (.bool (inB n lo hi)) ∧ Below w.heap.size w w' := by
 have hb : inB n lo hi = (decide (lo ≤ n) && decide (n ≤ hi)) := rfl
 refine fn_v tk (n := 15) (A := []) Tryz.func13 rfl rfl (Nat.le_of_ble_eq_true rfl) (St.nil (Below.refl _ _)) ?_
 by_cases e1 : lo ≤ n
 ·rw [decide_eq_true e1, Bool.true_and] at hb
  ((conv => whnf); (repeat ((first | apply VBr.t | (apply v_t; omega) | apply v_d); (conv => whnf))))
  (apply VRet.mk)
  refine ret1 (by first | exact .inl rfl | exact .inr rfl) rfl (by exact rv_tmp rfl) ?_
  exact fun w h => ⟨by rw [hb], h.base⟩
 ·rw [decide_eq_false e1, Bool.false_and] at hb
  ((conv => whnf); (repeat ((first | apply VBr.f | (apply v_f; omega)); (conv => whnf))))
  (apply VRet.mk)
  refine ret1 (by first | exact .inl rfl | exact .inr rfl) rfl (by exact rv_tmp rfl) ?_
  exact fun w h => ⟨by rw [hb], h.base⟩
set_option maxRecDepth 20000 in
theorem same05_any (A0 B0 : Option Addr) (c c' : Nat) (l : List Int) (w : World) (h : Reads w w.heap.size 1 A0 l.length (i64s l)) (h' : Reads w w.heap.size 1 B0 l.length (i64s l)) (hm : l.length ≤ 12) :
  Calls Tryz.prog 8 #[.slice A0 l.length c, .slice B0 l.length c'] w fun e w' => e = .returned (.bool true) ∧ Below w.heap.size w w' := by
 refine fn_v tk (n := 26) (A := []) Tryz.func8 rfl rfl (Nat.le_of_ble_eq_true rfl) (St.nil (Below.refl _ _)) ?_
 ((conv => whnf); (repeat ((first | apply VBr.f | (apply v_f; omega)); (conv => whnf))); apply VStop.mk)
 refine v_loop (fun gm ds ts A => ds = [] ∧ A = [] ∧ ∃ j : Nat, j + gm = l.length ∧ ts = [(0, .slice A0 l.length c), (1, .slice B0 l.length c'), (5, .int .i64 (j : Int))]) l.length (l := [(0, _), (1, _), (5, _)]) (B := []) ?_ (List.nil_sublist _) ⟨rfl, rfl, 0, by omega, rfl⟩ ?_
 ·exact ⟨rfl, rfl, rfl, trivial⟩
 rintro gm ds ts A ⟨rfl, rfl, j, hj, rfl⟩
 by_cases hlt : j < l.length
 ·obtain ⟨b, o, rfl, _⟩ := row_cell h hlt
  obtain ⟨b', o', rfl, _⟩ := row_cell h' hlt
  have c1 : ∀ A, CellAt w A b (o + j * 1) (.int .i64 (rAt l j)) := fun A => int_cell h hlt A
  have c2 : ∀ A, CellAt w A b' (o' + j * 1) (.int .i64 (rAt l j)) := fun A => int_cell h' hlt A
  generalize rAt l j = x at *
  (apply tr_v tk; (conv => whnf); (repeat ((first | (apply VStop.mk; refine tr_region_lex (id := 6) (by kernel_rfl) [.rd, .rd, .rd, .rd, .rd, .rd, .rd, .rd, .rd] rfl (by kernel_rfl) ?_; apply ot_v tk) | (apply VLd.mk; first | exact c1 _ | exact c2 _) | (apply VIx.mk (j := j); exact rfl; omega) | (apply VRng.mk; omega) | apply VBr.t | apply VBr.f | (apply v_t; omega) | (apply v_f; omega)); (conv => whnf))))
  exact v_rnd (gm - 1) (by omega) (l := [(0, _), (1, _), (5, _)]) (B := []) ⟨rfl, rfl, rfl, trivial⟩ (List.nil_sublist _) ⟨rfl, rfl, j + 1, by omega, rfl⟩
 ·obtain rfl : j = l.length := by omega
  (apply tr_v tk; (conv => whnf); (repeat ((first | apply VBr.f | (apply v_f; omega)); (conv => whnf))))
  ((apply VRet.mk); refine ret1 (by first | exact .inl rfl | exact .inr rfl) rfl (by exact rv_tmp rfl) ?_; exact fun w h => ⟨rfl, h.base⟩)
end Go.Proofs.YtiodmphhjgkgjaaGreat
