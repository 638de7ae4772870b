/- Calls of function values: lemmas for the rows of this seat. No conditions. -/
import Derived.Test.YtalcccgialpjgaaV
import Derived.Test.YtalcccgialpjgaaTab
set_option linter.all false
namespace Go.Proofs.Ytalcccgialpjgaa
open Go.RowKit
/-! ## Calls of function values -/
section
variable {P : Program} {w0 : World} {n : Nat} {ds : List Deferred} {ops : List Oper} {o : Oper} {os : List Oper} {ks : List Kind} {ts : TS} {A : List Chunk} {K : TS → List Chunk → Prop} {d : Tmp} {f : FuncId} {x : Operand} {xs : Array Operand} {ats : Array TypeId} {us bs vs avs : List Value}
/-- A call that makes memory of which something is said. -/
theorem ot_callC {X : Type} (v : X → Value) (A' : X → List Chunk) (p : X → Prop) (hm : ∀ x, ∀ c ∈ A' x, c.mut = true) (hh : ks.headD .wr ≠ .rd) (hop : o.op = .call { callee := .value x, args := xs, argTypes := ats }) (hd : o.dst = some d) (hw : wantB ops ts o = some true) (hf : evT ts x = some (.func (.func f) us.toArray vs.toArray)) (hb : hasBody P f = true) (ha : EvL ts xs.toList bs) (hl : us ++ bs ++ vs = avs)
  (hc : ∀ w, St w0 A w → Calls P f avs.toArray w fun e w' => ∃ x, e = .returned (v x) ∧ p x ∧ St w (A' x) w') (hk : ∀ x, p x → OT P w0 n ds ops os ks.tail ((d, v x) :: ts) (A' x ++ A) K) : OT P w0 n ds ops (o :: os) ks ts A K := by
 subst hl
 refine ot_cr hh fun a w hh => ?_
 unfold wpV
 rw [if_pos (wantB_spec hh hw)]
 refine callv_upV hh hop hf hb ha ((hc w hh.st).mono fun e w' hr => ?_)
 obtain ⟨x, rfl, hp, hr⟩ := hr
 exact ⟨_, rfl, _, fun _ => hr.base, hh.st.join hr (hm x), by rw [hd]; exact hk x hp⟩
/-- A call that writes to what is the caller's own. -/
theorem ot_callW {X : Type} (v : X → Value) (A' : X → List Chunk) (p : X → Prop) (hh : ks.headD .wr = .wr) (hop : o.op = .call { callee := .value x, args := xs, argTypes := ats }) (hd : o.dst = some d) (hw : wantB ops ts o = some true) (hf : evT ts x = some (.func (.func f) us.toArray vs.toArray)) (hb : hasBody P f = true) (ha : EvL ts xs.toList bs) (hl : us ++ bs ++ vs = avs)
  (hc : ∀ w, St w0 A w → Calls P f avs.toArray w fun e w' => ∃ x, e = .returned (v x) ∧ p x ∧ St w0 (A' x) w') (hk : ∀ x, p x → OT P w0 n ds ops os ks.tail ((d, v x) :: ts) (A' x) K) : OT P w0 n ds ops (o :: os) ks ts A K := by
 subst hl
 refine ot_wr hh fun a w hh => ?_
 unfold wpV
 rw [if_pos (wantB_spec hh hw)]
 refine callv_upV hh hop hf hb ha ((hc w hh.st).mono fun e w' hr => ?_)
 obtain ⟨x, rfl, hp, hr⟩ := hr
 exact ⟨_, rfl, _, (fun e => by cases e), hr, by rw [hd]; exact hk x hp⟩
theorem ot_callW0 {X : Type} (v : X → Value) (A' : X → List Chunk) (p : X → Prop) (hh : ks.headD .wr = .wr) (hop : o.op = .call { callee := .value x, args := xs, argTypes := ats }) (hd : o.dst = none) (hw : wantB ops ts o = some true) (hf : evT ts x = some (.func (.func f) us.toArray vs.toArray)) (hb : hasBody P f = true) (ha : EvL ts xs.toList bs) (hl : us ++ bs ++ vs = avs)
  (hc : ∀ w, St w0 A w → Calls P f avs.toArray w fun e w' => ∃ x, e = .returned (v x) ∧ p x ∧ St w0 (A' x) w') (hk : ∀ x, p x → OT P w0 n ds ops os ks.tail ts (A' x) K) : OT P w0 n ds ops (o :: os) ks ts A K := by
 subst hl
 refine ot_wr hh fun a w hh => ?_
 unfold wpV
 rw [if_pos (wantB_spec hh hw)]
 refine callv_upV hh hop hf hb ha ((hc w hh.st).mono fun e w' hr => ?_)
 obtain ⟨x, rfl, hp, hr⟩ := hr
 exact ⟨_, rfl, _, (fun e => by cases e), hr, by rw [hd]; exact hk x hp⟩
/-- A call that only computes something of which something is said. -/
theorem ot_callQ {X : Type} (v : X → Value) (p : X → Prop) (hh : ks.headD .wr ≠ .rd) (hop : o.op = .call { callee := .value x, args := xs, argTypes := ats }) (hd : o.dst = some d) (hw : wantB ops ts o = some true) (hf : evT ts x = some (.func (.func f) us.toArray vs.toArray)) (hb : hasBody P f = true) (ha : EvL ts xs.toList bs) (hl : us ++ bs ++ vs = avs)
  (hc : ∀ w, St w0 A w → Calls P f avs.toArray w fun e w' => ∃ x, e = .returned (v x) ∧ p x ∧ Below w.heap.size w w') (hk : ∀ x, p x → OT P w0 n ds ops os ks.tail ((d, v x) :: ts) A K) : OT P w0 n ds ops (o :: os) ks ts A K :=
 ot_callC v (fun _ => []) p (fun _ _ h => by cases h) hh hop hd hw hf hb ha hl (fun w hs => (hc w hs).mono fun e w' ⟨x, h1, h2, h3⟩ => ⟨x, h1, h2, St.nil h3⟩) hk
end
/-! ## Numbers within bounds -/
/-- Layer 1: what is out of bounds. -/
def badIn (lo hi n : Int) : Bool := decide (n < lo) || decide (hi < n)
def within (lo hi : Int) (l : List Int) : Bool := !l.any (badIn lo hi)
def firstBad {α : Type} (bad : α → Bool) (d : α) (l : List α) : Nat → Nat → Int
 | 0, _ => -1
 | k + 1, j => if bad (l[j]?.getD d) then j else firstBad bad d l k (j + 1)
theorem firstBad_any {α : Type} (bad : α → Bool) (d : α) (l : List α) : ∀ k j, j + k = l.length → decide (0 ≤ firstBad bad d l k j) = (l.drop j).any bad := by
 intro k
 induction k with
 | zero => intro j hj; rw [List.drop_of_length_le (by omega)]; rfl
 | succ k ih =>
  intro j hj
  rw [List.drop_eq_getElem_cons (show j < l.length by omega), List.any_cons, firstBad, List.getElem?_eq_getElem (show j < l.length by omega), Option.getD_some]
  cases h : bad l[j]
  ·simp only [Bool.false_eq_true, if_false, Bool.false_or]; exact ih (j + 1) (by omega)
  ·simp only [if_true, Bool.true_or]; exact decide_eq_true (by omega)
theorem int_cell {w : World} {n : Nat} {b o : Nat} {l : List Int} (h : Reads w w.heap.size 1 (some ⟨b, o, none⟩) n (i64s l)) {k : Nat} (hk : k < n) (A : List Chunk) : CellAt w A b (o + k * 1) (.int .i64 (l[k]?.getD 0)) := by
 obtain ⟨b', o', he, _, h1⟩ := h.int hk
 cases he
 rw [Nat.mul_one]
 exact CellAt.base h1
set_option maxRecDepth 20000 in
theorem within1_any (n lo hi : Int) (g1 g2 : Nat) (w : World) (h1 : w.cell? ⟨g1, 0, none⟩ = some (.int .i64 lo)) (h2 : w.cell? ⟨g2, 0, none⟩ = some (.int .i64 hi)) :
  Calls Try.prog 86 #[.int .i64 n, .pointer (some ⟨g1, 0, none⟩), .pointer (some ⟨g2, 0, none⟩)] w fun e w' => e = .returned (.bool (badIn lo hi n)) ∧ Below w.heap.size w w' := by
 have hb : badIn lo hi n = (decide (n < lo) || decide (hi < n)) := rfl
 refine fn_v tk (n := 13) (A := []) Try.func86 rfl rfl (Nat.le_of_ble_eq_true rfl) (St.nil (Below.refl _ _)) ?_
 by_cases e1 : n < lo
 ·rw [decide_eq_true e1] at hb
  ((conv => whnf); (repeat ((first | (apply VLd.mk; (focus ((repeat (first | ((with_reducible apply ld_blk); exact rfl) | ((with_reducible apply ld_row); exact rfl) | ((with_reducible apply ld_row0); exact rfl) | (with_reducible assumption) | (with_reducible exact CellAt.base (by assumption)) | (with_reducible apply ld_skip))); done))) | apply VBr.t | (apply v_t; omega)); (conv => whnf))))
  (apply VRet.mk)
  refine ret1 (by first | exact .inl rfl | exact .inr rfl) rfl (by exact rv_tmp rfl) ?_
  exact fun w h => ⟨by rw [hb]; rfl, h.base⟩
 ·rw [decide_eq_false e1] at hb
  ((conv => whnf); (repeat ((first | (apply VLd.mk; (focus ((repeat (first | ((with_reducible apply ld_blk); exact rfl) | ((with_reducible apply ld_row); exact rfl) | ((with_reducible apply ld_row0); exact rfl) | (with_reducible assumption) | (with_reducible exact CellAt.base (by assumption)) | (with_reducible apply ld_skip))); done))) | apply VBr.f | (apply v_f; omega) | apply v_d); (conv => whnf))))
  (apply VRet.mk)
  refine ret1 (by first | exact .inl rfl | exact .inr rfl) rfl (by exact rv_tmp rfl) ?_
  exact fun w h => ⟨by rw [hb]; rfl, h.base⟩
set_option maxRecDepth 20000 in
theorem index85_any (Al : Option Addr) (c : Nat) (l : List Int) (lo hi : Int) (g1 g2 : Nat) (w : World) (h : Reads w w.heap.size 1 Al l.length (i64s l)) (hm : l.length ≤ maxLen) (h1 : w.cell? ⟨g1, 0, none⟩ = some (.int .i64 lo)) (h2 : w.cell? ⟨g2, 0, none⟩ = some (.int .i64 hi)) :
  Calls Try.prog 104 #[.slice Al l.length c, .func (.func 86) #[] #[.pointer (some ⟨g1, 0, none⟩), .pointer (some ⟨g2, 0, none⟩)]] w fun e w' => e = .returned (.int .i64 (firstBad (badIn lo hi) 0 l l.length 0)) ∧ Below w.heap.size w w' := by
 unfold maxLen at hm
 have c1 : ∀ A, CellAt w A g1 0 _ := fun A => CellAt.base h1
 have c2 : ∀ A, CellAt w A g2 0 _ := fun A => CellAt.base h2
 refine fn_v tk (n := 19) (A := []) Try.func104 rfl rfl (Nat.le_of_ble_eq_true rfl) (St.nil (Below.refl _ _)) ?_
 ((conv => whnf); apply VStop.mk)
 refine v_loop (fun gm ds ts A => ds = [] ∧ A = [] ∧ ∃ j, j + gm = l.length ∧ firstBad (badIn lo hi) 0 l l.length 0 = firstBad (badIn lo hi) 0 l gm j ∧ ts = [(0, .slice Al l.length c), (1, .func (.func 86) #[] #[.pointer (some ⟨g1, 0, none⟩), .pointer (some ⟨g2, 0, none⟩)]), (7, .int .i64 (l.length : Int)), (8, .int .i64 (j : Int))]) l.length (l := [(0, _), (1, _), (7, _), (8, _)]) (B := _) ?_ (List.Sublist.refl _) ⟨rfl, rfl, 0, by omega, rfl, rfl⟩ ?_
 ·exact ⟨rfl, rfl, rfl, rfl, trivial⟩
 rintro gm ds ts A ⟨rfl, rfl, j, hj, hres, rfl⟩
 by_cases hlt : j < l.length
 ·obtain ⟨b, o, rfl, _⟩ := h.2 (by omega)
  have hc := int_cell h hlt
  have hf := fun w1 (hs : St w [] w1) => within1_any (l[j]?.getD 0) lo hi g1 g2 w1 (c1 _ w1 hs) (c2 _ w1 hs)
  obtain ⟨gm, rfl⟩ : ∃ g, gm = g + 1 := ⟨gm - 1, by omega⟩
  rw [firstBad] at hres
  generalize l[j]?.getD 0 = x at *
  cases hx : badIn lo hi x with
  | true =>
   rw [hx] at hf
   rw [hx, if_pos rfl] at hres
   (apply tr_v tk; (conv => whnf); (repeat ((first | (apply VLd.mk; exact hc _) | (apply VCall.q; kernel_rfl; (focus (intro w1 hs; first | with_reducible apply hf w1 hs))) | apply VBr.t | (apply v_t; omega) | (apply VIx.mk; exact rfl; omega)); (conv => whnf))))
   (apply VRet.mk)
   refine ret1 (by first | exact .inl rfl | exact .inr rfl) rfl (by exact rv_tmp rfl) ?_
   exact fun w h => ⟨by rw [hres], h.base⟩
  | false =>
   rw [hx] at hf
   rw [hx, if_neg (by simp)] at hres
   (apply tr_v tk; (conv => whnf); (repeat ((first | (apply VLd.mk; exact hc _) | (apply VCall.q; kernel_rfl; (focus (intro w1 hs; first | with_reducible apply hf w1 hs))) | (apply VRng.mk; omega) | apply VBr.t | apply VBr.f | (apply v_t; omega) | (apply VIx.mk; exact rfl; omega)); (conv => whnf))))
   exact v_rnd gm (by omega) (l := [(0, _), (1, _), (7, _), (8, _)]) (B := []) ⟨rfl, rfl, rfl, rfl, trivial⟩ (List.nil_sublist _) ⟨rfl, rfl, j + 1, by omega, hres, rfl⟩
 ·obtain rfl : gm = 0 := by omega
  (apply tr_v tk; (conv => whnf); (repeat ((first | apply VBr.f | (apply v_f; omega)); (conv => whnf))))
  (apply VRet.mk)
  refine ret1 (by first | exact .inl rfl | exact .inr rfl) rfl (by exact rv_tmp rfl) ?_
  exact fun w h => ⟨by rw [hres]; rfl, h.base⟩
set_option maxRecDepth 20000 in
theorem contains85_any (Al : Option Addr) (c : Nat) (l : List Int) (lo hi : Int) (g1 g2 : Nat) (w : World) (h : Reads w w.heap.size 1 Al l.length (i64s l)) (hm : l.length ≤ maxLen) (h1 : w.cell? ⟨g1, 0, none⟩ = some (.int .i64 lo)) (h2 : w.cell? ⟨g2, 0, none⟩ = some (.int .i64 hi)) :
  Calls Try.prog 85 #[.slice Al l.length c, .func (.func 86) #[] #[.pointer (some ⟨g1, 0, none⟩), .pointer (some ⟨g2, 0, none⟩)]] w fun e w' => e = .returned (.bool (l.any (badIn lo hi))) ∧ Below w.heap.size w w' := by
 have hq := firstBad_any (badIn lo hi) 0 l l.length 0 (by omega)
 rw [List.drop_zero] at hq
 rw [← hq]
 have hf := fun w1 (hs : St w [] w1) => index85_any Al c l lo hi g1 g2 w1 (hs.reads h) hm (CellAt.base h1 w1 hs) (CellAt.base h2 w1 hs)
 refine fn_v tk (n := 9) (A := []) Try.func85 rfl rfl (Nat.le_of_ble_eq_true rfl) (St.nil (Below.refl _ _)) ?_
 ((conv => whnf); (repeat ((first | (apply VCall.q; kernel_rfl; (focus (intro w1 hs; first | with_reducible apply hf w1 hs))) | apply v_d); (conv => whnf))))
 ((apply VRet.mk); refine ret1 (by first | exact .inl rfl | exact .inr rfl) rfl (by exact rv_tmp rfl) ?_; exact fun w h => ⟨rfl, h.base⟩)
set_option maxRecDepth 20000 in
theorem within_any (A : Option Addr) (c : Nat) (l : List Int) (lo hi : Int) (w : World) (h : Reads w w.heap.size 1 A l.length (i64s l)) (hm : l.length ≤ maxLen) :
  Calls Try.prog 60 #[.int .i64 lo, .int .i64 hi, .slice A l.length c] w fun e w' => e = .returned (.bool (within lo hi l)) ∧ Below w.heap.size w w' := by
 refine fn_v tk (n := 11) (A := []) Try.func60 rfl rfl (Nat.le_of_ble_eq_true rfl) (St.nil (Below.refl _ _)) ?_
 ((conv => whnf); (repeat ((apply VNew.mk; intro g hg); (conv => whnf))); apply VCall.stop)
 refine ot_call_q rfl rfl rfl (by kernel_rfl) (evl_of rfl) (fun w1 hs => contains85_any A c l lo hi _ _ w1 (hs.reads h) hm (cell_blk (by (repeat (first | exact List.Mem.head _ | assumption | refine List.Mem.tail _ ?_))) rfl w1 hs) (cell_blk (by (repeat (first | exact List.Mem.head _ | assumption | refine List.Mem.tail _ ?_))) rfl w1 hs)) ?_
 (apply ot_v tk; (conv => whnf))
 ((apply VRet.mk); refine ret1 (by first | exact .inl rfl | exact .inr rfl) rfl (by exact rv_tmp rfl) ?_; exact fun w h => ⟨rfl, h.base⟩)
/-! ## Lists of lists, one behind the other -/
/-- Layer 1: a slice of slices is read. -/
def NestR (w : World) (sz : Nat) (A : Option Addr) (L : List (Nat × List Value)) : Prop :=
 ∃ vs, Reads w w.heap.size 1 A L.length vs ∧ ∀ i (h : i < L.length), ∃ B c, vs[i]? = some (.slice B L[i].1 c) ∧ Reads w w.heap.size sz B L[i].1 L[i].2
def sumN : List (Nat × List Value) → Nat
 | [] => 0
 | p :: L => p.1 + sumN L
def catN : List (Nat × List Value) → List Value
 | [] => []
 | p :: L => p.2 ++ catN L
theorem sumN_append (L M : List (Nat × List Value)) : sumN (L ++ M) = sumN L + sumN M := by
 induction L with
 | nil => simp [sumN]
 | cons p L ih => simp [sumN, ih]; omega
theorem catN_append (L M : List (Nat × List Value)) : catN (L ++ M) = catN L ++ catN M := by
 induction L with
 | nil => simp [catN]
 | cons p L ih => simp [catN, ih]
theorem take_snoc {α : Type} (L : List α) (j : Nat) (h : j < L.length) : L.take (j + 1) = L.take j ++ [L[j]] := by
 rw [List.take_add_one, List.getElem?_eq_getElem h]; rfl
theorem sumN_step (L : List (Nat × List Value)) (j : Nat) (h : j < L.length) : sumN (L.take (j + 1)) = sumN (L.take j) + L[j].1 := by
 rw [take_snoc L j h, sumN_append]; simp [sumN]
theorem catN_step (L : List (Nat × List Value)) (j : Nat) (h : j < L.length) : catN (L.take (j + 1)) = catN (L.take j) ++ L[j].2 := by
 rw [take_snoc L j h, catN_append]; simp [catN]
theorem sumN_take (L : List (Nat × List Value)) (k : Nat) (_ : k ≤ L.length) : sumN (L.take k) ≤ sumN L := by
 have := sumN_append (L.take k) (L.drop k)
 rw [List.take_append_drop] at this
 omega

theorem CellsAt.sub {w0 : World} {A : List Chunk} {b o j : Nat} {cs : List Value} (h : CellsAt w0 A b o cs) (xs : List Value) (hx : ∀ i u, xs[i]? = some u → cs[j + i]? = some u) : CellsAt w0 A b (o + j) xs := fun w hs i u hu => by
 rw [Nat.add_assoc]; exact h w hs (j + i) u (hx i u hu)
theorem CellsAt.cell {w0 : World} {A : List Chunk} {b o j : Nat} {cs : List Value} {v : Value} (h : CellsAt w0 A b o cs) (hx : cs[j]? = some v) : CellAt w0 A b (o + j) v := fun w hs => h w hs j v hx
theorem St.nest {w w' : World} {Ch : List Chunk} {sz : Nat} {A : Option Addr} {L : List (Nat × List Value)} (hs : St w Ch w') (h : NestR w sz A L) : NestR w' sz A L := by
 obtain ⟨vs, hv, hi⟩ := h
 exact ⟨vs, hs.reads hv, fun i hl => by obtain ⟨B, c, h1, h2⟩ := hi i hl; exact ⟨B, c, h1, hs.reads h2⟩⟩
theorem within_one (lo hi n : Int) : within lo hi [n] = decide (lo ≤ n ∧ n ≤ hi) := by
 unfold within badIn
 rw [Bool.eq_iff_iff]
 simp
/-! ## Tables -/
abbrev R2 := Int × Int
/-- Layer 1: a range, as it is written. -/
def rgL (x : R2) : List Value := [.int .i64 x.1, .int .i64 x.2]
def rgC : List R2 → List Value
 | [] => []
 | x :: l => rgL x ++ rgC l
theorem rgC_append (l m : List R2) : rgC (l ++ m) = rgC l ++ rgC m := by
 induction l with
 | nil => rfl
 | cons x l ih => simp [rgC, ih]
theorem rgC_length (l : List R2) : (rgC l).length = l.length * 2 := by
 induction l with
 | nil => rfl
 | cons x l ih => simp [rgC, rgL, ih]; omega
theorem rgC_one (l : List R2) : ∀ u ∈ rgC l, u.oneCell' = true := by
 induction l with
 | nil => simp [rgC]
 | cons x l ih =>
  intro u hu
  simp only [rgC, rgL, List.cons_append, List.nil_append, List.mem_cons] at hu
  rcases hu with rfl | rfl | hu
  ·rfl
  ·rfl
  ·exact ih u hu
def rAt (l : List R2) (k : Nat) : R2 := l[k]?.getD (0, 0)
theorem rgC_get (l : List R2) (k : Nat) (hk : k < l.length) (j : Nat) (hj : j < 2) : (rgC l)[k * 2 + j]? = (rgL (rAt l k))[j]? := by
 induction l generalizing k with
 | nil => simp at hk
 | cons x l ih =>
  cases k with
  | zero =>
   simp only [rgC, Nat.zero_mul, Nat.zero_add]
   rw [List.getElem?_append_left (by simp [rgL]; omega)]
   rfl
  | succ k =>
   rw [show (k + 1) * 2 + j = 2 + (k * 2 + j) by omega, rgC, List.getElem?_append_right (by simp [rgL]), show 2 + (k * 2 + j) - (rgL x).length = k * 2 + j by simp [rgL]]
   rw [ih k (by simpa using hk)]
   rfl
theorem rg_cells {w : World} {n : Nat} {b o : Nat} {l : List R2} (h : Reads w w.heap.size 2 (some ⟨b, o, none⟩) n (rgC l)) {k : Nat} (hk : k < l.length) (hn : 0 < n) (A : List Chunk) : CellsAt w A b (o + k * 2) [.int .i64 (rAt l k).1, .int .i64 (rAt l k).2] := by
 obtain ⟨b', o', he, hb, h1⟩ := h.2 hn
 cases he
 intro w' hs j u hu
 have hj : j < 2 := (List.getElem?_eq_some_iff.1 hu).1
 rw [Nat.add_assoc, hs.base.cell (p := ⟨b, o + (k * 2 + j), none⟩) hb]
 exact h1 _ u (by rw [rgC_get l k hk j hj]; exact hu)
theorem rg_cell {w : World} {n : Nat} {b o : Nat} {l : List R2} (h : Reads w w.heap.size 2 (some ⟨b, o, none⟩) n (rgC l)) {k : Nat} (hk : k < l.length) (hn : 0 < n) (A : List Chunk) : CellAt w A b (o + k * 2) (.int .i64 (rAt l k).1) ∧ CellAt w A b (o + k * 2 + 1) (.int .i64 (rAt l k).2) :=
 ⟨fun w' hs => by have := rg_cells h hk hn A w' hs 0 _ rfl; exact this, fun w' hs => by have := rg_cells h hk hn A w' hs 1 _ rfl; exact this⟩
def nestR (X : List (List R2)) : List (Nat × List Value) := X.map fun s => (s.length, rgC s)
def nestI (X : List (List Int)) : List (Nat × List Value) := X.map fun s => (s.length, i64s s)
theorem nestR_length (S : List (List R2)) : (nestR S).length = S.length := by simp [nestR]
theorem nestI_length (S : List (List Int)) : (nestI S).length = S.length := by simp [nestI]
theorem nest_gen {α : Type} {sz : Nat} {enc : List α → List Value} {w : World} {A : Option Addr} {S : List (List α)} (h : NestR w sz A (S.map fun s => (s.length, enc s))) {j : Nat} (hj : j < S.length) :
  ∃ b o, A = some ⟨b, o, none⟩ ∧ ∃ B c, (∀ Ch, CellAt w Ch b (o + j * 1) (.slice B S[j].length c)) ∧ Reads w w.heap.size sz B S[j].length (enc S[j]) := by
 obtain ⟨vs, hv, hi⟩ := h
 rw [List.length_map] at hv
 obtain ⟨b, o, rfl, _, hcell⟩ := hv.2 (by omega)
 obtain ⟨B, c, e1, hr⟩ := hi j (by rw [List.length_map]; exact hj)
 rw [List.getElem_map] at e1 hr
 exact ⟨b, o, rfl, B, c, fun Ch => CellAt.base (by rw [Nat.mul_one]; exact hcell j _ e1), hr⟩
theorem catN_nestR (S : List (List R2)) : catN (nestR S) = rgC S.flatten := by
 induction S with
 | nil => rfl
 | cons s S ih => simp only [nestR, List.map_cons, catN, List.flatten_cons, rgC_append] at *; rw [ih]
theorem sumN_nestR (S : List (List R2)) : sumN (nestR S) = S.flatten.length := by
 induction S with
 | nil => rfl
 | cons s S ih => simp only [nestR, List.map_cons, sumN, List.flatten_cons, List.length_append] at *; rw [ih]
def tabV (RA : Option Addr) (rc : Nat) (CA : Option Addr) (cc : Nat) (XA : Option Addr) (xc : Nat) (R C : List R2) (X : List (List R2)) : Value := .agg #[.slice RA R.length rc, .slice CA C.length cc, .slice XA X.length xc]
/-- A table in memory. -/
structure TabR (w : World) (RA CA XA : Option Addr) (R C : List R2) (X : List (List R2)) : Prop where
 r : Reads w w.heap.size 2 RA R.length (rgC R)
 c : Reads w w.heap.size 2 CA C.length (rgC C)
 x : NestR w 2 XA (nestR X)
theorem St.tab {w w' : World} {Ch : List Chunk} {RA CA XA : Option Addr} {R C : List R2} {X : List (List R2)} (hs : St w Ch w') (h : TabR w RA CA XA R C X) : TabR w' RA CA XA R C X := ⟨hs.reads h.r, hs.reads h.c, hs.nest h.x⟩
/-- A range that is not as described. -/
def strayB (most : Int) (x : R2) : Bool := !within 0 most [x.1, x.2] || decide (x.1 > x.2)
def rangeB (most : Int) (x : R2) : Bool := decide (0 ≤ x.1 ∧ x.1 ≤ x.2 ∧ x.2 ≤ most)
theorem stray_range (most : Int) (x : R2) : strayB most x = !rangeB most x := by
 unfold strayB rangeB within badIn
 rw [Bool.eq_iff_iff]
 simp
 omega
set_option maxRecDepth 20000 in
theorem stray_any (x : R2) (most : Int) (g : Nat) (w : World) (hc : w.cell? ⟨g, 0, none⟩ = some (.int .i64 most)) :
  Calls Try.prog 59 #[.agg #[.int .i64 x.1, .int .i64 x.2], .pointer (some ⟨g, 0, none⟩)] w fun e w' => e = .returned (.bool (strayB most x)) ∧ Below w.heap.size w w' := by
 obtain ⟨a, b⟩ := x
 have c1 : ∀ A, CellAt w A g 0 _ := fun A => CellAt.base hc
 unfold strayB
 dsimp only
 generalize hwi : within 0 most [a, b] = bb
 refine fn_v tk (n := 19) (A := []) Try.func59 rfl rfl (Nat.le_of_ble_eq_true rfl) (St.nil (Below.refl _ _)) ?_
 ((conv => whnf); (repeat ((first | (apply VLd.mk; exact c1 _) | (apply VLd.mk; (focus ((repeat (first | ((with_reducible apply ld_blk); exact rfl) | (with_reducible apply ld_skip))); done))) | (apply VNew.mk; intro g hg)); (conv => whnf))); apply VCall.stop)
 refine ot_call_q rfl rfl rfl (by kernel_rfl) (evl_of rfl) (fun w1 hs => by have := within_any _ 2 [a, b] 0 most w1 (hs.blk_reads (by (repeat (first | exact List.Mem.head _ | assumption | refine List.Mem.tail _ ?_))) rfl) (by simp [maxLen]); rw [hwi] at this; exact this) ?_
 cases bb
 ·(apply ot_v tk; (conv => whnf); (repeat (apply VBr.t; (conv => whnf))))
  ((apply VRet.mk); refine ret1 (by first | exact .inl rfl | exact .inr rfl) rfl (by exact rv_tmp rfl) ?_; exact fun w h => ⟨rfl, h.base⟩)
 ·by_cases e : a > b
  ·rw [decide_eq_true e]
   (apply ot_v tk; (conv => whnf); (repeat ((first | (apply VLd.mk; (focus ((repeat (first | ((with_reducible apply ld_blk); exact rfl) | (with_reducible apply ld_skip))); done))) | apply VBr.f | (apply v_t; omega)); (conv => whnf))))
   ((apply VRet.mk); refine ret1 (by first | exact .inl rfl | exact .inr rfl) rfl (by exact rv_tmp rfl) ?_; exact fun w h => ⟨rfl, h.base⟩)
  ·rw [decide_eq_false e]
   (apply ot_v tk; (conv => whnf); (repeat ((first | (apply VLd.mk; (focus ((repeat (first | ((with_reducible apply ld_blk); exact rfl) | (with_reducible apply ld_skip))); done))) | apply VBr.f | (apply v_f; omega)); (conv => whnf))))
   ((apply VRet.mk); refine ret1 (by first | exact .inl rfl | exact .inr rfl) rfl (by exact rv_tmp rfl) ?_; exact fun w h => ⟨rfl, h.base⟩)
set_option maxRecDepth 20000 in
theorem index88_any (Al : Option Addr) (c : Nat) (l : List R2) (most : Int) (g : Nat) (w : World) (h : Reads w w.heap.size 2 Al l.length (rgC l)) (hm : l.length ≤ maxLen) (hc : w.cell? ⟨g, 0, none⟩ = some (.int .i64 most)) :
  Calls Try.prog 88 #[.slice Al l.length c, .func (.func 59) #[] #[.pointer (some ⟨g, 0, none⟩)]] w fun e w' => e = .returned (.int .i64 (firstBad (strayB most) (0, 0) l l.length 0)) ∧ Below w.heap.size w w' := by
 unfold maxLen at hm
 have c1 : ∀ A, CellAt w A g 0 _ := fun A => CellAt.base hc
 refine fn_v tk (n := 19) (A := []) Try.func88 rfl rfl (Nat.le_of_ble_eq_true rfl) (St.nil (Below.refl _ _)) ?_
 ((conv => whnf); apply VStop.mk)
 refine v_loop (fun gm ds ts A => ds = [] ∧ A = [] ∧ ∃ j, j + gm = l.length ∧ firstBad (strayB most) (0, 0) l l.length 0 = firstBad (strayB most) (0, 0) l gm j ∧ ts = [(0, .slice Al l.length c), (1, .func (.func 59) #[] #[.pointer (some ⟨g, 0, none⟩)]), (7, .int .i64 (l.length : Int)), (8, .int .i64 (j : Int))]) l.length (l := [(0, _), (1, _), (7, _), (8, _)]) (B := _) ?_ (List.Sublist.refl _) ⟨rfl, rfl, 0, by omega, rfl, rfl⟩ ?_
 ·exact ⟨rfl, rfl, rfl, rfl, trivial⟩
 rintro gm ds ts A ⟨rfl, rfl, j, hj, hres, rfl⟩
 by_cases hlt : j < l.length
 ·obtain ⟨b, o, rfl, _⟩ := h.2 (by omega)
  have hce := rg_cells h hlt (by omega)
  have hf := fun w1 (hs : St w [] w1) => stray_any (rAt l j) most g w1 (c1 _ w1 hs)
  obtain ⟨gm, rfl⟩ : ∃ g, gm = g + 1 := ⟨gm - 1, by omega⟩
  rw [firstBad] at hres
  unfold rAt at *
  generalize l[j]?.getD (0, 0) = x at *
  obtain ⟨x1, x2⟩ := x
  dsimp only at hf hce
  cases hx : strayB most (x1, x2) with
  | true =>
   rw [hx] at hf
   rw [hx, if_pos rfl] at hres
   (apply tr_v tk; (conv => whnf); (repeat ((first | (apply VLdN.mk; exact hce _; exact rfl) | (apply VCall.q; kernel_rfl; (focus (intro w1 hs; first | with_reducible apply hf w1 hs))) | apply VBr.t | (apply v_t; omega) | (apply VIx.mk; exact rfl; omega)); (conv => whnf))))
   (apply VRet.mk)
   refine ret1 (by first | exact .inl rfl | exact .inr rfl) rfl (by exact rv_tmp rfl) ?_
   exact fun w h => ⟨by rw [hres], h.base⟩
  | false =>
   rw [hx] at hf
   rw [hx, if_neg (by simp)] at hres
   (apply tr_v tk; (conv => whnf); (repeat ((first | (apply VLdN.mk; exact hce _; exact rfl) | (apply VCall.q; kernel_rfl; (focus (intro w1 hs; first | with_reducible apply hf w1 hs))) | (apply VRng.mk; omega) | apply VBr.t | apply VBr.f | (apply v_t; omega) | (apply VIx.mk; exact rfl; omega)); (conv => whnf))))
   exact v_rnd gm (by omega) (l := [(0, _), (1, _), (7, _), (8, _)]) (B := []) ⟨rfl, rfl, rfl, rfl, trivial⟩ (List.nil_sublist _) ⟨rfl, rfl, j + 1, by omega, hres, rfl⟩
 ·obtain rfl : gm = 0 := by omega
  (apply tr_v tk; (conv => whnf); (repeat ((first | apply VBr.f | (apply v_f; omega)); (conv => whnf))))
  (apply VRet.mk)
  refine ret1 (by first | exact .inl rfl | exact .inr rfl) rfl (by exact rv_tmp rfl) ?_
  exact fun w h => ⟨by rw [hres]; rfl, h.base⟩
set_option maxRecDepth 20000 in
theorem contains63_any (Al : Option Addr) (c : Nat) (l : List R2) (most : Int) (g : Nat) (w : World) (h : Reads w w.heap.size 2 Al l.length (rgC l)) (hm : l.length ≤ maxLen) (hc : w.cell? ⟨g, 0, none⟩ = some (.int .i64 most)) :
  Calls Try.prog 63 #[.slice Al l.length c, .func (.func 59) #[] #[.pointer (some ⟨g, 0, none⟩)]] w fun e w' => e = .returned (.bool (l.any (strayB most))) ∧ Below w.heap.size w w' := by
 have hq := firstBad_any (strayB most) (0, 0) l l.length 0 (by omega)
 rw [List.drop_zero] at hq
 rw [← hq]
 have hf := fun w1 (hs : St w [] w1) => index88_any Al c l most g w1 (hs.reads h) hm (CellAt.base hc w1 hs)
 refine fn_v tk (n := 9) (A := []) Try.func63 rfl rfl (Nat.le_of_ble_eq_true rfl) (St.nil (Below.refl _ _)) ?_
 ((conv => whnf); (repeat ((first | (apply VCall.q; kernel_rfl; (focus (intro w1 hs; first | with_reducible apply hf w1 hs))) | apply v_d); (conv => whnf))))
 ((apply VRet.mk); refine ret1 (by first | exact .inl rfl | exact .inr rfl) rfl (by exact rv_tmp rfl) ?_; exact fun w h => ⟨rfl, h.base⟩)
theorem within2_any {a b lo hi : Int} {bb : Bool} (hb : within lo hi [a, b] = bb) {g t : Nat} {A : List Chunk} {w0 w : World} (hs : St w0 (.blk g t [.int .i64 a, .int .i64 b] :: A) w) :
  Calls Try.prog 60 #[.int .i64 lo, .int .i64 hi, .slice (some ⟨g, 0, none⟩) 2 2] w fun e w' => e = .returned (.bool bb) ∧ Below w.heap.size w w' := by
 subst hb
 exact within_any (some ⟨g, 0, none⟩) 2 [a, b] lo hi w (hs.blk_reads (.head _) rfl) (by simp [maxLen])
theorem within1_one {a lo hi : Int} {bb : Bool} (hb : within lo hi [a] = bb) {g t : Nat} {A : List Chunk} {w0 w : World} (hs : St w0 (.blk g t [.int .i64 a] :: A) w) :
  Calls Try.prog 60 #[.int .i64 lo, .int .i64 hi, .slice (some ⟨g, 0, none⟩) 1 1] w fun e w' => e = .returned (.bool bb) ∧ Below w.heap.size w w' := by
 subst hb
 exact within_any (some ⟨g, 0, none⟩) 1 [a] lo hi w (hs.blk_reads (.head _) rfl) (by simp [maxLen])
/-! ## Sizes; rows one behind the other -/
set_option maxRecDepth 20000 in
theorem size61_any (B : Option Addr) (c k : Nat) (g : Nat) (CA : Option Addr) (cc m : Nat) (w : World) (hc : w.cell? ⟨g, 1, none⟩ = some (.slice CA m cc)) :
  Calls Try.prog 61 #[.slice B k c, .pointer (some ⟨g, 0, none⟩)] w fun e w' => e = .returned (.bool (decide ((k : Int) ≠ m))) ∧ Below w.heap.size w w' := by
 have c1 : ∀ A, CellAt w A g 1 _ := fun A => CellAt.base hc
 refine fn_v tk (n := 10) (A := []) Try.func61 rfl rfl (Nat.le_of_ble_eq_true rfl) (St.nil (Below.refl _ _)) ?_
 ((conv => whnf); (repeat ((first | (apply VLd.mk; exact c1 _) | apply v_d); (conv => whnf))))
 ((apply VRet.mk); refine ret1 (by first | exact .inl rfl | exact .inr rfl) rfl (by exact rv_tmp rfl) ?_; exact fun w h => ⟨rfl, h.base⟩)
set_option maxRecDepth 20000 in
theorem index87_any (XA : Option Addr) (xc : Nat) (X : List (List R2)) (g : Nat) (CA : Option Addr) (cc m : Nat) (w : World) (h : NestR w 2 XA (nestR X)) (hm : X.length ≤ maxLen) (hc : w.cell? ⟨g, 1, none⟩ = some (.slice CA m cc)) :
  Calls Try.prog 87 #[.slice XA X.length xc, .func (.func 61) #[] #[.pointer (some ⟨g, 0, none⟩)]] w fun e w' => e = .returned (.int .i64 (firstBad (fun s : List R2 => decide ((s.length : Int) ≠ m)) [] X X.length 0)) ∧ Below w.heap.size w w' := by
 unfold maxLen at hm
 have c1 : ∀ A, CellAt w A g 1 _ := fun A => CellAt.base hc
 generalize hb : (fun s : List R2 => decide ((s.length : Int) ≠ m)) = bad
 refine fn_v tk (n := 19) (A := []) Try.func87 rfl rfl (Nat.le_of_ble_eq_true rfl) (St.nil (Below.refl _ _)) ?_
 ((conv => whnf); apply VStop.mk)
 refine v_loop (fun gm ds ts A => ds = [] ∧ A = [] ∧ ∃ j, j + gm = X.length ∧ firstBad bad [] X X.length 0 = firstBad bad [] X gm j ∧ ts = [(0, .slice XA X.length xc), (1, .func (.func 61) #[] #[.pointer (some ⟨g, 0, none⟩)]), (7, .int .i64 (X.length : Int)), (8, .int .i64 (j : Int))]) X.length (l := [(0, _), (1, _), (7, _), (8, _)]) (B := _) ?_ (List.Sublist.refl _) ⟨rfl, rfl, 0, by omega, rfl, rfl⟩ ?_
 ·exact ⟨rfl, rfl, rfl, rfl, trivial⟩
 rintro gm ds ts A ⟨rfl, rfl, j, hj, hres, rfl⟩
 by_cases hlt : j < X.length
 ·obtain ⟨b, o, rfl, B, c', hce, hrd⟩ := nest_gen h hlt
  have hf := fun w1 (hs : St w [] w1) => size61_any B c' X[j].length g CA cc m w1 (c1 _ w1 hs)
  obtain ⟨gm, rfl⟩ : ∃ g, gm = g + 1 := ⟨gm - 1, by omega⟩
  rw [firstBad, List.getElem?_eq_getElem hlt, Option.getD_some] at hres
  have hx0 : bad X[j] = decide ((X[j].length : Int) ≠ m) := by rw [← hb]
  rw [← hx0] at hf
  cases hx : bad X[j] with
  | true =>
   rw [hx] at hf
   rw [hx, if_pos rfl] at hres
   (apply tr_v tk; (conv => whnf); (repeat ((first | (apply VLd.mk; exact hce _) | (apply VCall.q; kernel_rfl; (focus (intro w1 hs; first | with_reducible apply hf w1 hs))) | apply VBr.t | (apply v_t; omega) | (apply VIx.mk; exact rfl; omega)); (conv => whnf))))
   (apply VRet.mk)
   refine ret1 (by first | exact .inl rfl | exact .inr rfl) rfl (by exact rv_tmp rfl) ?_
   exact fun w h => ⟨by rw [hres], h.base⟩
  | false =>
   rw [hx] at hf
   rw [hx, if_neg (by simp)] at hres
   (apply tr_v tk; (conv => whnf); (repeat ((first | (apply VLd.mk; exact hce _) | (apply VCall.q; kernel_rfl; (focus (intro w1 hs; first | with_reducible apply hf w1 hs))) | (apply VRng.mk; omega) | apply VBr.t | apply VBr.f | (apply v_t; omega) | (apply VIx.mk; exact rfl; omega)); (conv => whnf))))
   exact v_rnd gm (by omega) (l := [(0, _), (1, _), (7, _), (8, _)]) (B := []) ⟨rfl, rfl, rfl, rfl, trivial⟩ (List.nil_sublist _) ⟨rfl, rfl, j + 1, by omega, hres, rfl⟩
 ·obtain rfl : gm = 0 := by omega
  (apply tr_v tk; (conv => whnf); (repeat ((first | apply VBr.f | (apply v_f; omega)); (conv => whnf))))
  (apply VRet.mk)
  refine ret1 (by first | exact .inl rfl | exact .inr rfl) rfl (by exact rv_tmp rfl) ?_
  exact fun w h => ⟨by rw [hres]; rfl, h.base⟩
set_option maxRecDepth 20000 in
theorem contains62_any (XA : Option Addr) (xc : Nat) (X : List (List R2)) (g : Nat) (CA : Option Addr) (cc m : Nat) (w : World) (h : NestR w 2 XA (nestR X)) (hm : X.length ≤ maxLen) (hc : w.cell? ⟨g, 1, none⟩ = some (.slice CA m cc)) :
  Calls Try.prog 62 #[.slice XA X.length xc, .func (.func 61) #[] #[.pointer (some ⟨g, 0, none⟩)]] w fun e w' => e = .returned (.bool (X.any fun s : List R2 => decide ((s.length : Int) ≠ m))) ∧ Below w.heap.size w w' := by
 have hq := firstBad_any (fun s : List R2 => decide ((s.length : Int) ≠ m)) [] X X.length 0 (by omega)
 rw [List.drop_zero] at hq
 rw [← hq]
 have hf := fun w1 (hs : St w [] w1) => index87_any XA xc X g CA cc m w1 (hs.nest h) hm (CellAt.base hc w1 hs)
 refine fn_v tk (n := 9) (A := []) Try.func62 rfl rfl (Nat.le_of_ble_eq_true rfl) (St.nil (Below.refl _ _)) ?_
 ((conv => whnf); (repeat ((first | (apply VCall.q; kernel_rfl; (focus (intro w1 hs; first | with_reducible apply hf w1 hs))) | apply v_d); (conv => whnf))))
 ((apply VRet.mk); refine ret1 (by first | exact .inl rfl | exact .inr rfl) rfl (by exact rv_tmp rfl) ?_; exact fun w h => ⟨rfl, h.base⟩)
set_option maxRecDepth 20000 in
theorem size66_any (B : Option Addr) (c k : Nat) (g : Nat) (CA : Option Addr) (cc m : Nat) (w : World) (hc : w.cell? ⟨g, 1, none⟩ = some (.slice CA m cc)) :
  Calls Try.prog 66 #[.slice B k c, .pointer (some ⟨g, 0, none⟩)] w fun e w' => e = .returned (.bool (decide ((k : Int) ≠ m))) ∧ Below w.heap.size w w' := by
 have c1 : ∀ A, CellAt w A g 1 _ := fun A => CellAt.base hc
 refine fn_v tk (n := 10) (A := []) Try.func66 rfl rfl (Nat.le_of_ble_eq_true rfl) (St.nil (Below.refl _ _)) ?_
 ((conv => whnf); (repeat ((first | (apply VLd.mk; exact c1 _) | apply v_d); (conv => whnf))))
 ((apply VRet.mk); refine ret1 (by first | exact .inl rfl | exact .inr rfl) rfl (by exact rv_tmp rfl) ?_; exact fun w h => ⟨rfl, h.base⟩)
set_option maxRecDepth 20000 in
theorem index90_any (XA : Option Addr) (xc : Nat) (X : List (List Int)) (g : Nat) (CA : Option Addr) (cc m : Nat) (w : World) (h : NestR w 1 XA (nestI X)) (hm : X.length ≤ maxLen) (hc : w.cell? ⟨g, 1, none⟩ = some (.slice CA m cc)) :
  Calls Try.prog 90 #[.slice XA X.length xc, .func (.func 66) #[] #[.pointer (some ⟨g, 0, none⟩)]] w fun e w' => e = .returned (.int .i64 (firstBad (fun s : List Int => decide ((s.length : Int) ≠ m)) [] X X.length 0)) ∧ Below w.heap.size w w' := by
 unfold maxLen at hm
 have c1 : ∀ A, CellAt w A g 1 _ := fun A => CellAt.base hc
 generalize hb : (fun s : List Int => decide ((s.length : Int) ≠ m)) = bad
 refine fn_v tk (n := 19) (A := []) Try.func90 rfl rfl (Nat.le_of_ble_eq_true rfl) (St.nil (Below.refl _ _)) ?_
 ((conv => whnf); apply VStop.mk)
 refine v_loop (fun gm ds ts A => ds = [] ∧ A = [] ∧ ∃ j, j + gm = X.length ∧ firstBad bad [] X X.length 0 = firstBad bad [] X gm j ∧ ts = [(0, .slice XA X.length xc), (1, .func (.func 66) #[] #[.pointer (some ⟨g, 0, none⟩)]), (7, .int .i64 (X.length : Int)), (8, .int .i64 (j : Int))]) X.length (l := [(0, _), (1, _), (7, _), (8, _)]) (B := _) ?_ (List.Sublist.refl _) ⟨rfl, rfl, 0, by omega, rfl, rfl⟩ ?_
 ·exact ⟨rfl, rfl, rfl, rfl, trivial⟩
 rintro gm ds ts A ⟨rfl, rfl, j, hj, hres, rfl⟩
 by_cases hlt : j < X.length
 ·obtain ⟨b, o, rfl, B, c', hce, hrd⟩ := nest_gen h hlt
  have hf := fun w1 (hs : St w [] w1) => size66_any B c' X[j].length g CA cc m w1 (c1 _ w1 hs)
  obtain ⟨gm, rfl⟩ : ∃ g, gm = g + 1 := ⟨gm - 1, by omega⟩
  rw [firstBad, List.getElem?_eq_getElem hlt, Option.getD_some] at hres
  have hx0 : bad X[j] = decide ((X[j].length : Int) ≠ m) := by rw [← hb]
  rw [← hx0] at hf
  cases hx : bad X[j] with
  | true =>
   rw [hx] at hf
   rw [hx, if_pos rfl] at hres
   (apply tr_v tk; (conv => whnf); (repeat ((first | (apply VLd.mk; exact hce _) | (apply VCall.q; kernel_rfl; (focus (intro w1 hs; first | with_reducible apply hf w1 hs))) | apply VBr.t | (apply v_t; omega) | (apply VIx.mk; exact rfl; omega)); (conv => whnf))))
   (apply VRet.mk)
   refine ret1 (by first | exact .inl rfl | exact .inr rfl) rfl (by exact rv_tmp rfl) ?_
   exact fun w h => ⟨by rw [hres], h.base⟩
  | false =>
   rw [hx] at hf
   rw [hx, if_neg (by simp)] at hres
   (apply tr_v tk; (conv => whnf); (repeat ((first | (apply VLd.mk; exact hce _) | (apply VCall.q; kernel_rfl; (focus (intro w1 hs; first | with_reducible apply hf w1 hs))) | (apply VRng.mk; omega) | apply VBr.t | apply VBr.f | (apply v_t; omega) | (apply VIx.mk; exact rfl; omega)); (conv => whnf))))
   exact v_rnd gm (by omega) (l := [(0, _), (1, _), (7, _), (8, _)]) (B := []) ⟨rfl, rfl, rfl, rfl, trivial⟩ (List.nil_sublist _) ⟨rfl, rfl, j + 1, by omega, hres, rfl⟩
 ·obtain rfl : gm = 0 := by omega
  (apply tr_v tk; (conv => whnf); (repeat ((first | apply VBr.f | (apply v_f; omega)); (conv => whnf))))
  (apply VRet.mk)
  refine ret1 (by first | exact .inl rfl | exact .inr rfl) rfl (by exact rv_tmp rfl) ?_
  exact fun w h => ⟨by rw [hres]; rfl, h.base⟩
set_option maxRecDepth 20000 in
theorem contains67_any (XA : Option Addr) (xc : Nat) (X : List (List Int)) (g : Nat) (CA : Option Addr) (cc m : Nat) (w : World) (h : NestR w 1 XA (nestI X)) (hm : X.length ≤ maxLen) (hc : w.cell? ⟨g, 1, none⟩ = some (.slice CA m cc)) :
  Calls Try.prog 67 #[.slice XA X.length xc, .func (.func 66) #[] #[.pointer (some ⟨g, 0, none⟩)]] w fun e w' => e = .returned (.bool (X.any fun s : List Int => decide ((s.length : Int) ≠ m))) ∧ Below w.heap.size w w' := by
 have hq := firstBad_any (fun s : List Int => decide ((s.length : Int) ≠ m)) [] X X.length 0 (by omega)
 rw [List.drop_zero] at hq
 rw [← hq]
 have hf := fun w1 (hs : St w [] w1) => index90_any XA xc X g CA cc m w1 (hs.nest h) hm (CellAt.base hc w1 hs)
 refine fn_v tk (n := 9) (A := []) Try.func67 rfl rfl (Nat.le_of_ble_eq_true rfl) (St.nil (Below.refl _ _)) ?_
 ((conv => whnf); (repeat ((first | (apply VCall.q; kernel_rfl; (focus (intro w1 hs; first | with_reducible apply hf w1 hs))) | apply v_d); (conv => whnf))))
 ((apply VRet.mk); refine ret1 (by first | exact .inl rfl | exact .inr rfl) rfl (by exact rv_tmp rfl) ?_; exact fun w h => ⟨rfl, h.base⟩)
set_option maxRecDepth 20000 in
/-- slices.Grow of nothing. -/
theorem grow89_any (n : Nat) (hn : n ≤ 1000000) (w : World) : Calls Try.prog 89 #[.slice none 0 0, .int .i64 (n : Int)] w (OwnRet 37 2 0 [] w) := by
 refine fn_v tk (n := 27) (A := []) Try.func89 rfl rfl (Nat.le_of_ble_eq_true rfl) (St.nil (Below.refl _ _)) ?_
 by_cases h0 : (n : Int) > 0
 ·((conv => whnf); (repeat ((first | (apply VStop.mk; (first | refine ot_cap tk rfl rfl rfl rfl rfl rfl ?_ | refine ot_slice_hi tk rfl rfl rfl rfl rfl rfl rfl rfl (hi := 0) rfl (Nat.zero_le _) ?_ | (refine ot_append_make (m := n) tk (by decide) rfl rfl rfl rfl rfl (by omega) rfl rfl rfl rfl rfl rfl (by omega) (by omega) (by decide) ?_; intro g cap hg hc1 hc2)); apply ot_v tk) | (apply VRng.mk; omega) | apply VBr.t | apply VBr.f | (apply v_t; omega) | (apply v_f; omega)); (conv => whnf))))
  (apply VRet.mk)
  refine ret1 (by first | exact .inl rfl | exact .inr rfl) rfl (by exact rv_tmp rfl) ?_
  intro w1 hs
  refine ⟨⟨_, rfl, rfl, .inr ?_⟩, hs.base⟩
  obtain ⟨h1, _, cur, h3, h4⟩ := hs.all _ (.head _)
  exact ⟨g, cap, cur, rfl, h1, h3, by omega, hc2, h4, by simp⟩
 ·((conv => whnf); (repeat ((first | (apply VStop.mk; refine ot_cap tk rfl rfl rfl rfl rfl rfl ?_; apply ot_v tk) | (apply VRng.mk; omega) | apply VBr.f | (apply v_f; omega)); (conv => whnf))))
  (apply VRet.mk)
  refine ret1 (by first | exact .inl rfl | exact .inr rfl) rfl (by exact rv_tmp rfl) ?_
  exact fun w1 hs => ⟨⟨_, rfl, rfl, .inl ⟨rfl, rfl⟩⟩, hs.base⟩
set_option maxHeartbeats 1000000 in
set_option maxRecDepth 20000 in
theorem concat64_any (Al : Option Addr) (c : Nat) (L : List (Nat × List Value)) (w : World) (h : NestR w 2 Al L) (hl : L.length ≤ 1000) (hs : sumN L ≤ 100000) (h1 : ∀ p ∈ L, ∀ u ∈ p.2, u.oneCell' = true) :
  Calls Try.prog 64 #[.slice Al L.length c] w (OwnRet 37 2 (sumN L) (catN L) w) := by
 obtain ⟨vs, hv, hi⟩ := h
 have hsz := fun k (hk : k ≤ L.length) => sumN_take L k hk
 refine fn_v tk (n := 36) (A := []) Try.func64 rfl rfl (Nat.le_of_ble_eq_true rfl) (St.nil (Below.refl _ _)) ?_
 ((conv => whnf); apply VStop.mk)
 refine v_loop (fun gm ds ts A => ds = [] ∧ A = [] ∧ ∃ j, j + gm = L.length ∧ ts = [(0, .slice Al L.length c), (3, .int .i64 (sumN (L.take j) : Int)), (9, .slice Al L.length c), (10, .int .i64 (L.length : Int)), (11, .int .i64 (j : Int))]) L.length (l := [(0, _), (3, _), (9, _), (10, _), (11, _)]) (B := _) ?_ (List.Sublist.refl _) ⟨rfl, rfl, 0, by omega, rfl⟩ ?_
 ·exact ⟨rfl, rfl, rfl, rfl, rfl, trivial⟩
 rintro gm ds ts A ⟨rfl, rfl, j, hj, rfl⟩
 by_cases hlt : j < L.length
 ·obtain ⟨B, c', e1, hr⟩ := hi j hlt
  obtain ⟨b, o, rfl, _, hcell⟩ := hv.2 (by omega)
  have hc : ∀ A, CellAt w A b (o + j * 1) _ := fun A => CellAt.base (by rw [Nat.mul_one]; exact hcell j _ e1)
  have hst := sumN_step L j hlt
  have hs1 := hsz (j + 1) (by omega)
  have hs0 := hsz j (by omega)
  rw [hst] at hs1
  (apply tr_v tk; (conv => whnf); (repeat ((first | (apply VLd.mk; exact hc _) | (apply VRng.mk; omega) | apply VBr.t | apply VBr.f | (apply v_t; omega) | (apply v_f; omega) | (apply VIx.mk; exact rfl; omega)); (conv => whnf))))
  exact v_rnd (gm - 1) (by omega) (l := [(0, _), (3, _), (9, _), (10, _), (11, _)]) (B := []) ⟨rfl, rfl, rfl, rfl, rfl, trivial⟩ (List.nil_sublist _) ⟨rfl, rfl, j + 1, by omega, by rw [hst]; rfl⟩
 ·obtain rfl : j = L.length := by omega
  rw [List.take_length]
  (apply tr_v tk; (conv => whnf); (repeat ((first | apply VBr.f | (apply v_f; omega)); (conv => whnf))); apply VCall.stop)
  refine ot_call_own (t := 37) (sz := 2) (m := 0) (xs := []) (by decide) rfl rfl rfl (by kernel_rfl) (evl_of rfl) (fun w1 hs => grow89_any (sumN L) (by omega) w1) (fun v0 => ?_)
  (apply ot_v tk; (conv => whnf); apply VStop.mk)
  refine v_loop (fun gm ds ts A => ds = [] ∧ ∃ j v, j + gm = L.length ∧ A = [.own v 37 2 (sumN (L.take j)) (catN (L.take j))] ∧ ts = [(6, v), (25, .slice Al L.length c), (26, .int .i64 (L.length : Int)), (27, .int .i64 (j : Int))]) L.length (l := [(6, _), (25, _), (26, _), (27, _)]) (B := [_]) ?_ (by (repeat (first | exact sl0 _ | exact sl1 _ | refine sl2 _ ?_ | refine sl3 _ ?_))) ⟨rfl, 0, v0, by omega, rfl, rfl⟩ ?_
  ·exact ⟨rfl, rfl, rfl, rfl, trivial⟩
  rintro gm ds ts A ⟨rfl, j, v, hj, rfl, rfl⟩
  by_cases hlt : j < L.length
  ·obtain ⟨B, c', e1, hr⟩ := hi j hlt
   obtain ⟨b, o, rfl, _, hcell⟩ := hv.2 (by omega)
   have hc : ∀ A, CellAt w A b (o + j * 1) _ := fun A => CellAt.base (by rw [Nat.mul_one]; exact hcell j _ e1)
   have hst := sumN_step L j hlt
   have hct := catN_step L j hlt
   have hs1 := hsz (j + 1) (by omega)
   rw [hst] at hs1
   (apply tr_v tk; (conv => whnf); (repeat ((first | (apply VLd.mk; exact hc _) | apply VBr.t | (apply v_t; omega) | (apply VIx.mk; exact rfl; omega)); (conv => whnf))); apply VStop.mk)
   refine ot_appendR (sz := 2) (A'v := fun v' => [.own v' 37 2 _ _]) tk rfl rfl rfl rfl rfl rfl rfl rfl rfl rfl (by decide) rfl (fun w1 hs => hs.reads hr) (h1 _ (List.getElem_mem hlt)) (fun v' => by (repeat (first | exact Upd.here | apply Upd.there))) (by omega) (by decide) (fun v' => ?_)
   (apply ot_v tk; (conv => whnf); (repeat ((apply VRng.mk; omega); (conv => whnf))))
   exact v_rnd (gm - 1) (by omega) (l := [(6, _), (25, _), (26, _), (27, _)]) (B := [_]) ⟨rfl, rfl, rfl, rfl, trivial⟩ (List.Sublist.refl _) ⟨rfl, j + 1, v', by omega, by rw [hst, hct], rfl⟩
  ·obtain rfl : j = L.length := by omega
   rw [List.take_length]
   (apply tr_v tk; (conv => whnf); (repeat ((first | apply VBr.f | (apply v_f; omega)); (conv => whnf))))
   (apply VRet.mk)
   refine ret1 (by first | exact .inl rfl | exact .inr rfl) rfl (by exact rv_tmp rfl) ?_
   exact fun w1 hs => own_ret hs (.head _)
end Go.Proofs.Ytalcccgialpjgaa
