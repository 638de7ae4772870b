/- The operations, one by one: lemmas for the rows of this seat. No conditions. -/
import Derived.IntWalk
import Derived.Deep.MidRow
import Derived.BigCall
import Derived.Test.YtiodmphhjgkgjaaGreatS1
set_option linter.all false
namespace Go.Proofs.YtiodmphhjgkgjaaGreat
open Go.RowKit
/-! ## The operations, one by one -/
inductive TD where
  | sc
  | int (k : IntKind)
  | st (fs : List (Nat × Nat))
  | ar (n e : Nat)
  | sl (e : Nat)
  | pt (e : Nat)
  | mp (k e : Nat)
structure TI where
  d : TD
  size : Nat
  bytes : Nat
  zero : List Value
def IntKind.same : IntKind → IntKind → Bool := fun a b => decide (a = b)
def tdOk (P : Program) : TypeDesc → TD → Bool
  | .struct fs, .st l => decide (fs.toList.map (fun f => (f.offset, f.type)) = l) && fs.toList.all fun f => P.cellsOf f.type != 0
  | .array n e, .ar m e' => n == m && e == e'
  | .slice e, .sl e' => e == e'
  | .map k e, .mp k' e' => k == k' && e == e'
  | .pointer e, .pt e' => e == e'
  | .int k, .int k' => decide (k = k')
  | .struct _, .sc => false
  | .array _ _, .sc => false
  | _, .sc => true
  | _, _ => false
structure TIok (P : Program) (t : Nat) (i : TI) : Prop where
  size : P.cellsOf t = i.size
  bytes : P.bytesOf t = i.bytes
  zero : ((P.info? t).bind (·.zero)).map (·.cells.toList) = some i.zero
  td : (match P.underlying t with
    | some d => tdOk P d i.d
    | none => false) = true
/-- A table of types, as a tree. -/
inductive TT where
  | leaf
  | node (t : Nat) (i : TI) (l r : TT)
def lookI : TT → Nat → Option TI
  | .leaf, _ => none
  | .node t i l r, u => match Nat.beq t u with
    | true => some i
    | false => match Nat.blt u t with
      | true => lookI l u
      | false => lookI r u
def TabOk (P : Program) (tab : TT) : Prop := ∀ t i, lookI tab t = some i → TIok P t i
theorem tab_leaf {P : Program} : TabOk P .leaf := fun _ _ h => by cases h
theorem tab_node {P : Program} {t : Nat} {i : TI} {l r : TT} (h : TIok P t i) (hl : TabOk P l) (hr : TabOk P r) : TabOk P (.node t i l r) := fun u j hj => by
  simp only [lookI] at hj
  split at hj
  · rename_i he
    obtain rfl : t = u := Nat.eq_of_beq_eq_true he
    cases hj
    exact h
  · split at hj
    · exact hl u j hj
    · exact hr u j hj
def TD.isRow : TD → Bool
  | .st _ => true
  | .ar _ _ => true
  | _ => false

section
variable {P : Program} {t : Nat} {i : TI}
theorem TIok.info (h : TIok P t i) : ∃ j z, P.info? t = some j ∧ j.size = i.size ∧ j.bytes = i.bytes ∧ j.zero = some z ∧ z.cells.toList = i.zero := by
  have h1 := h.zero
  cases hj : P.info? t with
  | none => simp [hj] at h1
  | some j =>
    simp only [hj, Option.bind_some, Option.map_eq_some_iff] at h1
    obtain ⟨z, hz, hc⟩ := h1
    have h2 := h.size
    have h3 := h.bytes
    simp [Program.cellsOf, Program.bytesOf, hj] at h2 h3
    exact ⟨j, z, rfl, h2, h3, hz, hc⟩
theorem TIok.und (h : TIok P t i) : ∃ d, P.underlying t = some d ∧ tdOk P d i.d = true := by
  have := h.td
  cases hd : P.underlying t with
  | none => simp [hd] at this
  | some d => rw [hd] at this; exact ⟨d, rfl, this⟩
theorem TIok.sl (h : TIok P t i) {e : Nat} (hi : i.d = .sl e) : P.underlying t = some (.slice e) := by
  obtain ⟨d, h1, h2⟩ := h.und
  rw [hi] at h2
  cases d <;> simp [tdOk] at h2
  subst h2; exact h1
theorem TIok.ar (h : TIok P t i) {e m : Nat} (hi : i.d = .ar m e) : P.underlying t = some (.array m e) := by
  obtain ⟨d, h1, h2⟩ := h.und
  rw [hi] at h2
  cases d <;> simp [tdOk] at h2
  obtain ⟨rfl, rfl⟩ := h2; exact h1
theorem TIok.pt (h : TIok P t i) {e : Nat} (hi : i.d = .pt e) : P.underlying t = some (.pointer e) := by
  obtain ⟨d, h1, h2⟩ := h.und
  rw [hi] at h2
  cases d <;> simp [tdOk] at h2
  subst h2; exact h1
theorem TIok.mp (h : TIok P t i) {k e : Nat} (hi : i.d = .mp k e) : P.underlying t = some (.map k e) := by
  obtain ⟨d, h1, h2⟩ := h.und
  rw [hi] at h2
  cases d <;> simp [tdOk] at h2
  obtain ⟨rfl, rfl⟩ := h2; exact h1
theorem TIok.int (h : TIok P t i) {k : IntKind} (hi : i.d = .int k) : P.underlying t = some (.int k) := by
  obtain ⟨d, h1, h2⟩ := h.und
  rw [hi] at h2
  cases d <;> simp [tdOk] at h2
  subst h2; exact h1
theorem TIok.st (h : TIok P t i) {l : List (Nat × Nat)} (hi : i.d = .st l) : ∃ fs : Array Field, P.underlying t = some (.struct fs) ∧ fs.toList.map (fun f => (f.offset, f.type)) = l ∧ ∀ f ∈ fs.toList, P.cellsOf f.type ≠ 0 := by
  obtain ⟨d, h1, h2⟩ := h.und
  rw [hi] at h2
  cases d <;> simp [tdOk] at h2
  rename_i fs
  exact ⟨fs, h1, h2.1, fun f hf => by
    obtain ⟨k, hk, rfl⟩ := Array.mem_iff_getElem.1 (by simpa using hf)
    exact h2.2 k hk⟩
theorem TIok.agg (h : TIok P t i) (w : World) : (isAgg t).run P w = .ok i.d.isRow w := by
  obtain ⟨d, h1, h2⟩ := h.und
  unfold isAgg
  rw [Sem.run_bind, run_underlying h1]
  cases d <;> cases hi : i.d <;> rw [hi] at h2 <;> simp [tdOk] at h2 <;> rfl
theorem TIok.sz (h : TIok P t i) (w : World) : (sizeOf t).run P w = .ok i.size w := by
  obtain ⟨j, z, hj, h1, _⟩ := h.info
  simp [sizeOf, typeInfo, hj, h1]
theorem TIok.zv (h : TIok P t i) (w : World) : ∃ z : Value, (zeroValue t).run P w = .ok z w ∧ z.cells = i.zero.toArray := by
  obtain ⟨j, z, hj, _, _, hz, hc⟩ := h.info
  exact ⟨z, by simp [zeroValue, typeInfo, hj, hz], by simp [← hc]⟩
theorem sizeOf_cells {f : Nat} (hf : P.cellsOf f ≠ 0) (w : World) : (sizeOf f).run P w = .ok (P.cellsOf f) w := by
  cases hj : P.info? f with
  | none => simp [Program.cellsOf, hj] at hf
  | some j => simp [sizeOf, typeInfo, Program.cellsOf, hj]
end

section
variable {P : Program} {tab : TT} {w0 : World} {n : Nat} {ds : List Deferred} {ops : List Oper} {o : Oper} {os : List Oper} {ks : List Kind} {ts : TS} {A : List Chunk} {K : TS → List Chunk → Prop} {d : Tmp}
theorem ot_val (v : Value) (hd : o.dst = some d) (hw : wantB ops ts o = some true) (hrun : ∀ a w, Hd w0 n ds ts A a w → (execOp a.eval o).run P w = .ok (.value v) w)
    (hk : OT P w0 n ds ops os ks.tail ((d, v) :: ts) A K) : OT P w0 n ds ops (o :: os) ks ts A K := by
  refine ot_rd (v := v) (fun a w hh => ?_) (by rw [hd]; exact hk)
  unfold wpV
  rw [if_pos (wantB_spec hh hw), hrun a w hh]
  exact ⟨rfl, Below.refl _ _⟩
theorem ot_skip (hd : o.dst = some d) (hw : wantB ops ts o = some false) (hk : OT P w0 n ds ops os ks.tail ((d, undef) :: ts) A K) : OT P w0 n ds ops (o :: os) ks ts A K := by
  refine ot_rd (v := undef) (fun a w hh => ?_) (by rw [hd]; exact hk)
  unfold wpV
  rw [if_neg (by rw [wantB_spec hh hw]; simp)]
  exact ⟨rfl, Below.refl _ _⟩
theorem ot_skip_none (hd : o.dst = none) (hw : wantB ops ts o = some false) (hk : OT P w0 n ds ops os ks.tail ts A K) : OT P w0 n ds ops (o :: os) ks ts A K := by
  refine ot_rd (v := undef) (fun a w hh => ?_) (by rw [hd]; exact hk)
  unfold wpV
  rw [if_neg (by rw [wantB_spec hh hw]; simp)]
  exact ⟨rfl, Below.refl _ _⟩
theorem ot_move {x : Operand} {v : Value} (hop : o.op = .move x) (hd : o.dst = some d) (hw : wantB ops ts o = some true) (hx : evT ts x = some v)
    (hk : OT P w0 n ds ops os ks.tail ((d, v) :: ts) A K) : OT P w0 n ds ops (o :: os) ks ts A K :=
  ot_val v hd hw (fun a w hh => by simp [execOp, hop, hh.ev hx]) hk
theorem ot_assign {x : Operand} {v : Value} (hop : o.op = .assign x) (hd : o.dst = some d) (hw : wantB ops ts o = some true) (hx : evT ts x = some v)
    (hk : OT P w0 n ds ops os ks.tail ((d, v) :: ts) A K) : OT P w0 n ds ops (o :: os) ks ts A K :=
  ot_val v hd hw (fun a w hh => by simp [execOp, hop, hh.ev hx]) hk
theorem ot_pick {c x y : Operand} {b : Bool} {v : Value} (hop : o.op = .pick c x y) (hd : o.dst = some d) (hw : wantB ops ts o = some true) (hc : evT ts c = some (.bool b)) (hx : b = true → evT ts x = some v) (hy : b = false → evT ts y = some v)
    (hk : OT P w0 n ds ops os ks.tail ((d, v) :: ts) A K) : OT P w0 n ds ops (o :: os) ks ts A K :=
  ot_val v hd hw (fun a w hh => by
    cases b
    · simp [execOp, hop, hh.ev hc, hh.ev (hy rfl), asBool]
    · simp [execOp, hop, hh.ev hc, hh.ev (hx rfl), asBool]) hk
theorem ot_pick_t {c x y : Operand} {v : Value} (hop : o.op = .pick c x y) (hd : o.dst = some d) (hw : wantB ops ts o = some true) (hc : evT ts c = some (.bool true)) (hx : evT ts x = some v)
    (hk : OT P w0 n ds ops os ks.tail ((d, v) :: ts) A K) : OT P w0 n ds ops (o :: os) ks ts A K := ot_pick hop hd hw hc (fun _ => hx) (fun e => by cases e) hk
theorem ot_pick_f {c x y : Operand} {v : Value} (hop : o.op = .pick c x y) (hd : o.dst = some d) (hw : wantB ops ts o = some true) (hc : evT ts c = some (.bool false)) (hx : evT ts y = some v)
    (hk : OT P w0 n ds ops os ks.tail ((d, v) :: ts) A K) : OT P w0 n ds ops (o :: os) ks ts A K := ot_pick hop hd hw hc (fun e => by cases e) (fun _ => hx) hk
theorem ot_extract {x : Operand} {vs : Array Value} {i : Nat} {v : Value} (hop : o.op = .extract x i) (hd : o.dst = some d) (hw : wantB ops ts o = some true) (hx : evT ts x = some (.tuple vs)) (hvL : vs.toList[i]? = some v)
    (hk : OT P w0 n ds ops os ks.tail ((d, v) :: ts) A K) : OT P w0 n ds ops (o :: os) ks ts A K :=
  ot_val v hd hw (fun a w hh => by
    have hv : vs[i]? = some v := by simpa using hvL
    simp [execOp, hop, hh.ev hx, Instr.extract, hv]) hk
theorem ot_nilCheck {x : Operand} {a0 : Addr} (hop : o.op = .nilCheck x) (hd : o.dst = some d) (hw : wantB ops ts o = some true) (hx : evT ts x = some (.pointer (some a0)))
    (hk : OT P w0 n ds ops os ks.tail ((d, .pointer (some a0)) :: ts) A K) : OT P w0 n ds ops (o :: os) ks ts A K :=
  ot_val _ hd hw (fun a w hh => by simp [execOp, hop, hh.ev hx]) hk
/-! ### Numbers -/
section
variable {x y : Operand} {t u : TypeId} {k : IntKind} {p q : Int}
theorem ot_bin {op : BinOp} {v : Value} (hop : o.op = .binOp op t x y u) (hd : o.dst = some d) (hw : wantB ops ts o = some true) (hx : evT ts x = some (.int k p)) (hy : evT ts y = some (.int k q))
    (hr : ∀ w, (binOp op t (.int k p) (.int k q)).run P w = .ok v w) (hk : OT P w0 n ds ops os ks.tail ((d, v) :: ts) A K) : OT P w0 n ds ops (o :: os) ks ts A K :=
  ot_val v hd hw (fun a w hh => by
    have : eqGuard op t x y (.int k p) (.int k q) = pure () := by cases op <;> rfl
    simp [execOp, hop, hh.ev hx, hh.ev hy, this, hr]) hk
theorem ot_add (hop : o.op = .binOp .add t x y u) (hd : o.dst = some d) (hw : wantB ops ts o = some true) (hx : evT ts x = some (.int .i64 p)) (hy : evT ts y = some (.int .i64 q)) (hr : -9223372036854775808 ≤ p + q ∧ p + q ≤ 9223372036854775807)
    (hk : OT P w0 n ds ops os ks.tail ((d, .int .i64 (p + q)) :: ts) A K) : OT P w0 n ds ops (o :: os) ks ts A K :=
  ot_bin hop hd hw hx hy (fun w => by simp [binOp_add, Op.intArith, IntWalk.i64_in _ hr]) hk
theorem ot_sub (hop : o.op = .binOp .sub t x y u) (hd : o.dst = some d) (hw : wantB ops ts o = some true) (hx : evT ts x = some (.int .i64 p)) (hy : evT ts y = some (.int .i64 q)) (hr : -9223372036854775808 ≤ p - q ∧ p - q ≤ 9223372036854775807)
    (hk : OT P w0 n ds ops os ks.tail ((d, .int .i64 (p - q)) :: ts) A K) : OT P w0 n ds ops (o :: os) ks ts A K :=
  ot_bin hop hd hw hx hy (fun w => by simp [binOp_sub, Op.intArith, IntWalk.i64_in _ hr]) hk
theorem ot_mul (hop : o.op = .binOp .mul t x y u) (hd : o.dst = some d) (hw : wantB ops ts o = some true) (hx : evT ts x = some (.int .i64 p)) (hy : evT ts y = some (.int .i64 q)) (hr : -9223372036854775808 ≤ p * q ∧ p * q ≤ 9223372036854775807)
    (hk : OT P w0 n ds ops os ks.tail ((d, .int .i64 (p * q)) :: ts) A K) : OT P w0 n ds ops (o :: os) ks ts A K :=
  ot_bin hop hd hw hx hy (fun w => by simp [binOp_mul, Op.intArith, IntWalk.i64_in _ hr]) hk
theorem ot_quo (hop : o.op = .binOp .quo t x y u) (hd : o.dst = some d) (hw : wantB ops ts o = some true) (hx : evT ts x = some (.int .i64 p)) (hy : evT ts y = some (.int .i64 q)) (h0 : q ≠ 0) (hr : -9223372036854775808 ≤ p.tdiv q ∧ p.tdiv q ≤ 9223372036854775807)
    (hk : OT P w0 n ds ops os ks.tail ((d, .int .i64 (p.tdiv q)) :: ts) A K) : OT P w0 n ds ops (o :: os) ks ts A K :=
  ot_bin hop hd hw hx hy (fun w => by simp [binOp_quo, Op.intDiv, h0, IntWalk.i64_in _ hr]) hk
theorem ot_rem (hop : o.op = .binOp .rem t x y u) (hd : o.dst = some d) (hw : wantB ops ts o = some true) (hx : evT ts x = some (.int k p)) (hy : evT ts y = some (.int k q)) (h0 : q ≠ 0)
    (hk : OT P w0 n ds ops os ks.tail ((d, .int k (p.tmod q)) :: ts) A K) : OT P w0 n ds ops (o :: os) ks ts A K :=
  ot_bin hop hd hw hx hy (fun w => by simp [binOp_rem, Op.intDiv, h0]) hk
theorem ot_lss (hop : o.op = .binOp .lss t x y u) (hd : o.dst = some d) (hw : wantB ops ts o = some true) (hx : evT ts x = some (.int k p)) (hy : evT ts y = some (.int k q)) (b : Bool) (hb : decide (p < q) = b)
    (hk : OT P w0 n ds ops os ks.tail ((d, .bool b) :: ts) A K) : OT P w0 n ds ops (o :: os) ks ts A K :=
  ot_bin hop hd hw hx hy (fun w => by rw [binOp_lss]; simp [hb]) hk
theorem ot_leq (hop : o.op = .binOp .leq t x y u) (hd : o.dst = some d) (hw : wantB ops ts o = some true) (hx : evT ts x = some (.int k p)) (hy : evT ts y = some (.int k q)) (b : Bool) (hb : decide (p ≤ q) = b)
    (hk : OT P w0 n ds ops os ks.tail ((d, .bool b) :: ts) A K) : OT P w0 n ds ops (o :: os) ks ts A K :=
  ot_bin hop hd hw hx hy (fun w => by rw [binOp_leq]; simp [hb]) hk
theorem ot_gtr (hop : o.op = .binOp .gtr t x y u) (hd : o.dst = some d) (hw : wantB ops ts o = some true) (hx : evT ts x = some (.int k p)) (hy : evT ts y = some (.int k q)) (b : Bool) (hb : decide (q < p) = b)
    (hk : OT P w0 n ds ops os ks.tail ((d, .bool b) :: ts) A K) : OT P w0 n ds ops (o :: os) ks ts A K :=
  ot_bin hop hd hw hx hy (fun w => by rw [binOp_gtr]; simp [hb]) hk
theorem ot_geq (hop : o.op = .binOp .geq t x y u) (hd : o.dst = some d) (hw : wantB ops ts o = some true) (hx : evT ts x = some (.int k p)) (hy : evT ts y = some (.int k q)) (b : Bool) (hb : decide (q ≤ p) = b)
    (hk : OT P w0 n ds ops os ks.tail ((d, .bool b) :: ts) A K) : OT P w0 n ds ops (o :: os) ks ts A K :=
  ot_bin hop hd hw hx hy (fun w => by rw [binOp_geq]; simp [hb]) hk
theorem ot_eql (hop : o.op = .binOp .eql t x y u) (hd : o.dst = some d) (hw : wantB ops ts o = some true) (hx : evT ts x = some (.int k p)) (hy : evT ts y = some (.int k q)) (b : Bool) (hb : decide (p = q) = b)
    (hk : OT P w0 n ds ops os ks.tail ((d, .bool b) :: ts) A K) : OT P w0 n ds ops (o :: os) ks ts A K :=
  ot_bin hop hd hw hx hy (fun w => by rw [binOp_eql]; subst hb; by_cases h : p = q <;> simp [h]) hk
theorem ot_neq (hop : o.op = .binOp .neq t x y u) (hd : o.dst = some d) (hw : wantB ops ts o = some true) (hx : evT ts x = some (.int k p)) (hy : evT ts y = some (.int k q)) (b : Bool) (hb : decide (p ≠ q) = b)
    (hk : OT P w0 n ds ops os ks.tail ((d, .bool b) :: ts) A K) : OT P w0 n ds ops (o :: os) ks ts A K :=
  ot_bin hop hd hw hx hy (fun w => by rw [binOp_neq]; subst hb; by_cases h : p = q <;> simp [h]) hk
theorem ot_neg (hop : o.op = .unOp .neg t x) (hd : o.dst = some d) (hw : wantB ops ts o = some true) (hx : evT ts x = some (.int .i64 p)) (hr : -9223372036854775807 ≤ p ∧ p ≤ 9223372036854775807)
    (hk : OT P w0 n ds ops os ks.tail ((d, .int .i64 (-p)) :: ts) A K) : OT P w0 n ds ops (o :: os) ks ts A K :=
  ot_val _ hd hw (fun a w hh => by
    have h0 : (0 : Int) - p = -p := by omega
    simp [execOp, hop, hh.ev hx, Op.unary, Op.intArith, h0, IntWalk.i64_in (-p) (by omega)]) hk
theorem ot_not {b : Bool} (hop : o.op = .unOp .not t x) (hd : o.dst = some d) (hw : wantB ops ts o = some true) (hx : evT ts x = some (.bool b))
    (hk : OT P w0 n ds ops os ks.tail ((d, .bool (!b)) :: ts) A K) : OT P w0 n ds ops (o :: os) ks ts A K :=
  ot_val _ hd hw (fun a w hh => by simp [execOp, hop, hh.ev hx, Op.unary]) hk
theorem ot_convert {i j : TI} {k' : IntKind} (hT : TabOk P tab) (hop : o.op = .convert t u x) (hd : o.dst = some d) (hw : wantB ops ts o = some true) (hx : evT ts x = some (.int k' p)) (hi : lookI tab t = some i) (hj : lookI tab u = some j) (hjd : j.d = .int k)
    (hr : k.wrap p = q) (hk : OT P w0 n ds ops os ks.tail ((d, .int k q) :: ts) A K) : OT P w0 n ds ops (o :: os) ks ts A K :=
  ot_val _ hd hw (fun a w hh => by
    obtain ⟨dd, h1, _⟩ := (hT t i hi).und
    have h2 := (hT u j hj).int hjd
    simp [execOp, hop, hh.ev hx, convert, run_underlying h1, run_underlying h2, Conv.intToInt, hr]) hk
end
end
/-! ## Memory -/
/-- A cell's value, by what is told. -/
def CellAt (w0 : World) (A : List Chunk) (b o : Nat) (v : Value) : Prop := ∀ w, St w0 A w → w.cell? ⟨b, o, none⟩ = some v
def CellsAt (w0 : World) (A : List Chunk) (b o : Nat) (cs : List Value) : Prop := ∀ w, St w0 A w → w.rangeAt b o cs
theorem Addr.add_none (b o j : Nat) : (⟨b, o, none⟩ : Addr).add j = ⟨b, o + j, none⟩ := Addr.add_mid b o j
section
variable {w0 : World} {A : List Chunk} {b o g j : Nat} {v : Value} {t : TypeId}
theorem cell_row {cs : List Value} (h : .row b o cs ∈ A) (hv : cs[j]? = some v) : CellAt w0 A b (o + j) v := fun w hs => (hs.all _ h).2 j v hv
theorem cell_blk {cs : List Value} (h : .blk g t cs ∈ A) (hv : cs[j]? = some v) : CellAt w0 A g j v := fun w hs => by rw [(hs.all _ h).2.cell]; simpa using hv
theorem cells_blk {cs xs : List Value} (h : .blk g t cs ∈ A) (hv : ∀ i u, xs[i]? = some u → cs[j + i]? = some u) : CellsAt w0 A g j xs := fun w hs i u hu => by
  rw [(hs.all _ h).2.cell]; simpa using hv i u hu
theorem cells_blk_all {cs : List Value} (h : .blk g t cs ∈ A) : CellsAt w0 A g 0 cs := cells_blk h fun i u hu => by simpa using hu
end
section
variable {P : Program} {tab : TT} {w0 : World} {n : Nat} {ds : List Deferred} {ops : List Oper} {o : Oper} {os : List Oper} {ks : List Kind} {ts : TS} {A A' : List Chunk} {K : TS → List Chunk → Prop} {d : Tmp}
variable {x y : Operand} {t u : TypeId} {k : IntKind} {b off g : Nat} {i i' : TI}
theorem run_fieldAt_ok {s f off ft : Nat} {i : TI} {l : List (Nat × Nat)} (hI : TIok P s i) (hl : i.d = .st l) (hf : l[f]? = some (off, ft)) (b o : Nat) (w : World) :
    (Instr.fieldAt s (.pointer (some ⟨b, o, none⟩)) f).run P w = .ok (.pointer (some ⟨b, o + off, none⟩)) w := by
  obtain ⟨fs, h1, h2, h3⟩ := hI.st hl
  rw [← h2, List.getElem?_map] at hf
  cases hq : fs.toList[f]? with
  | none => simp [hq] at hf
  | some fd =>
    simp only [hq, Option.map_some, Option.some.injEq, Prod.mk.injEq] at hf
    obtain ⟨rfl, rfl⟩ := hf
    have h4 := sizeOf_cells (P := P) (h3 fd (List.mem_of_getElem? hq)) w
    have h5 := h3 fd (List.mem_of_getElem? hq)
    have hq' : fs[f]? = some fd := by simpa using hq
    simp [Instr.fieldAt, run_underlying h1, hq', Instr.sureAddr, fieldPlace, h4, h5, Addr.add_none]
theorem ot_fieldAddr {f fo ft : Nat} {l : List (Nat × Nat)} (hT : TabOk P tab) (hop : o.op = .fieldAddr t x f) (hd : o.dst = some d) (hw : wantB ops ts o = some true) (hx : evT ts x = some (.pointer (some ⟨b, off, none⟩)))
    (hi : lookI tab t = some i) (hl : i.d = .st l) (hf : l[f]? = some (fo, ft)) (hk : OT P w0 n ds ops os ks.tail ((d, .pointer (some ⟨b, off + fo, none⟩)) :: ts) A K) : OT P w0 n ds ops (o :: os) ks ts A K :=
  ot_val _ hd hw (fun a w hh => by
    have := run_fieldAt_ok (hT t i hi) hl hf b off w
    simp [execOp, hop, hh.ev hx, this]) hk
theorem run_part_sc {t : TypeId} {i : TI} (hI : TIok P t i) (hr : i.d.isRow = false) {cs : Array Value} {j : Nat} {v : Value} (hv : cs[j]? = some v) (w : World) : (part t cs j).run P w = .ok v w := by
  have := hI.agg w
  rw [hr] at this
  simp [part, this, hv]
theorem run_part_row {t : TypeId} {i : TI} (hI : TIok P t i) (hr : i.d.isRow = true) {cs : Array Value} {j : Nat} (w : World) : (part t cs j).run P w = .ok (.agg (cs.extract j (j + i.size))) w := by
  have h1 := hI.agg w
  rw [hr] at h1
  simp [part, h1, hI.sz w]
theorem ot_field {f fo ft : Nat} {l : List (Nat × Nat)} {cs : Array Value} {v : Value} (hT : TabOk P tab) (hop : o.op = .field t x f) (hd : o.dst = some d) (hw : wantB ops ts o = some true) (hx : evT ts x = some (.agg cs))
    (hi : lookI tab t = some i) (hl : i.d = .st l) (hf : l[f]? = some (fo, ft)) (hi' : lookI tab ft = some i') (hv : (match i'.d.isRow with
      | true => some (Value.agg ((cs.toList.drop fo).take i'.size).toArray)
      | false => cs.toList[fo]?) = some v) (hk : OT P w0 n ds ops os ks.tail ((d, v) :: ts) A K) : OT P w0 n ds ops (o :: os) ks ts A K :=
  ot_val _ hd hw (fun a w hh => by
    obtain ⟨fs, h1, h2, h3⟩ := (hT t i hi).st hl
    rw [← h2, List.getElem?_map] at hf
    cases hq : fs.toList[f]? with
    | none => simp [hq] at hf
    | some fd =>
      simp only [hq, Option.map_some, Option.some.injEq, Prod.mk.injEq] at hf
      obtain ⟨rfl, rfl⟩ := hf
      have hq' : fs[f]? = some fd := by simpa using hq
      have hp : (part fd.type cs fd.offset).run P w = .ok v w := by
        cases hr : i'.d.isRow with
        | true =>
          rw [hr] at hv; cases hv
          have := run_part_row (cs := cs) (j := fd.offset) (hT _ _ hi') hr w
          rw [this]
          congr 2
          apply Array.ext'
          simp [List.take_drop, Nat.add_comm]
        | false => rw [hr] at hv; exact run_part_sc (hT _ _ hi') hr (by simpa using hv) w
      simp [execOp, hop, hh.ev hx, Instr.field, run_underlying h1, hq', asAgg, hp]) hk
theorem ot_indexAddr {e len cap j : Nat} {ik : IntKind} {p : Int} (hT : TabOk P tab) (hop : o.op = .indexAddr t x y) (hd : o.dst = some d) (hw : wantB ops ts o = some true) (hx : evT ts x = some (.slice (some ⟨b, off, none⟩) len cap)) (hy : evT ts y = some (.int ik p))
    (hi : lookI tab t = some i) (hl : i.d = .sl e) (hi' : lookI tab e = some i') (hp : p = (j : Int)) (hj : j < len) (hk : OT P w0 n ds ops os ks.tail ((d, .pointer (some ⟨b, off + j * i'.size, none⟩)) :: ts) A K) : OT P w0 n ds ops (o :: os) ks ts A K :=
  ot_val _ hd hw (fun a w hh => by
    subst hp
    have h1 := (hT t i hi).sl hl
    have h2 := (hT e i' hi').sz w
    have h3 : (0 : Int) ≤ j ∧ (j : Int) < len := by omega
    simp [execOp, hop, hh.ev hx, hh.ev hy, Instr.indexAt, run_underlying h1, asIntOf, hj, h2, Addr.add_none]) hk
theorem ot_indexAddr_ar {e m j : Nat} {ik : IntKind} {p : Int} (hT : TabOk P tab) (hop : o.op = .indexAddr t x y) (hd : o.dst = some d) (hw : wantB ops ts o = some true) (hx : evT ts x = some (.pointer (some ⟨b, off, none⟩))) (hy : evT ts y = some (.int ik p))
    (hi : lookI tab t = some i) (hl : i.d = .ar m e) (hi' : lookI tab e = some i') (hp : p = (j : Int)) (hj : j < m) (hk : OT P w0 n ds ops os ks.tail ((d, .pointer (some ⟨b, off + j * i'.size, none⟩)) :: ts) A K) : OT P w0 n ds ops (o :: os) ks ts A K :=
  ot_val _ hd hw (fun a w hh => by
    subst hp
    have h1 := (hT t i hi).ar hl
    have h2 := (hT e i' hi').sz w
    have h3 : (0 : Int) ≤ j ∧ (j : Int) < m := by omega
    simp [execOp, hop, hh.ev hx, hh.ev hy, Instr.indexAt, run_underlying h1, asIntOf, hj, h2, Instr.sureAddr, Addr.add_none]) hk
theorem run_loadVar_sc {t : TypeId} {i : TI} (hI : TIok P t i) (hr : i.d.isRow = false) {b off : Nat} {v : Value} {w : World} (hv : w.cell? ⟨b, off, none⟩ = some v) : (loadVar t ⟨b, off, none⟩).run P w = .ok v w := by
  have h1 := hI.agg w
  rw [hr] at h1
  simp [loadVar, h1, run_load, hv]
theorem run_loadVar_rw {t : TypeId} {i : TI} (hI : TIok P t i) (hr : i.d.isRow = true) {b off : Nat} {cs : List Value} {w : World} (hl : cs.length = i.size) (hv : w.rangeAt b off cs) : (loadVar t ⟨b, off, none⟩).run P w = .ok (.agg cs.toArray) w := by
  have h1 := hI.agg w
  rw [hr] at h1
  have h2 : (loadCells ⟨b, off, none⟩ i.size).run P w = .ok cs.toArray w := by
    rw [← hl]; exact run_loadCells_list (P := P) w ⟨b, off, none⟩ cs (fun j v hj => by rw [Addr.add_none]; exact hv j v hj)
  simp [loadVar, h1, hI.sz w, h2]
theorem ot_load {v : Value} (hT : TabOk P tab) (hop : o.op = .load t x) (hd : o.dst = some d) (hw : wantB ops ts o = some true) (hx : evT ts x = some (.pointer (some ⟨b, off, none⟩))) (hi : lookI tab t = some i) (hr : i.d.isRow = false)
    (hv : CellAt w0 A b off v) (hk : OT P w0 n ds ops os ks.tail ((d, v) :: ts) A K) : OT P w0 n ds ops (o :: os) ks ts A K :=
  ot_val _ hd hw (fun a w hh => by simp [execOp, hop, hh.ev hx, Instr.loadAt, Instr.sureAddr, run_loadVar_sc (hT t i hi) hr (hv w hh.st)]) hk
theorem ot_loadN {cs : List Value} (hT : TabOk P tab) (hop : o.op = .load t x) (hd : o.dst = some d) (hw : wantB ops ts o = some true) (hx : evT ts x = some (.pointer (some ⟨b, off, none⟩))) (hi : lookI tab t = some i) (hr : i.d.isRow = true)
    (hv : CellsAt w0 A b off cs) (hl : cs.length = i.size) (hk : OT P w0 n ds ops os ks.tail ((d, .agg cs.toArray) :: ts) A K) : OT P w0 n ds ops (o :: os) ks ts A K :=
  ot_val _ hd hw (fun a w hh => by simp [execOp, hop, hh.ev hx, Instr.loadAt, Instr.sureAddr, run_loadVar_rw (hT t i hi) hr hl (hv w hh.st)]) hk

/-! ### What is made, and written -/
theorem ot_new {v : Value} {N : Value → List Chunk → Prop} (hh : ks.headD .wr ≠ .rd) (hd : o.dst = some d) (hw : wantB ops ts o = some true)
    (hrun : ∀ a w, Hd w0 n ds ts A a w → ∃ v w' A', (execOp a.eval o).run P w = .ok (.value v) w' ∧ Below w.heap.size w w' ∧ St w0 A' w' ∧ OT P w0 n ds ops os ks.tail ((d, v) :: ts) A' K) : OT P w0 n ds ops (o :: os) ks ts A K := by
  refine ot_cr hh fun a w hd' => ?_
  obtain ⟨v, w', A', h1, h2, h3, h4⟩ := hrun a w hd'
  unfold wpV
  rw [if_pos (wantB_spec hd' hw), h1, hd]
  exact ⟨A', fun _ => h2, h3, h4⟩
theorem St.alloc_blk {w : World} (hs : St w0 A w) (t : TypeId) (cs : List Value) : St w0 (.blk w.heap.size t cs :: A) (w.alloc (.cells cs.toArray t)) :=
  hs.add ((Below.refl _ _).alloc (Nat.le_refl _) _) ⟨hs.base.size, Blk.new _ _ _⟩ fun b hb => by cases hb; exact Nat.le_refl _
theorem ot_alloc (hT : TabOk P tab) (hh : ks.headD .wr ≠ .rd) (hop : o.op = .alloc t) (hd : o.dst = some d) (hw : wantB ops ts o = some true) (hi : lookI tab t = some i)
    (hk : ∀ g, w0.heap.size ≤ g → OT P w0 n ds ops os ks.tail ((d, .pointer (some ⟨g, 0, none⟩)) :: ts) (.blk g t i.zero :: A) K) : OT P w0 n ds ops (o :: os) ks ts A K := by
  refine ot_new (N := fun _ _ => True) (v := undef) hh hd hw fun a w hh => ?_
  obtain ⟨z, h1, h2⟩ := (hT t i hi).zv w
  refine ⟨_, _, _, ?_, (Below.refl _ _).alloc (Nat.le_refl _) (.cells i.zero.toArray t), hh.st.alloc_blk t i.zero, hk w.heap.size hh.st.base.size⟩
  simp [execOp, hop, Instr.alloc, h1, newVar, newRow, h2]
theorem ot_box {v : Value} {cs : List Value} (hh : ks.headD .wr ≠ .rd) (hop : o.op = .box t x) (hd : o.dst = some d) (hw : wantB ops ts o = some true) (hx : evT ts x = some v) (hcL : v.cells.toList = cs)
    (hk : ∀ g, w0.heap.size ≤ g → OT P w0 n ds ops os ks.tail ((d, .pointer (some ⟨g, 0, none⟩)) :: ts) (.blk g t cs :: A) K) : OT P w0 n ds ops (o :: os) ks ts A K := by
  have hc : v.cells = cs.toArray := by simp [← hcL]
  refine ot_new (N := fun _ _ => True) (v := undef) hh hd hw fun a w hh => ?_
  refine ⟨_, _, _, ?_, (Below.refl _ _).alloc (Nat.le_refl _) (.cells cs.toArray t), hh.st.alloc_blk t cs, hk w.heap.size hh.st.base.size⟩
  simp [execOp, hop, hh.ev hx, Instr.box, newVar, newRow, hc]
theorem ot_wrote (hh : ks.headD .wr = .wr) (hd : o.dst = none) (hw : wantB ops ts o = some true)
    (hrun : ∀ a w, Hd w0 n ds ts A a w → ∃ w', (execOp a.eval o).run P w = .ok .skip w' ∧ St w0 A' w') (hk : OT P w0 n ds ops os ks.tail ts A' K) : OT P w0 n ds ops (o :: os) ks ts A K := by
  refine ot_wr hh fun a w hd' => ?_
  obtain ⟨w', h1, h3⟩ := hrun a w hd'
  unfold wpV
  rw [if_pos (wantB_spec hd' hw), h1, hd]
  exact ⟨A', (fun e => by cases e), h3, hk⟩
end
theorem exec_builtin {ρ : Operand → Value} {o : Oper} {b : Builtin} {xs : Array Operand} {ats : Array TypeId} (hop : o.op = .call { callee := .builtin b, args := xs, argTypes := ats }) :
    execOp ρ o = builtin b ats o.type (xs.map fun | .const _ => true | _ => false) (xs.map ρ) := by
  obtain ⟨dst, op, type, pos, after, guard⟩ := o
  cases hop
  rfl
theorem exec_call {ρ : Operand → Value} {o : Oper} {f : Operand} {g : FuncId} {us vs : Array Value} {xs : Array Operand} {ats : Array TypeId} (hop : o.op = .call { callee := .value f, args := xs, argTypes := ats }) (hf : ρ f = .func (.func g) us vs) :
    execOp ρ o = callFunc g (us ++ xs.map ρ ++ vs) := by
  obtain ⟨dst, op, type, pos, after, guard⟩ := o
  cases hop
  simp only [execOp, resolve, hf]
  rfl
def hasBody (P : Program) (f : FuncId) : Bool := match P.funcs[f]? with
  | some fn => fn.body.isSome && fn.name != "runtime.NumGoroutine"
  | none => false
theorem callFunc_run {P : Program} {f : FuncId} (h : hasBody P f = true) (args : Array Value) (w : World) : (callFunc f args).run P w = .ok (.enter f args) w := by
  unfold hasBody at h
  cases hf : P.funcs[f]? with
  | none => simp [hf] at h
  | some fn =>
    simp only [hf, Bool.and_eq_true, bne_iff_ne, ne_eq, Option.isSome_iff_ne_none] at h
    simp [callFunc, hf, h.1, h.2]
/-- The operands' values. -/
inductive EvL (ts : TS) : List Operand → List Value → Prop
  | nil : EvL ts [] []
  | cons {x : Operand} {v : Value} {xs : List Operand} {vs : List Value} (h : evT ts x = some v) (hl : EvL ts xs vs) : EvL ts (x :: xs) (v :: vs)
theorem EvL.map {ts : TS} {xs : List Operand} {vs : List Value} (h : EvL ts xs vs) {w0 w : World} {n : Nat} {ds : List Deferred} {A : List Chunk} {a : Act} (hh : Hd w0 n ds ts A a w) : xs.toArray.map a.eval = vs.toArray := by
  have : xs.map a.eval = vs := by
    induction h with
    | nil => rfl
    | cons hx _ ih => simp [hh.ev hx, ih]
  simp [this]
inductive PtL (ts : TS) : List (Nat × Operand) → List (Nat × Value) → Prop
  | nil : PtL ts [] []
  | cons {i : Nat} {x : Operand} {v : Value} {xs : List (Nat × Operand)} {vs : List (Nat × Value)} (h : evT ts x = some v) (hl : PtL ts xs vs) : PtL ts ((i, x) :: xs) ((i, v) :: vs)
theorem PtL.map {ts : TS} {xs : List (Nat × Operand)} {vs : List (Nat × Value)} (h : PtL ts xs vs) {w0 w : World} {n : Nat} {ds : List Deferred} {A : List Chunk} {a : Act} (hh : Hd w0 n ds ts A a w) : xs.map (fun p => (p.1, a.eval p.2)) = vs := by
  induction h with
  | nil => rfl
  | cons hx _ ih => simp [hh.ev hx, ih]

section
variable {P : Program} {tab : TT} {w0 : World} {n : Nat} {ds : List Deferred} {ops : List Oper} {o : Oper} {os : List Oper} {ks : List Kind} {ts : TS} {A A' : List Chunk} {K : TS → List Chunk → Prop} {d : Tmp}
variable {x y : Operand} {t u : TypeId} {k : IntKind} {b off g : Nat} {i i' : TI}
/-! ### Stores -/
theorem St.set_blk {w : World} {cs cs' : List Value} (hs : St w0 A w) (hu : Upd (.blk g t cs) (.blk g t cs') A A') {w' : World} (hw : Blk w' g t cs'.toArray) (hg : w.grownBy w' (some g)) : St w0 A' w' :=
  hs.upd hu rfl hg ⟨(hs.all _ hu.mem).1, hw⟩ fun b hb => .inl hb
theorem grown_setRow {w : World} {cs : Array Value} : w.grownBy (w.setRow g cs) (some g) := ⟨rfl, rfl, rfl, by simp, fun k _ hk => setRow_other w g k _ fun e => hk (by rw [e])⟩
/-- Cells written over others, from an offset on. -/
def setMany : List Value → Nat → List Value → List Value
  | [], _, _ => []
  | cs, _, [] => cs
  | c :: cs, 0, v :: vs => v :: setMany cs 0 vs
  | c :: cs, o + 1, vs => c :: setMany cs o vs
theorem setMany_nil (cs : List Value) (o : Nat) : setMany cs o [] = cs := by cases cs <;> simp [setMany]
theorem setMany_eq : ∀ (cs : List Value) (o : Nat) (vs : List Value), o + vs.length ≤ cs.length → setMany cs o vs = cs.take o ++ vs ++ cs.drop (o + vs.length) := by
  intro cs
  induction cs with
  | nil =>
    intro o vs h
    simp at h
    obtain ⟨rfl, h2⟩ := h
    subst h2
    rfl
  | cons c cs ih =>
    intro o vs h
    cases vs with
    | nil => rw [setMany_nil]; simp
    | cons v vs =>
      cases o with
      | zero =>
        have := ih 0 vs (by simp at h; omega)
        simp only [setMany, this]
        simp
      | succ o =>
        have := ih o (v :: vs) (by simp at h ⊢; omega)
        simp only [setMany, this]
        rw [show o + 1 + (v :: vs).length = (o + (v :: vs).length) + 1 from by omega]
        simp only [List.take_succ_cons, List.drop_succ_cons, List.cons_append]
theorem ot_storeN {v : Value} {cs cs' : List Value} {vs : List Value} {bt : TypeId} (hT : TabOk P tab) (hh : ks.headD .wr = .wr) (hop : o.op = .store t x y) (hd : o.dst = none) (hw : wantB ops ts o = some true) (hx : evT ts x = some (.pointer (some ⟨g, off, none⟩))) (hy : evT ts y = some v)
    (hi : lookI tab t = some i) (hc : v.cells.toList = vs) (hl : vs.length = i.size) (h1 : vs.all Value.oneCell' = true) (hu : Upd (.blk g bt cs) (.blk g bt cs') A A') (hlenB : Nat.ble (off + vs.length) cs.length = true) (hcs : setMany cs off vs = cs')
    (hk : OT P w0 n ds ops os ks.tail ts A' K) : OT P w0 n ds ops (o :: os) ks ts A K := by
  refine ot_wrote hh hd hw (fun a w hh => ?_) hk
  subst hcs
  have hlen := Nat.le_of_ble_eq_true hlenB
  have h1 : ∀ u ∈ vs, u.oneCell' = true := by simpa using h1
  have hb := (hh.st.all _ hu.mem).2
  have hst := run_storeCells_at P g off bt vs 0 cs.toArray w hb (by simpa using hlen) h1
  simp only [Nat.add_zero, List.toList_toArray] at hst
  rw [← setMany_eq cs off vs hlen] at hst
  refine ⟨w.setRow g (setMany cs off vs).toArray, ?_, hh.st.set_blk hu (setRow_heap w g cs.toArray _ bt _ hb) grown_setRow⟩
  have hcs : v.cells.size = i.size := by rw [← hl, ← hc]; simp
  simp [execOp, hop, hh.ev hx, hh.ev hy, Instr.storeAt, Instr.sureAddr, storeVar, (hT t i hi).sz, hcs, hc, hst]
theorem ot_store_own {v sv : Value} {xs : List Value} {bt sz m cap : Nat} (hT : TabOk P tab) (hh : ks.headD .wr = .wr) (hop : o.op = .store t x y) (hd : o.dst = none) (hw : wantB ops ts o = some true) (hx : evT ts x = some (.pointer (some ⟨g, off, none⟩))) (hy : evT ts y = some v)
    (hi : lookI tab t = some i) (h1 : i.size = 1) (hv : v.cells = #[v]) (hone : v.oneCell' = true) (hu : Upd (.own (.slice (some ⟨g, 0, none⟩) m cap) bt sz m xs) (.own (.slice (some ⟨g, 0, none⟩) m cap) bt sz m (xs.set off v)) A A') (hlen : off < m * sz)
    (hk : OT P w0 n ds ops os ks.tail ts A' K) : OT P w0 n ds ops (o :: os) ks ts A K := by
  refine ot_wrote hh hd hw (fun a w hh => ?_) hk
  have hb := hh.st.all _ hu.mem
  obtain ⟨hxl, h | ⟨g', cap', cur, he, h2, h3, h4, h5, h6, h7⟩⟩ := hb
  · cases h.1
  · cases he
    have hoff : off < cur.size := by rw [h6]; exact Nat.lt_of_lt_of_le hlen (Nat.mul_le_mul_right _ h4)
    have hst := run_storeCells_at P g off bt [v] 0 cur w h3 (by simp only [List.length_singleton]; omega) (by simpa using hone)
    simp only [Nat.add_zero] at hst
    refine ⟨w.setRow g (cur.toList.take off ++ [v] ++ cur.toList.drop (off + 1)).toArray, ?_, hh.st.upd hu rfl grown_setRow ?_ fun b hb => .inl hb⟩
    rotate_left
    · refine ⟨by simpa using hxl, .inr ⟨g, cap, _, rfl, h2, setRow_heap w g cur _ bt _ h3, h4, h5, ?_, ?_⟩⟩
      · simp; omega
      · rw [← h7]
        rw [show cur.toList.take off ++ [v] ++ cur.toList.drop (off + 1) = cur.toList.set off v from by
          rw [List.set_eq_take_append_cons_drop, if_pos (by simpa using hoff)]; simp]
        simp [List.take_set]
    · have hcs : v.cells.size = i.size := by rw [hv, h1]; rfl
      have hct : v.cells.toList = [v] := by rw [hv]
      simp [execOp, hop, hh.ev hx, hh.ev hy, Instr.storeAt, Instr.sureAddr, storeVar, (hT t i hi).sz, hcs, hct, hst]

/-! ### Builtins -/
theorem ot_len {A0 : Option Addr} {len cap e : Nat} (hT : TabOk P tab) (hop : o.op = .call { callee := .builtin .len, args := #[x], argTypes := #[t] }) (hd : o.dst = some d) (hw : wantB ops ts o = some true) (hx : evT ts x = some (.slice A0 len cap))
    (hi : lookI tab t = some i) (hl : i.d = .sl e) (hk : OT P w0 n ds ops os ks.tail ((d, .int .i64 (len : Int)) :: ts) A K) : OT P w0 n ds ops (o :: os) ks ts A K :=
  ot_val _ hd hw (fun a w hh => by
    rw [exec_builtin hop, BigFrame.builtin_len]
    simp [hh.ev hx, Builtin.len_, run_underlying ((hT t i hi).sl hl), goInt]) hk
theorem ot_max {ats : Array TypeId} {p q : Int} (hop : o.op = .call { callee := .builtin .max, args := #[x, y], argTypes := ats }) (hd : o.dst = some d) (hw : wantB ops ts o = some true) (hx : evT ts x = some (.int k p)) (hy : evT ts y = some (.int k q))
    (hk : OT P w0 n ds ops os ks.tail ((d, .int k (if q > p then q else p)) :: ts) A K) : OT P w0 n ds ops (o :: os) ks ts A K :=
  ot_val _ hd hw (fun a w hh => by
    rw [exec_builtin hop, BigFrame.builtin_max]
    simp [hh.ev hx, hh.ev hy, Builtin.max_, Builtin.max2]) hk
theorem ot_min {ats : Array TypeId} {p q : Int} (hop : o.op = .call { callee := .builtin .min, args := #[x, y], argTypes := ats }) (hd : o.dst = some d) (hw : wantB ops ts o = some true) (hx : evT ts x = some (.int k p)) (hy : evT ts y = some (.int k q))
    (hk : OT P w0 n ds ops os ks.tail ((d, .int k (if q < p then q else p)) :: ts) A K) : OT P w0 n ds ops (o :: os) ks ts A K :=
  ot_val _ hd hw (fun a w hh => by
    rw [exec_builtin hop, BigFrame.builtin_min]
    simp [hh.ev hx, hh.ev hy, Builtin.min_, Builtin.min2]) hk
theorem append_block {w : World} {base : Nat} {t ty e : TypeId} {j : TypeInfo} {z : Value} {size : Nat} (ht : P.underlying t = some (.slice e)) (hi : P.info? e = some j) (hz : j.zero = some z) (hsize : j.size = size)
    {v : Value} {sl : Nat} {xs : List Value} (hown : w.ownsRow base e size v sl xs) {a : Addr} {m c : Nat} {news : List Value} (hl : news.length = m * size) (hnews : ∀ j u, news[j]? = some u → w.cell? (a.add j) = some u) (h1 : ∀ u ∈ news, u.oneCell' = true)
    (h63 : sl + m ≤ maxLen) (hbytes : (sl + m) * j.bytes ≤ 140737488355328) {v' : Value} {w' : World} (hr : (Builtin.append_ #[t, t] ty #[v, .slice (some a) m c]).run P w = .ok v' w') :
    ∀ b, v'.ownBlock = some b → v.ownBlock = some b ∨ w.heap.size ≤ b := by
  subst hsize
  have hsmall : sl + m ≤ 9223372036854775807 := by simp only [maxLen] at h63; omega
  intro b hb
  rcases hown.2 with ⟨rfl, rfl⟩ | ⟨g, cap, cur, rfl, hbg, hg, hnc, hcm, hcs, htake⟩
  · by_cases hm : m = 0
    · subst hm
      have hn : news = [] := List.eq_nil_of_length_eq_zero (by simpa using hl)
      subst hn
      have h2 : (Builtin.append_ #[t, t] ty #[.slice none 0 0, .slice (some a) 0 c]).run P w = .ok (.slice none 0 0) w := by
        simp [Builtin.append_, run_underlying ht, sizeOf, typeInfo, hi, Builtin.lenOf, Builtin.firstCells, loadCells, loadCellsFrom]
      rw [h2] at hr
      cases hr
      cases hb
    · have h2 := run_append_nil (P := P) w t ty e j z ht hi hz a m c news hl hnews (by omega) (by omega) (by have hb := hbytes; simp only [Nat.zero_add] at hb; omega)
      rw [h2] at hr
      cases hr
      cases hb
      exact .inr (Nat.le_refl _)
  · by_cases hroom : sl + m ≤ cap
    · have hfit : sl * j.size + news.length ≤ cur.size := by rw [hl, hcs, ← Nat.add_mul]; exact Nat.mul_le_mul_right _ hroom
      have h2 := run_append_room (P := P) w t ty e j ht hi g sl cap cur hg a m c news hl hnews h1 hroom hfit
      rw [h2] at hr
      cases hr
      exact .inl hb
    · have holds : ∀ j u, xs[j]? = some u → w.cell? ((⟨g, 0, none⟩ : Addr).add j) = some u := hown.cells (g := g) rfl
      have h2 := run_append_grow (P := P) w t ty e j z ht hi hz ⟨g, 0, none⟩ sl cap xs hown.1 holds a m c news hl hnews (by omega) (by omega) (growslice_fits (by omega) hbytes)
      rw [h2] at hr
      cases hr
      cases hb
      exact .inr (Nat.le_refl _)
end
section
variable {P : Program} {tab : TT} {w0 : World} {n : Nat} {ds : List Deferred} {ops : List Oper} {o : Oper} {os : List Oper} {ks : List Kind} {ts : TS} {A A' : List Chunk} {K : TS → List Chunk → Prop} {d : Tmp}
variable {x y : Operand} {t u : TypeId} {k : IntKind} {b off g : Nat} {i i' : TI}
/-! ### Calls -/
section
variable {f : FuncId} {xs : Array Operand} {ats : Array TypeId} {as : List Value}
theorem call_upV {R : Value → World → Prop} {a : Act} {w : World} (hd' : Hd w0 n ds ts A a w) (hop : o.op = .call { callee := .value (.func f), args := xs, argTypes := ats }) (hb : hasBody P f = true) (ha : EvL ts xs.toList as)
    (hc : Calls P f as.toArray w fun e w' => ∃ v, e = .returned v ∧ R v w') : upV P R ((execOp a.eval o).run P w) := by
  have hm := ha.map hd'
  simp only [Array.toArray_toList] at hm
  rw [exec_call hop (g := f) (us := #[]) (vs := #[]) rfl, hm, callFunc_run hb]
  simp only [upV]
  refine Calls.mono (by simpa using hc) fun e w' he => ?_
  obtain ⟨v, rfl, hr⟩ := he
  exact hr
/-- A call that only computes. -/
theorem ot_call_q {v : Value} (hop : o.op = .call { callee := .value (.func f), args := xs, argTypes := ats }) (hd : o.dst = some d) (hw : wantB ops ts o = some true) (hb : hasBody P f = true) (ha : EvL ts xs.toList as)
    (hc : ∀ w, St w0 A w → Calls P f as.toArray w fun e w' => e = .returned v ∧ Below w.heap.size w w') (hk : OT P w0 n ds ops os ks.tail ((d, v) :: ts) A K) : OT P w0 n ds ops (o :: os) ks ts A K := by
  refine ot_rd (v := v) (fun a w hh => ?_) (by rw [hd]; exact hk)
  unfold wpV
  rw [if_pos (wantB_spec hh hw)]
  exact call_upV hh hop hb ha ((hc w hh.st).mono fun e w' ⟨h1, h2⟩ => ⟨v, h1, rfl, h2⟩)
/-- A call that makes memory. -/
theorem ot_call_c {R : World → Ending → World → Prop} (hh : ks.headD .wr ≠ .rd) (hop : o.op = .call { callee := .value (.func f), args := xs, argTypes := ats }) (hd : o.dst = some d) (hw : wantB ops ts o = some true) (hb : hasBody P f = true) (ha : EvL ts xs.toList as)
    (hc : ∀ w, St w0 A w → Calls P f as.toArray w (R w)) (hk : ∀ w e w', St w0 A w → R w e w' → ∃ v A', e = .returned v ∧ Below w.heap.size w w' ∧ St w0 A' w' ∧ OT P w0 n ds ops os ks.tail ((d, v) :: ts) A' K) : OT P w0 n ds ops (o :: os) ks ts A K := by
  refine ot_cr hh fun a w hh => ?_
  unfold wpV
  rw [if_pos (wantB_spec hh hw)]
  refine call_upV hh hop hb ha ((hc w hh.st).mono fun e w' hr => ?_)
  obtain ⟨v, A', h1, h2, h3, h4⟩ := hk w e w' hh.st hr
  exact ⟨v, h1, A', fun _ => h2, h3, by rw [hd]; exact h4⟩
theorem callv_upV {R : Value → World → Prop} {a : Act} {w : World} {us vs : List Value} (hd' : Hd w0 n ds ts A a w) (hop : o.op = .call { callee := .value x, args := xs, argTypes := ats }) (hf : evT ts x = some (.func (.func f) us.toArray vs.toArray)) (hb : hasBody P f = true) (ha : EvL ts xs.toList as)
    (hc : Calls P f (us ++ as ++ vs).toArray w fun e w' => ∃ v, e = .returned v ∧ R v w') : upV P R ((execOp a.eval o).run P w) := by
  have hm := ha.map hd'
  simp only [Array.toArray_toList] at hm
  rw [exec_call hop (hd'.ev hf), hm, callFunc_run hb]
  simp only [upV]
  refine Calls.mono (by simpa using hc) fun e w' he => ?_
  obtain ⟨v, rfl, hr⟩ := he
  exact hr
/-- A function value called, that only computes. -/
theorem ot_callv_q {v : Value} {us vs : List Value} (hop : o.op = .call { callee := .value x, args := xs, argTypes := ats }) (hd : o.dst = some d) (hw : wantB ops ts o = some true) (hf : evT ts x = some (.func (.func f) us.toArray vs.toArray)) (hb : hasBody P f = true) (ha : EvL ts xs.toList as)
    (hc : ∀ w, St w0 A w → Calls P f (us ++ as ++ vs).toArray w fun e w' => e = .returned v ∧ Below w.heap.size w w') (hk : OT P w0 n ds ops os ks.tail ((d, v) :: ts) A K) : OT P w0 n ds ops (o :: os) ks ts A K := by
  refine ot_rd (v := v) (fun a w hh => ?_) (by rw [hd]; exact hk)
  unfold wpV
  rw [if_pos (wantB_spec hh hw)]
  exact callv_upV hh hop hf hb ha ((hc w hh.st).mono fun e w' ⟨h1, h2⟩ => ⟨v, h1, rfl, h2⟩)
end
theorem ot_makeFunc {fn : Fn} {xs ys : Array Operand} {us vs : List Value} (hop : o.op = .makeFunc fn xs ys) (hd : o.dst = some d) (hw : wantB ops ts o = some true) (hx : EvL ts xs.toList us) (hy : EvL ts ys.toList vs)
    (hk : OT P w0 n ds ops os ks.tail ((d, .func fn us.toArray vs.toArray) :: ts) A K) : OT P w0 n ds ops (o :: os) ks ts A K :=
  ot_val _ hd hw (fun a w hh => by
    have e1 := hx.map hh
    have e2 := hy.map hh
    simp only [Array.toArray_toList] at e1 e2
    simp only [execOp, hop, Instr.makeFunc, e1, e2, Sem.run_bind, Sem.run_pure, Result.andThen_ok]) hk
/-! ### What is built -/
def catC : List Value → List Value
  | [] => []
  | v :: vs => v.cells.toList ++ catC vs
inductive PtS (ts : TS) (sz : Nat) : Nat → List (Nat × Operand) → List Value → Prop
  | nil {k : Nat} : PtS ts sz k [] []
  | cons {k : Nat} {x : Operand} {v : Value} {xs : List (Nat × Operand)} {vs : List Value} (h : evT ts x = some v) (hs : v.cells.size = sz) (hl : PtS ts sz (k + 1) xs vs) : PtS ts sz k ((k, x) :: xs) (v :: vs)
def pairsFrom : Nat → List Value → List (Nat × Value)
  | _, [] => []
  | k, v :: vs => (k, v) :: pairsFrom (k + 1) vs
theorem PtS.map {sz k : Nat} {xs : List (Nat × Operand)} {vs : List Value} (h : PtS ts sz k xs vs) {w : World} {a : Act} (hh : Hd w0 n ds ts A a w) : xs.map (fun p => (p.1, a.eval p.2)) = pairsFrom k vs ∧ ∀ v ∈ vs, v.cells.size = sz := by
  induction h with
  | nil => exact ⟨rfl, by simp⟩
  | cons hx hs _ ih =>
    refine ⟨by simp [pairsFrom, hh.ev hx, ih.1], fun v hv => ?_⟩
    rcases List.mem_cons.1 hv with rfl | hv
    · exact hs
    · exact ih.2 v hv
theorem fold_set (cs : Array Value) (off : Nat) : ∀ (vs : List Value) (j : Nat), off + j + vs.length ≤ cs.size → ∀ cur : Array Value, cur.size = cs.size →
    ((vs.zipIdx j).foldl (fun c p => c.setIfInBounds (off + p.2) p.1) cur).toList = cur.toList.take (off + j) ++ vs ++ cur.toList.drop (off + j + vs.length) := by
  intro vs
  induction vs with
  | nil => intro j _ cur _; simp
  | cons v vs ih =>
    intro j hl cur hc
    simp only [List.zipIdx_cons, List.foldl_cons]
    rw [ih (j + 1) (by simp at hl; omega) _ (by simp [hc])]
    have hlt : off + j < cur.size := by simp at hl; omega
    simp only [Array.toList_setIfInBounds, List.length_cons]
    rw [List.set_eq_take_append_cons_drop, if_pos (by simpa using hlt)]
    have h1 : (List.take (off + j) cur.toList).length = off + j := by simp; omega
    rw [List.take_append, List.drop_append, h1]
    simp only [show off + (j + 1) - (off + j) = 1 from by omega, show off + (j + 1) + vs.length - (off + j) = vs.length + 1 from by omega, List.take_succ_cons, List.take_zero, List.drop_succ_cons]
    rw [List.take_of_length_le (by omega), List.drop_of_length_le (by omega), List.drop_drop]
    simp only [List.append_assoc, List.cons_append, List.nil_append]
    rw [show off + j + 1 + vs.length = off + j + (vs.length + 1) from by omega]
theorem fill_seq {sz : Nat} : ∀ (vs : List Value) (k : Nat) (cells : Array Value), (∀ v ∈ vs, v.cells.size = sz) → (k + vs.length) * sz ≤ cells.size →
    Instr.fill (fun i => some (i * sz, sz)) cells (pairsFrom k vs) = some (cells.toList.take (k * sz) ++ catC vs ++ cells.toList.drop ((k + vs.length) * sz)).toArray := by
  intro vs
  induction vs with
  | nil => intro k cells _ _; simp [pairsFrom, Instr.fill, catC]
  | cons v vs ih =>
    intro k cells hs hl
    have hv := hs v (.head _)
    have e1 : (k + (v :: vs).length) * sz = (k + 1 + vs.length) * sz := by simp [Nat.add_comm, Nat.add_left_comm]
    have e2 : (k + 1 + vs.length) * sz = k * sz + sz + vs.length * sz := by rw [Nat.add_mul, Nat.add_mul, Nat.one_mul]
    have hfit : ¬ (k * sz + sz > cells.size) := by rw [e1, e2] at hl; omega
    have hf := fold_set cells (k * sz) v.cells.toList 0 (by simp [hv]; omega) cells rfl
    have hz : v.cells.zipIdx.foldl (fun cs (p : Value × Nat) => cs.setIfInBounds (k * sz + p.2) p.1) cells = (cells.toList.take (k * sz) ++ v.cells.toList ++ cells.toList.drop (k * sz + sz)).toArray := by
      apply Array.ext'
      have : v.cells.zipIdx = v.cells.toList.zipIdx.toArray := by apply Array.ext'; simp
      rw [this]
      simp only [List.foldl_toArray]
      rw [hf]
      simp [hv]
    simp only [pairsFrom, Instr.fill]
    simp only [hv, ne_eq, not_true_eq_false, decide_false, Bool.false_or, decide_eq_true_eq, if_neg hfit]
    have hz' : (v.cells.zipIdx.foldl (fun cs (x : Value × Nat) => match x with | (c, j) => cs.setIfInBounds (k * sz + j) c) cells) = (cells.toList.take (k * sz) ++ v.cells.toList ++ cells.toList.drop (k * sz + sz)).toArray := hz
    rw [hz']
    have hlen : (cells.toList.take (k * sz)).length = k * sz := by simp; rw [e1, e2] at hl; omega
    have hlv : v.cells.toList.length = sz := by simp [hv]
    rw [ih (k + 1) _ (fun u hu => hs u (.tail _ hu)) (by simp [hv]; rw [e1, e2] at hl; rw [e2]; omega)]
    congr 2
    simp only [List.toList_toArray, catC]
    rw [show (k + 1) * sz = k * sz + sz from by rw [Nat.add_mul, Nat.one_mul]]
    rw [List.take_append, List.drop_append]
    simp only [List.length_append, hlen, hlv, Nat.sub_self, List.take_zero, List.append_nil]
    rw [List.take_of_length_le (by simp [hv]; omega), List.drop_of_length_le (by simp [hv]; rw [e2]; omega), List.drop_drop]
    rw [e1]
    simp only [List.nil_append, List.append_assoc]
    rw [show k * sz + sz + ((k + 1 + vs.length) * sz - (k * sz + sz)) = (k + 1 + vs.length) * sz from by rw [e2]; omega]
theorem ot_buildSlice {m e : Nat} {parts : Array (Nat × Operand)} {vs : List Value} (hT : TabOk P tab) (hh : ks.headD .wr ≠ .rd) (hop : o.op = .buildSlice t m parts) (hd : o.dst = some d) (hw : wantB ops ts o = some true) (hi : lookI tab t = some i) (hl : i.d = .sl e) (hi' : lookI tab e = some i')
    (hp : PtS ts i'.size 0 parts.toList vs) (hm : vs.length = m) (h24 : m * i'.size ≤ 16777216)
    (hk : ∀ g, w0.heap.size ≤ g → OT P w0 n ds ops os ks.tail ((d, .slice (some ⟨g, 0, none⟩) m m) :: ts) (.blk g e (catC vs) :: A) K) : OT P w0 n ds ops (o :: os) ks ts A K := by
  refine ot_new (N := fun _ _ => True) (v := undef) hh hd hw fun a w hd' => ?_
  obtain ⟨h1, h2⟩ := hp.map hd'
  obtain ⟨z, hz1, hz2⟩ := (hT e i' hi').zv w
  have hsz := (hT e i' hi').sz w
  have hmap : parts.map (fun p => (p.1, a.eval p.2)) = (pairsFrom 0 vs).toArray := by
    apply Array.ext'; simp [h1]
  refine ⟨_, _, _, ?_, (Below.refl _ _).alloc (Nat.le_refl _) (.cells (catC vs).toArray e), hd'.st.alloc_blk e (catC vs), hk w.heap.size hd'.st.base.size⟩
  have hfill : ∀ cells : Array Value, cells.size = m * i'.size → Instr.fill (fun i => some (i * i'.size, i'.size)) cells (pairsFrom 0 vs) = some (catC vs).toArray := fun cells hc => by
    rw [fill_seq vs 0 cells h2 (by rw [Nat.zero_add, hm, hc]; exact Nat.le_refl _)]
    simp only [Nat.zero_mul, List.take_zero, List.nil_append, Nat.zero_add]
    rw [List.drop_of_length_le (by simp [hc, hm]), List.append_nil]
  have hrun : (Instr.buildSlice t m (pairsFrom 0 vs).toArray).run P w = .ok (.slice (some ⟨w.heap.size, 0, none⟩) m m) (w.alloc (.cells (catC vs).toArray e)) := by
    simp only [Instr.buildSlice, Sem.run_bind, run_underlying ((hT t i hi).sl hl), Result.andThen_ok, hsz, if_neg (show ¬ m * i'.size > 2 ^ 24 by omega)]
    by_cases h0 : m * i'.size = 0
    · simp only [h0, if_true, Sem.run_pure, Result.andThen_ok]
      have := hfill ((Array.range 0).map fun _ => default) (by simp [h0])
      simp [this, newRow]
    · simp only [h0, if_false, Sem.run_bind, hz1, Result.andThen_ok, Sem.run_pure]
      have := hfill ((Array.range (m * i'.size)).map fun x => z.cells[x % z.cells.size]!) (by simp)
      simp only [this]
      simp [newRow]
  have e3 : (parts.map fun x => match x with | (i, x) => (i, a.eval x)) = (pairsFrom 0 vs).toArray := hmap
  simp only [execOp, hop]
  rw [e3]
  simp [hrun]
/-- A struct's cells, part by part. -/
def fillL (f : Nat → Option (Nat × Nat)) : List Value → List (Nat × Value) → Option (List Value)
  | cs, [] => some cs
  | cs, (i, v) :: ps => match f i with
    | none => none
    | some (off, size) => match Nat.beq v.cells.toList.length size && Nat.ble (off + size) cs.length with
      | false => none
      | true => fillL f (setMany cs off v.cells.toList) ps
theorem fillL_spec (f : Nat → Option (Nat × Nat)) : ∀ (ps : List (Nat × Value)) (cs r : List Value), fillL f cs ps = some r → Instr.fill f cs.toArray ps = some r.toArray := by
  intro ps
  induction ps with
  | nil => intro cs r h; cases h; rfl
  | cons p ps ih =>
    obtain ⟨i, v⟩ := p
    intro cs r h
    simp only [fillL] at h
    simp only [Instr.fill]
    cases hf : f i with
    | none => simp [hf] at h
    | some q =>
      obtain ⟨off, size⟩ := q
      simp only [hf] at h
      cases hc : (Nat.beq v.cells.toList.length size && Nat.ble (off + size) cs.length) with
      | false => rw [hc] at h; exact absurd h (by simp)
      | true =>
        rw [hc] at h
        replace h : fillL f (setMany cs off v.cells.toList) ps = some r := h
        simp only [Bool.and_eq_true] at hc
        have h1 : v.cells.size = size := by simpa using Nat.eq_of_beq_eq_true hc.1
        have h2 : off + size ≤ cs.length := Nat.le_of_ble_eq_true hc.2
        rw [setMany_eq _ _ _ (by simp [h1]; omega)] at h
        rw [show v.cells.toList.length = size from by simp [h1], List.append_assoc] at h
        have hfit : ¬ (off + size > cs.toArray.size) := by simp; omega
        simp only [h1, ne_eq, not_true_eq_false, decide_false, Bool.false_or, decide_eq_true_eq, if_neg hfit]
        have hz : v.cells.zipIdx.foldl (fun cs (p : Value × Nat) => cs.setIfInBounds (off + p.2) p.1) cs.toArray = (cs.take off ++ (v.cells.toList ++ cs.drop (off + size))).toArray := by
          have hf := fold_set cs.toArray off v.cells.toList 0 (by simp [h1]; omega) cs.toArray rfl
          apply Array.ext'
          have : v.cells.zipIdx = v.cells.toList.zipIdx.toArray := by apply Array.ext'; simp
          rw [this]
          simp only [List.foldl_toArray]
          rw [hf]
          simp [h1]
        have hz' : (v.cells.zipIdx.foldl (fun cs (x : Value × Nat) => match x with | (c, j) => cs.setIfInBounds (off + j) c) cs.toArray) = (cs.take off ++ (v.cells.toList ++ cs.drop (off + size))).toArray := hz
        rw [hz']
        exact ih _ r h
theorem ot_build {parts : Array (Nat × Operand)} {pv : List (Nat × Value)} {l : List (Nat × Nat)} {cellsL : List Value} (hT : TabOk P tab) (hop : o.op = .build t parts) (hd : o.dst = some d) (hw : wantB ops ts o = some true) (hi : lookI tab t = some i) (hl : i.d = .st l)
    (hp : PtL ts parts.toList pv) (hfL : fillL (fun j => match l[j]? with
      | none => none
      | some p => match lookI tab p.2 with
        | none => none
        | some q => some (p.1, q.size)) i.zero pv = some cellsL)
    (hk : OT P w0 n ds ops os ks.tail ((d, .agg cellsL.toArray) :: ts) A K) : OT P w0 n ds ops (o :: os) ks ts A K :=
  ot_val _ hd hw (fun a w hd' => by
    obtain ⟨cells, hcells⟩ : ∃ cells, cells = cellsL.toArray := ⟨_, rfl⟩
    rw [← hcells]
    have hf := fillL_spec _ pv i.zero cellsL hfL
    rw [← hcells] at hf
    have h1 := hp.map hd'
    obtain ⟨z, hz1, hz2⟩ := (hT t i hi).zv w
    obtain ⟨fs, f1, f2, f3⟩ := (hT t i hi).st hl
    have hmap : parts.map (fun p => (p.1, a.eval p.2)) = pv.toArray := by apply Array.ext'; simp [h1]
    have e3 : (parts.map fun x => match x with | (i, x) => (i, a.eval x)) = pv.toArray := hmap
    have hM : ∀ (L : List Field) (w : World), (∀ f ∈ L, P.cellsOf f.type ≠ 0) → (L.mapM (fun f => (do pure (f.offset, ← sizeOf f.type) : Sem (Nat × Nat)))).run P w = .ok (L.map fun f => (f.offset, P.cellsOf f.type)) w := by
      intro L
      induction L with
      | nil => intro w _; simp
      | cons f L ih =>
        intro w hL
        simp only [List.mapM_cons, Sem.run_bind, sizeOf_cells (hL f (.head _)), ih w fun q hq => hL q (.tail _ hq), Result.andThen_ok, Sem.run_pure, List.map_cons]
    have hmono : ∀ (pv : List (Nat × Value)) (p q : Nat → Option (Nat × Nat)) (cs : Array Value) (r : Array Value), (∀ j v, p j = some v → q j = some v) → Instr.fill p cs pv = some r → Instr.fill q cs pv = some r := by
      intro pv
      induction pv with
      | nil => intro p q cs r _ h; exact h
      | cons x pv ih =>
        intro p q cs r hpq h
        obtain ⟨j, v⟩ := x
        simp only [Instr.fill] at h ⊢
        cases hj : p j with
        | none => simp [hj] at h
        | some s =>
          rw [hj] at h
          rw [hpq j s hj]
          simp only at h ⊢
          split at h
          · cases h
          · rename_i hc
            rw [if_neg hc]
            exact ih p q _ r hpq h
    have hfill := hmono pv _ (fun j => (fs.toList.map fun f => (f.offset, P.cellsOf f.type))[j]?) _ cells (fun j v hj => by
      rw [← f2, List.getElem?_map] at hj
      rw [List.getElem?_map]
      cases hq : fs.toList[j]? with
      | none => simp [hq] at hj
      | some f =>
        simp only [hq, Option.map_some] at hj
        cases hq' : lookI tab f.type with
        | none => simp [hq'] at hj
        | some q =>
          simp only [hq', Option.some.injEq] at hj
          subst hj
          simp [(hT _ _ hq').size]) hf
    have hMA : (fs.mapM (fun f => (do pure (f.offset, ← sizeOf f.type) : Sem (Nat × Nat)))).run P w = .ok (fs.toList.map fun f => (f.offset, P.cellsOf f.type)).toArray w := by
      rw [Array.mapM_eq_mapM_toList]
      simp only [Functor.map, Sem.run_bind']
      rw [hM fs.toList w f3]
      rfl
    simp only [execOp, hop]
    rw [e3]
    have hrun : (Instr.build t pv.toArray).run P w = .ok (.agg cells) w := by
      simp only [Instr.build, Sem.run_bind, hz1, run_underlying f1, Result.andThen_ok, hMA, hz2]
      simp only [List.getElem?_toArray]
      rw [hfill]
      rfl
    simp [hrun]) hk
end
section
variable {P : Program} {tab : TT} {w0 : World} {n : Nat} {ts : TS} {A : List Chunk}
theorem rv_tmp {t : Tmp} {v : Value} (h : look ts t = some v) : RV P w0 ts A (.tmp t) v := h
theorem rv_row {a b o t : Nat} {i : TI} {cs : List Value} (hT : TabOk P tab) (hx : look ts a = some (.pointer (some ⟨b, o, none⟩))) (hi : lookI tab t = some i) (hr : i.d.isRow = true) (hc : CellsAt w0 A b o cs) (hl : cs.length = i.size) :
    RV P w0 ts A (.cell a t) (.agg cs.toArray) := ⟨b, o, hx, fun w hs => run_loadVar_rw (hT t i hi) hr hl (hc w hs)⟩
theorem cell_own {g n cap t sz j : Nat} {xs : List Value} {v : Value} (h : .own (.slice (some ⟨g, 0, none⟩) n cap) t sz n xs ∈ A) (hv : xs[j]? = some v) : CellAt w0 A g j v := fun w hs => by
  have h1 := (hs.all _ h).cells (g := g) rfl j v hv
  rwa [Addr.add_none, Nat.zero_add] at h1
/-- What an argument shows. -/
theorem St.reads {w : World} {sz n : Nat} {B : Option Addr} {xs : List Value} (hs : St w0 A w) (h : Reads w0 w0.heap.size sz B n xs) : Reads w w.heap.size sz B n xs := (h.below hs.base).more hs.base.size
theorem St.own_reads {w : World} {v : Value} {t sz n : Nat} {xs : List Value} (hs : St w0 A w) (h : .own v t sz n xs ∈ A) : ∃ B c, v = .slice B n c ∧ Reads w w.heap.size sz B n xs := by
  have h1 := hs.all _ h
  obtain ⟨h2, h3⟩ := h1
  rcases h3 with ⟨rfl, rfl⟩ | ⟨g, cap, cur, rfl, h4, h5, h6, h7, h8, h9⟩
  · exact ⟨none, 0, rfl, h2, fun h => absurd h (by omega)⟩
  · refine ⟨_, _, rfl, h2, fun _ => ⟨g, 0, rfl, (Array.getElem?_eq_some_iff.1 h5).1, fun j u hu => ?_⟩⟩
    have h1 : w.ownsRow w0.heap.size t sz (.slice (some ⟨g, 0, none⟩) n cap) n xs := ⟨h2, .inr ⟨g, cap, cur, rfl, h4, h5, h6, h7, h8, h9⟩⟩
    have := h1.cells (g := g) rfl j u hu
    rwa [Addr.add_none] at this
theorem St.blk_reads {w : World} {g t sz n : Nat} {xs : List Value} (hs : St w0 A w) (h : .blk g t xs ∈ A) (hl : xs.length = n * sz) : Reads w w.heap.size sz (some ⟨g, 0, none⟩) n xs :=
  ⟨hl, fun _ => ⟨g, 0, rfl, ((hs.all _ h).2).lt, fun j u hu => by rw [Nat.zero_add, (hs.all _ h).2.cell]; simpa using hu⟩⟩
end
section
variable {P : Program} {w0 : World} {n : Nat} {ds : List Deferred} {ops : List Oper} {o : Oper} {os : List Oper} {ks : List Kind} {ts : TS} {A : List Chunk} {K : TS → List Chunk → Prop}
end
theorem ret0 {P : Program} {w0 : World} {n : Nat} {ts : TS} {A : List Chunk} {fn : Func} {R : Ending → World → Prop} {e : Exit} (he : e = .normal ∨ e = .ret) (hr : fn.results = #[]) (hR : ∀ w, St w0 A w → R (.returned (.tuple #[])) w) :
    RetOK P w0 n fn R e [] ts A := ⟨he, fun a w hh => ⟨.tuple #[], by simp [results, hr, Sem.run_bind], hR w hh.st⟩⟩
section
variable {w0 : World} {A : List Chunk}
/-- What lay there when the call began. -/
theorem CellAt.base {b o : Nat} {v : Value} (h : w0.cell? ⟨b, o, none⟩ = some v) : CellAt w0 A b o v := fun w hs =>
  (hs.base.cell (p := ⟨b, o, none⟩) (World.block_lt_of_cell? _ _ h)).trans h
theorem CellsAt.base {b o : Nat} {cs : List Value} (h : ∀ j u, cs[j]? = some u → w0.cell? ⟨b, o + j, none⟩ = some u) : CellsAt w0 A b o cs := fun w hs j u hu => CellAt.base (h j u hu) w hs
end
def evL (ts : TS) : List Operand → Option (List Value)
  | [] => some []
  | x :: xs => match evT ts x with
    | none => none
    | some v => match evL ts xs with
      | none => none
      | some vs => some (v :: vs)
theorem evl_of {ts : TS} : ∀ {xs : List Operand} {vs : List Value}, evL ts xs = some vs → EvL ts xs vs
  | [], vs, h => by cases h; exact .nil
  | x :: xs, vs, h => by
    simp only [evL] at h
    split at h
    · cases h
    · rename_i v hv
      split at h
      · cases h
      · rename_i us hus
        cases h
        exact .cons hv (evl_of hus)
/-! ## Ranges over functions -/
section
variable {P : Program} {w0 : World} {n : Nat} {ds : List Deferred} {ts : TS} {A : List Chunk} {Q : PostT}
/-- What a call of yield brings about. -/
def YieldT (P : Program) (w0 : World) {α : Type} (enc : α → List Value) (l : Nat) (xs : List α) (Jc Jx : List α → List Chunk → Prop) : Prop :=
  ∀ pre x R B W, pre ++ [x] <+: xs → Jc pre R → St w0 (B ++ R) W → ∀ m, YieldAt (fw none) m P l (enc x).toArray W fun e W' =>
    (e = .returned (.bool true) ∧ ∃ R', Jc (pre ++ [x]) R' ∧ St w0 (B ++ R') W') ∨ (e = .returned (.bool false) ∧ ∃ R', Jx (pre ++ [x]) R' ∧ St w0 (B ++ R') W')
/-- A function that yields just these, one behind the other, as long as it is told to go on; it reads what is needed. -/
def ItT (P : Program) {α : Type} (gf : FuncId) (us vs : List Value) (enc : α → List Value) (Need : World → List Chunk → Prop) (xs : List α) : Prop :=
  ∀ (w0 : World) (l : Nat) (Jc Jx : List α → List Chunk → Prop) (R : List Chunk) (W : World), (∀ pre R, Jc pre R → Need w0 R) → YieldT P w0 enc l xs Jc Jx → Jc [] R → St w0 R W →
    Calls P gf (us ++ [Value.func (.yield l) #[] #[]] ++ vs).toArray W fun e W' => (∃ v, e = .returned v) ∧ ((∃ R', Jc xs R' ∧ St w0 R' W') ∨ ∃ pre R', Jx pre R' ∧ St w0 R' W')

def parT (ts : TS) : List Tmp → List Value → TS
  | p :: ps, v :: vs => parT ((p, v) :: ts) ps vs
  | _, _ => ts
theorem Hd.par {w : World} : ∀ (ps : List Tmp) (vs : List Value) (ts : TS) (tm : Array Value), (∀ p ∈ ps, p < n) → Hd w0 n [] ts A { tmps := tm, defers := [] } w →
    Hd w0 n [] (parT ts ps vs) A { tmps := (ps.zip vs).foldl (fun t (p : Tmp × Value) => t.setIfInBounds p.1 p.2) tm, defers := [] } w := by
  intro ps
  induction ps with
  | nil => intro vs ts tm _ h; exact h
  | cons p ps ih =>
    intro vs ts tm hp h
    cases vs with
    | nil => exact h
    | cons v vs =>
      have := h.put (dst := some p) (fun d hd => by cases hd; exact hp p (.head _)) v
      exact ih vs _ _ (fun q hq => hp q (.tail _ hq)) this

/-- How the body of a round may be left. -/
def roundQ {α : Type} (I : List α → List Chunk → Prop) (X : Code → List α → List Chunk → Prop) (xs : List α) (Fr : List Chunk) : PostT := fun e ds _ A =>
  ds = [] ∧ ∃ R, (R ++ Fr).Sublist A ∧ match e with
    | .normal => I xs R
    | .ret => X .ret xs R
    | .exit i => X (.exit i) xs R
    | .goto t => X (.goto t) xs R
    | _ => False
theorem perm_mid {α : Type} (B R F : List α) : (B ++ (R ++ F)).Perm (R ++ (F ++ B)) := by
  rw [← List.append_assoc R F B]
  exact List.perm_append_comm
theorem St.set_obj {w : World} {b : Nat} {o o' : Obj} {A A' : List Chunk} (hs : St w0 A w) (hu : Upd (.obj b o) (.obj b o') A A') : St w0 A' (w.putObj b o') :=
  hs.upd hu rfl (grownBy_putObj' w b _) ⟨(hs.all _ hu.mem).1, World.putObj_heap_same (Array.getElem?_eq_some_iff.1 (hs.all _ hu.mem).2).1⟩ fun b hb => .inl hb
theorem upd_app {c c' : Chunk} : ∀ (R : List Chunk) (F : List Chunk), Upd c c' (R ++ c :: F) (R ++ c' :: F)
  | [], _ => .here
  | _ :: R, F => .there (upd_app R F)
theorem St.alloc_obj {w : World} (hs : St w0 A w) (o : Obj) (h : ∀ c e f, o ≠ .cells c e f) : St w0 (.obj w.heap.size o :: A) (w.alloc o) :=
  hs.add ((Below.refl _ _).alloc (Nat.le_refl _) _) ⟨hs.base.size, heap_alloc_new w _⟩ fun b hb => by cases hb; exact Nat.le_refl _

theorem tr_rangeFunc {α : Type} {g : Operand} {ps : Array Tmp} {assign body : Code} {gf : FuncId} {us vs : List Value} {enc : α → List Value} {Need : World → List Chunk → Prop} {xs : List α}
    (hg : evT ts g = some (.func (.func gf) us.toArray vs.toArray)) (hb : hasBody P gf = true) (hit : ItT P gf us vs enc Need xs) (hps : ∀ x, (enc x).length = ps.size) (hpn : ∀ p ∈ ps.toList, p < n)
    (I : List α → List Chunk → Prop) (X : Code → List α → List Chunk → Prop) (hN : ∀ pre R, I pre R → ∀ F, Need w0 (R ++ F)) (h0 : I [] A)
    (hround : ∀ l pre x R Fr, pre ++ [x] <+: xs → I pre R → Tr P (some l) w0 n assign [] (parT ts ps.toList (enc x)) (R ++ Fr) fun e ds' ts1 A1 => e = .normal ∧ ds' = [] ∧ ∃ R1, (R1 ++ Fr).Sublist A1 ∧ ∀ Fr', Tr P (some l) w0 n body [] ts1 (R1 ++ Fr') (roundQ I X (pre ++ [x]) Fr'))
    (hdone : ∀ D R, I xs R → Q .normal ({ target := .collected D, args := #[] } :: ds) ts (.obj D (.deferred (some [])) :: R))
    (hstop : ∀ D c pre R, X c pre R → Tr P none w0 n c ({ target := .collected D, args := #[] } :: ds) ts (.obj D (.deferred (some [])) :: R) Q) : Tr P none w0 n (.rangeFunc g ps assign body) ds ts A Q := by
  intro m a w hh
  refine wpIn_rangeFunc ?_
  intro fn hfn
  obtain ⟨rec, hrec⟩ : ∃ rec : LoopState → Option Code → Loop, rec = fun st pe => { state := st, pending := pe, fn, tmps := a.tmps, params := ps, assign, body, defers := w.heap.size } := ⟨_, rfl⟩
  obtain ⟨D, hD⟩ : ∃ D, D = w.heap.size := ⟨_, rfl⟩
  obtain ⟨W1, hW1⟩ : ∃ W1, (w.alloc (.deferred (some []))).alloc (.loop (rec .ready none)) = W1 := ⟨_, rfl⟩
  have hS1 : St w0 (A ++ [.obj (D + 1) (.loop (rec .ready none)), .obj D (.deferred (some []))]) W1 := by
    have h1 := hh.st.alloc_obj (.deferred (some [])) (fun _ _ _ h => by cases h)
    have h2 := h1.alloc_obj (.loop (rec .ready none)) (fun _ _ _ h => by cases h)
    rw [World.size_alloc, hW1, ← hD] at h2
    exact h2.perm (by
      have := (List.perm_append_comm (l₁ := [Chunk.obj (D + 1) (.loop (rec .ready none)), .obj D (.deferred (some []))]) (l₂ := A))
      simpa using this)
  refine ⟨D + 1, [{ target := .collected D, args := #[] }], W1, { target := .fn (.func gf) vs.toArray, args := us.toArray ++ #[Value.func (.yield (D + 1)) #[] #[]] }, W1, gf,
    (us ++ [Value.func (.yield (D + 1)) #[] #[]] ++ vs).toArray, W1, ?_, ?_, fun _ _ => trivial, ?_, (fun h => by cases h), ?_⟩
  · rw [← hW1, hrec, hD]; exact run_enterLoop_outer _ _ _ _ _
  · simp only [resolve, hh.ev hg]
    simp [Deferred.ofValue, Act.eval]
  · have := callFunc_run hb (us.toArray ++ #[Value.func (.yield (D + 1)) #[] #[]] ++ vs.toArray) W1
    simpa [invoke] using this
  · refine callsIn_fw.2 ((hit w0 (D + 1)
      (fun pre R' => ∃ R, I pre R ∧ R' = R ++ [.obj (D + 1) (.loop (rec .ready none)), .obj D (.deferred (some []))])
      (fun pre R' => ∃ c R, X c pre R ∧ R' = R ++ [.obj (D + 1) (.loop (rec .done (some c))), .obj D (.deferred (some []))])
      _ W1 (fun pre R' ⟨R, hI, e⟩ => e ▸ hN pre R hI _) ?_ ⟨A, h0, rfl⟩ hS1).mono ?_)
    · rintro pre x _ B W hpre ⟨R, hI, rfl⟩ hS m'
      have hl : W.heap[D + 1]? = some (.loop (rec .ready none)) := (hS.all _ (List.mem_append_right _ (List.mem_append_right _ (.head _)))).2
      have hy := run_yield (P := P) (args := (enc x).toArray) hl (by rw [hrec]; simpa using hps x)
      rw [hrec] at hy
      refine ⟨fn, _, assign, body, hy, roundIn_of_wpIn hfn ?_⟩
      have hSp : St w0 (R ++ ([.obj (D + 1) (.loop (rec .ready none)), .obj D (.deferred (some []))] ++ B)) W := hS.perm (perm_mid _ _ _)
      have hHd : Hd w0 n [] (parT ts ps.toList (enc x)) (R ++ ([.obj (D + 1) (.loop (rec .ready none)), .obj D (.deferred (some []))] ++ B)) { tmps := (ps.toList.zip (enc x)).foldl (fun t (p : Tmp × Value) => t.setIfInBounds p.1 p.2) a.tmps, defers := [] } W :=
        Hd.par ps.toList (enc x) ts a.tmps hpn ⟨hh.size, hh.slots, rfl, hSp⟩
      have hz : (ps.zip (enc x).toArray).foldl (fun tmps (x : Tmp × Value) => match x with | (t, a) => tmps.setIfInBounds t a) a.tmps = (ps.toList.zip (enc x)).foldl (fun t (p : Tmp × Value) => t.setIfInBounds p.1 p.2) a.tmps := by
        rw [← Array.foldl_toList]
        simp
      rw [hz]
      refine wpIn_mono (hround (D + 1) pre x R _ hpre hI m' _ W hHd) ?_
      rintro e a1 w1 ⟨ds1, ts1, A1, ⟨rfl, rfl, R1, hsub, hbody⟩, hd1⟩
      have hS2 := hd1.st.sub hsub
      have hl2 : w1.heap[D + 1]? = some (.loop (rec .ready none)) := (hS2.all _ (List.mem_append_right _ (.head _))).2
      refine ⟨_, run_beginRound hl2 (by rw [hrec]), ?_⟩
      have hS3 := hS2.set_obj (upd_app (c := .obj (D + 1) (.loop (rec .ready none))) (c' := .obj (D + 1) (.loop { rec .ready none with state := .busy })) R1 (.obj D (.deferred (some [])) :: B))
      refine wpIn_mono (hbody (.obj (D + 1) (.loop { rec .ready none with state := .busy }) :: .obj D (.deferred (some [])) :: B) m' a1 _ ⟨hd1.size, hd1.slots, hd1.ds, hS3⟩) ?_
      rintro e a2 w2 ⟨ds2, ts2, A2, ⟨rfl, R2, hsub2, hq⟩, hd2⟩
      have hS4 := hd2.st.sub hsub2
      have hl3 : w2.heap[D + 1]? = some (.loop { rec .ready none with state := .busy }) := (hS4.all _ (List.mem_append_right _ (.head _))).2
      have fin : ∀ jump : Option Code, (Instr.endRound (D + 1) jump).run P w2 = .ok (.bool jump.isNone) (w2.putObj (D + 1) (.loop (rec (if jump.isNone then .ready else .done) jump))) ∧
          St w0 (B ++ (R2 ++ [.obj (D + 1) (.loop (rec (if jump.isNone then .ready else .done) jump)), .obj D (.deferred (some []))])) (w2.putObj (D + 1) (.loop (rec (if jump.isNone then .ready else .done) jump))) := fun jump => by
        have h1 := run_endRound (P := P) jump hl3
        have h2 := hS4.set_obj (upd_app (c := .obj (D + 1) (.loop { rec .ready none with state := .busy })) (c' := .obj (D + 1) (.loop (rec (if jump.isNone then .ready else .done) jump))) R2 (.obj D (.deferred (some [])) :: B))
        refine ⟨?_, h2.perm (perm_mid B R2 [.obj (D + 1) (.loop (rec (if jump.isNone then .ready else .done) jump)), .obj D (.deferred (some []))]).symm⟩
        rw [hrec] at h1 ⊢
        exact h1
      cases e with
      | normal => exact ⟨_, _, (fin none).1, .inl ⟨rfl, _, ⟨R2, hq, rfl⟩, (fin none).2⟩⟩
      | ret => exact ⟨_, _, (fin (some .ret)).1, .inr ⟨rfl, _, ⟨.ret, R2, hq, rfl⟩, (fin (some .ret)).2⟩⟩
      | exit i => exact ⟨_, _, (fin (some (.exit i))).1, .inr ⟨rfl, _, ⟨.exit i, R2, hq, rfl⟩, (fin (some (.exit i))).2⟩⟩
      | goto t => exact ⟨_, _, (fin (some (.goto t))).1, .inr ⟨rfl, _, ⟨.goto t, R2, hq, rfl⟩, (fin (some (.goto t))).2⟩⟩
      | panic c => exact hq.elim
      | outgrown => exact hq.elim
    · rintro e W2 ⟨⟨v, rfl⟩, h⟩
      have key : ∀ (R : List Chunk) (r0 : Loop), r0.state ≠ .busy → St w0 (R ++ [.obj (D + 1) (.loop r0), .obj D (.deferred (some []))]) W2 →
          (Instr.endLoop (D + 1)).run P W2 = .ok r0.pending (W2.putObj (D + 1) (.loop { r0 with state := .exhausted })) ∧
          St w0 (.obj D (.deferred (some [])) :: R) (W2.putObj (D + 1) (.loop { r0 with state := .exhausted })) := fun R r0 hne hS => by
        have hl : W2.heap[D + 1]? = some (.loop r0) := (hS.all _ (List.mem_append_right _ (.head _))).2
        have h1 := run_endLoop (P := P) hl hne
        have h2 := hS.set_obj (upd_app (c := .obj (D + 1) (.loop r0)) (c' := .obj (D + 1) (.loop { r0 with state := .exhausted })) R [.obj D (.deferred (some []))])
        refine ⟨h1, (h2.sub (A' := R ++ [.obj D (.deferred (some []))]) ((List.Sublist.refl R).append (List.sublist_cons_self _ _))).perm ?_⟩
        have := (List.perm_append_comm (l₁ := R) (l₂ := [Chunk.obj D (.deferred (some []))]))
        simpa using this
      rcases h with ⟨_, ⟨R, hI, rfl⟩, hS⟩ | ⟨pre, _, ⟨c, R, hX, rfl⟩, hS⟩
      · obtain ⟨h1, h2⟩ := key R _ (by rw [hrec]; simp) hS
        refine ⟨none, W2.putObj (D + 1) (.loop { rec .ready none with state := .exhausted }), ?_, ?_⟩
        · rw [hrec] at h1; rw [hrec]; exact h1
        · exact ⟨_, ts, _, hdone D R hI, ⟨hh.size, hh.slots, by rw [hh.ds]; rfl, h2⟩⟩
      · obtain ⟨h1, h2⟩ := key R _ (by rw [hrec]; simp) hS
        refine ⟨some c, W2.putObj (D + 1) (.loop { rec .done (some c) with state := .exhausted }), ?_, ?_⟩
        · rw [hrec] at h1; rw [hrec]; exact h1
        · exact hstop D c pre R hX m _ _ ⟨hh.size, hh.slots, by rw [hh.ds]; rfl, h2⟩
end
section
variable {P : Program} {w0 : World} {n : Nat} {ds : List Deferred} {ops : List Oper} {o : Oper} {os : List Oper} {ks : List Kind} {ts : TS} {A : List Chunk} {K : TS → List Chunk → Prop} {d : Tmp}
/-- yield is called. -/
theorem ot_yield {α : Type} {enc : α → List Value} {l : Nat} {xs : List α} {Jc Jx : List α → List Chunk → Prop} {f : Operand} {zs : Array Operand} {ats : Array TypeId} {pre : List α} {x : α} {R B : List Chunk} (hy : YieldT P w0 enc l xs Jc Jx)
    (hh : ks.headD .wr = .wr) (hop : o.op = .call { callee := .value f, args := zs, argTypes := ats }) (hd : o.dst = some d) (hw : wantB ops ts o = some true) (hf : evT ts f = some (.func (.yield l) #[] #[])) (ha : EvL ts zs.toList (enc x))
    (hx : pre ++ [x] <+: xs) (hJ : Jc pre R) (hA : A = B ++ R)
    (hk1 : ∀ R', Jc (pre ++ [x]) R' → OT P w0 n ds ops os ks.tail ((d, .bool true) :: ts) (B ++ R') K) (hk2 : ∀ R', Jx (pre ++ [x]) R' → OT P w0 n ds ops os ks.tail ((d, .bool false) :: ts) (B ++ R') K) : OT P w0 n ds ops (o :: os) ks ts A K := by
  subst hA
  refine ot_wr hh fun a w hd' => ?_
  unfold wpV
  rw [if_pos (wantB_spec hd' hw)]
  have hm := ha.map hd'
  simp only [Array.toArray_toList] at hm
  have hexec : execOp a.eval o = (do Instr.yield l (enc x).toArray) := by
    obtain ⟨dst, op, type, pos, after, guard⟩ := o
    cases hop
    simp only [execOp, resolve, hd'.ev hf]
    simp only [Deferred.ofValue]
    show (do let d ← (pure { target := .fn (.yield l) #[], args := #[] ++ zs.map a.eval } : Sem Deferred); invoke d.target d.args) = _
    rw [hm]
    simp [invoke]
  rw [hexec]
  obtain ⟨fn, tmps, assign, body, h1, _⟩ := hy pre x R B w hx hJ hd'.st 0
  have h2 : ∀ m, RoundIn (fw none) m P l fn tmps assign body w fun e W' => (e = .returned (.bool true) ∧ ∃ R', Jc (pre ++ [x]) R' ∧ St w0 (B ++ R') W') ∨ (e = .returned (.bool false) ∧ ∃ R', Jx (pre ++ [x]) R' ∧ St w0 (B ++ R') W') := fun m => by
    obtain ⟨fn', tmps', assign', body', h3, h4⟩ := hy pre x R B w hx hJ hd'.st m
    rw [h1] at h3
    cases h3
    exact h4
  rw [h1]
  intro m
  refine RoundIn.mono (h2 m) fun e W' he => ?_
  rcases he with ⟨rfl, R', hJ', hS⟩ | ⟨rfl, R', hJ', hS⟩
  · exact ⟨B ++ R', (fun e => by cases e), hS, by rw [hd]; exact hk1 R' hJ'⟩
  · exact ⟨B ++ R', (fun e => by cases e), hS, by rw [hd]; exact hk2 R' hJ'⟩
end
section
variable {P : Program} {tab : TT} {w0 : World} {n : Nat} {ds : List Deferred} {ops : List Oper} {o : Oper} {os : List Oper} {ks : List Kind} {ts : TS} {A : List Chunk} {K : TS → List Chunk → Prop} {d : Tmp}
variable {x y : Operand} {t u : TypeId} {i i' : TI}
theorem ot_build0 (hT : TabOk P tab) (hop : o.op = .build t #[]) (hd : o.dst = some d) (hw : wantB ops ts o = some true) (hi : lookI tab t = some i) (hr : i.d.isRow = true) (he : ∀ m e, i.d = .ar m e → ∃ j, lookI tab e = some j)
    (hk : OT P w0 n ds ops os ks.tail ((d, .agg i.zero.toArray) :: ts) A K) : OT P w0 n ds ops (o :: os) ks ts A K :=
  ot_val _ hd hw (fun a w hd' => by
    obtain ⟨z, hz1, hz2⟩ := (hT t i hi).zv w
    cases hdd : i.d with
    | st l =>
      obtain ⟨fs, f1, f2, f3⟩ := (hT t i hi).st hdd
      have hM : ∀ (L : List Field) (w : World), (∀ f ∈ L, P.cellsOf f.type ≠ 0) → (L.mapM (fun f => (do pure (f.offset, ← sizeOf f.type) : Sem (Nat × Nat)))).run P w = .ok (L.map fun f => (f.offset, P.cellsOf f.type)) w := by
        intro L
        induction L with
        | nil => intro w _; simp
        | cons f L ih =>
          intro w hL
          simp only [List.mapM_cons, Sem.run_bind, sizeOf_cells (hL f (.head _)), ih w fun q hq => hL q (.tail _ hq), Result.andThen_ok, Sem.run_pure, List.map_cons]
      have hMA : (fs.mapM (fun f => (do pure (f.offset, ← sizeOf f.type) : Sem (Nat × Nat)))).run P w = .ok (fs.toList.map fun f => (f.offset, P.cellsOf f.type)).toArray w := by
        rw [Array.mapM_eq_mapM_toList]
        simp only [Functor.map, Sem.run_bind']
        rw [hM fs.toList w f3]
        rfl
      have hrun : (Instr.build t #[]).run P w = .ok (.agg i.zero.toArray) w := by
        simp only [Instr.build, Sem.run_bind, hz1, run_underlying f1, Result.andThen_ok, hMA, hz2]
        rfl
      simp only [execOp, hop]
      simp [hrun]
    | ar m e =>
      obtain ⟨j, hj⟩ := he m e hdd
      have hrun : (Instr.build t #[]).run P w = .ok (.agg i.zero.toArray) w := by
        simp only [Instr.build, Sem.run_bind, hz1, run_underlying ((hT t i hi).ar hdd), Result.andThen_ok, (hT e j hj).sz, hz2]
        rfl
      simp only [execOp, hop]
      simp [hrun]
    | _ => rw [hdd] at hr; cases hr) hk
theorem ot_eqls {B C : Array Value} (b : Bool) (hop : o.op = .binOp .eql t x y u) (hd : o.dst = some d) (hw : wantB ops ts o = some true) (hx : evT ts x = some (.agg B)) (hy : evT ts y = some (.agg C)) (hg : P.eqGuardType P.depth t = false)
    (he : ∀ w, (Op.equal t (.agg B) (.agg C)).run P w = .ok b w) (hk : OT P w0 n ds ops os ks.tail ((d, .bool b) :: ts) A K) : OT P w0 n ds ops (o :: os) ks ts A K :=
  ot_val _ hd hw (fun a w hd' => by
    have e1 : (eqGuard .eql t x y (.agg B) (.agg C)).run P w = .ok () w := by simp [eqGuard, hg, Sem.run_bind]
    have e2 : (binOp .eql t (.agg B) (.agg C)).run P w = .ok (.bool b) w := by simp [binOp, he]
    simp only [execOp, hop, hd'.ev hx, hd'.ev hy, Sem.run_bind, e1, e2, Result.andThen_ok, Sem.run_pure]) hk
theorem ot_neqs {B C : Array Value} (b : Bool) (hop : o.op = .binOp .neq t x y u) (hd : o.dst = some d) (hw : wantB ops ts o = some true) (hx : evT ts x = some (.agg B)) (hy : evT ts y = some (.agg C)) (hg : P.eqGuardType P.depth t = false)
    (he : ∀ w, (Op.equal t (.agg B) (.agg C)).run P w = .ok b w) (hk : OT P w0 n ds ops os ks.tail ((d, .bool (!b)) :: ts) A K) : OT P w0 n ds ops (o :: os) ks ts A K :=
  ot_val _ hd hw (fun a w hd' => by
    have e1 : (eqGuard .neq t x y (.agg B) (.agg C)).run P w = .ok () w := by simp [eqGuard, hg, Sem.run_bind]
    have e2 : (binOp .neq t (.agg B) (.agg C)).run P w = .ok (.bool (!b)) w := by simp [binOp, he]
    simp only [execOp, hop, hd'.ev hx, hd'.ev hy, Sem.run_bind, e1, e2, Result.andThen_ok, Sem.run_pure]) hk
end
section
variable {P : Program} {tab : TT} {w0 : World} {n : Nat} {ds : List Deferred} {ops : List Oper} {o : Oper} {os : List Oper} {ks : List Kind} {ts : TS} {A : List Chunk} {K : TS → List Chunk → Prop} {d : Tmp}
variable {x y : Operand} {t u : TypeId} {i i' : TI}
/-- x[l:] -/
theorem ot_slice_lo {e b off len cap lo : Nat} {lov : Operand} {k : IntKind} {p : Int} (hT : TabOk P tab) (hop : o.op = .slice t x (some lov) none none) (hd : o.dst = some d) (hw : wantB ops ts o = some true) (hx : evT ts x = some (.slice (some ⟨b, off, none⟩) len cap)) (hl : evT ts lov = some (.int k p))
    (hi : lookI tab t = some i) (hdd : i.d = .sl e) (hi' : lookI tab e = some i') (hp : p = (lo : Int)) (hle : lo ≤ len)
    (hk : OT P w0 n ds ops os ks.tail ((d, .slice (some (if cap = lo then ⟨b, off, none⟩ else ⟨b, off + lo * i'.size, none⟩)) (len - lo) (cap - lo)) :: ts) A K) : OT P w0 n ds ops (o :: os) ks ts A K :=
  ot_val _ hd hw (fun a w hh => by
    subst hp
    have h1 := (hT t i hi).sl hdd
    have h2 := (hT e i' hi').sz w
    have h3 : (0 : Int) ≤ lo ∧ (lo : Int) ≤ len := by omega
    simp only [execOp, hop, hh.ev hx, hh.ev hl, Instr.sliceAt, Option.map_some, Option.map_none, Sem.run_bind, run_underlying h1, Result.andThen_ok, Instr.slice, Instr.sliceBounds, Instr.sliceBound, asIntOf, Sem.run_pure, h3, and_self, if_true, h2, Int.toNat_natCast, Addr.add_none, Option.isSome_none, Bool.false_eq_true, if_false]
    by_cases hc : cap = lo <;> simp [hc]) hk
theorem ot_slice_ne {e b off len cap lo : Nat} {lov : Operand} {k : IntKind} {p : Int} (hT : TabOk P tab) (hop : o.op = .slice t x (some lov) none none) (hd : o.dst = some d) (hw : wantB ops ts o = some true) (hx : evT ts x = some (.slice (some ⟨b, off, none⟩) len cap)) (hl : evT ts lov = some (.int k p))
    (hi : lookI tab t = some i) (hdd : i.d = .sl e) (hi' : lookI tab e = some i') (hp : p = (lo : Int)) (hle : lo ≤ len) (hne : cap ≠ lo)
    (hk : OT P w0 n ds ops os ks.tail ((d, .slice (some ⟨b, off + lo * i'.size, none⟩) (len - lo) (cap - lo)) :: ts) A K) : OT P w0 n ds ops (o :: os) ks ts A K :=
  ot_slice_lo hT hop hd hw hx hl hi hdd hi' hp hle (by rw [if_neg hne]; exact hk)
end
end Go.Proofs.YtiodmphhjgkgjaaGreat
