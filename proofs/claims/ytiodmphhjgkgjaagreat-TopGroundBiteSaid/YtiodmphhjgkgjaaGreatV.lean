/- Steps by computation: where the computation stops: lemmas for the rows of this seat. No conditions. -/
import Derived.BigFrame
import Derived.Test.YtiodmphhjgkgjaaGreatS14
set_option linter.all false
namespace Go.Proofs.YtiodmphhjgkgjaaGreat
open Go.RowKit
/-! ## Steps by computation: where the computation stops -/
def nthL {α : Type} : List α → Nat → Option α
  | [], _ => none
  | x :: _, 0 => some x
  | _ :: l, i + 1 => nthL l i
theorem nthL_eq {α : Type} : ∀ (l : List α) (i : Nat), nthL l i = l[i]?
  | [], _ => by simp [nthL]
  | _ :: _, 0 => rfl
  | _ :: l, i + 1 => by simp [nthL, nthL_eq l i]
def forceL {α : Type} : List α → (List α → Prop) → Prop
  | [], k => k []
  | x :: l, k => forceL l fun r => k (x :: r)
theorem forceL_eq {α : Type} : ∀ (l : List α) (k : List α → Prop), forceL l k = k l
  | [], _ => rfl
  | x :: l, k => forceL_eq l fun r => k (x :: r)
/-- A number lies within bounds. -/
inductive VRng (lo hi p : Int) (X : Prop) : Prop
  | mk (h : lo ≤ p ∧ p ≤ hi) (x : X)
/-- A condition is decided. -/
inductive VDec (c : Prop) [Decidable c] (X : Bool → Prop) : Prop
  | mk (b : Bool) (h : decide c = b) (x : X b)
inductive VBr (b : Bool) (X Y : Prop) : Prop
  | mk (x : b = true → X) (y : b = false → Y)
inductive VNz (q : Int) (X : Prop) : Prop
  | mk (h : q ≠ 0) (x : X)
inductive VWr (k : IntKind) (p : Int) (X : Int → Prop) : Prop
  | mk (q : Int) (h : k.wrap p = q) (x : X q)
inductive VLd (w0 : World) (A : List Chunk) (b o : Nat) (X : Value → Prop) : Prop
  | mk (v : Value) (h : CellAt w0 A b o v) (x : X v)
inductive VLdN (w0 : World) (A : List Chunk) (b o sz : Nat) (X : Value → Prop) : Prop
  | mk (cs : List Value) (h : CellsAt w0 A b o cs) (hl : cs.length = sz) (x : X (.agg cs.toArray))
  | sub (cs : List Value) (h : CellsAt w0 A b 0 cs) (hl : Nat.ble (o + sz) cs.length = true) (x : forceL ((cs.drop o).take sz) fun r => X (.agg r.toArray))
inductive VIx (p : Int) (len : Nat) (X : Nat → Prop) : Prop
  | mk (j : Nat) (hp : p = (j : Int)) (hj : j < len) (x : X j)
inductive VNew (B : Nat) (X : Nat → Prop) : Prop
  | mk (x : ∀ g, B ≤ g → X g)
inductive VStop (X : Prop) : Prop
  | mk (x : X)
inductive VEq (P : Program) (t : TypeId) (B C : Array Value) (X : Bool → Prop) : Prop
  | mk (b : Bool) (hg : P.eqGuardType P.depth t = false) (he : ∀ w, (Op.equal t (.agg B) (.agg C)).run P w = .ok b w) (x : X b)
/-- A function is called. -/
inductive VCall (P : Program) (w0 : World) (A : List Chunk) (f : FuncId) (av : List Value) (stop : Prop) (X : Value → List Chunk → Prop) : Prop
  | q (v : Value) (hb : hasBody P f = true) (hc : ∀ w, St w0 A w → Calls P f av.toArray w fun e w' => e = .returned v ∧ Below w.heap.size w w') (x : X v A)
  | stop (x : stop)
/-- A slot that is not told. -/
inductive VBad (x : Operand) : Prop

section
variable {b : Bool} {X Y : Prop}
theorem VBr.t (x : X) : VBr true X Y := ⟨(fun _ => x), (fun h => by cases h)⟩
theorem VBr.f (y : Y) : VBr false X Y := ⟨(fun h => by cases h), fun _ => y⟩
theorem VBr.spec (h : VBr b X Y) : (b = true → X) ∧ (b = false → Y) := by cases h; exact ⟨‹_›, ‹_›⟩
end
/-! ### values, taken whole -/
/-- A chunk stands at a place. -/
inductive At : List Chunk → Nat → Chunk → Prop
  | here {c : Chunk} {A : List Chunk} : At (c :: A) 0 c
  | there {c d : Chunk} {A : List Chunk} {p : Nat} : At A p c → At (d :: A) (p + 1) c
def setC : List Chunk → Nat → Chunk → (List Chunk → Prop) → Prop
  | [], _, _, _ => False
  | _ :: A, 0, d, k => k (d :: A)
  | c :: A, p + 1, d, k => setC A p d fun r => k (c :: r)
theorem setC_spec {c d : Chunk} : ∀ {A : List Chunk} {p : Nat} {k : List Chunk → Prop}, At A p c → setC A p d k → ∃ A', Upd c d A A' ∧ k A'
  | _, _, _, .here, h => ⟨_, .here, h⟩
  | _, _, _, .there ha, h => by
    obtain ⟨A', h1, h2⟩ := setC_spec ha h
    exact ⟨_, .there h1, h2⟩
inductive VSt (g off : Nat) (vs : List Value) (A : List Chunk) (stop : Prop) (X : List Chunk → Prop) : Prop
  | mk (bt : TypeId) (cs : List Value) (p : Nat) (ha : At A p (.blk g bt cs)) (hlen : Nat.ble (off + vs.length) cs.length = true) (x : forceL (setMany cs off vs) fun cs' => setC A p (.blk g bt cs') X)
  | old (bt : TypeId) (cs cs' : List Value) (A' : List Chunk) (hu : Upd (.blk g bt cs) (.blk g bt cs') A A') (hlen : Nat.ble (off + vs.length) cs.length = true) (hcs : setMany cs off vs = cs') (x : X A')
  | stop (x : stop)
def cellsK (v : Value) (k : List Value → Prop) : Prop := match v with
  | .agg cs => forceL cs.toList k
  | v => k [v]
theorem cellsK_spec {v : Value} {k : List Value → Prop} (h : cellsK v k) : k v.cells.toList := by
  unfold cellsK at h
  split at h
  · rw [forceL_eq] at h; exact h
  · have : v.cells = #[v] := by cases v <;> first | rfl | (exfalso; simp_all)
    rw [this]; exact h
def vEv (ts : TS) (x : Operand) (k : Value → Prop) : Prop := match evT ts x with
  | some v => k v
  | none => VBad x
theorem vEv_spec {ts : TS} {x : Operand} {k : Value → Prop} (h : vEv ts x k) : ∃ v, evT ts x = some v ∧ k v := by
  unfold vEv at h
  split at h
  · exact ⟨_, ‹_›, h⟩
  · cases h
def vEvL (ts : TS) : List Operand → (List Value → Prop) → Prop
  | [], k => k []
  | x :: xs, k => vEv ts x fun v => vEvL ts xs fun r => k (v :: r)
theorem vEvL_spec {ts : TS} : ∀ {xs : List Operand} {k : List Value → Prop}, vEvL ts xs k → ∃ vs, EvL ts xs vs ∧ k vs
  | [], _, h => ⟨[], .nil, h⟩
  | x :: xs, k, h => by
    obtain ⟨v, h1, h2⟩ := vEv_spec h
    obtain ⟨vs, h3, h4⟩ := vEvL_spec h2
    exact ⟨v :: vs, .cons h1 h3, h4⟩
def vPtL (ts : TS) : List (Nat × Operand) → (List (Nat × Value) → Prop) → Prop
  | [], k => k []
  | (i, x) :: xs, k => vEv ts x fun v => vPtL ts xs fun r => k ((i, v) :: r)
theorem vPtL_spec {ts : TS} : ∀ {xs : List (Nat × Operand)} {k : List (Nat × Value) → Prop}, vPtL ts xs k → ∃ vs, PtL ts xs vs ∧ k vs
  | [], _, h => ⟨[], .nil, h⟩
  | (i, x) :: xs, k, h => by
    obtain ⟨v, h1, h2⟩ := vEv_spec h
    obtain ⟨vs, h3, h4⟩ := vPtL_spec h2
    exact ⟨(i, v) :: vs, .cons h1 h3, h4⟩
def vPtS (ts : TS) (sz : Nat) : Nat → List (Nat × Operand) → (List Value → Prop) → Prop
  | _, [], k => k []
  | j, (i, x) :: xs, k => match Nat.beq i j with
    | true => vEv ts x fun v => cellsK v fun cs => match Nat.beq cs.length sz with
      | true => vPtS ts sz (j + 1) xs fun r => k (v :: r)
      | false => VBad x
    | false => VBad x
theorem vPtS_spec {ts : TS} {sz : Nat} : ∀ {xs : List (Nat × Operand)} {j : Nat} {k : List Value → Prop}, vPtS ts sz j xs k → ∃ vs, PtS ts sz j xs vs ∧ k vs
  | [], _, _, h => ⟨[], .nil, h⟩
  | (i, x) :: xs, j, k, h => by
    simp only [vPtS] at h
    split at h
    · rename_i hij
      obtain rfl := Nat.eq_of_beq_eq_true hij
      obtain ⟨v, h1, h2⟩ := vEv_spec h
      have h3 := cellsK_spec h2
      split at h3
      · rename_i hl
        have hl := Nat.eq_of_beq_eq_true hl
        obtain ⟨vs, h4, h5⟩ := vPtS_spec h3
        exact ⟨v :: vs, .cons h1 (by simpa using hl) h4, h5⟩
      · cases h3
    · cases h
/-! ### guards -/
inductive GV where
  | yes
  | no
  | on (b want : Bool)
  | bad
def gv (ops : List Oper) (ts : TS) (o : Oper) : GV := match o.guard with
  | none => .yes
  | some (g, want) => match nthL ops g with
    | none => .bad
    | some og => match og.dst with
      | none => .bad
      | some d => match look ts d with
        | some (.bool b) => .on b want
        | some _ => .no
        | none => .bad
theorem gv_no {ops : List Oper} {ts : TS} {o : Oper} (h : gv ops ts o = .no) {w0 w : World} {n : Nat} {ds : List Deferred} {A : List Chunk} {a : Act} (hh : Hd w0 n ds ts A a w) : Region.wanted o (yielded ops.toArray a.tmps) = false := by
  unfold gv at h
  unfold Region.wanted
  split at h <;> rename_i hg
  · cases h
  · rw [hg]
    simp only [nthL_eq] at h
    split at h <;> rename_i hn
    · cases h
    · split at h <;> rename_i hd
      · cases h
      · split at h <;> rename_i hl
        · cases h
        · have h1 := hh.slots _ _ hl
          rename_i v hv
          cases v <;> first | (exact absurd rfl (hl _)) | simp_all [yielded]
        · cases h
theorem gv_yes {ops : List Oper} {ts : TS} {o : Oper} (h : gv ops ts o = .yes) : wantB ops ts o = some true := by
  unfold gv at h
  unfold wantB
  split at h <;> rename_i hg
  · rw [hg]
  · split at h
    · cases h
    · split at h
      · cases h
      · split at h <;> cases h
theorem gv_on {ops : List Oper} {ts : TS} {o : Oper} {b want : Bool} (h : gv ops ts o = .on b want) : wantB ops ts o = some (b == want) := by
  unfold gv at h
  unfold wantB
  split at h <;> rename_i hg
  · cases h
  · rw [hg]
    simp only [nthL_eq] at h
    split at h <;> rename_i hn
    · cases h
    · simp only [hn]
      split at h <;> rename_i hd
      · cases h
      · simp only [hd]
        split at h <;> rename_i hl
        · cases h; simp only [hl]
        · cases h
        · cases h
/-! ### numbers -/
def kq : IntKind → Nat
  | .i8 => 0
  | .i16 => 1
  | .i32 => 2
  | .i64 => 3
  | .u8 => 4
  | .u16 => 5
  | .u32 => 6
  | .u64 => 7
theorem kq_inj {a b : IntKind} (h : Nat.beq (kq a) (kq b) = true) : a = b := by cases a <;> cases b <;> first | rfl | cases h
/-- Two numbers of one kind. -/
def vInt (op : BinOp) (k : IntKind) (p q : Int) (stop : Prop) (R : Value → Prop) : Prop := match op with
  | .add => match k with
    | .i64 => VRng (-9223372036854775808) 9223372036854775807 (p + q) (R (.int .i64 (p + q)))
    | _ => VStop stop
  | .sub => match k with
    | .i64 => VRng (-9223372036854775808) 9223372036854775807 (p - q) (R (.int .i64 (p - q)))
    | _ => VStop stop
  | .mul => match k with
    | .i64 => VRng (-9223372036854775808) 9223372036854775807 (p * q) (R (.int .i64 (p * q)))
    | _ => VStop stop
  | .quo => match k with
    | .i64 => VNz q (VRng (-9223372036854775808) 9223372036854775807 (p.tdiv q) (R (.int .i64 (p.tdiv q))))
    | _ => VStop stop
  | .rem => VNz q (R (.int k (p.tmod q)))
  | .lss => VDec (p < q) fun b => R (.bool b)
  | .leq => VDec (p ≤ q) fun b => R (.bool b)
  | .gtr => VDec (q < p) fun b => R (.bool b)
  | .geq => VDec (q ≤ p) fun b => R (.bool b)
  | .eql => VDec (p = q) fun b => R (.bool b)
  | .neq => VDec (p ≠ q) fun b => R (.bool b)
  | _ => VStop stop
def vBin (P : Program) (op : BinOp) (t : TypeId) (x y : Value) (stop : Prop) (R : Value → Prop) : Prop := match x with
  | .int k p => match y with
    | .int k' q => match Nat.beq (kq k) (kq k') with
      | true => vInt op k p q stop R
      | false => VStop stop
    | _ => VStop stop
  | .agg B => match y with
    | .agg C => match op with
      | .eql => VEq P t B C fun b => R (.bool b)
      | .neq => VEq P t B C fun b => R (.bool (!b))
      | _ => VStop stop
    | _ => VStop stop
  | _ => VStop stop
/-! ### operations -/
/-- The address that a value is. -/
def vPtr (v : Value) (stop : Prop) (k : Nat → Nat → Prop) : Prop := match v with
  | .pointer (some ⟨b, off, none⟩) => k b off
  | _ => VStop stop
def vTI (tab : TT) (t : TypeId) (stop : Prop) (k : TD → Nat → List Value → Prop) : Prop := match lookI tab t with
  | some ⟨d, sz, _, z⟩ => k d sz z
  | none => VStop stop
def rowD : TD → Bool
  | .st _ => true
  | .ar _ _ => true
  | _ => false
def notRd : Kind → Bool
  | .rd => false
  | _ => true
def isWr : Kind → Bool
  | .wr => true
  | _ => false
/-- An operation that hands on a value. -/
def vOp (P : Program) (tab : TT) (w0 : World) (op : Op) (k : Kind) (ts : TS) (A : List Chunk) (stop : Prop) (R : Value → List Chunk → Prop) : Prop := match op with
  | .move x => vEv ts x fun v => R v A
  | .assign x => vEv ts x fun v => R v A
  | .pick c x y => vEv ts c fun v => match v with
    | .bool b => VBr b (vEv ts x fun v => R v A) (vEv ts y fun v => R v A)
    | _ => VStop stop
  | .alloc t => match notRd k with
    | true => vTI tab t stop fun _ _ z => VNew w0.heap.size fun g => R (.pointer (some ⟨g, 0, none⟩)) (.blk g t z :: A)
    | false => VStop stop
  | .box t x => match notRd k with
    | true => vEv ts x fun v => cellsK v fun cs => VNew w0.heap.size fun g => R (.pointer (some ⟨g, 0, none⟩)) (.blk g t cs :: A)
    | false => VStop stop
  | .load t x => vEv ts x fun v => vPtr v stop fun b off => vTI tab t stop fun d sz _ => match rowD d with
    | true => VLdN w0 A b off sz fun v => R v A
    | false => VLd w0 A b off fun v => R v A
  | .fieldAddr t x f => vEv ts x fun v => vPtr v stop fun b off => vTI tab t stop fun d _ _ => match d with
    | .st l => match nthL l f with
      | some (fo, _) => R (.pointer (some ⟨b, off + fo, none⟩)) A
      | none => VStop stop
    | _ => VStop stop
  | .field t x f => vEv ts x fun v => match v with
    | .agg cs => vTI tab t stop fun d _ _ => match d with
      | .st l => match nthL l f with
        | some (fo, ft) => vTI tab ft stop fun d' sz _ => match rowD d' with
          | true => forceL ((cs.toList.drop fo).take sz) fun r => R (.agg r.toArray) A
          | false => match nthL cs.toList fo with
            | some v => R v A
            | none => VStop stop
        | none => VStop stop
      | _ => VStop stop
    | _ => VStop stop
  | .indexAddr t x y => vEv ts x fun v => vEv ts y fun u => match u with
    | .int _ p => match v with
      | .slice (some ⟨b, off, none⟩) len _ => vTI tab t stop fun d _ _ => match d with
        | .sl e => vTI tab e stop fun _ sz _ => VIx p len fun j => R (.pointer (some ⟨b, off + j * sz, none⟩)) A
        | _ => VStop stop
      | .pointer (some ⟨b, off, none⟩) => vTI tab t stop fun d _ _ => match d with
        | .ar m e => vTI tab e stop fun _ sz _ => VIx p m fun j => R (.pointer (some ⟨b, off + j * sz, none⟩)) A
        | _ => VStop stop
      | _ => VStop stop
    | _ => VStop stop
  | .extract x i => vEv ts x fun v => match v with
    | .tuple vs => match nthL vs.toList i with
      | some v => R v A
      | none => VStop stop
    | _ => VStop stop
  | .nilCheck x => vEv ts x fun v => match v with
    | .pointer (some a) => R (.pointer (some a)) A
    | _ => VStop stop
  | .binOp op t x y _ => vEv ts x fun v => vEv ts y fun u => vBin P op t v u stop fun r => R r A
  | .unOp .neg _ x => vEv ts x fun v => match v with
    | .int .i64 p => VRng (-9223372036854775807) 9223372036854775807 p (R (.int .i64 (-p)) A)
    | _ => VStop stop
  | .unOp .not _ x => vEv ts x fun v => match v with
    | .bool b => R (.bool (!b)) A
    | _ => VStop stop
  | .convert t u x => vEv ts x fun v => match v with
    | .int _ p => vTI tab t stop fun _ _ _ => vTI tab u stop fun d _ _ => match d with
      | .int k => VWr k p fun q => R (.int k q) A
      | _ => VStop stop
    | _ => VStop stop
  | .makeFunc fn xs ys => vEvL ts xs.toList fun us => vEvL ts ys.toList fun vs => R (.func fn us.toArray vs.toArray) A
  | .build t parts => vTI tab t stop fun d _ z => match d with
    | .st l => vPtL ts parts.toList fun pv => match fillL (fun j => match nthL l j with
        | none => none
        | some p => match lookI tab p.2 with
          | none => none
          | some q => some (p.1, q.size)) z pv with
      | some cs => forceL cs fun cs => R (.agg cs.toArray) A
      | none => VStop stop
    | _ => VStop stop
  | .buildSlice t m parts => match notRd k with
    | true => vTI tab t stop fun d _ _ => match d with
      | .sl e => vTI tab e stop fun _ sz _ => vPtS ts sz 0 parts.toList fun vs => match Nat.beq vs.length m && Nat.ble (m * sz) 16777216 with
        | true => forceL (catC vs) fun cs => VNew w0.heap.size fun g => R (.slice (some ⟨g, 0, none⟩) m m) (.blk g e cs :: A)
        | false => VStop stop
      | _ => VStop stop
    | false => VStop stop
  | .call ⟨.builtin .len, ⟨[x]⟩, ⟨[t]⟩⟩ => vEv ts x fun v => match v with
    | .slice _ len _ => vTI tab t stop fun d _ _ => match d with
      | .sl _ => R (.int .i64 (len : Int)) A
      | _ => VStop stop
    | _ => VStop stop
  | .call ⟨.builtin .max, ⟨[x, y]⟩, _⟩ => vEv ts x fun v => vEv ts y fun u => match v with
    | .int k p => match u with
      | .int k' q => match Nat.beq (kq k) (kq k') with
        | true => R (.int k (if q > p then q else p)) A
        | false => VStop stop
      | _ => VStop stop
    | _ => VStop stop
  | .call ⟨.builtin .min, ⟨[x, y]⟩, _⟩ => vEv ts x fun v => vEv ts y fun u => match v with
    | .int k p => match u with
      | .int k' q => match Nat.beq (kq k) (kq k') with
        | true => R (.int k (if q < p then q else p)) A
        | false => VStop stop
      | _ => VStop stop
    | _ => VStop stop
  | .call ⟨.value x, xs, _⟩ => vEv ts x fun v => match v with
    | .func (.func f) us vs => vEvL ts xs.toList fun av => forceL (us.toList ++ av ++ vs.toList) fun av => VCall P w0 A f av stop R
    | _ => VStop stop
  | _ => VStop stop
/-- One that hands on none. -/
def vOp0 (tab : TT) (op : Op) (k : Kind) (ts : TS) (A : List Chunk) (stop : Prop) (R : List Chunk → Prop) : Prop := match op with
  | .store t x y => match isWr k with
    | true => vEv ts x fun v => vPtr v stop fun g off => vEv ts y fun v => vTI tab t stop fun _ sz _ => cellsK v fun vs => match Nat.beq vs.length sz && vs.all Value.oneCell' with
      | true => VSt g off vs A stop R
      | false => VStop stop
    | false => VStop stop
  | _ => VStop stop
def vStep (P : Program) (tab : TT) (w0 : World) (o : Oper) (k : Kind) (ts : TS) (A : List Chunk) (stop : Prop) (R : TS → List Chunk → Prop) : Prop := match o.dst with
  | some d => vOp P tab w0 o.op k ts A stop fun v A => R ((d, v) :: ts) A
  | none => vOp0 tab o.op k ts A stop fun A => R ts A
def vSkip (o : Oper) (ts : TS) (R : TS → Prop) : Prop := match o.dst with
  | some d => R ((d, undef) :: ts)
  | none => R ts
def vO (P : Program) (tab : TT) (w0 : World) (n : Nat) (ds : List Deferred) (ops : List Oper) : List Oper → List Kind → TS → List Chunk → (TS → List Chunk → Prop) → Prop
  | [], _, ts, A, K => K ts A
  | o :: os, ks, ts, A, K => match gv ops ts o with
    | .yes => vStep P tab w0 o (ks.headD .wr) ts A (OT P w0 n ds ops (o :: os) ks ts A K) fun ts A => vO P tab w0 n ds ops os ks.tail ts A K
    | .on b true => VBr b (vStep P tab w0 o (ks.headD .wr) ts A (OT P w0 n ds ops (o :: os) ks ts A K) fun ts A => vO P tab w0 n ds ops os ks.tail ts A K) (vSkip o ts fun ts => vO P tab w0 n ds ops os ks.tail ts A K)
    | .on b false => VBr b (vSkip o ts fun ts => vO P tab w0 n ds ops os ks.tail ts A K) (vStep P tab w0 o (ks.headD .wr) ts A (OT P w0 n ds ops (o :: os) ks ts A K) fun ts A => vO P tab w0 n ds ops os ks.tail ts A K)
    | .no => vSkip o ts fun ts => vO P tab w0 n ds ops os ks.tail ts A K
    | .bad => VStop (OT P w0 n ds ops (o :: os) ks ts A K)
/-! ### it is right -/
section
variable {P : Program} {tab : TT} {w0 : World} {n : Nat} {ds : List Deferred} {ops : List Oper} {o : Oper} {os : List Oper} {ks : List Kind} {ts : TS} {A : List Chunk} {K : TS → List Chunk → Prop} {d : Tmp}
theorem VStop.out {X : Prop} (h : VStop X) : X := by cases h; assumption
theorem vPtr_spec {v : Value} {stop : Prop} {k : Nat → Nat → Prop} (h : vPtr v stop k) : stop ∨ ∃ b off, v = .pointer (some ⟨b, off, none⟩) ∧ k b off := by
  unfold vPtr at h
  split at h
  · exact .inr ⟨_, _, rfl, h⟩
  · exact .inl h.out
theorem vTI_spec {t : TypeId} {stop : Prop} {k : TD → Nat → List Value → Prop} (h : vTI tab t stop k) : stop ∨ ∃ i, lookI tab t = some i ∧ k i.d i.size i.zero := by
  unfold vTI at h
  split at h
  · exact .inr ⟨_, ‹_›, h⟩
  · exact .inl h.out
theorem rowD_eq (d : TD) : rowD d = d.isRow := by cases d <;> rfl
theorem notRd_spec {k : Kind} (h : notRd k = true) : k ≠ .rd := by cases k <;> simp_all [notRd]
theorem isWr_spec {k : Kind} (h : isWr k = true) : k = .wr := by cases k <;> simp_all [isWr]
theorem vInt_sound {op : BinOp} {t u : TypeId} {x y : Operand} {k : IntKind} {p q : Int} {R : Value → Prop} (hop : o.op = .binOp op t x y u) (hd : o.dst = some d) (hw : wantB ops ts o = some true) (hx : evT ts x = some (.int k p)) (hy : evT ts y = some (.int k q))
    (hR : ∀ v, R v → OT P w0 n ds ops os ks.tail ((d, v) :: ts) A K) (h : vInt op k p q (OT P w0 n ds ops (o :: os) ks ts A K) R) : OT P w0 n ds ops (o :: os) ks ts A K := by
  cases op <;> simp only [vInt] at h
  case add => cases k <;> first | exact h.out | (obtain ⟨h1, h2⟩ := h; exact ot_add hop hd hw hx hy h1 (hR _ h2))
  case sub => cases k <;> first | exact h.out | (obtain ⟨h1, h2⟩ := h; exact ot_sub hop hd hw hx hy h1 (hR _ h2))
  case mul => cases k <;> first | exact h.out | (obtain ⟨h1, h2⟩ := h; exact ot_mul hop hd hw hx hy h1 (hR _ h2))
  case quo => cases k <;> first | exact h.out | (obtain ⟨h0, h1, h2⟩ := h; exact ot_quo hop hd hw hx hy h0 h1 (hR _ h2))
  case rem => obtain ⟨h0, h2⟩ := h; exact ot_rem hop hd hw hx hy h0 (hR _ h2)
  case lss => obtain ⟨b, h0, h2⟩ := h; exact ot_lss hop hd hw hx hy b h0 (hR _ h2)
  case leq => obtain ⟨b, h0, h2⟩ := h; exact ot_leq hop hd hw hx hy b h0 (hR _ h2)
  case gtr => obtain ⟨b, h0, h2⟩ := h; exact ot_gtr hop hd hw hx hy b h0 (hR _ h2)
  case geq => obtain ⟨b, h0, h2⟩ := h; exact ot_geq hop hd hw hx hy b h0 (hR _ h2)
  case eql => obtain ⟨b, h0, h2⟩ := h; exact ot_eql hop hd hw hx hy b h0 (hR _ h2)
  case neq => obtain ⟨b, h0, h2⟩ := h; exact ot_neq hop hd hw hx hy b h0 (hR _ h2)
  all_goals exact h.out
theorem vBin_sound {op : BinOp} {t u : TypeId} {x y : Operand} {a b : Value} {R : Value → Prop} (hop : o.op = .binOp op t x y u) (hd : o.dst = some d) (hw : wantB ops ts o = some true) (hx : evT ts x = some a) (hy : evT ts y = some b)
    (hR : ∀ v, R v → OT P w0 n ds ops os ks.tail ((d, v) :: ts) A K) (h : vBin P op t a b (OT P w0 n ds ops (o :: os) ks ts A K) R) : OT P w0 n ds ops (o :: os) ks ts A K := by
  unfold vBin at h
  split at h
  · split at h
    · split at h
      · rename_i hk
        obtain rfl := kq_inj hk
        exact vInt_sound hop hd hw hx hy hR h
      · exact h.out
    · exact h.out
  · split at h
    · split at h
      · obtain ⟨b, h1, h2, h3⟩ := h; exact ot_eqls b hop hd hw hx hy h1 h2 (hR _ h3)
      · obtain ⟨b, h1, h2, h3⟩ := h; exact ot_neqs b hop hd hw hx hy h1 h2 (hR _ h3)
      · exact h.out
    · exact h.out
  · exact h.out
set_option maxHeartbeats 1000000 in
theorem vOp_sound {R : Value → List Chunk → Prop} (hT : TabOk P tab) (hd : o.dst = some d) (hw : wantB ops ts o = some true) (hR : ∀ v A, R v A → OT P w0 n ds ops os ks.tail ((d, v) :: ts) A K)
    (h : vOp P tab w0 o.op (ks.headD .wr) ts A (OT P w0 n ds ops (o :: os) ks ts A K) R) : OT P w0 n ds ops (o :: os) ks ts A K := by
  unfold vOp at h
  split at h <;> rename_i hop
  · -- move
    obtain ⟨v, h1, h2⟩ := vEv_spec h
    exact ot_move hop hd hw h1 (hR _ _ h2)
  · obtain ⟨v, h1, h2⟩ := vEv_spec h
    exact ot_assign hop hd hw h1 (hR _ _ h2)
  · -- pick
    obtain ⟨v, h1, h2⟩ := vEv_spec h
    split at h2
    · rename_i b
      obtain ⟨h3, h4⟩ := h2.spec
      cases b
      · obtain ⟨v, h5, h6⟩ := vEv_spec (h4 rfl); exact ot_pick_f hop hd hw h1 h5 (hR _ _ h6)
      · obtain ⟨v, h5, h6⟩ := vEv_spec (h3 rfl); exact ot_pick_t hop hd hw h1 h5 (hR _ _ h6)
    · exact h2.out
  · -- alloc
    split at h
    · rename_i hk
      rcases vTI_spec h with h | ⟨i, h1, h2⟩
      · exact h
      · obtain ⟨h3⟩ := h2
        exact ot_alloc hT (notRd_spec hk) hop hd hw h1 fun g hg => hR _ _ (h3 g hg)
    · exact h.out
  · -- box
    split at h
    · rename_i hk
      obtain ⟨v, h1, h2⟩ := vEv_spec h
      obtain ⟨h3⟩ := cellsK_spec h2
      exact ot_box (notRd_spec hk) hop hd hw h1 rfl fun g hg => hR _ _ (h3 g hg)
    · exact h.out
  · -- load
    obtain ⟨v, h1, h2⟩ := vEv_spec h
    rcases vPtr_spec h2 with h | ⟨b, off, rfl, h3⟩
    · exact h
    rcases vTI_spec h3 with h | ⟨i, h4, h5⟩
    · exact h
    rw [rowD_eq] at h5
    split at h5
    · rename_i hr
      cases h5 with
      | mk cs h6 h7 h8 => exact ot_loadN hT hop hd hw h1 h4 hr h6 h7 (hR _ _ h8)
      | sub cs h6 h7 h8 =>
        rw [forceL_eq] at h8
        have h7 := Nat.le_of_ble_eq_true h7
        refine ot_loadN (cs := (cs.drop off).take i.size) hT hop hd hw h1 h4 hr (fun w hs j u hu => ?_) (by simp; omega) (hR _ _ h8)
        have h9 := h6 w hs (off + j) u
        rw [Nat.zero_add] at h9
        refine h9 ?_
        rw [List.getElem?_take] at hu
        split at hu
        · rw [List.getElem?_drop] at hu; exact hu
        · cases hu
    · rename_i hr
      obtain ⟨v, h6, h7⟩ := h5
      exact ot_load hT hop hd hw h1 h4 hr h6 (hR _ _ h7)
  · -- fieldAddr
    obtain ⟨v, h1, h2⟩ := vEv_spec h
    rcases vPtr_spec h2 with h | ⟨b, off, rfl, h3⟩
    · exact h
    rcases vTI_spec h3 with h | ⟨i, h4, h5⟩
    · exact h
    split at h5
    · rename_i hi
      split at h5
      · rename_i hf
        rw [nthL_eq] at hf
        exact ot_fieldAddr hT hop hd hw h1 h4 hi hf (hR _ _ h5)
      · exact h5.out
    · exact h5.out
  · -- field
    obtain ⟨v, h1, h2⟩ := vEv_spec h
    split at h2
    · rcases vTI_spec h2 with h | ⟨i, h4, h5⟩
      · exact h
      split at h5
      · rename_i hi
        split at h5
        · rename_i hf
          rw [nthL_eq] at hf
          rcases vTI_spec h5 with h | ⟨i', h6, h7⟩
          · exact h
          rw [rowD_eq] at h7
          split at h7
          · rename_i hr
            rw [forceL_eq] at h7
            exact ot_field hT hop hd hw h1 h4 hi hf h6 (by rw [hr]) (hR _ _ h7)
          · rename_i hr
            split at h7
            · rename_i hv
              rw [nthL_eq] at hv
              exact ot_field hT hop hd hw h1 h4 hi hf h6 (by rw [hr]; exact hv) (hR _ _ h7)
            · exact h7.out
        · exact h5.out
      · exact h5.out
    · exact h2.out
  · -- indexAddr
    obtain ⟨v, h1, h2⟩ := vEv_spec h
    obtain ⟨u, h3, h4⟩ := vEv_spec h2
    split at h4
    · split at h4
      · rcases vTI_spec h4 with h | ⟨i, h5, h6⟩
        · exact h
        split at h6
        · rename_i hi
          rcases vTI_spec h6 with h | ⟨i', h7, h8⟩
          · exact h
          obtain ⟨j, h9, h10, h11⟩ := h8
          exact ot_indexAddr hT hop hd hw h1 h3 h5 hi h7 h9 h10 (hR _ _ h11)
        · exact h6.out
      · rcases vTI_spec h4 with h | ⟨i, h5, h6⟩
        · exact h
        split at h6
        · rename_i hi
          rcases vTI_spec h6 with h | ⟨i', h7, h8⟩
          · exact h
          obtain ⟨j, h9, h10, h11⟩ := h8
          exact ot_indexAddr_ar hT hop hd hw h1 h3 h5 hi h7 h9 h10 (hR _ _ h11)
        · exact h6.out
      · exact h4.out
    · exact h4.out
  · -- extract
    obtain ⟨v, h1, h2⟩ := vEv_spec h
    split at h2
    · split at h2
      · rename_i hv
        rw [nthL_eq] at hv
        exact ot_extract hop hd hw h1 hv (hR _ _ h2)
      · exact h2.out
    · exact h2.out
  · -- nilCheck
    obtain ⟨v, h1, h2⟩ := vEv_spec h
    split at h2
    · exact ot_nilCheck hop hd hw h1 (hR _ _ h2)
    · exact h2.out
  · -- binOp
    obtain ⟨v, h1, h2⟩ := vEv_spec h
    obtain ⟨u, h3, h4⟩ := vEv_spec h2
    exact vBin_sound hop hd hw h1 h3 (fun v => hR v A) h4
  · -- neg
    obtain ⟨v, h1, h2⟩ := vEv_spec h
    split at h2
    · obtain ⟨h3, h4⟩ := h2; exact ot_neg hop hd hw h1 h3 (hR _ _ h4)
    · exact h2.out
  · -- not
    obtain ⟨v, h1, h2⟩ := vEv_spec h
    split at h2
    · exact ot_not hop hd hw h1 (hR _ _ h2)
    · exact h2.out
  · -- convert
    obtain ⟨v, h1, h2⟩ := vEv_spec h
    split at h2
    · rcases vTI_spec h2 with h | ⟨i, h4, h5⟩
      · exact h
      rcases vTI_spec h5 with h | ⟨j, h6, h7⟩
      · exact h
      split at h7
      · rename_i hj
        obtain ⟨q, h8, h9⟩ := h7
        exact ot_convert hT hop hd hw h1 h4 h6 hj h8 (hR _ _ h9)
      · exact h7.out
    · exact h2.out
  · -- makeFunc
    obtain ⟨us, h1, h2⟩ := vEvL_spec h
    obtain ⟨vs, h3, h4⟩ := vEvL_spec h2
    exact ot_makeFunc hop hd hw h1 h3 (hR _ _ h4)
  · -- build
    rcases vTI_spec h with h | ⟨i, h4, h5⟩
    · exact h
    split at h5
    · rename_i hi
      obtain ⟨pv, h6, h7⟩ := vPtL_spec h5
      split at h7
      · rename_i hf
        rw [forceL_eq] at h7
        simp only [nthL_eq] at hf
        exact ot_build hT hop hd hw h4 hi h6 hf (hR _ _ h7)
      · exact h7.out
    · exact h5.out
  · -- buildSlice
    split at h
    · rename_i hk
      rcases vTI_spec h with h | ⟨i, h4, h5⟩
      · exact h
      split at h5
      · rename_i hi
        rcases vTI_spec h5 with h | ⟨i', h6, h7⟩
        · exact h
        obtain ⟨vs, h8, h9⟩ := vPtS_spec h7
        split at h9
        · rename_i hm
          simp only [Bool.and_eq_true] at hm
          rw [forceL_eq] at h9
          obtain ⟨h10⟩ := h9
          exact ot_buildSlice hT (notRd_spec hk) hop hd hw h4 hi h6 h8 (Nat.eq_of_beq_eq_true hm.1) (Nat.le_of_ble_eq_true hm.2) fun g hg => hR _ _ (h10 g hg)
        · exact h9.out
      · exact h5.out
    · exact h.out
  · -- len
    obtain ⟨v, h1, h2⟩ := vEv_spec h
    split at h2
    · rcases vTI_spec h2 with h | ⟨i, h4, h5⟩
      · exact h
      split at h5
      · rename_i hi
        exact ot_len hT hop hd hw h1 h4 hi (hR _ _ h5)
      · exact h5.out
    · exact h2.out
  · -- max
    obtain ⟨v, h1, h2⟩ := vEv_spec h
    obtain ⟨u, h3, h4⟩ := vEv_spec h2
    split at h4
    · split at h4
      · split at h4
        · rename_i hk
          obtain rfl := kq_inj hk
          exact ot_max hop hd hw h1 h3 (hR _ _ h4)
        · exact h4.out
      · exact h4.out
    · exact h4.out
  · -- min
    obtain ⟨v, h1, h2⟩ := vEv_spec h
    obtain ⟨u, h3, h4⟩ := vEv_spec h2
    split at h4
    · split at h4
      · split at h4
        · rename_i hk
          obtain rfl := kq_inj hk
          exact ot_min hop hd hw h1 h3 (hR _ _ h4)
        · exact h4.out
      · exact h4.out
    · exact h4.out
  · -- call
    obtain ⟨v, h1, h2⟩ := vEv_spec h
    split at h2
    · obtain ⟨av, h3, h4⟩ := vEvL_spec h2
      rw [forceL_eq] at h4
      cases h4 with
      | q v hb hc x => exact ot_callv_q hop hd hw h1 hb h3 hc (hR _ _ x)
      | stop x => exact x
    · exact h2.out
  · exact h.out
theorem vOp0_sound {R : List Chunk → Prop} (hT : TabOk P tab) (hd : o.dst = none) (hw : wantB ops ts o = some true) (hR : ∀ A, R A → OT P w0 n ds ops os ks.tail ts A K)
    (h : vOp0 tab o.op (ks.headD .wr) ts A (OT P w0 n ds ops (o :: os) ks ts A K) R) : OT P w0 n ds ops (o :: os) ks ts A K := by
  unfold vOp0 at h
  split at h <;> rename_i hop
  · split at h
    · rename_i hk
      obtain ⟨v, h1, h2⟩ := vEv_spec h
      rcases vPtr_spec h2 with h | ⟨b, off, rfl, h3⟩
      · exact h
      obtain ⟨u, h4, h5⟩ := vEv_spec h3
      rcases vTI_spec h5 with h | ⟨i, h6, h7⟩
      · exact h
      have h8 := cellsK_spec h7
      split at h8
      · rename_i hm
        simp only [Bool.and_eq_true] at hm
        cases h8 with
        | mk bt cs p ha hlen x =>
          rw [forceL_eq] at x
          obtain ⟨A', hu, x⟩ := setC_spec ha x
          exact ot_storeN hT (isWr_spec hk) hop hd hw h1 h4 h6 rfl (Nat.eq_of_beq_eq_true hm.1) hm.2 hu hlen rfl (hR _ x)
        | old bt cs cs' A' hu hlen hcs x => exact ot_storeN hT (isWr_spec hk) hop hd hw h1 h4 h6 rfl (Nat.eq_of_beq_eq_true hm.1) hm.2 hu hlen hcs (hR _ x)
        | stop x => exact x
      · exact h8.out
    · exact h.out
  · exact h.out
theorem ot_v (hT : TabOk P tab) : ∀ {os : List Oper} {ks : List Kind} {ts : TS} {A : List Chunk}, vO P tab w0 n ds ops os ks ts A K → OT P w0 n ds ops os ks ts A K := by
  intro os
  induction os with
  | nil => exact fun h => h
  | cons o os ih =>
    intro ks ts A h
    have step : ∀ (hw : wantB ops ts o = some true), vStep P tab w0 o (ks.headD .wr) ts A (OT P w0 n ds ops (o :: os) ks ts A K) (fun ts A => vO P tab w0 n ds ops os ks.tail ts A K) → OT P w0 n ds ops (o :: os) ks ts A K := fun hw h => by
      unfold vStep at h
      split at h
      · exact vOp_sound hT ‹_› hw (fun v A h => ih h) h
      · exact vOp0_sound hT ‹_› hw (fun A h => ih h) h
    have skip : ∀ (hw : wantB ops ts o = some false), vSkip o ts (fun ts => vO P tab w0 n ds ops os ks.tail ts A K) → OT P w0 n ds ops (o :: os) ks ts A K := fun hw h => by
      unfold vSkip at h
      split at h
      · exact ot_skip ‹_› hw (ih h)
      · exact ot_skip_none ‹_› hw (ih h)
    simp only [vO] at h
    split at h
    · exact step (gv_yes ‹_›) h
    · rename_i b hg
      have hw := gv_on hg
      obtain ⟨h1, h2⟩ := h.spec
      cases b
      · exact skip (by rw [hw]; rfl) (h2 rfl)
      · exact step (by rw [hw]; rfl) (h1 rfl)
    · rename_i b hg
      have hw := gv_on hg
      obtain ⟨h1, h2⟩ := h.spec
      cases b
      · exact step (by rw [hw]; rfl) (h2 rfl)
      · exact skip (by rw [hw]; rfl) (h1 rfl)
    · rename_i hg
      unfold vSkip at h
      split at h <;> rename_i hd
      · refine ot_rd (v := undef) (fun a w hh => ?_) (by rw [hd]; exact ih h)
        unfold wpV
        rw [if_neg (by rw [gv_no hg hh]; simp)]
        exact ⟨rfl, Below.refl _ _⟩
      · refine ot_rd (v := undef) (fun a w hh => ?_) (by rw [hd]; exact ih h)
        unfold wpV
        rw [if_neg (by rw [gv_no hg hh]; simp)]
        exact ⟨rfl, Below.refl _ _⟩
    · exact h.out
end
/-! ### code -/
def vC (P : Program) (tab : TT) (r : Option Nat) (w0 : World) (n : Nat) : Code → List Deferred → TS → List Chunk → PostT → Prop
  | .skip, ds, ts, A, Q => Q .normal ds ts A
  | .label _, ds, ts, A, Q => Q .normal ds ts A
  | .exit i, ds, ts, A, Q => Q (.exit i) ds ts A
  | .goto i, ds, ts, A, Q => Q (.goto i) ds ts A
  | .ret, ds, ts, A, Q => Q .ret ds ts A
  | .seq x y, ds, ts, A, Q => vC P tab r w0 n x ds ts A (thenQ (fun ds ts A => vC P tab r w0 n y ds ts A Q) Q)
  | .block i c, ds, ts, A, Q => vC P tab r w0 n c ds ts A (blockQ i Q)
  | .scope c, ds, ts, A, Q => vC P tab r w0 n c ds ts A (scopeQ Q)
  | .cond c x y, ds, ts, A, Q => match evT ts c with
    | some (.bool b) => VBr b (vC P tab r w0 n x ds ts A Q) (vC P tab r w0 n y ds ts A Q)
    | _ => VStop (Tr P r w0 n (.cond c x y) ds ts A Q)
  | .region id ops false, ds, ts, A, Q => match dstOk n ops.toList with
    | true => vO P tab w0 n ds ops.toList ops.toList [] ts A fun ts A => Q .normal ds ts A
    | false => VStop (Tr P r w0 n (.region id ops false) ds ts A Q)
  | c, ds, ts, A, Q => VStop (Tr P r w0 n c ds ts A Q)
section
variable {P : Program} {tab : TT} {r : Option Nat} {w0 : World} {n : Nat}
theorem tr_v (hT : TabOk P tab) : ∀ {c : Code} {ds : List Deferred} {ts : TS} {A : List Chunk} {Q : PostT}, vC P tab r w0 n c ds ts A Q → Tr P r w0 n c ds ts A Q := by
  intro c
  induction c with
  | skip => exact fun h => tr_skip h
  | label _ => exact fun h => tr_label h
  | exit _ => exact fun h => tr_exit h
  | goto _ => exact fun h => tr_goto h
  | ret => exact fun h => tr_ret h
  | seq x y ihx ihy =>
    intro ds ts A Q h
    refine tr_seq (tr_mono (ihx h) fun e ds ts A hq => ?_)
    cases e with
    | normal => exact ihy hq
    | _ => exact hq
  | block i c ih => exact fun h => tr_block (ih h)
  | scope c ih => exact fun h => tr_scope (ih h)
  | cond c x y ihx ihy =>
    intro ds ts A Q h
    simp only [vC] at h
    split at h
    · rename_i hc
      obtain ⟨h1, h2⟩ := h.spec
      exact tr_cond hc (fun e => ihx (h1 e)) fun e => ihy (h2 e)
    · exact h.out
  | region id ops d =>
    intro ds ts A Q h
    cases d with
    | false =>
      simp only [vC] at h
      split at h
      · exact tr_region_seq ‹_› (ot_v hT h)
      · exact h.out
    | true => exact VStop.out h
  | _ => exact fun h => VStop.out h
end
/-! ## How it goes on where the computation stops -/
inductive VRet (P : Program) (w0 : World) (n : Nat) (fn : Func) (R : Ending → World → Prop) (e : Exit) (ds : List Deferred) (ts : TS) (A : List Chunk) : Prop
  | mk (h : RetOK P w0 n fn R e ds ts A)
inductive VRnd (I : Nat → List Deferred → TS → List Chunk → Prop) (g : Nat) (ds : List Deferred) (ts : TS) (A : List Chunk) : Prop
  | mk (h : Rnd I g ds ts A)
section
variable {P : Program} {tab : TT} {w0 : World} {n : Nat} {r : Option Nat} {ds : List Deferred} {ts : TS} {A : List Chunk} {Q : PostT}
theorem fn_v (hT : TabOk P tab) {f : FuncId} {fn : Func} {c : Code} {args : List Value} {w : World} {R : Ending → World → Prop} (hf : P.funcs[f]? = some fn) (hb : fn.body = some c) (hn : fn.ntmps = n) (hs : args.length ≤ n) (hst : St w0 A w)
    (h : vC P tab none w0 n c [] (argT 0 args) A (VRet P w0 n fn R)) : Calls P f args.toArray w R :=
  fn_enter hf hb hn hs hst (tr_mono (tr_v hT h) fun _ _ _ _ q => by cases q; assumption)
theorem v_loop {c : Code} (I : Nat → List Deferred → TS → List Chunk → Prop) (g0 : Nat) {l : TS} {B : List Chunk} (hl : subT l ts) (hB : B.Sublist A) (h0 : I g0 ds l B)
    (round : ∀ g ds ts A, I g ds ts A → Tr P r w0 n c ds ts A (thenQ (VRnd I g) Q)) : Tr P r w0 n (.loop c) ds ts A Q :=
  tr_loop I g0 hl hB h0 fun g ds ts A h => tr_mono (round g ds ts A h) fun e _ _ _ q => by
    cases e with
    | normal => cases q; assumption
    | _ => exact q
theorem v_rnd {I : Nat → List Deferred → TS → List Chunk → Prop} {g : Nat} (g' : Nat) {l : TS} {B : List Chunk} (h1 : g' < g) (h2 : subT l ts) (h3 : B.Sublist A) (h4 : I g' ds l B) : VRnd I g ds ts A := ⟨⟨g', l, B, h1, h2, h3, h4⟩⟩
end
section
variable {w0 : World} {A : List Chunk} {b o j : Nat} {v : Value} {t : TypeId} {c : Chunk}
theorem ld_blk {cs : List Value} (hv : cs[o]? = some v) : CellAt w0 (.blk b t cs :: A) b o v := cell_blk (.head _) hv
theorem ld_row {cs : List Value} (hv : cs[j]? = some v) : CellAt w0 (.row b o cs :: A) b (o + j) v := cell_row (.head _) hv
theorem ld_row0 {cs : List Value} (hv : cs[o]? = some v) : CellAt w0 (.row b 0 cs :: A) b o v := cell_row0 (.head _) hv
theorem ld_skip (h : CellAt w0 A b o v) : CellAt w0 (c :: A) b o v := fun w hs => h w (hs.sub (List.sublist_cons_self _ _))
theorem ldn_blk {cs : List Value} : CellsAt w0 (.blk b t cs :: A) b 0 cs := cells_blk_all (.head _)
theorem ldn_skip {cs : List Value} (h : CellsAt w0 A b o cs) : CellsAt w0 (c :: A) b o cs := fun w hs => h w (hs.sub (List.sublist_cons_self _ _))
end
section
variable {X Y : Prop} {lo hi p q : Int} {w0 : World} {A A' : List Chunk} {b o sz len g off : Nat}
theorem v_t {c : Prop} [Decidable c] {F : Bool → Prop} (h : c) (x : F true) : VDec c F := ⟨true, decide_eq_true h, x⟩
theorem v_f {c : Prop} [Decidable c] {F : Bool → Prop} (h : ¬ c) (x : F false) : VDec c F := ⟨false, decide_eq_false h, x⟩
theorem v_d {c : Prop} [Decidable c] {F : Bool → Prop} (x : F (decide c)) : VDec c F := ⟨_, rfl, x⟩
theorem v_wr64 {F : Int → Prop} (h : -9223372036854775808 ≤ p ∧ p ≤ 9223372036854775807) (x : F p) : VWr .i64 p F := ⟨p, IntWalk.i64_in p h, x⟩
theorem v_ixn {F : Nat → Prop} (hp : 0 ≤ p ∧ p.toNat < len) (x : F p.toNat) : VIx p len F := ⟨p.toNat, by omega, hp.2, x⟩
end
/-! ## append, cap, slices from their beginning -/
section
variable {P : Program} {tab : TT} {w0 : World} {n : Nat} {ds : List Deferred} {ops : List Oper} {o : Oper} {os : List Oper} {ks : List Kind} {ts : TS} {A A' : List Chunk} {K : TS → List Chunk → Prop} {d : Tmp}
variable {x y : Operand} {t u : TypeId} {k : IntKind} {b off g : Nat} {i i' : TI}
theorem ot_cap {A0 : Option Addr} {len cap e : Nat} (hT : TabOk P tab) (hop : o.op = .call { callee := .builtin .cap, args := #[x], argTypes := #[t] }) (hd : o.dst = some d) (hw : wantB ops ts o = some true) (hx : evT ts x = some (.slice A0 len cap))
    (hi : lookI tab t = some i) (hl : i.d = .sl e) (hk : OT P w0 n ds ops os ks.tail ((d, .int .i64 (cap : Int)) :: ts) A K) : OT P w0 n ds ops (o :: os) ks ts A K :=
  ot_val _ hd hw (fun a w hh => by
    rw [exec_builtin hop]
    simp [builtin, hh.ev hx, Builtin.cap_, run_underlying ((hT t i hi).sl hl), goInt]) hk
theorem addr_add0 (a : Addr) : a.add 0 = a := by simp [Addr.add]
theorem ot_slice_hi {e len cap hi : Nat} {A0 : Option Addr} {hiv : Operand} {p : Int} (hT : TabOk P tab) (hop : o.op = .slice t x none (some hiv) none) (hd : o.dst = some d) (hw : wantB ops ts o = some true) (hx : evT ts x = some (.slice A0 len cap)) (hl : evT ts hiv = some (.int k p))
    (hi' : lookI tab t = some i) (hdd : i.d = .sl e) (hi2 : lookI tab e = some i') (hp : p = (hi : Int)) (hle : hi ≤ cap)
    (hk : OT P w0 n ds ops os ks.tail ((d, .slice A0 hi cap) :: ts) A K) : OT P w0 n ds ops (o :: os) ks ts A K :=
  ot_val _ hd hw (fun a w hh => by
    subst hp
    have h1 := (hT t i hi').sl hdd
    have h2 := (hT e i' hi2).sz w
    have h3 : (0 : Int) ≤ hi ∧ (hi : Int) ≤ cap := by omega
    have h4 : (if cap = 0 then A0 else A0.map (·.add (0 * i'.size))) = A0 := by
      split
      · rfl
      · cases A0 <;> simp [addr_add0]
    simp only [execOp, hop, hh.ev hx, hh.ev hl, Instr.sliceAt, Option.map_some, Option.map_none, Sem.run_bind, run_underlying h1, Result.andThen_ok, Instr.slice, Instr.sliceBounds, Instr.sliceBound, asIntOf, Sem.run_pure, h3, and_self, if_true, h2, Int.toNat_natCast, Option.isSome_none, Bool.false_eq_true, if_false, h4, Nat.sub_zero]) hk
/-- What append reads, wherever it lies. -/
def ReadsAt (w0 : World) (A : List Chunk) (sz : Nat) (B : Option Addr) (m : Nat) (xs : List Value) : Prop := ∀ w, St w0 A w → Reads w w.heap.size sz B m xs
theorem run_append_none {e : TypeId} {base size : Nat} {xs : List Value} {v : Value} {sl : Nat} {w : World} {ty : TypeId} (ht : P.underlying t = some (.slice e)) {j : TypeInfo} (hi : P.info? e = some j) (hown : w.ownsRow base e size v sl xs) (c : Nat) (A0 : Option Addr) :
    (Builtin.append_ #[t, t] ty #[v, .slice A0 0 c]).run P w = .ok v w := by
  have hf : ∀ w, (Builtin.firstCells j.size 0 (.slice A0 0 c)).run P w = .ok #[] w := fun w => by
    cases A0 <;> simp [Builtin.firstCells, loadCells, loadCellsFrom]
  rcases hown.2 with ⟨rfl, rfl⟩ | ⟨g, cap, cur, rfl, _, _, hc, _⟩
  · simp [Builtin.append_, run_underlying ht, sizeOf, typeInfo, hi, Builtin.lenOf, hf]
  · simp [Builtin.append_, run_underlying ht, sizeOf, typeInfo, hi, Builtin.lenOf, hc, hf, storeCells]
    first | rfl | simp [storeCellsFrom] | skip
theorem ot_appendR {e sz m c sl : Nat} {v : Value} {B : Option Addr} {xs news : List Value} {A'v : Value → List Chunk} (hT : TabOk P tab) (hh : ks.headD .wr = .wr) (hop : o.op = .call { callee := .builtin .append, args := #[x, y], argTypes := #[t, t] }) (hd : o.dst = some d) (hw : wantB ops ts o = some true)
    (hx : evT ts x = some v) (hy : evT ts y = some (.slice B m c)) (hi : lookI tab t = some i) (hl : i.d = .sl e) (hi' : lookI tab e = some i') (hsz : i'.size = sz) (h0 : 0 < sz) (hz : i'.zero.length = sz)
    (hc : ReadsAt w0 A sz B m news) (h1 : ∀ u ∈ news, u.oneCell' = true) (hu : ∀ v', Upd (.own v e sz sl xs) (.own v' e sz (sl + m) (xs ++ news)) A (A'v v')) (h63 : sl + m ≤ 1000000) (hby : i'.bytes ≤ 100000)
    (hk : ∀ v', OT P w0 n ds ops os ks.tail ((d, v') :: ts) (A'v v') K) : OT P w0 n ds ops (o :: os) ks ts A K := by
  by_cases hm : 0 < m
  · refine ot_wr hh fun a w hd' => ?_
    obtain ⟨b, off, rfl, _, h2⟩ := (hc w hd'.st).2 hm
    have hnl : news.length = m * sz := (hc w hd'.st).1
    unfold wpV
    rw [if_pos (wantB_spec hd' hw), exec_builtin hop, BigFrame.builtin_append]
    obtain ⟨j, z, hj, j1, j2, j3, j4⟩ := (hT e i' hi').info
    have hown := hd'.st.all _ (hu v).mem
    have hmm : (sl + m) * i'.bytes ≤ 1000000 * 100000 := Nat.mul_le_mul h63 hby
    obtain ⟨v', w', hr, h2', h3, h4⟩ := run_append_own (P := P) w w0.heap.size t o.type e j z sz i'.bytes ((hT t i hi).sl hl) hj j3 (by rw [j1, hsz]) j2 (by rw [← hz, ← j4]; simp) h0 v sl xs hown ⟨b, off, none⟩ m c news hnl
      (fun q u hq => by rw [Addr.add_none]; exact h2 q u hq) h1 (by unfold maxLen; omega) (by omega) hd'.st.base.size
    simp only [List.map_toArray, List.map_cons, List.map_nil, hd'.ev hx, hd'.ev hy, Sem.run_bind, hr, Result.andThen_ok, Sem.run_pure]
    exact ⟨A'v v', (fun e => by cases e), hd'.st.upd (hu v') rfl h3 h2' (append_block (P := P) ((hT t i hi).sl hl) hj j3 (by rw [j1, hsz]) hown hnl (fun q u hq => by rw [Addr.add_none]; exact h2 q u hq) h1 (by unfold maxLen; omega) (by rw [j2]; omega) hr), by rw [hd]; exact hk v'⟩
  · obtain rfl : m = 0 := by omega
    refine ot_wr hh fun a w hd' => ?_
    have hnl : news = [] := List.eq_nil_of_length_eq_zero (by simpa using (hc w hd'.st).1)
    unfold wpV
    rw [if_pos (wantB_spec hd' hw), exec_builtin hop, BigFrame.builtin_append]
    obtain ⟨j, z, hj, j1, j2, j3, j4⟩ := (hT e i' hi').info
    have hown := hd'.st.all _ (hu v).mem
    have hr := run_append_none (P := P) (ty := o.type) ((hT t i hi).sl hl) hj hown c B
    simp only [List.map_toArray, List.map_cons, List.map_nil, hd'.ev hx, hd'.ev hy, Sem.run_bind, hr, Result.andThen_ok, Sem.run_pure]
    subst hnl
    have hu' := hu v
    rw [List.append_nil, Nat.add_zero] at hu'
    refine ⟨A'v v, (fun e => by cases e), hd'.st.upd hu' rfl ⟨rfl, rfl, rfl, Nat.le_refl _, fun _ _ _ => rfl⟩ hown fun b hb => .inl hb, by rw [hd]; exact hk v⟩
/-- append(nil, make([]T, n)...) -/
theorem ot_append_make {e m : Nat} {p : Int} (hT : TabOk P tab) (hh : ks.headD .wr ≠ .rd) (hop : o.op = .call { callee := .builtin .append, args := #[x, y], argTypes := #[t, u] }) (hd : o.dst = some d) (hw : wantB ops ts o = some true) (hx : evT ts x = some (.slice none 0 0)) (hy : evT ts y = some (.int .i64 p)) (hp : p = (m : Int))
    (hi : lookI tab t = some i) (hl : i.d = .sl e) (hi' : lookI tab e = some i') {iu : TI} (hiu : lookI tab u = some iu) (hku : iu.d = .int .i64) (hz : i'.zero.length = i'.size) (h0 : 0 < m) (hm : m ≤ 1000000) (hby : i'.bytes ≤ 100000)
    (hk : ∀ g cap, w0.heap.size ≤ g → m ≤ cap → cap ≤ maxLen → OT P w0 n ds ops os ks.tail ((d, .slice (some ⟨g, 0, none⟩) m cap) :: ts) (.prd g (fun ob => ∃ cur, ob = some (.cells cur e (0, 0)) ∧ cur.size = cap * i'.size) :: A) K) : OT P w0 n ds ops (o :: os) ks ts A K := by
  subst hp
  refine ot_new (N := fun _ _ => True) (v := undef) hh hd hw fun a w hd' => ?_
  obtain ⟨j, z, hj, j1, j2, j3, j4⟩ := (hT e i' hi').info
  have hn : m ≠ 0 := by omega
  have hbm : m * j.bytes ≤ 1000000 * 100000 := Nat.mul_le_mul hm (by omega)
  have hw' : IntKind.i64.wrap (m : Int) = m := by rw [IntKind.wrap_i64]; omega
  have h63' : ¬ (9223372036854775807 < (m : Int)) := by omega
  have h48' : ¬ (281474976710656 < Builtin.nextslicecap m 0 * j.bytes) := by rw [nextslicecap_zero h0]; omega
  have h48i : ¬ (281474976710656 < (m : Int) * (j.bytes : Int)) := by rw [← Int.natCast_mul]; omega
  have hneg : ¬ ((m : Int) < 0) := by omega
  have hzs : z.cells.size = i'.size := by rw [← hz, ← j4]; simp
  have hrun : (Builtin.append_ #[t, u] o.type #[.slice none 0 0, .int .i64 (m : Int)]).run P w = .ok (.slice (some ⟨w.heap.size, 0, none⟩) m (grownCap w m 0 e)) (w.drew.alloc (.cells (#[] ++ (if m * j.size = 0 then #[] else Builtin.zeroCells z.cells m) ++ Builtin.zeroCells z.cells (grownCap w m 0 e - m)) e)) := by
    by_cases hs0 : j.size = 0
    · simp [Builtin.append_, run_underlying ((hT t i hi).sl hl), run_underlying ((hT u iu hiu).int hku), sizeOf, typeInfo, zeroValue, hj, j3, asInt, asIntOf, hw', hneg, h48i, hn, h63', h48', Question.forced, run_firstCells_none, newRow, grownCap, hs0]
    · have hms : ¬ m * j.size = 0 := fun e => by rcases Nat.mul_eq_zero.1 e with h | h <;> omega
      simp only [if_neg hms]
      simp [Builtin.append_, run_underlying ((hT t i hi).sl hl), run_underlying ((hT u iu hiu).int hku), sizeOf, typeInfo, zeroValue, hj, j3, asInt, asIntOf, hw', hneg, h48i, hn, h63', h48', Question.forced, run_firstCells_none, newRow, grownCap, hms]
  have hge := grownCap_ge w m 0 e
  have hcm : grownCap w m 0 e ≤ maxLen := grownCap_le_maxLen w m 0 e (by unfold maxLen; omega)
  have hB := (Below.refl w.heap.size w).drew.alloc (Nat.le_refl _) (.cells (#[] ++ (if m * j.size = 0 then #[] else Builtin.zeroCells z.cells m) ++ Builtin.zeroCells z.cells (grownCap w m 0 e - m)) e)
  refine ⟨_, _, _, ?_, hB, hd'.st.add (c := .prd w.heap.size _) hB ⟨hd'.st.base.size, by simp, ?_⟩ (fun b hb => by cases hb; exact Nat.le_refl _), hk w.heap.size (grownCap w m 0 e) hd'.st.base.size hge hcm⟩
  · rw [exec_builtin hop, BigFrame.builtin_append]
    simp only [List.map_toArray, List.map_cons, List.map_nil, hd'.ev hx, hd'.ev hy, Sem.run_bind, hrun, Result.andThen_ok, Sem.run_pure]
  · refine ⟨_, heap_alloc_new w.drew _, ?_⟩
    simp only [Array.size_append, size_zeroCells, hzs]
    by_cases hs0 : m * j.size = 0
    · have : i'.size = 0 := by rcases Nat.mul_eq_zero.1 hs0 with h | h; omega; omega
      simp [hs0, this]
    · rw [if_neg hs0]
      simp only [size_zeroCells, hzs]
      rw [show (#[] : Array Value).size = 0 from rfl, Nat.zero_add, ← Nat.add_mul]
      congr 1
      omega
end
/-! ## calls that hand back a row of their own -/
def OwnRet (t : TypeId) (sz m : Nat) (xs : List Value) (w0 : World) (e : Ending) (w' : World) : Prop := (∃ v, e = .returned v ∧ w'.ownsRow w0.heap.size t sz v m xs) ∧ Below w0.heap.size w0 w'
theorem OwnRet.slice {t sz m : Nat} {xs : List Value} {w0 : World} {e : Ending} {w' : World} (h : OwnRet t sz m xs w0 e w') : SliceRet sz m xs w0 e w' := by
  obtain ⟨⟨v, rfl, h2, h3⟩, hb⟩ := h
  refine ⟨?_, hb⟩
  rcases h3 with ⟨rfl, rfl⟩ | ⟨g, cap, cur, rfl, h4, h5, h6, h7, h8, h9⟩
  · exact ⟨none, 0, rfl, h2, fun h => absurd h (by omega)⟩
  · refine ⟨_, _, rfl, h2, fun _ => ⟨g, 0, rfl, (Array.getElem?_eq_some_iff.1 h5).1, fun j u hu => ?_⟩⟩
    rw [Nat.zero_add, cell_of_row w' g j cur t (0, 0) h5]
    rw [← h9, List.getElem?_take] at hu
    split at hu
    · simpa using hu
    · cases hu
section
variable {P : Program} {w0 : World} {n : Nat} {ds : List Deferred} {ops : List Oper} {o : Oper} {os : List Oper} {ks : List Kind} {ts : TS} {A : List Chunk} {K : TS → List Chunk → Prop} {d : Tmp}
variable {f : FuncId} {xa : Array Operand} {ats : Array TypeId} {avs : List Value} {sz m : Nat} {xs : List Value} {t : TypeId}
theorem St.add_own {w w' : World} {v : Value} (hs : St w0 A w) (hb : Below w.heap.size w w') (h : w'.ownsRow w.heap.size t sz v m xs) : St w0 (.own v t sz m xs :: A) w' := by
  refine hs.add hb ?_ ?_
  · obtain ⟨h1, h2⟩ := h
    refine ⟨h1, ?_⟩
    rcases h2 with h2 | ⟨g, cap, cur, h3, h4, h5⟩
    · exact .inl h2
    · exact .inr ⟨g, cap, cur, h3, Nat.le_trans hs.base.size h4, h5⟩
  · intro b hb'
    obtain ⟨_, h2⟩ := h
    rcases h2 with ⟨rfl, _⟩ | ⟨g, cap, cur, rfl, h4, _⟩
    · cases hb'
    · simp only [Chunk.at_, Value.ownBlock, Option.some.injEq] at hb'; omega
theorem ot_fact {p : Prop} (hh : ks.headD .wr = .wr) (hp : ∀ w, St w0 A w → p) (hk : p → OT P w0 n ds ops (o :: os) ks ts A K) : OT P w0 n ds ops (o :: os) ks ts A K := by
  unfold OT at hk ⊢
  rw [hh] at hk ⊢
  exact fun a w hd => hk (hp w hd.st) a w hd
theorem St.own_rd {w : World} {B : Option Addr} {c : Nat} (hs : St w0 A w) (h : .own (.slice B m c) t sz m xs ∈ A) : Reads w w.heap.size sz B m xs := by
  obtain ⟨B', c', e, hr⟩ := hs.own_reads h
  cases e
  exact hr
theorem ot_call_own (hh : ks.headD .wr ≠ .rd) (hop : o.op = .call { callee := .value (.func f), args := xa, argTypes := ats }) (hd : o.dst = some d) (hw : wantB ops ts o = some true) (hb : hasBody P f = true) (ha : EvL ts xa.toList avs)
    (hc : ∀ w, St w0 A w → Calls P f avs.toArray w (OwnRet t sz m xs w)) (hk : ∀ v, OT P w0 n ds ops os ks.tail ((d, v) :: ts) (.own v t sz m xs :: A) K) : OT P w0 n ds ops (o :: os) ks ts A K := by
  refine ot_call_c hh hop hd hw hb ha hc ?_
  rintro w e w' hs ⟨⟨v, rfl, hr⟩, hbl⟩
  exact ⟨_, _, rfl, hbl, hs.add_own hbl hr, hk v⟩
theorem own_form {w : World} {base : Nat} {v : Value} (h : w.ownsRow base t sz v m xs) : ∃ B c, v = .slice B m c ∧ (0 < m → ∃ b, B = some ⟨b, 0, none⟩) := by
  rcases h.2 with ⟨rfl, rfl⟩ | ⟨g, cap, cur, rfl, _⟩
  · exact ⟨none, 0, rfl, fun h => absurd h (by omega)⟩
  · exact ⟨_, _, rfl, fun _ => ⟨g, rfl⟩⟩
theorem ot_call_ownS (hh : ks.headD .wr ≠ .rd) (hop : o.op = .call { callee := .value (.func f), args := xa, argTypes := ats }) (hd : o.dst = some d) (hw : wantB ops ts o = some true) (hb : hasBody P f = true) (ha : EvL ts xa.toList avs)
    (hc : ∀ w, St w0 A w → Calls P f avs.toArray w (OwnRet t sz m xs w)) (hk : ∀ B c, (0 < m → ∃ b, B = some ⟨b, 0, none⟩) → OT P w0 n ds ops os ks.tail ((d, .slice B m c) :: ts) (.own (.slice B m c) t sz m xs :: A) K) : OT P w0 n ds ops (o :: os) ks ts A K := by
  refine ot_call_c hh hop hd hw hb ha hc ?_
  rintro w e w' hs ⟨⟨v, rfl, hr⟩, hbl⟩
  obtain ⟨B, c, rfl, hB⟩ := own_form hr
  exact ⟨_, _, rfl, hbl, hs.add_own hbl hr, hk B c hB⟩
/-- What is handed back is a row of the call's own. -/
theorem own_ret {w w' : World} {v : Value} {A : List Chunk} (hs : St w A w') (h : .own v t sz m xs ∈ A) : OwnRet t sz m xs w (.returned v) w' := ⟨⟨v, rfl, hs.all _ h⟩, hs.base⟩
end
/-! ## a region in its text's own order -/
/-- Lay theorems by their runs: all of a list, one by one. -/
theorem pick_map (l : List Oper) : ∀ π : List Nat, pick l π = π.map (nthO l) := by
  intro π
  induction π with
  | nil => rfl
  | cons i π ih => simp [pick, ih]
theorem pick_range (l : List Oper) : pick l (List.range l.length) = l := by
  rw [pick_map]
  refine List.ext_getElem? fun i => ?_
  rw [List.getElem?_map]
  by_cases h : i < l.length
  · rw [List.getElem?_range h, nthO_get h]; rfl
  · rw [List.getElem?_eq_none (by simpa using h), List.getElem?_eq_none (by omega)]; rfl
section
variable {P : Program} {r : Option Nat} {w0 : World} {n : Nat} {ds : List Deferred} {ts : TS} {A : List Chunk} {Q : PostT}
theorem tr_region_lex {id : Nat} {l : List Oper} (hm : P.follows .mixedOrders = true) (ks : List Kind) (hd : dstOk n l = true) (hb : drawB l (List.range l.length) ks = true)
    (h : OT P w0 n ds l l ks ts A fun ts A => Q .normal ds ts A) : Tr P r w0 n (.region id l.toArray true) ds ts A Q :=
  tr_region_draw hm (List.range l.length) ks hd hb (by rw [pick_range]; exact h)
end
/-! ## what a call hands back, as chunks -/
theorem Chunk.holds_le {B B' : Nat} {w : World} {c : Chunk} (h : c.holds B w) (hB : B' ≤ B) : c.holds B' w := by
  cases c with
  | row b o cs => exact h
  | blk g t cs => exact ⟨Nat.le_trans hB h.1, h.2⟩
  | own v t sz n xs =>
    refine ⟨h.1, ?_⟩
    rcases h.2 with h2 | ⟨g, cap, cur, h3, h4, r⟩
    · exact .inl h2
    · exact .inr ⟨g, cap, cur, h3, Nat.le_trans hB h4, r⟩
  | map r es => exact ⟨Nat.le_trans hB h.1, h.2⟩
  | obj b o => exact ⟨Nat.le_trans hB h.1, h.2⟩
  | prd b p => exact ⟨Nat.le_trans hB h.1, h.2⟩
theorem St.join {w0 w w' : World} {A A' : List Chunk} (hs : St w0 A w) (hs' : St w A' w') (hm : ∀ c ∈ A', c.mut = true) : St w0 (A' ++ A) w' where
  base := hs.base.trans (hs'.base.mono hs.base.size)
  all := fun c hc => by
    rcases List.mem_append.1 hc with h | h
    · exact Chunk.holds_le (hs'.all c h) hs.base.size
    · exact (hs.grow hs'.base).all c h
  apart := by
    rw [List.pairwise_append]
    refine ⟨hs'.apart, hs.apart, fun c hc d hd _ b hb hdb => ?_⟩
    have h1 := (Chunk.holds_lt (hs'.all c hc) hb).2 (hm c hc)
    have h2 := (Chunk.holds_lt (hs.all d hd) hdb).1
    omega
theorem ot_call_st {P : Program} {w0 : World} {n : Nat} {ds : List Deferred} {ops : List Oper} {o : Oper} {os : List Oper} {ks : List Kind} {ts : TS} {A : List Chunk} {K : TS → List Chunk → Prop} {d : Tmp} {f : FuncId} {xa : Array Operand} {ats : Array TypeId} {avs : List Value}
    {X : Type} (v : X → Value) (A' : X → List Chunk) (hm : ∀ x, ∀ c ∈ A' x, c.mut = true) (hh : ks.headD .wr ≠ .rd) (hop : o.op = .call { callee := .value (.func f), args := xa, argTypes := ats }) (hd : o.dst = some d) (hw : wantB ops ts o = some true) (hb : hasBody P f = true) (ha : EvL ts xa.toList avs)
    (hc : ∀ w, St w0 A w → Calls P f avs.toArray w fun e w' => ∃ x, e = .returned (v x) ∧ St w (A' x) w') (hk : ∀ x, OT P w0 n ds ops os ks.tail ((d, v x) :: ts) (A' x ++ A) K) : OT P w0 n ds ops (o :: os) ks ts A K := by
  refine ot_call_c hh hop hd hw hb ha hc ?_
  rintro w e w' hs ⟨x, rfl, hr⟩
  exact ⟨_, _, rfl, hr.base, hs.join hr (hm x), hk x⟩
end Go.Proofs.YtiodmphhjgkgjaaGreat
