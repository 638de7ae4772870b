/- What the operations do, by names: lemmas for the rows of this seat. No conditions. -/
import Derived.Test.YtiodmphhjgkgjaaGreatZA
set_option linter.all false
namespace Go.Proofs.YtiodmphhjgkgjaaGreat
open Go.RowKit
/-! ## What the operations do, by names -/
/-- A constant that holds no memory. -/
def toA1 : Value → Option AV
  | .bool b => some (.b b)
  | .int k n => some (.i k n)
  | .string s => some (.s s.data.toList)
  | .pointer none => some .pn
  | .slice none 0 0 => some .ln
  | .map none => some .mn
  | .nilFunc => some .fn
  | .nilIface => some .ni
  | _ => none
def toAL : List Value → Option (List AV)
  | [] => some []
  | v :: l => match toA1 v with
    | none => none
    | some a => match toAL l with
      | none => none
      | some r => some (a :: r)
def toA : Value → Option AV
  | .agg cs => match toAL cs.toList with
    | none => none
    | some l => some (.g l)
  | v => toA1 v
theorem toA1_spec {v : Value} {a : AV} (h : toA1 v = some a) (ρ : Env) : cv ρ a = v ∧ Dm ρ a := by
  cases v <;> simp only [toA1, Option.some.injEq] at h <;> first
    | (subst h; simp [cv, Dm])
    | (split at h <;> first | (cases h; done) | (injection h with h; subst h; simp_all [cv, Dm]))
    | cases h
theorem toAL_spec (ρ : Env) : ∀ {l : List Value} {r : List AV}, toAL l = some r → cvL ρ r = l ∧ DmL ρ r
  | [], r, h => by simp [toAL] at h; subst h; simp [cvL, DmL]
  | v :: l, r, h => by
    simp only [toAL] at h
    split at h
    · cases h
    · rename_i a ha
      split at h
      · cases h
      · rename_i b hb
        injection h with h; subst h
        obtain ⟨h1, h2⟩ := toA1_spec ha ρ
        obtain ⟨h3, h4⟩ := toAL_spec ρ hb
        simp [cvL, DmL, h1, h2, h3, h4]
theorem toA_spec {v : Value} {a : AV} (h : toA v = some a) (ρ : Env) : cv ρ a = v ∧ Dm ρ a := by
  unfold toA at h
  split at h
  · split at h
    · cases h
    · rename_i l hl
      injection h with h; subst h
      obtain ⟨h1, h2⟩ := toAL_spec ρ hl
      simp [cv, Dm, h1, h2]
  · exact toA1_spec h ρ
/-- What an operand is. -/
noncomputable def evO (ts : TL) (x : Operand) : Option AV := Operand.rec (motive := fun _ => Option AV) ts.look toA (fun _ => none) (fun f => some (.f f [] [])) x
noncomputable def zvL (ts : TL) : List Operand → Option (List AV) := fun l => List.rec (motive := fun _ => Option (List AV)) (some []) (fun x _ ih => Option.rec (motive := fun _ => Option (List AV)) none (fun v => Option.rec (motive := fun _ => Option (List AV)) none (fun r => some (v :: r)) ih) (evO ts x)) l
theorem zvL_cons {ts : TL} {x : Operand} {l : List Operand} {r : List AV} (h : zvL ts (x :: l) = some r) : ∃ v r', evO ts x = some v ∧ zvL ts l = some r' ∧ r = v :: r' := by
  change Option.rec (motive := fun _ => Option (List AV)) none (fun v => Option.rec (motive := fun _ => Option (List AV)) none (fun r => some (v :: r)) (zvL ts l)) (evO ts x) = some r at h
  cases h1 : evO ts x with
  | none => rw [h1] at h; cases h
  | some v =>
    rw [h1] at h
    cases h2 : zvL ts l with
    | none => rw [h2] at h; cases h
    | some r' => rw [h2] at h; injection h with h; exact ⟨v, r', rfl, rfl, h.symm⟩
noncomputable def hO {α β : Type} (o : Option α) (f : α → HM β) : HM β := Option.rec (motive := fun _ => HM β) hn f o
theorem hO_ok {α β : Type} {o : Option α} {f : α → HM β} {s s' : Hp} {b : β} (h : hO o f s = .ok b s') : ∃ a, o = some a ∧ f a s = .ok b s' := by
  cases o with
  | none => cases h
  | some a => exact ⟨a, rfl, h⟩
theorem LM.opt {α β : Type} {o : Option α} {f : α → HM β} (hf : ∀ a, LM (f a)) : LM (hO o f) := by
  cases o with
  | none => exact LM.fail
  | some a => exact hf a
noncomputable def hI {β : Type} (b : Bool) (x y : HM β) : HM β := Bool.rec (motive := fun _ => HM β) y x b
theorem hI_t {β : Type} (x y : HM β) : hI true x y = x := rfl
theorem hI_f {β : Type} (x y : HM β) : hI false x y = y := rfl
theorem LM.ite {β : Type} {b : Bool} {x y : HM β} (hx : LM x) (hy : LM y) : LM (hI b x y) := by cases b <;> assumption
noncomputable def hg {β : Type} (b : Bool) (x : HM β) : HM β := hI b x hn
theorem hg_ok {β : Type} {b : Bool} {x : HM β} {s s' : Hp} {r : β} (h : hg b x s = .ok r s') : b = true ∧ x s = .ok r s' := by
  cases b with
  | false => cases h
  | true => exact ⟨rfl, h⟩
/-! ### numbers -/
def zlt (x y : Int) : Bool := match x with
  | .ofNat a => match y with
    | .ofNat b => Nat.blt a b
    | .negSucc _ => false
  | .negSucc a => match y with
    | .ofNat _ => true
    | .negSucc b => Nat.blt b a
def zeq (x y : Int) : Bool := match x with
  | .ofNat a => match y with
    | .ofNat b => Nat.beq a b
    | .negSucc _ => false
  | .negSucc a => match y with
    | .ofNat _ => false
    | .negSucc b => Nat.beq a b
theorem zlt_eq (x y : Int) : zlt x y = decide (x < y) := by
  cases x <;> cases y <;> simp only [zlt]
  · rename_i a b
    by_cases h : a < b
    · rw [blt_iff.2 h]; simp [h]
    · rw [blt_f.2 h]; simp [h]
  · symm; simp; omega
  · symm; simp; omega
  · rename_i a b
    by_cases h : b < a
    · rw [blt_iff.2 h]; symm; simp; omega
    · rw [blt_f.2 h]; symm; simp; omega
theorem zeq_eq (x y : Int) : zeq x y = decide (x = y) := by
  cases x <;> cases y <;> simp only [zeq]
  · rename_i a b
    by_cases h : a = b
    · subst h; rw [Nat.beq_refl]; simp
    · rw [beq_ff h]; simp; omega
  · symm; simp
  · symm; simp
  · rename_i a b
    by_cases h : a = b
    · subst h; rw [Nat.beq_refl]; simp
    · rw [beq_ff h]; symm; simp; omega
/-- Within 64 bits. -/
def in64 (n : Int) : Bool := match n with
  | .ofNat a => Nat.blt a 9223372036854775808
  | .negSucc a => Nat.blt a 9223372036854775808
theorem in64_iff {n : Int} (h : in64 n = true) : -9223372036854775808 ≤ n ∧ n ≤ 9223372036854775807 := by
  cases n <;> simp only [in64] at h <;> have := blt_iff.1 h <;> (try rw [Int.ofNat_eq_natCast]) <;> omega
noncomputable def wr64 (n : Int) : Int := Bool.rec (motive := fun _ => Int) (IntKind.i64.wrap n) n (in64 n)
theorem wr64_eq (n : Int) : wr64 n = IntKind.i64.wrap n := by
  unfold wr64
  cases h : in64 n
  · rfl
  · exact (IntWalk.i64_in n (in64_iff h)).symm
noncomputable def wrK (k : IntKind) (n : Int) : Int := IntKind.rec (motive := fun _ => Int) (IntKind.i8.wrap n) (IntKind.i16.wrap n) (IntKind.i32.wrap n) (wr64 n) (IntKind.u8.wrap n) (IntKind.u16.wrap n) (IntKind.u32.wrap n) (IntKind.u64.wrap n) k
theorem wrK_eq (k : IntKind) (n : Int) : wrK k n = k.wrap n := by cases k <;> first | rfl | exact wr64_eq n
def knd : IntKind → Nat
  | .i8 => 0 | .i16 => 1 | .i32 => 2 | .i64 => 3 | .u8 => 4 | .u16 => 5 | .u32 => 6 | .u64 => 7
theorem knd_inj {a b : IntKind} (h : Nat.beq (knd a) (knd b) = true) : a = b := by cases a <;> cases b <;> first | rfl | cases h
/-- Two numbers of one kind. -/
noncomputable def zar (op : BinOp) (k : IntKind) (x y : Int) : Option AV := match op with
  | .add => some (.i k (wrK k (x + y)))
  | .sub => some (.i k (wrK k (x - y)))
  | .mul => some (.i k (wrK k (x * y)))
  | .quo => match zeq y 0 with
    | true => none
    | false => some (.i k (wrK k (x.tdiv y)))
  | .rem => match zeq y 0 with
    | true => none
    | false => some (.i k (x.tmod y))
  | .and => some (.i k (k.wrap (BitVec.ofInt k.bits x &&& BitVec.ofInt k.bits y).toNat))
  | .or => some (.i k (k.wrap (BitVec.ofInt k.bits x ||| BitVec.ofInt k.bits y).toNat))
  | .xor => some (.i k (k.wrap (BitVec.ofInt k.bits x ^^^ BitVec.ofInt k.bits y).toNat))
  | .andNot => some (.i k (k.wrap (BitVec.ofInt k.bits x &&& ~~~ BitVec.ofInt k.bits y).toNat))
  | .eql => some (.b (zeq x y))
  | .neq => some (.b (!(zeq x y)))
  | .lss => some (.b (zlt x y))
  | .leq => some (.b (!(zlt y x)))
  | .gtr => some (.b (zlt y x))
  | .geq => some (.b (!(zlt x y)))
  | _ => none
def zsh (op : BinOp) (k : IntKind) (x y : Int) : Option AV := match y with
  | .ofNat n => match op with
    | .shl => some (.i k (k.wrap (x * 2 ^ (min n k.bits))))
    | .shr => some (.i k (x.fdiv (2 ^ (min n k.bits))))
    | _ => none
  | .negSucc _ => none
section
variable {P : Program}
theorem zar_run {op : BinOp} {k : IntKind} {x y : Int} {r : AV} (h : zar op k x y = some r) (t : TypeId) (ρ : Env) (w : World) (hs : op ≠ .shl ∧ op ≠ .shr) : (binOp op t (.int k x) (.int k y)).run P w = .ok (cv ρ r) w ∧ Dm ρ r := by
  cases op <;> simp only [zar] at h
  case quo => 
    split at h
    · cases h
    · rename_i hz
      rw [zeq_eq] at hz
      injection h with h; subst h
      simp at hz
      simp [binOp, Op.intDiv, hz, cv, Dm, wrK_eq]
  case rem => 
    split at h
    · cases h
    · rename_i hz
      rw [zeq_eq] at hz
      injection h with h; subst h
      simp at hz
      simp [binOp, Op.intDiv, hz, cv, Dm]
  all_goals first
    | (cases h; done)
    | (injection h with h; subst h; simp [binOp, Op.intArith, Op.intBits, Op.intCmp, cv, Dm, wrK_eq, zeq_eq, zlt_eq]; try (first | rfl | (congr 2; done) | (rw [bne]; congr 1) | (by_cases hh : y < x <;> simp [hh] <;> omega) | (by_cases hh : x < y <;> simp [hh] <;> omega) | skip))
    | exact absurd rfl hs.1
    | exact absurd rfl hs.2
end
theorem zsh_run {P : Program} {op : BinOp} {k k' : IntKind} {x y : Int} {r : AV} (h : zsh op k x y = some r) (t : TypeId) (ρ : Env) (w : World) : (binOp op t (.int k x) (.int k' y)).run P w = .ok (cv ρ r) w ∧ Dm ρ r := by
  unfold zsh at h
  split at h
  · rename_i n
    have h0 : ¬ (Int.ofNat n < 0) := by rw [Int.ofNat_eq_natCast]; omega
    split at h <;> first | (cases h; done) | (injection h with h; subst h; simp [binOp, Op.shift, h0, cv, Dm]; intro hh; omega)
  · cases h
/-! ## Keys -/
def ckM : List CK → List AV → Bool
  | ks, l => match ks with
    | [] => match l with
      | [] => true
      | _ :: _ => false
    | .b :: ks => match l with
      | .b _ :: l => ckM ks l
      | _ => false
    | .i k :: ks => match l with
      | .i k' _ :: l => match Nat.beq (knd k) (knd k') with
        | true => ckM ks l
        | false => false
      | _ => false
/-- The same numbers, cell by cell. -/
def zsame : List AV → List AV → Bool
  | xs, ys => match xs with
    | [] => match ys with
      | [] => true
      | _ => false
    | x :: xs => match ys with
      | [] => false
      | y :: ys => match x with
        | .i _ n => match y with
          | .i _ m => match zeq n m with
            | true => zsame xs ys
            | false => false
          | _ => false
        | .b n => match y with
          | .b m => match n == m with
            | true => zsame xs ys
            | false => false
          | _ => false
        | _ => false
theorem zsame_iff : ∀ (ks : List CK) (xs ys : List AV), ckM ks xs = true → ckM ks ys = true → (zsame xs ys = true ↔ xs = ys) := by
  intro ks
  induction ks with
  | nil =>
    intro xs ys hx hy
    cases xs with
    | nil => cases ys with
      | nil => simp [zsame]
      | cons => simp [ckM] at hy
    | cons => simp [ckM] at hx
  | cons k ks ih =>
    intro xs ys hx hy
    cases k with
    | b =>
      cases xs with
      | nil => simp [ckM] at hx
      | cons x xs =>
        cases ys with
        | nil => simp [ckM] at hy
        | cons y ys =>
          obtain ⟨n, rfl⟩ : ∃ n, x = .b n := by cases x <;> simp [ckM] at hx <;> exact ⟨_, rfl⟩
          obtain ⟨m, rfl⟩ : ∃ n, y = .b n := by cases y <;> simp [ckM] at hy <;> exact ⟨_, rfl⟩
          simp only [ckM] at hx hy
          have := ih xs ys hx hy
          simp only [zsame]
          by_cases h : n = m
          · subst h; simp [this]
          · have h' : (n == m) = false := by simpa using h
            rw [h']; simp [h]
    | i k =>
      cases xs with
      | nil => simp [ckM] at hx
      | cons x xs =>
        cases ys with
        | nil => simp [ckM] at hy
        | cons y ys =>
          obtain ⟨k1, n, rfl⟩ : ∃ k n, x = .i k n := by cases x <;> simp [ckM] at hx <;> exact ⟨_, _, rfl⟩
          obtain ⟨k2, m, rfl⟩ : ∃ k n, y = .i k n := by cases y <;> simp [ckM] at hy <;> exact ⟨_, _, rfl⟩
          simp only [ckM] at hx hy
          split at hx <;> first | (cases hx; done) | skip
          rename_i e1
          split at hy <;> first | (cases hy; done) | skip
          rename_i e2
          obtain rfl := knd_inj e1
          obtain rfl := knd_inj e2
          have := ih xs ys hx hy
          simp only [zsame, zeq_eq]
          by_cases h : n = m
          · subst h; simp [this]
          · simp [h]
/-- A key of this kind. -/
def keyB : KD → AV → Bool
  | kd, v => match kd with
    | .fl ks => match v with
      | .g l => ckM ks l
      | _ => false
    | .nt k => match v with
      | .i k' _ => Nat.beq (knd k) (knd k')
      | _ => false
def keyEq (a b : AV) : Bool := match a with
  | .g l => match b with
    | .g m => zsame l m
    | _ => false
  | .i _ n => match b with
    | .i _ m => zeq n m
    | _ => false
  | _ => false
theorem keyEq_iff {kd : KD} {a b : AV} (ha : keyB kd a = true) (hb : keyB kd b = true) : keyEq a b = true ↔ a = b := by
  cases kd with
  | fl ks =>
    obtain ⟨l, rfl⟩ : ∃ l, a = .g l := by cases a <;> simp [keyB] at ha <;> exact ⟨_, rfl⟩
    obtain ⟨m, rfl⟩ : ∃ l, b = .g l := by cases b <;> simp [keyB] at hb <;> exact ⟨_, rfl⟩
    simp only [keyB] at ha hb
    simp only [keyEq, zsame_iff ks l m ha hb, AV.g.injEq]
  | nt k =>
    obtain ⟨k1, n, rfl⟩ : ∃ k n, a = .i k n := by cases a <;> simp [keyB] at ha <;> exact ⟨_, _, rfl⟩
    obtain ⟨k2, m, rfl⟩ : ∃ k n, b = .i k n := by cases b <;> simp [keyB] at hb <;> exact ⟨_, _, rfl⟩
    simp only [keyB] at ha hb
    obtain rfl := knd_inj ha
    obtain rfl := knd_inj hb
    simp [keyEq, zeq_eq]
theorem ckM_dm (ρ : Env) : ∀ (ks : List CK) (l : List AV), ckM ks l = true → DmL ρ l
  | [], l, h => by cases l <;> simp [ckM] at h <;> simp [DmL]
  | k :: ks, l, h => by
    cases l with
    | nil => cases k <;> simp [ckM] at h
    | cons v l =>
      cases k with
      | b =>
        obtain ⟨n, rfl⟩ : ∃ n, v = .b n := by cases v <;> simp [ckM] at h <;> exact ⟨_, rfl⟩
        simp only [ckM] at h
        exact ⟨by simp [Dm], ckM_dm ρ ks l h⟩
      | i k =>
        obtain ⟨k1, n, rfl⟩ : ∃ k n, v = .i k n := by cases v <;> simp [ckM] at h <;> exact ⟨_, _, rfl⟩
        simp only [ckM] at h
        split at h
        · exact ⟨by simp [Dm], ckM_dm ρ ks l h⟩
        · cases h
theorem ckM_cv (ρ ρ' : Env) : ∀ (ks : List CK) (l : List AV), ckM ks l = true → cvL ρ l = cvL ρ' l
  | [], l, h => by cases l <;> simp [ckM] at h <;> simp [cvL]
  | k :: ks, l, h => by
    cases l with
    | nil => cases k <;> simp [ckM] at h
    | cons v l =>
      cases k with
      | b =>
        obtain ⟨n, rfl⟩ : ∃ n, v = .b n := by cases v <;> simp [ckM] at h <;> exact ⟨_, rfl⟩
        simp only [ckM] at h
        simp only [cvL, cv, ckM_cv ρ ρ' ks l h]
      | i k =>
        obtain ⟨k1, n, rfl⟩ : ∃ k n, v = .i k n := by cases v <;> simp [ckM] at h <;> exact ⟨_, _, rfl⟩
        simp only [ckM] at h
        split at h
        · simp only [cvL, cv, ckM_cv ρ ρ' ks l h]
        · cases h
theorem key_dm {kd : KD} {a : AV} (h : keyB kd a = true) (ρ ρ' : Env) : Dm ρ a ∧ cv ρ a = cv ρ' a := by
  cases kd with
  | fl ks =>
    obtain ⟨l, rfl⟩ : ∃ l, a = .g l := by cases a <;> simp [keyB] at h <;> exact ⟨_, rfl⟩
    simp only [keyB] at h
    exact ⟨by simpa [Dm] using ckM_dm ρ ks l h, by simp [cv, ckM_cv ρ ρ' ks l h]⟩
  | nt k =>
    obtain ⟨k1, n, rfl⟩ : ∃ k n, a = .i k n := by cases a <;> simp [keyB] at h <;> exact ⟨_, _, rfl⟩
    simp [Dm, cv]
/-- Keys of a kind. -/
def KK (kd : KD) : Type := { a : AV // keyB kd a = true }
instance (kd : KD) : DecidableEq (KK kd) := fun a b => match h : keyEq a.1 b.1 with
  | true => isTrue (Subtype.ext ((keyEq_iff a.2 b.2).1 h))
  | false => isFalse fun e => by
    have := (keyEq_iff a.2 b.2).2 (congrArg Subtype.val e)
    rw [h] at this; cases this
def enK (ρ : Env) (kd : KD) (k : KK kd) : Value := cv ρ k.1
theorem enK_eq (ρ ρ' : Env) (kd : KD) : enK ρ kd = enK ρ' kd := funext fun k => (key_dm k.2 ρ ρ').2
def lkA (es : List (AV × AV)) (k : AV) : Option AV := match es with
  | [] => none
  | (a, v) :: es => match keyEq a k with
    | true => some v
    | false => lkA es k
def mpF (ρ : Env) (es : List (AV × AV)) (kd : KD) (k : KK kd) : Option Value := (lkA es k.1).map (cv ρ)
def bitB (d i : Nat) : Bool := Nat.beq (Nat.land (Nat.shiftRight d i) 1) 1
theorem bitB_eq (d i : Nat) : bitB d i = d.testBit i := by
  show Nat.beq ((d >>> i) &&& 1) 1 = _
  rw [Nat.testBit, Nat.and_comm]
  rcases Nat.mod_two_eq_zero_or_one (d >>> i) with h | h <;> rw [← Nat.and_one_is_mod, Nat.and_comm] at h <;> rw [h] <;> rfl
/-! ## What the state says of memory -/
/-- Where a name's block lies, and what it holds. -/
def OH (ρ : Env) (n : Nat) (q : Nat) (o : AO) (x : Option Obj) : Prop := match o with
  | .cs t l op => ∃ pre rest : List Value, pre.length = q ∧ x = some (.cells (pre ++ cvL ρ l ++ rest).toArray t (0, 0)) ∧ DmL ρ l ∧ (match op with
    | none => rest = []
    | some sz => ρ.cap n * sz = l.length + rest.length)
  | .mp kd es sts nxt => q = 0 ∧ ∃ st : List (Nat × KK kd), MapP (enK ρ kd) (mpF ρ es kd) st x ∧ (∀ e ∈ es, keyB kd e.1 = true ∧ Dm ρ e.2) ∧
      (∀ p ∈ sts, p.1 < nxt ∧ ∃ (s : Nat) (k : KK kd), k.1 = p.2 ∧ ρ.stp n p.1 = some s ∧ (s, k) ∈ st) ∧ ∀ i s, ρ.stp n i = some s → i < nxt
  | .lp st pe mk ts sz ps as bd => q = 0 ∧ ∃ (arr : Array Value) (D fn : Nat), x = some (.loop { state := st, pending := pe, fn, tmps := arr, params := ps, assign := as, body := bd, defers := D }) ∧ arr.size = sz ∧ ∀ t v, ts.look t = some v → (arr[t]? = some (cv ρ v) ∧ Dm ρ v) ∧ bitB mk t = true
  | .dl b => q = 0 ∧ x = some (.deferred (match b with | true => some [] | false => none))
  | .ez t sz => ∃ pre rest : List Value, pre.length = q ∧ x = some (.cells (pre ++ rest).toArray t (0, 0)) ∧ (ρ.cap n = 0 ∨ ρ.cap n * sz = rest.length)
theorem OH.some {ρ : Env} {n q : Nat} {o : AO} {x : Option Obj} (h : OH ρ n q o x) : ∃ y, x = some y := by
  cases o with
  | cs t l op => obtain ⟨_, _, _, h, _⟩ := h; exact ⟨_, h⟩
  | mp kd es sts nxt => obtain ⟨_, _, ⟨_, _, h, _⟩, _⟩ := h; exact ⟨_, h⟩
  | lp => obtain ⟨_, _, _, _, h, _⟩ := h; exact ⟨_, h⟩
  | dl b => exact ⟨_, h.2⟩
  | ez t sz => obtain ⟨_, _, _, h, _⟩ := h; exact ⟨_, h⟩
theorem OH.mono {ρ ρ' : Env} (hl : ρ.le ρ') {n q : Nat} {o : AO} {x : Option Obj} (hn : (ρ.blk n).isSome = true) (hst : ∀ i, ρ'.stp n i = ρ.stp n i) (h : OH ρ n q o x) : OH ρ' n q o x := by
  cases o with
  | cs t l op =>
    obtain ⟨pre, rest, h1, h2, h3, h4⟩ := h
    obtain ⟨h5, h6⟩ := cvL_mono hl l h3
    refine ⟨pre, rest, h1, by rw [h5]; exact h2, h6, ?_⟩
    cases op with
    | none => exact h4
    | some sz => show ρ'.cap n * sz = _; rw [(hl.some hn).2]; exact h4
  | mp kd es sts nxt =>
    obtain ⟨h1, st, h2, h3, h4, h5⟩ := h
    refine ⟨h1, st, ?_, fun e he => ⟨(h3 e he).1, (cv_mono hl _ (h3 e he).2).2⟩, fun p hp => ?_, fun i s hi => h5 i s (by rw [← hst]; exact hi)⟩
    · have e1 : mpF ρ' es kd = mpF ρ es kd := by
        funext k
        unfold mpF
        cases hk : lkA es k.1 with
        | none => rfl
        | some v =>
          have : ∃ a, (a, v) ∈ es := by
            clear h2 h4
            induction es with
            | nil => cases hk
            | cons e es ih =>
              obtain ⟨a, u⟩ := e
              simp only [lkA] at hk
              split at hk
              · injection hk with hk; subst hk; exact ⟨a, .head _⟩
              · obtain ⟨b, hb⟩ := ih (fun e he => h3 e (.tail _ he)) hk
                exact ⟨b, .tail _ hb⟩
          obtain ⟨a, ha⟩ := this
          simp only [Option.map_some]
          rw [(cv_mono hl _ (h3 _ ha).2).1]
      rw [enK_eq ρ' ρ, e1]; exact h2
    · obtain ⟨q1, s, k, q2, q3, q4⟩ := h4 p hp
      exact ⟨q1, s, k, q2, by rw [hst]; exact q3, q4⟩
  | lp st pe fn ts sz ps as bd =>
    obtain ⟨h1, arr, D, fn', h2, h3, h4⟩ := h
    refine ⟨h1, arr, D, fn', h2, h3, fun t v hv => ?_⟩
    obtain ⟨⟨h5, h6⟩, h9⟩ := h4 t v hv
    obtain ⟨h7, h8⟩ := cv_mono hl v h6
    exact ⟨⟨by rw [h7]; exact h5, h8⟩, h9⟩
  | dl b => exact h
  | ez t sz =>
    obtain ⟨pre, rest, h1, h2, h3⟩ := h
    exact ⟨pre, rest, h1, h2, by rw [(hl.some hn).2]; exact h3⟩
abbrev GH := Nat → Option AO
def setG (G : GH) (n : Nat) (x : Option AO) : GH := fun m => if n = m then x else G m
structure ZS (w0 : World) (ρ : Env) (G : GH) (w : World) : Prop where
  base : Below w0.heap.size w0 w
  all : ∀ n o, G n = some o → ∃ p, ρ.blk n = some p ∧ w0.heap.size ≤ p.1 ∧ OH ρ n p.2 o w.heap[p.1]?
  inj : ∀ n m o o' p q, G n = some o → G m = some o' → ρ.blk n = some p → ρ.blk m = some q → n ≠ m → p.1 ≠ q.1
section
variable {w0 w w' : World} {ρ ρ' : Env} {G : GH}
theorem ZS.lt (h : ZS w0 ρ G w) {n : Nat} {o : AO} (hn : G n = some o) {p : Nat × Nat} (hp : ρ.blk n = some p) : p.1 < w.heap.size ∧ w0.heap.size ≤ p.1 := by
  obtain ⟨p', h1, h2, h3⟩ := h.all n o hn
  obtain rfl : p' = p := Option.some.inj (h1.symm.trans hp)
  obtain ⟨y, hy⟩ := h3.some
  exact ⟨(Array.getElem?_eq_some_iff.1 hy).1, h2⟩
theorem ZS.grow (h : ZS w0 ρ G w) (hb : Below w.heap.size w w') : ZS w0 ρ G w' where
  base := h.base.trans (hb.mono h.base.size)
  all := fun n o hn => by
    obtain ⟨p, h1, h2, h3⟩ := h.all n o hn
    exact ⟨p, h1, h2, by rw [hb.block p.1 (h.lt hn h1).1]; exact h3⟩
  inj := h.inj
theorem ZS.mono (h : ZS w0 ρ G w) (hl : ρ.le ρ') (hst : ∀ n o i, G n = some o → ρ'.stp n i = ρ.stp n i) : ZS w0 ρ' G w where
  base := h.base
  all := fun n o hn => by
    obtain ⟨p, h1, h2, h3⟩ := h.all n o hn
    exact ⟨p, (hl.blk n p h1).1, h2, h3.mono hl (by rw [h1]; rfl) (fun i => hst n o i hn)⟩
  inj := fun n m o o' p q hn hm hp hq hne => by
    obtain ⟨p', h1, _⟩ := h.all n o hn
    obtain ⟨q', h2, _⟩ := h.all m o' hm
    have e1 := (hl.blk n p' h1).1
    have e2 := (hl.blk m q' h2).1
    rw [hp] at e1; rw [hq] at e2
    injection e1 with e1; injection e2 with e2
    subst e1; subst e2
    exact h.inj n m o o' _ _ hn hm h1 h2 hne
theorem ZS.sub (h : ZS w0 ρ G w) {G' : GH} (hs : ∀ n o, G' n = some o → G n = some o) : ZS w0 ρ G' w where
  base := h.base
  all := fun n o hn => h.all n o (hs n o hn)
  inj := fun n m o o' p q hn hm => h.inj n m o o' p q (hs n o hn) (hs m o' hm)
/-- One block is written to. -/
theorem ZS.upd (h : ZS w0 ρ G w) {n : Nat} {o o' : AO} (hn : G n = some o) {p : Nat × Nat} (hp : ρ.blk n = some p) (hg : w.grownBy w' (some p.1)) (hl : ρ.le ρ') (hst : ∀ m i, m ≠ n → ρ'.stp m i = ρ.stp m i) (ho : OH ρ' n p.2 o' w'.heap[p.1]?) : ZS w0 ρ' (setG G n (some o')) w' where
  base := by
    refine h.base.trans ⟨hg.os, hg.tape, hg.output, hg.size, fun k hk => hg.block k (Nat.lt_of_lt_of_le hk h.base.size) fun e => ?_⟩
    injection e with e
    have := (h.lt hn hp).2
    omega
  all := fun m o₁ hm => by
    unfold setG at hm
    split at hm
    · rename_i he; subst he
      injection hm with hm; subst hm
      exact ⟨p, (hl.blk n p hp).1, (h.lt hn hp).2, ho⟩
    · rename_i hne
      obtain ⟨q, h1, h2, h3⟩ := h.all m o₁ hm
      refine ⟨q, (hl.blk m q h1).1, h2, ?_⟩
      rw [hg.block q.1 (h.lt hm h1).1 (fun e => by injection e with e; exact h.inj n m o o₁ p q hn hm hp h1 hne e.symm)]
      exact h3.mono hl (by rw [h1]; rfl) fun i => hst m i (fun e => hne e.symm)
  inj := fun a b o₁ o₂ pa pb ha hb hpa hpb hne => by
    have key : ∀ c o₃, setG G n (some o') c = some o₃ → ∃ o₄, G c = some o₄ := fun c o₃ hc => by
      unfold setG at hc
      split at hc
      · rename_i he; subst he; exact ⟨o, hn⟩
      · exact ⟨o₃, hc⟩
    obtain ⟨o₃, h3⟩ := key a o₁ ha
    obtain ⟨o₄, h4⟩ := key b o₂ hb
    obtain ⟨pa', e1, _⟩ := h.all a o₃ h3
    obtain ⟨pb', e2, _⟩ := h.all b o₄ h4
    have f1 := (hl.blk a pa' e1).1
    have f2 := (hl.blk b pb' e2).1
    rw [hpa] at f1; rw [hpb] at f2
    injection f1 with f1; injection f2 with f2
    subst f1; subst f2
    exact h.inj a b o₃ o₄ _ _ h3 h4 e1 e2 hne
/-- A name is laid. -/
def Env.lay (ρ : Env) (n : Nat) (p : Nat × Nat) (c : Nat) : Env := ⟨fun m => if m = n then some p else ρ.blk m, fun m => if m = n then c else ρ.cap m, fun m i => if m = n then none else ρ.stp m i⟩
theorem Env.lay_le {n c : Nat} {p : Nat × Nat} (hn : ρ.blk n = none) : ρ.le (ρ.lay n p c) := ⟨fun m q hm => by
    have : m ≠ n := fun e => by subst e; rw [hn] at hm; cases hm
    simp only [Env.lay, if_neg this]
    exact ⟨hm, trivial⟩, fun m i s hm h => by
    have : m ≠ n := fun e => by subst e; rw [hn] at hm; cases hm
    simp only [Env.lay, if_neg this]
    exact h⟩
theorem Env.lay_same (ρ : Env) (n c : Nat) (p : Nat × Nat) : (ρ.lay n p c).blk n = some p ∧ (ρ.lay n p c).cap n = c := by simp [Env.lay]
theorem Env.lay_ne (ρ : Env) {n c : Nat} {p : Nat × Nat} {m : Nat} (h : m ≠ n) : (ρ.lay n p c).blk m = ρ.blk m := by simp [Env.lay, h]
/-- A new block. -/
theorem ZS.new (h : ZS w0 ρ G w) {n c : Nat} {o : AO} (hn : ρ.blk n = none) (hb : Below w.heap.size w w') {b q : Nat} (hbs : w.heap.size ≤ b) (ho : OH (ρ.lay n (b, q) c) n q o w'.heap[b]?) : ZS w0 (ρ.lay n (b, q) c) (setG G n (some o)) w' where
  base := (h.grow hb).base
  all := fun m o₁ hm => by
    unfold setG at hm
    split at hm
    · rename_i he; subst he
      injection hm with hm; subst hm
      exact ⟨(b, q), (ρ.lay_same n c (b, q)).1, Nat.le_trans h.base.size hbs, ho⟩
    · rename_i hne
      obtain ⟨p, h1, h2, h3⟩ := (h.grow hb).all m o₁ hm
      refine ⟨p, by rw [ρ.lay_ne (fun e => hne e.symm)]; exact h1, h2, h3.mono (Env.lay_le hn) (by rw [h1]; rfl) fun i => if_neg fun e => hne e.symm⟩
  inj := fun x y o₁ o₂ px py hx hy hpx hpy hne => by
    unfold setG at hx hy
    split at hx
    · rename_i he; subst he
      split at hy
      · rename_i he; exact absurd he hne
      · rename_i hny
        rw [(ρ.lay_same _ c (b, q)).1] at hpx
        injection hpx with hpx; subst hpx
        rw [ρ.lay_ne (fun e => hny e.symm)] at hpy
        have := (h.lt hy hpy).1
        show b ≠ py.1
        omega
    · rename_i hnx
      rw [ρ.lay_ne (fun e => hnx e.symm)] at hpx
      split at hy
      · rename_i he; subst he
        rw [(ρ.lay_same _ c (b, q)).1] at hpy
        injection hpy with hpy; subst hpy
        have := (h.lt hx hpx).1
        show px.1 ≠ b
        omega
      · rename_i hny
        rw [ρ.lay_ne (fun e => hny e.symm)] at hpy
        exact h.inj x y o₁ o₂ px py hx hy hpx hpy hne
end
/-! ## Operations -/
theorem lgR_gt (s : Hp) (n : Nat) : (lgR s n).gt = s.gt ∧ (lgR s n).nx = s.nx ∧ (lgR s n).ba = s.ba := by
  rw [lgR_eq]; cases Nat.blt n s.ba <;> exact ⟨rfl, rfl, rfl⟩
theorem lgW_gt (s : Hp) (n : Nat) : (lgW s n).gt = s.gt ∧ (lgW s n).nx = s.nx ∧ (lgW s n).ba = s.ba := by
  rw [lgW_eq]; cases Nat.blt n s.ba <;> exact ⟨rfl, rfl, rfl⟩
theorem rdB_gt {n : Nat} {s s' : Hp} {o : AO} (h : rdB n s = .ok o s') : s.gt n = some o ∧ s'.gt = s.gt ∧ s'.nx = s.nx := by
  obtain ⟨h1, h2, rfl⟩ := rdB_ok h
  exact ⟨h2, (lgR_gt s n).1, (lgR_gt s n).2.1⟩
theorem wrB_gt {n : Nat} {x : Option AO} {s s' : Hp} {u : Unit} (h : wrB n x s = .ok u s') : (∃ o, s.gt n = some o) ∧ s'.gt = setG s.gt n x ∧ s'.nx = s.nx := by
  obtain ⟨h1, ⟨o, h2⟩, rfl⟩ := wrB_ok h
  refine ⟨⟨o, h2⟩, ?_, (lgW_gt _ n).2.1⟩
  rw [(lgW_gt _ n).1]
  funext m
  exact Hp.gt_put (gt_lt h2) x m
theorem nwB_gt {o : AO} {s s' : Hp} {n : Nat} (h : nwB o s = .ok n s') : n = s.nx ∧ s'.gt = setG s.gt s.nx (some o) ∧ s'.nx = s.nx + 1 := by
  obtain ⟨h1, rfl, rfl⟩ := nwB_ok h
  refine ⟨rfl, ?_, rfl⟩
  funext m
  exact Hp.gt_set h1 (some o) m
/-- Slots hold what they are said to hold. -/
def Sl (ρ : Env) (ts : TL) (a : Act) : Prop := ∀ t v, ts.look t = some v → a.tmps[t]? = some (cv ρ v) ∧ Dm ρ v
theorem evO_spec {ρ : Env} {ts : TL} {a : Act} (h : Sl ρ ts a) {x : Operand} {v : AV} (hx : evO ts x = some v) : a.eval x = cv ρ v ∧ Dm ρ v := by
  cases x with
  | tmp t =>
    obtain ⟨h1, h2⟩ := h t v hx
    exact ⟨by simp [Act.eval, Array.getD_eq_getD_getElem?, h1], h2⟩
  | const u =>
    obtain ⟨h1, h2⟩ := toA_spec hx ρ
    exact ⟨h1.symm, h2⟩
  | global g => cases hx
  | func f => injection hx with hx; subst hx; exact ⟨by simp [Act.eval, cv, cvL], by simp [Dm, DmL]⟩
theorem zvL_spec {ρ : Env} {ts : TL} {a : Act} (h : Sl ρ ts a) : ∀ {l : List Operand} {r : List AV}, zvL ts l = some r → l.map a.eval = cvL ρ r ∧ DmL ρ r
  | [], r, hr => by injection hr with hr; subst hr; simp [cvL, DmL]
  | x :: l, r, hr => by
    obtain ⟨v, r', h1, h2, rfl⟩ := zvL_cons hr
    obtain ⟨h3, h4⟩ := evO_spec h h1
    obtain ⟨h5, h6⟩ := zvL_spec h h2
    simp [cvL, DmL, h3, h4, h5, h6]
theorem Sl.mono {ρ ρ' : Env} {ts : TL} {a : Act} (h : Sl ρ ts a) (hl : ρ.le ρ') : Sl ρ' ts a := fun t v hv => by
  obtain ⟨h1, h2⟩ := h t v hv
  obtain ⟨h3, h4⟩ := cv_mono hl v h2
  exact ⟨by rw [h3]; exact h1, h4⟩
/-- What a run of one operation is right about. -/
def Ends (P : Program) (w0 : World) (ρ : Env) (s : Hp) (v : AV) (s' : Hp) (r : Result Next) : Prop :=
  upV P (fun v' w' => ∃ ρ', ρ.le ρ' ∧ (∀ n, n < s.nx ∨ s'.nx ≤ n → ρ'.blk n = ρ.blk n) ∧ v' = cv ρ' v ∧ Dm ρ' v ∧ ZS w0 ρ' s'.gt w') r
/-- One operation. -/
structure OpS (P : Program) (o : Oper) (m : TL → HM AV) : Prop where
  lm : ∀ ts, LM (m ts)
  ok : ∀ {ts s v s'}, m ts s = .ok v s' → ∀ {ρ a w w0}, (∀ n, s.nx ≤ n → n < s'.nx → ρ.blk n = none) → Sl ρ ts a → ZS w0 ρ s.gt w → Ends P w0 ρ s v s' ((execOp a.eval o).run P w)
/-- One that changes nothing. -/
theorem Ends.val {P : Program} {w0 w : World} {ρ : Env} {s s' : Hp} {v : AV} {r : Result Next} (hz : ZS w0 ρ s.gt w) (hg : s'.gt = s.gt) (hd : Dm ρ v) (hr : r = .ok (.value (cv ρ v)) w) : Ends P w0 ρ s v s' r := by
  subst hr
  exact ⟨ρ, Env.le.refl ρ, fun _ _ => rfl, rfl, hd, by rw [hg]; exact hz⟩
theorem Ends.new {P : Program} {w0 w w' : World} {ρ : Env} {s s' : Hp} {v : AV} {r : Result Next} {o : AO} {c q b : Nat} {f : Nat → AV} (hm : nwB o s = .ok s.nx s') (hz : ZS w0 ρ s.gt w) (hn : ρ.blk s.nx = none) (hb : Below w.heap.size w w') (hbs : w.heap.size ≤ b) (ho : OH (ρ.lay s.nx (b, q) c) s.nx q o w'.heap[b]?)
    (hv : Dm (ρ.lay s.nx (b, q) c) v) (hr : r = .ok (.value (cv (ρ.lay s.nx (b, q) c) v)) w') : Ends P w0 ρ s v s' r := by
  subst hr
  obtain ⟨_, h2, h3⟩ := nwB_gt hm
  refine ⟨_, Env.lay_le hn, fun n hx => ρ.lay_ne (by omega), rfl, hv, ?_⟩
  rw [h2]
  exact hz.new hn hb hbs ho
theorem hp_ok {α : Type} {a b : α} {s s' : Hp} (h : hp a s = .ok b s') : a = b ∧ s = s' := by
  injection h with h1 h2; exact ⟨h1, h2⟩
noncomputable def isB {β : Type} (v : AV) (f : Bool → HM β) : HM β := match v with
  | .b x => f x
  | _ => hn
noncomputable def zMove (x : Operand) (ts : TL) : HM AV := hO (evO ts x) hp
noncomputable def zPick (c x y : Operand) (ts : TL) : HM AV := hO (evO ts c) fun v => isB v fun b => hI b (hO (evO ts x) hp) (hO (evO ts y) hp)
noncomputable def zAlloc (tab : TT) (t : TypeId) : HM AV := hO (lookI tab t) fun i => hO (toAL i.zero) fun z => hb (nwB (.cs t z none)) fun n => hp (.p n 0)
def cellsA : AV → List AV
  | .g l => l
  | v => [v]
noncomputable def zBox (t : TypeId) (x : Operand) (ts : TL) : HM AV := hO (evO ts x) fun v => hb (nwB (.cs t (cellsA v) none)) fun n => hp (.p n 0)
noncomputable def zNilCheck (x : Operand) (ts : TL) : HM AV := hO (evO ts x) fun v => match v with
  | .p n off => hp (.p n off)
  | .f g us vs => hp (.f g us vs)
  | .y n => hp (.y n)
  | _ => hn
noncomputable def zExtract (x : Operand) (i : Nat) (ts : TL) : HM AV := hO (evO ts x) fun v => match v with
  | .t l => hO (nthL l i) hp
  | _ => hn
def zNot (op : UnOp) (v : AV) : Option AV := match op with
  | .not => match v with
    | .b x => some (.b (!x))
    | _ => none
  | .neg => match v with
    | .i k n => some (.i k (k.wrap (0 - n)))
    | _ => none
  | _ => none
noncomputable def zUn (op : UnOp) (x : Operand) (ts : TL) : HM AV := hO (evO ts x) fun v => hO (zNot op v) hp
noncomputable def zConv (tab : TT) (t u : TypeId) (x : Operand) (ts : TL) : HM AV := hO (evO ts x) fun v => match v with
  | .i _ n => hO (lookI tab t) fun _ => hO (lookI tab u) fun j => match j.d with
    | .int k => hp (.i k (wrK k n))
    | _ => hn
  | _ => hn
noncomputable def zMkFunc (fn : Fn) (xs ys : Array Operand) (ts : TL) : HM AV := match fn with
  | .func f => hO (zvL ts xs.toList) fun us => hO (zvL ts ys.toList) fun vs => hp (.f f us vs)
  | _ => hn
section
variable {P : Program} {tab : TT} {o : Oper}
theorem cellsA_cv (ρ : Env) (v : AV) : (cv ρ v).cells.toList = cvL ρ (cellsA v) ∧ (Dm ρ v → DmL ρ (cellsA v)) := by
  cases v <;> simp [cv, cellsA, Value.cells, cvL, DmL, Dm]
theorem ops_move {x : Operand} (hop : o.op = .move x) : OpS P o (zMove x) where
  lm := fun ts => by unfold zMove; (repeat (first | exact LM.pure _ | exact LM.fail | exact LM.read _ | exact LM.write _ _ | exact LM.new _ | assumption | refine LM.bind ?_ fun _ => ?_ | refine LM.opt fun _ => ?_ | refine LM.ite ?_ ?_ | split))
  ok := fun h ρ a w w0 hf hs hz => by
    obtain ⟨v, hv, h⟩ := hO_ok h
    obtain ⟨rfl, rfl⟩ := hp_ok h
    obtain ⟨h1, h2⟩ := evO_spec hs hv
    exact Ends.val hz rfl h2 (by simp [execOp, hop, h1])
theorem ops_assign {x : Operand} (hop : o.op = .assign x) : OpS P o (zMove x) where
  lm := fun ts => by unfold zMove; (repeat (first | exact LM.pure _ | exact LM.fail | exact LM.read _ | exact LM.write _ _ | exact LM.new _ | assumption | refine LM.bind ?_ fun _ => ?_ | refine LM.opt fun _ => ?_ | refine LM.ite ?_ ?_ | split))
  ok := fun h ρ a w w0 hf hs hz => by
    obtain ⟨v, hv, h⟩ := hO_ok h
    obtain ⟨rfl, rfl⟩ := hp_ok h
    obtain ⟨h1, h2⟩ := evO_spec hs hv
    exact Ends.val hz rfl h2 (by simp [execOp, hop, h1])
theorem isB_ok {β : Type} {v : AV} {f : Bool → HM β} {s s' : Hp} {r : β} (h : isB v f s = .ok r s') : ∃ b, v = .b b ∧ f b s = .ok r s' := by
  unfold isB at h
  split at h
  · exact ⟨_, rfl, h⟩
  · cases h
theorem ops_pick {c x y : Operand} (hop : o.op = .pick c x y) : OpS P o (zPick c x y) where
  lm := fun ts => by unfold zPick isB; (repeat (first | exact LM.pure _ | exact LM.fail | exact LM.read _ | exact LM.write _ _ | exact LM.new _ | assumption | refine LM.bind ?_ fun _ => ?_ | refine LM.opt fun _ => ?_ | refine LM.ite ?_ ?_ | split))
  ok := fun h ρ a w w0 hf hs hz => by
    obtain ⟨v, hv, h⟩ := hO_ok h
    obtain ⟨b, rfl, h⟩ := isB_ok h
    obtain ⟨h1, _⟩ := evO_spec hs hv
    cases b with
    | true =>
      obtain ⟨v, hv, h⟩ := hO_ok h
      obtain ⟨rfl, rfl⟩ := hp_ok h
      obtain ⟨h3, h4⟩ := evO_spec hs hv
      exact Ends.val hz rfl h4 (by simp [execOp, hop, h1, h3, cv, asBool])
    | false =>
      obtain ⟨v, hv, h⟩ := hO_ok h
      obtain ⟨rfl, rfl⟩ := hp_ok h
      obtain ⟨h3, h4⟩ := evO_spec hs hv
      exact Ends.val hz rfl h4 (by simp [execOp, hop, h1, h3, cv, asBool])
theorem cs_new {ρ : Env} {w : World} {n c : Nat} {t : TypeId} {l : List AV} {cs : List Value} (hn : ρ.blk n = none) (h1 : cvL ρ l = cs) (h2 : DmL ρ l) : OH (ρ.lay n (w.heap.size, 0) c) n 0 (.cs t l none) (w.alloc (.cells cs.toArray t)).heap[w.heap.size]? := by
  obtain ⟨h3, h4⟩ := cvL_mono (Env.lay_le (p := (w.heap.size, 0)) (c := c) hn) l h2
  refine ⟨[], [], rfl, ?_, h4, rfl⟩
  rw [h3, h1]
  have := Blk.new w t cs.toArray
  unfold Blk at this
  rw [this]; simp
theorem ops_alloc (hT : TabOk P tab) {t : TypeId} (hop : o.op = .alloc t) : OpS P o (fun _ => zAlloc tab t) where
  lm := fun ts => by unfold zAlloc; (repeat (first | exact LM.pure _ | exact LM.fail | exact LM.read _ | exact LM.write _ _ | exact LM.new _ | assumption | refine LM.bind ?_ fun _ => ?_ | refine LM.opt fun _ => ?_ | refine LM.ite ?_ ?_ | split))
  ok := fun {ts s v s'} h ρ a w w0 hf hs hz => by
    obtain ⟨i, hi, h⟩ := hO_ok h
    obtain ⟨z, hzz, h⟩ := hO_ok h
    obtain ⟨n, s1, hm, h⟩ := hb_ok h
    obtain ⟨rfl, rfl⟩ := hp_ok h
    obtain ⟨rfl, e2, e3⟩ := nwB_gt hm
    obtain ⟨z0, h1, h2⟩ := (hT t i hi).zv w
    obtain ⟨h3, h4⟩ := toAL_spec ρ hzz
    have hn := hf s.nx (Nat.le_refl _) (by omega)
    refine Ends.new (c := 0) (b := w.heap.size) (q := 0) (f := fun n => .p n 0) hm hz hn ((Below.refl _ _).alloc (Nat.le_refl _) (.cells i.zero.toArray t)) (Nat.le_refl _) (cs_new hn h3 h4) (by simp [Dm, Env.lay]) ?_
    simp [execOp, hop, Instr.alloc, h1, newVar, newRow, h2, cv, Env.at_, Env.lay]
end
def notTL : AV → Bool
  | .g _ => false
  | .t _ => false
  | _ => true
theorem notTL_spec {ρ : Env} {v : AV} (h : notTL v = true) : (cv ρ v).oneCell' = true := by
  cases v <;> first | rfl | cases h
def setManyA (l : List AV) : Nat → List AV → List AV
  | off, vs => match off with
    | 0 => match vs with
      | [] => l
      | v :: vs => match l with
        | [] => []
        | _ :: r => v :: setManyA r 0 vs
    | n + 1 => match l with
      | [] => []
      | x :: r => x :: setManyA r n vs
noncomputable def zLoad (i : TI) (v : AV) : HM AV := match v with
  | .p n off => hb (rdB n) fun o => match o with
    | .cs _ l _ => match rowD i.d with
      | true => hg (Nat.beq ((l.drop off).take i.size).length i.size) (hp (.g ((l.drop off).take i.size)))
      | false => hO (nthL l off) hp
    | _ => hn
  | _ => hn
noncomputable def zLd (tab : TT) (t : TypeId) (x : Operand) (ts : TL) : HM AV := hO (evO ts x) fun v => hO (lookI tab t) fun i => zLoad i v
noncomputable def zStore (i : TI) (v x : AV) : HM AV := match v with
  | .p n off => hg (Nat.beq (cellsA x).length i.size) (hg ((cellsA x).all notTL) (hb (rdB n) fun o => match o with
    | .cs t l op => hg (Nat.ble (off + (cellsA x).length) l.length) (hb (wrB n (some (.cs t (setManyA l off (cellsA x)) op))) fun _ => hp (.t []))
    | _ => hn))
  | _ => hn
noncomputable def zSt (tab : TT) (t : TypeId) (x y : Operand) (ts : TL) : HM AV := hO (evO ts x) fun v => hO (evO ts y) fun u => hO (lookI tab t) fun i => zStore i v u
noncomputable def zFA (tab : TT) (t : TypeId) (x : Operand) (f : Nat) (ts : TL) : HM AV := hO (evO ts x) fun v => match v with
  | .p n off => hO (lookI tab t) fun i => match i.d with
    | .st l => hO (nthL l f) fun p => hp (.p n (off + p.1))
    | _ => hn
  | _ => hn
noncomputable def zFld (tab : TT) (t : TypeId) (x : Operand) (f : Nat) (ts : TL) : HM AV := hO (evO ts x) fun v => match v with
  | .g cs => hO (lookI tab t) fun i => match i.d with
    | .st l => hO (nthL l f) fun p => hO (lookI tab p.2) fun j => match rowD j.d with
      | true => hp (.g ((cs.drop p.1).take j.size))
      | false => hO (nthL cs p.1) hp
    | _ => hn
  | _ => hn
/-- A number as a place below another one. -/
def zix (v : AV) (m : Nat) : Option Nat := match v with
  | .i _ p => match p with
    | .ofNat a => match Nat.blt a m with
      | true => some a
      | false => none
    | .negSucc _ => none
  | _ => none
noncomputable def zIA (tab : TT) (t : TypeId) (x y : Operand) (ts : TL) : HM AV := hO (evO ts x) fun v => hO (evO ts y) fun u => hO (lookI tab t) fun i => match i.d with
  | .sl e => hO (lookI tab e) fun j => match v with
    | .l n off len _ _ => hO (zix u len) fun a => hp (.p n (off + a * j.size))
    | _ => hn
  | .ar m e => hO (lookI tab e) fun j => match v with
    | .p n off => hO (zix u m) fun a => hp (.p n (off + a * j.size))
    | _ => hn
  | _ => hn
noncomputable def zIx (tab : TT) (t : TypeId) (x y : Operand) (ts : TL) : HM AV := hO (evO ts x) fun v => hO (evO ts y) fun u => hO (lookI tab t) fun i => match i.d with
  | .ar m e => hO (lookI tab e) fun j => match v with
    | .g cs => hO (zix u m) fun a => match rowD j.d with
      | true => hp (.g ((cs.drop (a * j.size)).take j.size))
      | false => hO (nthL cs (a * j.size)) hp
    | _ => hn
  | _ => hn
section
variable {P : Program} {tab : TT} {o : Oper}
theorem setManyA_spec (ρ : Env) : ∀ (off : Nat) (l vs : List AV), off + vs.length ≤ l.length → cvL ρ (setManyA l off vs) = setMany (cvL ρ l) off (cvL ρ vs) ∧ (DmL ρ l → DmL ρ vs → DmL ρ (setManyA l off vs)) ∧ (setManyA l off vs).length = l.length := by
  intro off
  induction off with
  | zero =>
    intro l vs
    induction vs generalizing l with
    | nil => intro _; cases l <;> simp [setManyA, setMany, cvL] <;> exact fun h _ => h
    | cons v vs ih =>
      intro h
      cases l with
      | nil => simp at h
      | cons x l =>
        obtain ⟨h1, h2, h3⟩ := ih l (by simp at h ⊢; omega)
        simp only [setManyA, setMany, cvL, DmL, h1]
        exact ⟨trivial, fun ⟨_, a⟩ ⟨b, c⟩ => ⟨b, h2 a c⟩, by simp [h3]⟩
  | succ off ih =>
    intro l vs h
    cases l with
    | nil => simp at h
    | cons x l =>
      obtain ⟨h1, h2, h3⟩ := ih l vs (by simp at h ⊢; omega)
      simp only [setManyA, cvL, DmL, h1]
      refine ⟨?_, fun ⟨a, b⟩ c => ⟨a, h2 b c⟩, by simp [h3]⟩
      cases vs with
      | nil => simp only [cvL, setMany_nil]
      | cons v vs => simp only [cvL, setMany]
theorem cvL_get (ρ : Env) (l : List AV) (j : Nat) : (cvL ρ l)[j]? = (l[j]?).map (cv ρ) := by rw [cvL_eq, List.getElem?_map]
theorem cvL_len (ρ : Env) (l : List AV) : (cvL ρ l).length = l.length := by rw [cvL_eq, List.length_map]
theorem DmL_get {ρ : Env} {l : List AV} (h : DmL ρ l) {j : Nat} {v : AV} (hj : l[j]? = some v) : Dm ρ v := (DmL_iff ρ l).1 h v (List.mem_of_getElem? hj)
theorem DmL_sub {ρ : Env} {l m : List AV} (h : DmL ρ l) (hs : ∀ v ∈ m, v ∈ l) : DmL ρ m := (DmL_iff ρ m).2 fun v hv => (DmL_iff ρ l).1 h v (hs v hv)
/-- What a named block's cells are. -/
theorem cs_cell {ρ : Env} {w : World} {n : Nat} {p : Nat × Nat} {t : TypeId} {l : List AV} {op : Option Nat} (hp : ρ.blk n = some p) (h : OH ρ n p.2 (.cs t l op) w.heap[p.1]?) {j : Nat} {v : AV} (hv : l[j]? = some v) : w.cell? (ρ.at_ n j) = some (cv ρ v) ∧ Dm ρ v := by
  obtain ⟨pre, rest, h1, h2, h3, _⟩ := h
  refine ⟨?_, DmL_get h3 hv⟩
  simp only [Env.at_, hp, Option.getD_some]
  rw [World.cell?]
  simp only [h2, Option.isSome_none, Bool.false_eq_true, if_false]
  have hj := (List.getElem?_eq_some_iff.1 hv).1
  rw [← h1]
  rw [List.getElem?_toArray, List.append_assoc, List.getElem?_append_right (by omega), Nat.add_sub_cancel_left, List.getElem?_append_left (by rw [cvL_len]; exact hj), cvL_get, hv]
  rfl
theorem ZS.at_ {w0 w : World} {ρ : Env} {G : GH} (h : ZS w0 ρ G w) {n : Nat} {o : AO} (hn : G n = some o) : ∃ p, ρ.blk n = some p ∧ w0.heap.size ≤ p.1 ∧ OH ρ n p.2 o w.heap[p.1]? := h.all n o hn
theorem zLoad_run {t : TypeId} {i : TI} (hI : TIok P t i) {w0 w : World} {ρ : Env} {s s' : Hp} {v r : AV} (hz : ZS w0 ρ s.gt w) (hv : Dm ρ v) (h : zLoad i v s = .ok r s') : s'.gt = s.gt ∧ Dm ρ r ∧ (Instr.loadAt t (cv ρ v)).run P w = .ok (cv ρ r) w := by
  unfold zLoad at h
  split at h
  · rename_i n off
    obtain ⟨o, s1, h1, h2⟩ := hb_ok h
    obtain ⟨g1, g2, g3⟩ := rdB_gt h1
    obtain ⟨p, hp, hb, ho⟩ := hz.at_ g1
    split at h2
    · rename_i l op
      have hat : (ρ.at_ n off) = ⟨p.1, p.2 + off, none⟩ := by simp [Env.at_, hp]
      cases hr : rowD i.d with
      | true =>
        simp only [hr] at h2
        obtain ⟨hl, h2⟩ := hg_ok h2
        obtain ⟨rfl, rfl⟩ := hp_ok h2
        have hl := Nat.eq_of_beq_eq_true hl
        have hd : DmL ρ l := by obtain ⟨_, _, _, _, h3, _⟩ := ho; exact h3
        refine ⟨g2, DmL_sub hd fun u hu => List.mem_of_mem_drop (List.mem_of_mem_take hu), ?_⟩
        have hra : w.rangeAt p.1 (p.2 + off) (cvL ρ ((l.drop off).take i.size)) := fun j u hu => by
          rw [cvL_get] at hu
          obtain ⟨y, hy, rfl⟩ := Option.map_eq_some_iff.1 hu
          have hy' : l[off + j]? = some y := by
            rw [List.getElem?_take] at hy
            split at hy
            · rw [List.getElem?_drop] at hy; exact hy
            · cases hy
          have := (cs_cell hp ho hy').1
          simpa [Env.at_, hp, Nat.add_assoc] using this
        simp only [Instr.loadAt, cv, hat, Instr.sureAddr, pure_bind]
        have := run_loadVar_rw (P := P) hI (by rw [← rowD_eq]; exact hr) (by rw [cvL_len]; exact hl) hra
        simpa using this
      | false =>
        simp only [hr] at h2
        obtain ⟨u, hu, h2⟩ := hO_ok h2
        obtain ⟨rfl, rfl⟩ := hp_ok h2
        rw [nthL_eq] at hu
        obtain ⟨h3, h4⟩ := cs_cell hp ho hu
        refine ⟨g2, h4, ?_⟩
        rw [hat] at h3
        simp only [Instr.loadAt, cv, hat, Instr.sureAddr, pure_bind]
        exact run_loadVar_sc (P := P) hI (by rw [← rowD_eq]; exact hr) h3
    · cases h2
  · cases h
theorem ops_load (hT : TabOk P tab) {t : TypeId} {x : Operand} (hop : o.op = .load t x) : OpS P o (zLd tab t x) where
  lm := fun ts => by unfold zLd zLoad; (repeat (first | exact LM.pure _ | exact LM.fail | exact LM.read _ | exact LM.write _ _ | exact LM.new _ | assumption | refine LM.bind ?_ fun _ => ?_ | refine LM.opt fun _ => ?_ | refine LM.ite ?_ ?_ | split))
  ok := fun h ρ a w w0 hf hs hz => by
    obtain ⟨v, hv, h⟩ := hO_ok h
    obtain ⟨i, hi, h⟩ := hO_ok h
    obtain ⟨h1, h2⟩ := evO_spec hs hv
    obtain ⟨h3, h4, h5⟩ := zLoad_run (hT t i hi) hz h2 h
    exact Ends.val hz h3 h4 (by simp [execOp, hop, h1, h5])
end
end Go.Proofs.YtiodmphhjgkgjaaGreat
