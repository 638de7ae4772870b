/- The state: slots and chunks of memory: lemmas for the rows of this seat. No conditions. -/
import Derived.RangeFuncFrom
import Derived.RangeFuncLeaves
import Derived.CallsIn
import Derived.TacticsIn
import Derived.OrdersIn
import Derived.Scope
import Derived.Test.YtiodmphhjgkgjaaGreatBase
set_option linter.all false
namespace Go.Proofs.YtiodmphhjgkgjaaGreat
open Go.RowKit
/-! ## The state: slots and chunks of memory -/
/-- Lay theorems by their runs: what a slot holds. -/
abbrev TS := List (Nat × Value)
def look : TS → Nat → Option Value
  | [], _ => none
  | (t, v) :: l, u => match Nat.beq t u with
    | true => some v
    | false => look l u
def evT (ts : TS) : Operand → Option Value
  | .tmp t => look ts t
  | .const v => some v
  | .global g => some (.pointer (some ⟨g, 0, none⟩))
  | .func f => some (.func (.func f) #[] #[])
def putT (ts : TS) : Option Tmp → Value → TS
  | some d, v => (d, v) :: ts
  | none, _ => ts

/-- What is said of one block of memory. -/
inductive Chunk where
  /-- cells to be read, from an offset on -/
  | row (b o : Nat) (cs : List Value)
  /-- a whole block of the call's own -/
  | blk (g : Nat) (t : TypeId) (cs : List Value)
  /-- a slice of the call's own, to be appended to -/
  | own (v : Value) (t : TypeId) (sz n : Nat) (xs : List Value)
  /-- a map of the call's own -/
  | map (r : Nat) (es : List (Value × Value))
  /-- any other object of the call's own -/
  | obj (b : Nat) (o : Obj)
  /-- an object of the call's own of which something is said -/
  | prd (b : Nat) (p : Option Obj → Prop)

def Chunk.at_ : Chunk → Option Nat
  | .row b _ _ => some b
  | .blk g _ _ => some g
  | .own v _ _ _ _ => v.ownBlock
  | .map r _ => some r
  | .obj b _ => some b
  | .prd b _ => some b
def Chunk.mut : Chunk → Bool
  | .row .. => false
  | _ => true
/-- A map's entries, whatever their order of birth. -/
def MapHas (o : Option Obj) (es : List (Value × Value)) : Prop :=
  ∃ arr clock, o = some (.map arr clock) ∧ arr.toList.map (fun e => (e.key, e.val)) = es ∧ (∀ e ∈ arr.toList, e.born < clock) ∧ (arr.toList.map (·.born)).Nodup
def Chunk.holds (B : Nat) (w : World) : Chunk → Prop
  | .row b o cs => b < w.heap.size ∧ ∀ j u, cs[j]? = some u → w.cell? ⟨b, o + j, none⟩ = some u
  | .blk g t cs => B ≤ g ∧ Blk w g t cs.toArray
  | .own v t sz n xs => w.ownsRow B t sz v n xs
  | .map r es => B ≤ r ∧ MapHas w.heap[r]? es
  | .obj b o => B ≤ b ∧ w.heap[b]? = some o
  | .prd b p => B ≤ b ∧ b < w.heap.size ∧ p w.heap[b]?

theorem Chunk.holds_lt {B : Nat} {w : World} {c : Chunk} (h : c.holds B w) {b : Nat} (hb : c.at_ = some b) : b < w.heap.size ∧ (c.mut = true → B ≤ b) := by
  cases c with
  | row b' o cs => simp only [Chunk.at_, Option.some.injEq] at hb; subst hb; exact ⟨h.1, fun h => by simp [Chunk.mut] at h⟩
  | blk g t cs => simp only [Chunk.at_, Option.some.injEq] at hb; subst hb; exact ⟨h.2.lt, fun _ => h.1⟩
  | own v t sz n xs => have := h.lt b hb; exact ⟨this.2, fun _ => this.1⟩
  | map r es =>
    simp only [Chunk.at_, Option.some.injEq] at hb; subst hb
    obtain ⟨h1, arr, cl, h2, _⟩ := h
    exact ⟨(Array.getElem?_eq_some_iff.1 h2).1, fun _ => h1⟩
  | obj b' o => simp only [Chunk.at_, Option.some.injEq] at hb; subst hb; exact ⟨(Array.getElem?_eq_some_iff.1 h.2).1, fun _ => h.1⟩
  | prd b' p => simp only [Chunk.at_, Option.some.injEq] at hb; subst hb; exact ⟨h.2.1, fun _ => h.1⟩

theorem Chunk.holds_of {B : Nat} {w w' : World} {c : Chunk} (h : c.holds B w) (hs : w.heap.size ≤ w'.heap.size) (hb : ∀ b, c.at_ = some b → w'.heap[b]? = w.heap[b]?) : c.holds B w' := by
  cases c with
  | row b o cs => exact ⟨Nat.lt_of_lt_of_le h.1 hs, fun j u hu => (World.cell?_of_block (a := ⟨b, o + j, none⟩) (hb b rfl)).trans (h.2 j u hu)⟩
  | blk g t cs => exact ⟨h.1, (hb g rfl).trans h.2⟩
  | own v t sz n xs =>
    refine ⟨h.1, ?_⟩
    rcases h.2 with h2 | ⟨g, cap, cur, rfl, h3, h4, r⟩
    · exact .inl h2
    · exact .inr ⟨g, cap, cur, rfl, h3, (hb g rfl).trans h4, r⟩
  | map r es => obtain ⟨h1, arr, cl, h2, r⟩ := h; exact ⟨h1, arr, cl, (hb _ rfl).trans h2, r⟩
  | obj b o => exact ⟨h.1, (hb b rfl).trans h.2⟩
  | prd b p => exact ⟨h.1, Nat.lt_of_lt_of_le h.2.1 hs, by rw [hb b rfl]; exact h.2.2⟩

def Chunk.apart (c d : Chunk) : Prop := (c.mut = true ∨ d.mut = true) → ∀ b, c.at_ = some b → d.at_ ≠ some b
theorem Chunk.apart_symm {c d : Chunk} (h : c.apart d) : d.apart c := fun hm b hb hc => h hm.symm b hc hb

/-- What is said of memory: it lies so; the call's own blocks lie apart; all that was there when the outermost call began is as it was. -/
structure St (w0 : World) (A : List Chunk) (w : World) : Prop where
  base : Below w0.heap.size w0 w
  all : ∀ c ∈ A, c.holds w0.heap.size w
  apart : A.Pairwise Chunk.apart

section
variable {w0 w w' : World} {A A' : List Chunk} {c c' : Chunk}
theorem St.nil (h : Below w0.heap.size w0 w) : St w0 [] w := ⟨h, by simp, .nil⟩
theorem St.grow (h : St w0 A w) (hb : Below w.heap.size w w') : St w0 A w' where
  base := h.base.trans (hb.mono h.base.size)
  all := fun c hc => Chunk.holds_of (h.all c hc) hb.size fun b hb' => hb.block b (Chunk.holds_lt (h.all c hc) hb').1
  apart := h.apart
theorem St.drew (h : St w0 A w) : St w0 A w.drew := h.grow (Below.refl _ _).drew
theorem St.sub (h : St w0 A w) (hs : A'.Sublist A) : St w0 A' w := ⟨h.base, fun c hc => h.all c (hs.subset hc), h.apart.sublist hs⟩
theorem St.perm (h : St w0 A w) (hs : A.Perm A') : St w0 A' w := ⟨h.base, fun c hc => h.all c (hs.mem_iff.2 hc), h.apart.perm hs Chunk.apart_symm⟩
theorem St.add (h : St w0 A w) (hb : Below w.heap.size w w') (hc : c.holds w0.heap.size w') (hn : ∀ b, c.at_ = some b → w.heap.size ≤ b) : St w0 (c :: A) w' where
  base := (h.grow hb).base
  all := fun d hd => by
    rcases List.mem_cons.1 hd with rfl | hd
    · exact hc
    · exact (h.grow hb).all d hd
  apart := .cons (fun d hd _ b hb hd' => by have := (Chunk.holds_lt (h.all d hd) hd').1; have := hn b hb; omega) h.apart
/-- One chunk of a list is another one. -/
inductive Upd (c c' : Chunk) : List Chunk → List Chunk → Prop
  | here {A : List Chunk} : Upd c c' (c :: A) (c' :: A)
  | there {d : Chunk} {A A' : List Chunk} : Upd c c' A A' → Upd c c' (d :: A) (d :: A')
theorem Upd.mem (h : Upd c c' A A') : c ∈ A := by
  induction h with
  | here => exact .head _
  | there _ ih => exact .tail _ ih
theorem Upd.mem' (h : Upd c c' A A') : ∀ d ∈ A', d = c' ∨ d ∈ A := by
  induction h with
  | here =>
    intro d hd
    rcases List.mem_cons.1 hd with rfl | hd
    · exact .inl rfl
    · exact .inr (.tail _ hd)
  | there _ ih =>
    intro d hd
    rcases List.mem_cons.1 hd with rfl | hd
    · exact .inr (.head _)
    · exact (ih d hd).imp id (.tail _)
/-- Every chunk of the new list but the new one lies apart from it. -/
theorem Upd.all (h : Upd c c' A A') {Ok : Chunk → Prop} (hp : A.Pairwise Chunk.apart) (ho : ∀ d ∈ A, d.apart c → Ok d) (hc : Ok c') : ∀ d ∈ A', Ok d := by
  induction h with
  | here =>
    intro d hd
    rcases List.mem_cons.1 hd with rfl | hd
    · exact hc
    · exact ho d (.tail _ hd) (Chunk.apart_symm ((List.pairwise_cons.1 hp).1 d hd))
  | there hu ih =>
    intro d hd
    rcases List.mem_cons.1 hd with rfl | hd
    · exact ho _ (.head _) ((List.pairwise_cons.1 hp).1 _ hu.mem)
    · exact ih (List.pairwise_cons.1 hp).2 (fun d hd => ho d (.tail _ hd)) d hd
theorem Upd.pair (h : Upd c c' A A') (hp : A.Pairwise Chunk.apart) (hc : ∀ d ∈ A, d.apart c → d.apart c') : A'.Pairwise Chunk.apart := by
  induction h with
  | here =>
    have h1 := List.pairwise_cons.1 hp
    exact .cons (fun d hd => Chunk.apart_symm (hc d (.tail _ hd) (Chunk.apart_symm (h1.1 d hd)))) h1.2
  | there hu ih =>
    have h1 := List.pairwise_cons.1 hp
    refine .cons (fun d hd => ?_) (ih h1.2 fun d hd => hc d (.tail _ hd))
    rcases hu.mem' d hd with rfl | hd
    · exact hc _ (.head _) (h1.1 _ hu.mem)
    · exact h1.1 d hd
/-- The call writes to one of its own blocks, or moves it to a new one. -/
theorem St.upd (h : St w0 A w) (hu : Upd c c' A A') (hm : c.mut = true) (hg : w.grownBy w' c.at_) (hc : c'.holds w0.heap.size w') (ha : ∀ b, c'.at_ = some b → c.at_ = some b ∨ w.heap.size ≤ b) : St w0 A' w' where
  base := by
    refine h.base.trans ⟨hg.os, hg.tape, hg.output, hg.size, fun k hk => hg.block k (Nat.lt_of_lt_of_le hk h.base.size) fun e => ?_⟩
    have := (Chunk.holds_lt (h.all c hu.mem) e.symm).2 hm
    omega
  all := hu.all h.apart (fun d hd hda => Chunk.holds_of (h.all d hd) hg.size fun b hb => hg.block b (Chunk.holds_lt (h.all d hd) hb).1 fun e => hda (.inr hm) b hb e.symm) hc
  apart := hu.pair h.apart fun d hd hda _ b hb hc' => by
    rcases ha b hc' with h1 | h1
    · exact hda (.inr hm) b hb h1
    · have := (Chunk.holds_lt (h.all d hd) hb).1; omega
end

/-- A frame's slots and memory, as far as they are told. -/
structure Hd (w0 : World) (n : Nat) (ds : List Deferred) (ts : TS) (A : List Chunk) (a : Act) (w : World) : Prop where
  size : a.tmps.size = n
  slots : ∀ t v, look ts t = some v → a.tmps[t]? = some v
  ds : a.defers = ds
  st : St w0 A w

section
variable {w0 w : World} {n : Nat} {ds : List Deferred} {ts : TS} {A : List Chunk} {a : Act}
theorem Hd.ev (h : Hd w0 n ds ts A a w) {x : Operand} {v : Value} (hx : evT ts x = some v) : a.eval x = v := by
  cases x with
  | tmp t =>
    have := h.slots t v hx
    simp [Act.eval, Array.getD_eq_getD_getElem?, this]
  | const u => simp only [evT, Option.some.injEq] at hx; exact hx
  | global g => simp only [evT, Option.some.injEq] at hx; exact hx
  | func f => simp only [evT, Option.some.injEq] at hx; exact hx
theorem Hd.put (h : Hd w0 n ds ts A a w) {dst : Option Tmp} (hd : ∀ d, dst = some d → d < n) (v : Value) : Hd w0 n ds (putT ts dst v) A (a.put dst v) w := by
  cases dst with
  | none => exact h
  | some d =>
    refine ⟨by simp [Act.put, h.size], fun t u hu => ?_, h.ds, h.st⟩
    simp only [putT, look] at hu
    split at hu
    · rename_i he
      obtain rfl : d = t := Nat.eq_of_beq_eq_true he
      cases hu
      have := hd d rfl
      simp [Act.put, h.size, this]
    · rename_i he
      have hne : d ≠ t := fun e => by subst e; simp at he
      simp only [Act.put]
      rw [Array.getElem?_setIfInBounds_ne hne]
      exact h.slots t u hu
theorem Hd.world (h : Hd w0 n ds ts A a w) {A' : List Chunk} {w' : World} (hs : St w0 A' w') : Hd w0 n ds ts A' a w' := ⟨h.size, h.slots, h.ds, hs⟩
end

/-- A guard, decided by what a slot holds. -/
def wantB (ops : List Oper) (ts : TS) (o : Oper) : Option Bool :=
  match o.guard with
  | none => some true
  | some (g, want) => match ops[g]? with
    | none => none
    | some og => match og.dst with
      | none => none
      | some d => match look ts d with
        | some (.bool b) => some (b == want)
        | _ => none
theorem wantB_spec {ops : List Oper} {ts : TS} {o : Oper} {b : Bool} {w0 w : World} {n : Nat} {ds : List Deferred} {A : List Chunk} {a : Act} (h : Hd w0 n ds ts A a w) (hw : wantB ops ts o = some b) :
    Region.wanted o (yielded ops.toArray a.tmps) = b := by
  unfold wantB at hw
  unfold Region.wanted
  cases hg : o.guard with
  | none => simp only [hg, Option.some.injEq] at hw; exact hw
  | some p =>
    obtain ⟨g, want⟩ := p
    simp only [hg] at hw
    simp only
    cases hop : ops[g]? with
    | none => simp [hop] at hw
    | some og =>
      simp only [hop] at hw
      cases hd : og.dst with
      | none => simp [hd] at hw
      | some d =>
        simp only [hd] at hw
        cases hl : look ts d with
        | none => simp [hl] at hw
        | some v =>
          rw [hl] at hw
          have := h.slots d v hl
          cases v <;> simp at hw
          subst hw
          simp [yielded, hop, hd, this]

/-! ## A region's operations -/
inductive Kind where
  | rd | cr | wr
  deriving DecidableEq

/-- No fence, in a function's frame or in a round's. -/
def fw (r : Option Nat) : Fence := { Fence.wide with round := r }
theorem callsIn_fw {r : Option Nat} {m : Nat} {P : Program} {f : FuncId} {args : Array Value} {w : World} {R : Ending → World → Prop} : CallsIn (fw r) m P f args w R ↔ Calls P f args w R :=
  callsIn_wide (n := m)
section
variable (P : Program) (w0 : World) (n : Nat) (ds : List Deferred) (ops : List Oper)
/-- What an operation's run yields. -/
def upV (R : Value → World → Prop) : Result Next → Prop
  | .ok (.value v) w' => R v w'
  | .ok .skip w' => R undef w'
  | .ok (.enter f args) w' => Calls P f args w' fun
      | .returned v, w'' => R v w''
      | _, _ => False
  | .ok (.round l f tmps assign body) w' => ∀ m, RoundIn (fw none) m P l f tmps assign body w' fun
      | .returned v, w'' => R v w''
      | _, _ => False
  | _ => False
/-- One operation, taken or passed over. -/
def wpV (o : Oper) (R : Value → World → Prop) (a : Act) (w : World) : Prop :=
  if Region.wanted o (yielded ops.toArray a.tmps) = true then upV P R ((execOp a.eval o).run P w) else R undef w
/-- An operation that yields a value and writes nothing that was there. -/
def Rd (o : Oper) (ts : TS) (A : List Chunk) (v : Value) : Prop :=
  ∀ a w, Hd w0 n ds ts A a w → wpV P ops o (fun v' w' => v' = v ∧ Below w.heap.size w w') a w
/-- An operation whose value or memory is new. -/
def Gn (k : Bool) (o : Oper) (ts : TS) (A : List Chunk) (N : Value → List Chunk → Prop) : Prop :=
  ∀ a w, Hd w0 n ds ts A a w → wpV P ops o (fun v w' => ∃ A', (k = true → Below w.heap.size w w') ∧ St w0 A' w' ∧ N v A') a w
def OT : List Oper → List Kind → TS → List Chunk → (TS → List Chunk → Prop) → Prop
  | [], _, ts, A, K => K ts A
  | o :: os, ks, ts, A, K => match ks.headD .wr with
    | .rd => ∃ v, Rd P w0 n ds ops o ts A v ∧ OT os ks.tail (putT ts o.dst v) A K
    | .cr => Gn P w0 n ds ops true o ts A fun v A' => OT os ks.tail (putT ts o.dst v) A' K
    | .wr => Gn P w0 n ds ops false o ts A fun v A' => OT os ks.tail (putT ts o.dst v) A' K
end

section
variable {P : Program} {w0 : World} {n : Nat} {ds : List Deferred} {ops : List Oper} {o : Oper} {os : List Oper} {ks : List Kind} {ts : TS} {A : List Chunk} {K : TS → List Chunk → Prop}
theorem upV_mono {R R' : Value → World → Prop} {r : Result Next} (h : upV P R r) (hR : ∀ v w, R v w → R' v w) : upV P R' r := by
  cases r with
  | ok nx w' =>
    cases nx <;> first
      | exact hR _ _ h
      | exact Calls.mono h fun e w'' he => by cases e <;> first | exact hR _ _ he | exact he.elim
      | exact fun m => RoundIn.mono (h m) fun e w'' he => by cases e <;> first | exact hR _ _ he | exact he.elim
      | exact h.elim
  | halt x w' => exact h.elim
theorem wpV_mono {R R' : Value → World → Prop} {a : Act} {w : World} (h : wpV P ops o R a w) (hR : ∀ v w, R v w → R' v w) : wpV P ops o R' a w := by
  unfold wpV at *
  split
  · rename_i hw; rw [if_pos hw] at h; exact upV_mono h hR
  · rename_i hw; rw [if_neg hw] at h; exact hR _ _ h
theorem upV_wp {r : Option Nat} {m : Nat} {R : Value → World → Prop} {a : Act} {w : World} {K : Act → World → Prop} {Q : Exit → Act → World → Prop} (hnd : ∀ c, o.op ≠ .defer c) (h : upV P R ((execOp a.eval o).run P w)) (hK : ∀ v w', R v w' → K (a.put o.dst v) w') : o.wpIn (fw r) m P a w K Q := by
  refine ⟨fun _ _ => trivial, ?_⟩
  rw [Oper.semAt_eq _ _ _ hnd]
  generalize (execOp a.eval o).run P w = q at *
  cases q with
  | ok nx w' =>
    cases nx <;> first
      | exact hK _ _ h
      | exact ⟨(fun h => by cases h), callsIn_fw.2 (Calls.mono h fun e w'' he => by cases e <;> first | exact hK _ _ he | exact he.elim)⟩
      | exact ⟨(fun h => by cases h), RoundIn.mono (h _) fun e w'' he => by cases e <;> first | exact hK _ _ he | exact he.elim⟩
      | exact h.elim
  | halt x w' => exact h.elim
theorem wpV_list {r : Option Nat} {m : Nat} {R : Value → World → Prop} {a : Act} {w : World} {Q : Exit → Act → World → Prop} (hnd : ∀ c, o.op ≠ .defer c) (h : wpV P ops o R a w) (hK : ∀ v w', R v w' → wpListIn (fw r) m P ops.toArray Q os (a.put o.dst v) w') : wpListIn (fw r) m P ops.toArray Q (o :: os) a w := by
  refine wpListIn_step fun K hK' => ?_
  unfold wpV at h
  split
  · rename_i hw; rw [if_pos hw] at h; exact upV_wp hnd h fun v w' hr => hK' _ _ (hK v w' hr)
  · rename_i hw; rw [if_neg hw] at h; exact ⟨fun _ _ => trivial, hK' _ _ (hK _ _ h)⟩
theorem wpV_op {r : Option Nat} {m : Nat} {i : Nat} {R : Value → World → Prop} {a : Act} {w : World} {Q : Exit → Act → World → Prop} {K : Act → World → Prop} (hnd : ∀ c, o.op ≠ .defer c) (hi : ops[i]? = some o) (h : wpV P ops o R a w) (hK : ∀ v w', R v w' → K (a.put o.dst v) w') : wpOpIn (fw r) m P ops.toArray Q i K a w := by
  unfold wpV at h
  unfold wpOpIn
  rw [show ops.toArray[i]? = some o from by simpa using hi]
  dsimp only
  split
  · rename_i hw; rw [if_pos hw] at h; exact upV_wp hnd h hK
  · rename_i hw; rw [if_neg hw] at h; exact ⟨fun _ _ => trivial, hK _ _ h⟩
/-- An operation does not look at what another one has just put. -/
theorem wpV_put {R : Value → World → Prop} {a : Act} {w : World} (d : Option Tmp) (u : Value) (hs : ∀ cs b, o.op ≠ .select cs b) (hd : ∀ t, d = some t → t ∉ o.looksAt ops.toArray) :
    wpV P ops o R (a.put d u) w ↔ wpV P ops o R a w := by
  unfold wpV
  rw [wanted_put o a d u hd, execOp_put o hs a d u hd]

theorem Rd.gn {k : Bool} {v : Value} {N : Value → List Chunk → Prop} (h : Rd P w0 n ds ops o ts A v) (hN : N v A) : Gn P w0 n ds ops k o ts A N :=
  fun a w hd => wpV_mono (h a w hd) fun v' w' ⟨h1, h2⟩ => ⟨A, fun _ => h2, hd.st.grow h2, h1 ▸ hN⟩
theorem Gn.wr {k : Bool} {N : Value → List Chunk → Prop} (h : Gn P w0 n ds ops k o ts A N) : Gn P w0 n ds ops false o ts A N :=
  fun a w hd => wpV_mono (h a w hd) fun v w' ⟨A', _, h3⟩ => ⟨A', (fun e => by cases e), h3⟩
theorem Gn.mono {k : Bool} {N N' : Value → List Chunk → Prop} (h : Gn P w0 n ds ops k o ts A N) (hN : ∀ v A', N v A' → N' v A') : Gn P w0 n ds ops k o ts A N' :=
  fun a w hd => wpV_mono (h a w hd) fun v w' ⟨A', h2, h3, h4⟩ => ⟨A', h2, h3, hN _ _ h4⟩
theorem ot_nil (h : K ts A) : OT P w0 n ds ops [] ks ts A K := h
theorem ot_rd {v : Value} (h : Rd P w0 n ds ops o ts A v) (hk : OT P w0 n ds ops os ks.tail (putT ts o.dst v) A K) : OT P w0 n ds ops (o :: os) ks ts A K := by
  unfold OT
  cases ks.headD .wr with
  | rd => exact ⟨v, h, hk⟩
  | cr => exact h.gn hk
  | wr => exact h.gn hk
theorem ot_cr (hh : ks.headD .wr ≠ .rd) (h : Gn P w0 n ds ops true o ts A fun v A' => OT P w0 n ds ops os ks.tail (putT ts o.dst v) A' K) : OT P w0 n ds ops (o :: os) ks ts A K := by
  unfold OT
  cases hk : ks.headD .wr with
  | rd => exact absurd hk hh
  | cr => exact h
  | wr => exact h.wr
theorem ot_wr (hh : ks.headD .wr = .wr) (h : Gn P w0 n ds ops false o ts A fun v A' => OT P w0 n ds ops os ks.tail (putT ts o.dst v) A' K) : OT P w0 n ds ops (o :: os) ks ts A K := by
  unfold OT
  rw [hh]
  exact h

/-- Every slot that is written is there; nothing is deferred. -/
def opOk (n : Nat) (o : Oper) : Bool := (match o.dst with
  | some d => Nat.blt d n
  | none => true) && (match o.op with
  | .defer _ => false
  | _ => true)
def dstOk (n : Nat) (ops : List Oper) : Bool := ops.all (opOk n)
theorem dstOk_spec (h : dstOk n ops = true) {o : Oper} (ho : o ∈ ops) : (∀ d, o.dst = some d → d < n) ∧ ∀ c, o.op ≠ .defer c := by
  have := List.all_eq_true.1 h o ho
  simp only [opOk, Bool.and_eq_true] at this
  refine ⟨fun d hd => ?_, fun c hc => ?_⟩
  · have h1 := this.1
    simp only [hd] at h1
    exact Nat.le_of_ble_eq_true h1
  · have h2 := this.2
    simp [hc] at h2

/-- The operations come one behind the other. -/
theorem ot_seq {r : Option Nat} {m : Nat} {Q : Exit → Act → World → Prop} : ∀ (l : List Oper), (∀ o ∈ l, (∀ d, o.dst = some d → d < n) ∧ ∀ c, o.op ≠ .defer c) → ∀ (ks : List Kind) (ts : TS) (A : List Chunk) (a : Act) (w : World), Hd w0 n ds ts A a w →
    OT P w0 n ds ops l ks ts A K → (∀ ts A a w, K ts A → Hd w0 n ds ts A a w → Q .normal a w) → wpListIn (fw r) m P ops.toArray Q l a w := by
  intro l
  induction l with
  | nil => exact fun _ _ ts A a w h hk hQ => hQ ts A a w hk h
  | cons o os ih =>
    intro hdst ks ts A a w h hk hQ
    have step : ∀ k, (Gn P w0 n ds ops k o ts A fun v A' => OT P w0 n ds ops os ks.tail (putT ts o.dst v) A' K) → wpListIn (fw r) m P ops.toArray Q (o :: os) a w := fun k hG =>
      wpV_list (hdst o (.head _)).2 (hG a w h) fun v w' ⟨A', _, hst, hk⟩ => ih (fun o ho => hdst o (.tail _ ho)) ks.tail _ _ _ _ ((h.world hst).put (hdst o (.head _)).1 v) hk hQ
    unfold OT at hk
    revert hk
    cases ks.headD .wr with
    | rd => exact fun ⟨v, hr, hk⟩ => step false (hr.gn hk)
    | cr => exact fun hk => step true hk
    | wr => exact fun hk => step false hk
end
/-! ## A region that draws its order -/
def nthO : List Oper → Nat → Oper
  | [], _ => default
  | o :: _, 0 => o
  | _ :: os, i + 1 => nthO os i
def pick (ops : List Oper) : List Nat → List Oper
  | [] => []
  | i :: π => nthO ops i :: pick ops π
theorem nthO_get {ops : List Oper} {i : Nat} (h : i < ops.length) : ops[i]? = some (nthO ops i) := by
  induction ops generalizing i with
  | nil => simp at h
  | cons o os ih =>
    cases i with
    | zero => rfl
    | succ i => simpa [nthO] using ih (by simpa using h)

def depB (D : List Nat) (i r : Nat) : Bool := (D.getD i 0).testBit r
/-- Whatever an operation is said to wait for it does wait for. -/
def certB (ops : List Oper) (D : List Nat) : Bool :=
  (List.range ops.length).all fun i => (List.range ops.length).all fun r =>
    !depB D i r || (nthO ops i).after.toList.any fun e => Region.binds .any e && Nat.blt e.on i && (e.on == r || depB D e.on r)
def ordB (ops : List Oper) (D : List Nat) : List Nat → List Nat → List Kind → Bool
  | _, [], _ => true
  | done, i :: t, ks =>
    Nat.blt i ops.length && !done.contains i &&
    ((nthO ops i).after.toList.all fun e => !Region.binds .any e || done.contains e.on) &&
    (done.all fun r => (nthO ops r).apart ops.toArray (nthO ops i) || depB D i r) &&
    (match ks.headD .wr with
      | .rd => true
      | .cr => t.all (depB D · i)
      | .wr => t.all (depB D · i) && done.all (depB D i ·)) &&
    ordB ops D (done ++ [i]) t ks.tail
/-- Whatever an operation waits for stands ahead of it. -/
def edgeB (ops : List Oper) : Bool := (List.range ops.length).all fun i => (nthO ops i).after.toList.all fun e => !Region.binds .any e || Nat.blt e.on i
def drawB (ops : List Oper) (π : List Nat) (ks : List Kind) : Bool :=
  let D := (Region.before ops.toArray).toList
  certB ops D && edgeB ops && Region.noSelect ops.toArray && (List.range ops.length).all π.contains && π.length == ops.length && ordB ops D [] π ks

theorem certB_spec {ops : List Oper} {D : List Nat} (h : certB ops D = true) {i r : Nat} (hi : i < ops.length) (hr : r < ops.length) (hd : depB D i r = true) :
    ∃ e ∈ (nthO ops i).after, Region.binds .any e = true ∧ e.on < i ∧ (e.on = r ∨ depB D e.on r = true) := by
  have h1 := List.all_eq_true.1 (List.all_eq_true.1 h i (List.mem_range.2 hi)) r (List.mem_range.2 hr)
  simp only [hd, Bool.not_true, Bool.false_or, List.any_eq_true] at h1
  obtain ⟨e, he, h2⟩ := h1
  simp only [Bool.and_eq_true, Bool.or_eq_true, beq_iff_eq] at h2
  exact ⟨e, by simpa using he, h2.1.1, Nat.le_of_ble_eq_true h2.1.2, h2.2⟩

/-- What is listed is closed under what it waits for. -/
def Closed (ops : List Oper) (listed : Array Bool) : Prop :=
  ∀ i, i < ops.length → listed.getD i false = true → ∀ e ∈ (nthO ops i).after, Region.binds .any e = true → listed.getD e.on false = true
theorem dep_listed {ops : List Oper} {D : List Nat} {listed : Array Bool} (hc : certB ops D = true) (hl : Closed ops listed) {r : Nat} (hr : r < ops.length) :
    ∀ i, i < ops.length → (∀ e ∈ (nthO ops i).after, Region.binds .any e = true → listed.getD e.on false = true) → depB D i r = true → listed.getD r false = true := by
  intro i
  induction i using Nat.strongRecOn with
  | _ i ih =>
    intro hi ha hd
    obtain ⟨e, he, hb, hlt, h⟩ := certB_spec hc hi hr hd
    rcases h with rfl | h
    · exact ha e he hb
    · exact ih e.on hlt (by omega) (hl e.on (by omega) (ha e he hb)) h

section
variable {P : Program} {w0 : World} {n : Nat} {ds : List Deferred} {ops : List Oper} {K : TS → List Chunk → Prop}
def puts (ops : List Oper) (a : Act) : List (Nat × Value) → Act
  | [] => a
  | (i, v) :: l => puts ops (a.put (nthO ops i).dst v) l
/-- Operations that wait to be taken: each yields its value in every world of a class, behind those ahead of it. -/
def PC (P : Program) (ops : List Oper) (C : World → Prop) (a : Act) : List (Nat × Value) → Prop
  | [] => True
  | (i, v) :: l => (∀ w, C w → wpV P ops (nthO ops i) (fun v' w' => v' = v ∧ Below w.heap.size w w') a w) ∧ PC P ops C (a.put (nthO ops i).dst v) l
theorem PC.mono {C C' : World → Prop} (hC : ∀ w, C' w → C w) : ∀ (l : List (Nat × Value)) (a : Act), PC P ops C a l → PC P ops C' a l
  | [], _, _ => trivial
  | (_, _) :: l, _, h => ⟨fun w hw => h.1 w (hC w hw), PC.mono hC l _ h.2⟩
theorem PC.snoc {C : World → Prop} {i : Nat} {v : Value} : ∀ (l : List (Nat × Value)) (a : Act), PC P ops C a l → (∀ w, C w → wpV P ops (nthO ops i) (fun v' w' => v' = v ∧ Below w.heap.size w w') (puts ops a l) w) → PC P ops C a (l ++ [(i, v)])
  | [], _, _, hi => ⟨hi, trivial⟩
  | (_, _) :: l, _, h, hi => ⟨h.1, PC.snoc l _ h.2 hi⟩
theorem puts_append (a : Act) (l m : List (Nat × Value)) : puts ops a (l ++ m) = puts ops (puts ops a l) m := by
  induction l generalizing a with
  | nil => rfl
  | cons p l ih => exact ih _
def apartL (ops : List Oper) (i : Nat) (l : List (Nat × Value)) : Prop := ∀ p ∈ l, (nthO ops p.1).apart ops.toArray (nthO ops i) = true
/-- What operations that lie apart from another one put may be put ahead or behind. -/
theorem puts_put {i : Nat} {u : Value} : ∀ (l : List (Nat × Value)) (a : Act), apartL ops i l → puts ops (a.put (nthO ops i).dst u) l = (puts ops a l).put (nthO ops i).dst u := by
  intro l
  induction l with
  | nil => exact fun _ _ => rfl
  | cons p l ih =>
    intro a h
    have h1 := Oper.apart_spec (h p (.head _))
    show puts ops ((a.put (nthO ops i).dst u).put (nthO ops p.1).dst p.2) l = _
    rw [← Act.put_comm a p.2 u h1.2.1]
    exact ih _ fun q hq => h q (.tail _ hq)
theorem wpV_puts {i : Nat} {R : Value → World → Prop} {w : World} (hs : ∀ (j : Nat) (o : Oper) cs b, ops.toArray[j]? = some o → o.op ≠ .select cs b) (hi : i < ops.length) : ∀ (l : List (Nat × Value)) (a : Act), apartL ops i l →
    (wpV P ops (nthO ops i) R (puts ops a l) w ↔ wpV P ops (nthO ops i) R a w) := by
  intro l
  induction l with
  | nil => exact fun _ _ => Iff.rfl
  | cons p l ih =>
    intro a h
    have h1 := Oper.apart_spec (h p (.head _))
    exact (ih _ fun q hq => h q (.tail _ hq)).trans (wpV_put _ _ (fun cs b => hs i _ cs b (by simpa using nthO_get hi)) h1.1)
theorem PC.put {C : World → Prop} {i : Nat} {u : Value} (hs : ∀ (j : Nat) (o : Oper) cs b, ops.toArray[j]? = some o → o.op ≠ .select cs b) : ∀ (l : List (Nat × Value)) (a : Act), (∀ p ∈ l, p.1 < ops.length) → apartL ops i l → PC P ops C a l → PC P ops C (a.put (nthO ops i).dst u) l := by
  intro l
  induction l with
  | nil => exact fun _ _ _ _ => trivial
  | cons p l ih =>
    intro a hlt h hp
    have h1 := Oper.apart_spec (h p (.head _))
    refine ⟨fun w hw => (wpV_put _ _ (fun cs b => hs p.1 _ cs b (by simpa using nthO_get (hlt p (.head _)))) h1.2.2).2 (hp.1 w hw), ?_⟩
    show PC P ops C ((a.put (nthO ops i).dst u).put (nthO ops p.1).dst p.2) l
    rw [← Act.put_comm a p.2 u h1.2.1]
    exact ih _ (fun q hq => hlt q (.tail _ hq)) (fun q hq => h q (.tail _ hq)) hp.2
/-- One of those that wait is taken. -/
theorem PC.take {C : World → Prop} {i : Nat} {u : Value} (hs : ∀ (j : Nat) (o : Oper) cs b, ops.toArray[j]? = some o → o.op ≠ .select cs b) (hi : i < ops.length) : ∀ (l m : List (Nat × Value)) (a : Act), (∀ p ∈ l, p.1 < ops.length) → apartL ops i l → PC P ops C a (l ++ (i, u) :: m) →
    (∀ w, C w → wpV P ops (nthO ops i) (fun v' w' => v' = u ∧ Below w.heap.size w w') a w) ∧ PC P ops C (a.put (nthO ops i).dst u) (l ++ m) := by
  intro l
  induction l with
  | nil => exact fun m a _ _ h => h
  | cons p l ih =>
    intro m a hlt h hp
    have h1 := Oper.apart_spec (h p (.head _))
    have h2 := ih m (a.put (nthO ops p.1).dst p.2) (fun q hq => hlt q (.tail _ hq)) (fun q hq => h q (.tail _ hq)) hp.2
    refine ⟨fun w hw => (wpV_put _ _ (fun cs b => hs i _ cs b (by simpa using nthO_get hi)) h1.1).1 (h2.1 w hw), ?_, ?_⟩
    · exact fun w hw => (wpV_put _ _ (fun cs b => hs p.1 _ cs b (by simpa using nthO_get (hlt p (.head _)))) h1.2.2).2 (hp.1 w hw)
    · show PC P ops C ((a.put (nthO ops i).dst u).put (nthO ops p.1).dst p.2) (l ++ m)
      rw [← Act.put_comm a p.2 u h1.2.1]
      exact h2.2

theorem getD_both' {listed : Array Bool} {i : Nat} (h : i < listed.size) : listed.getD i true = listed.getD i false := by
  simp [h]
structure DInv (P : Program) (w0 : World) (n : Nat) (ds : List Deferred) (ops : List Oper) (D : List Nat) (K : TS → List Chunk → Prop) (π : List Nat)
    (done todo : List Nat) (ks : List Kind) (pend : List (Nat × Value)) (C : World → Prop) (ts : TS) (A : List Chunk) (listed : Array Bool) (a : Act) : Prop where
  split : done ++ todo = π
  ord : ordB ops D done todo ks = true
  pair : done.Pairwise fun r i => (nthO ops r).apart ops.toArray (nthO ops i) = true ∨ depB D i r = true
  lt : ∀ i ∈ done, i < ops.length
  nodup : done.Nodup
  sub : (pend.map (·.1)).Sublist done
  size : listed.size = ops.length
  mem : ∀ i, i < ops.length → (listed.getD i false = true ↔ i ∈ done ∧ i ∉ pend.map (·.1))
  closed : Closed ops listed
  up : ∀ w w', C w → Below w.heap.size w w' → C w'
  pc : PC P ops C a pend
  hd : ∀ w, C w → Hd w0 n ds ts A (puts ops a pend) w
  ot : OT P w0 n ds ops (pick ops todo) ks ts A K

theorem ord_parts {D : List Nat} {done t : List Nat} {i : Nat} {ks : List Kind} (h : ordB ops D done (i :: t) ks = true) :
    i < ops.length ∧ i ∉ done ∧ (∀ e ∈ (nthO ops i).after, Region.binds .any e = true → e.on ∈ done) ∧ (∀ r ∈ done, (nthO ops r).apart ops.toArray (nthO ops i) = true ∨ depB D i r = true) ∧
    (ks.headD .wr ≠ .rd → ∀ j ∈ t, depB D j i = true) ∧ (ks.headD .wr = .wr → ∀ r ∈ done, depB D i r = true) ∧ ordB ops D (done ++ [i]) t ks.tail = true := by
  simp only [ordB, Bool.and_eq_true] at h
  obtain ⟨⟨⟨⟨⟨h1, h2⟩, h3⟩, h4⟩, h5⟩, h6⟩ := h
  refine ⟨Nat.le_of_ble_eq_true h1, by simpa using h2, fun e he hb => ?_, fun r hr => by simpa using List.all_eq_true.1 h4 r hr, fun hk j hj => ?_, fun hk r hr => ?_, h6⟩
  · have := List.all_eq_true.1 h3 e (by simpa using he)
    simpa [hb] using this
  · cases hks : ks.headD .wr with
    | rd => exact absurd hks hk
    | cr => rw [hks] at h5; exact List.all_eq_true.1 h5 j hj
    | wr => rw [hks] at h5; simp only [Bool.and_eq_true] at h5; exact List.all_eq_true.1 h5.1 j hj
  · rw [hk] at h5; simp only [Bool.and_eq_true] at h5; exact List.all_eq_true.1 h5.2 r hr

theorem pend_apart {D : List Nat} {done : List Nat} {listed : Array Bool} (hc : certB ops D = true) (hcl : Closed ops listed) (hlt : ∀ i ∈ done, i < ops.length) {pend : List (Nat × Value)} (hmem : ∀ p ∈ pend, p.1 ∈ done ∧ listed.getD p.1 false = false)
    {i : Nat} (hi : i < ops.length) (hready : ∀ e ∈ (nthO ops i).after, Region.binds .any e = true → listed.getD e.on false = true)
    (hp : ∀ p ∈ pend, (nthO ops p.1).apart ops.toArray (nthO ops i) = true ∨ depB D i p.1 = true) : apartL ops i pend := by
  intro p hp'
  rcases hp p hp' with h | h
  · exact h
  · have := dep_listed hc hcl (hlt _ (hmem p hp').1) i hi hready h
    rw [(hmem p hp').2] at this; cases this

theorem ready_ex {listed : Array Bool} (he : edgeB ops = true) (hl : listed.size = ops.length) : ∀ i, i < ops.length → listed.getD i false = false → Region.ready .any ops.toArray listed ≠ [] := by
  intro i
  induction i using Nat.strongRecOn with
  | _ i ih =>
    intro hi hun
    by_cases hall : ∀ e ∈ (nthO ops i).after, Region.binds .any e = true → listed.getD e.on false = true
    · refine List.ne_nil_of_mem (a := i) (mem_ready.2 ⟨by rw [getD_both' (by rw [hl]; exact hi)]; exact hun, nthO ops i, by simpa using nthO_get hi, hall⟩)
    · simp only [Classical.not_forall] at hall
      obtain ⟨e, h1, h2, h3⟩ := hall
      have hlt : e.on < i := by
        have := List.all_eq_true.1 (List.all_eq_true.1 he i (List.mem_range.2 hi)) e (by simpa using h1)
        rw [h2] at this
        simpa using this
      exact ih e.on hlt (by omega) (by simpa using h3)

theorem draw_inv {r : Option Nat} {mm : Nat} {D : List Nat} {π : List Nat} {Q : Exit → Act → World → Prop} (hc : certB ops D = true) (hed : edgeB ops = true) (hs : Region.noSelect ops.toArray = true) (hall : ∀ i, i < ops.length → i ∈ π) (hdst : ∀ o ∈ ops, (∀ d, o.dst = some d → d < n) ∧ ∀ c, o.op ≠ .defer c)
    (hQ : ∀ ts A a w, K ts A → Hd w0 n ds ts A a w → Q .normal a w) :
    ∀ (k fuel : Nat) (done todo : List Nat) (ks : List Kind) (pend : List (Nat × Value)) (C : World → Prop) (ts : TS) (A : List Chunk) (listed : Array Bool) (a : Act) (w : World),
      fuel + todo.length = k → fuel = pend.length + todo.length → DInv P w0 n ds ops D K π done todo ks pend C ts A listed a → C w → wpAnyIn (fw r) mm P .any ops.toArray Q fuel listed a w := by
  have hsel := Region.noSelect_spec hs
  intro k
  induction k using Nat.strongRecOn with
  | _ k ih =>
    intro fuel done todo ks pend C ts A listed a w hk hf inv hC
    have hcl := inv.closed
    have hmem : ∀ p ∈ pend, p.1 ∈ done ∧ listed.getD p.1 false = false := fun p hp => by
      have h1 : p.1 ∈ done := inv.sub.subset (List.mem_map.2 ⟨p, hp, rfl⟩)
      refine ⟨h1, ?_⟩
      cases h2 : listed.getD p.1 false with
      | false => rfl
      | true => exact absurd (List.mem_map.2 ⟨p, hp, rfl⟩) ((inv.mem _ (inv.lt _ h1)).1 h2).2
    have hdO : ∀ i, i < ops.length → ∀ d, (nthO ops i).dst = some d → d < n := fun i hi => (hdst _ (List.mem_of_getElem? (nthO_get hi))).1
    have hdN : ∀ i, i < ops.length → ∀ c, (nthO ops i).op ≠ .defer c := fun i hi => (hdst _ (List.mem_of_getElem? (nthO_get hi))).2
    -- what may be taken now
    have ready_mem : ∀ j ∈ Region.ready .any ops.toArray listed, j < ops.length ∧ listed.getD j false = false ∧ ∀ e ∈ (nthO ops j).after, Region.binds .any e = true → listed.getD e.on false = true := by
      intro j hj
      obtain ⟨h1, o, ho, h2⟩ := mem_ready.1 hj
      have hlt : j < ops.length := by simpa using (Array.getElem?_eq_some_iff.1 ho).1
      have : o = nthO ops j := Option.some.inj ((by simpa using ho : ops[j]? = some o).symm.trans (nthO_get hlt))
      subst this
      exact ⟨hlt, by rw [← getD_both' (by rw [inv.size]; exact hlt)]; exact h1, h2⟩
    -- one that waits is taken
    have takeP : ∀ i p1 p2 v, pend = p1 ++ (i, v) :: p2 → i ∈ Region.ready .any ops.toArray listed → ∀ f, fuel = f + 1 → wpOpIn (fw r) mm P ops.toArray Q i (wpAnyIn (fw r) mm P .any ops.toArray Q f (listed.setIfInBounds i true)) a w := by
      intro i p1 p2 v hpe hr f hfe
      obtain ⟨hilt, hun, hpre⟩ := ready_mem i hr
      have hsub := inv.sub
      rw [hpe, List.map_append, List.map_cons] at hsub
      have hpair := inv.pair.sublist hsub
      rw [List.pairwise_append] at hpair
      have hap : apartL ops i p1 := pend_apart hc hcl inv.lt (fun p hp => hmem p (by rw [hpe]; exact List.mem_append_left _ hp)) hilt hpre fun p hp => hpair.2.2 p.1 (List.mem_map.2 ⟨p, hp, rfl⟩) i (.head _)
      have hpc := inv.pc
      rw [hpe] at hpc
      obtain ⟨t1, t2⟩ := PC.take hsel hilt p1 p2 a (fun p hp => inv.lt _ (hmem p (by rw [hpe]; exact List.mem_append_left _ hp)).1) hap hpc
      have hnd : ((p1 ++ (i, v) :: p2).map (·.1)).Nodup := by rw [← hpe]; exact inv.nodup.sublist inv.sub
      rw [List.map_append, List.map_cons, List.nodup_append] at hnd
      have hni : i ∉ (p1 ++ p2).map (·.1) := by
        rw [List.map_append, List.mem_append]
        rintro (h | h)
        · exact hnd.2.2 i h i (.head _) rfl
        · exact (List.nodup_cons.1 hnd.2.1).1 h
      refine wpV_op (hdN _ hilt) (nthO_get hilt) (t1 w hC) fun v' w' ⟨hv, hb⟩ => ?_
      subst hv
      refine ih _ (by omega) f done todo ks (p1 ++ p2) C ts A _ _ w' rfl (by have h0 := hf; rw [hpe] at h0; simp at h0 ⊢; omega) ?_ (inv.up w w' hC hb)
      refine { inv with sub := ?_, size := by simp [inv.size], mem := fun j hj => ?_, closed := fun j hj hl e he hb => ?_, pc := t2, hd := fun x hx => ?_ }
      · exact List.Sublist.trans (by rw [List.map_append]; exact (List.sublist_cons_self _ _).append_left _) hsub
      · by_cases hji : j = i
        · subst hji
          simp only [hni, not_false_eq_true, and_true]
          have h1 : j ∈ done := hsub.subset (by simp)
          exact ⟨fun _ => h1, fun _ => by simp [inv.size, hilt]⟩
        · rw [getD_set_ne false (Ne.symm hji), inv.mem j hj, hpe]
          simp only [List.map_append, List.map_cons, List.mem_append, List.mem_cons, hji, false_or]
      · by_cases hji : j = i
        · subst hji; exact getD_set_true (hpre e he hb)
        · rw [getD_set_ne false (Ne.symm hji)] at hl
          exact getD_set_true (hcl j hj hl e he hb)
      · have := inv.hd x hx
        rw [hpe, puts_append] at this
        rw [puts_append, puts_put p1 a hap]
        exact this
    -- the last one but those
    match todo, inv, hk, hf with
    | [], inv, hk, hf =>
      cases fuel with
      | zero =>
        have hpe : pend = [] := List.eq_nil_of_length_eq_zero (by simp at hf; omega)
        subst hpe
        refine ⟨?_, hQ _ _ _ _ inv.ot (inv.hd w hC)⟩
        refine List.eq_nil_iff_forall_not_mem.2 fun j hj => ?_
        obtain ⟨h1, h2, _⟩ := ready_mem j hj
        have := (inv.mem j h1).2 ⟨by have := hall j h1; rw [← inv.split] at this; simpa using this, by simp⟩
        rw [h2] at this; cases this
      | succ f =>
        refine ⟨fun h0 => ?_, fun j hj => ?_⟩
        · exfalso
          cases hpe : pend with
          | nil => rw [hpe] at hf; simp at hf
          | cons p l =>
            have hp := hmem p (by rw [hpe]; exact .head _)
            exact ready_ex hed inv.size p.1 (inv.lt _ hp.1) hp.2 h0
        · obtain ⟨h1, h2, h3⟩ := ready_mem j hj
          have hjd : j ∈ done := by have := hall j h1; rw [← inv.split] at this; simpa using this
          have hjp : j ∈ pend.map (·.1) := Decidable.byContradiction fun hno => by
            have := (inv.mem j h1).2 ⟨hjd, hno⟩
            rw [h2] at this; cases this
          obtain ⟨⟨j', v⟩, hp, rfl⟩ := List.mem_map.1 hjp
          obtain ⟨p1, p2, hpe⟩ := List.append_of_mem hp
          exact takeP _ p1 p2 v hpe hj f rfl
    | i :: t, inv, hk, hf =>
      obtain ⟨hilt, hin, hpre, hap, hcr, hwr, hord⟩ := ord_parts inv.ord
      have hpairN : (done ++ [i]).Pairwise fun r i => (nthO ops r).apart ops.toArray (nthO ops i) = true ∨ depB D i r = true := by
        rw [List.pairwise_append]
        exact ⟨inv.pair, List.pairwise_singleton _ _, fun r hr j hj => by rw [List.mem_singleton] at hj; subst hj; exact hap r hr⟩
      have hltN : ∀ j ∈ done ++ [i], j < ops.length := fun j hj => by
        rcases List.mem_append.1 hj with h | h
        · exact inv.lt j h
        · rw [List.mem_singleton] at h; subst h; exact hilt
      have hndN : (done ++ [i]).Nodup := by
        rw [List.nodup_append]
        exact ⟨inv.nodup, by simp, fun x hx y hy => by rw [List.mem_singleton] at hy; subst hy; rintro rfl; exact hin hx⟩
      have hsplit : (done ++ [i]) ++ t = π := by rw [← inv.split]; simp
      have hot := inv.ot
      have hiP : i ∉ pend.map (·.1) := fun h => hin (inv.sub.subset h)
      by_cases hkd : ks.headD .wr = .rd
      · -- one more waits
        simp only [pick, OT, hkd] at hot
        obtain ⟨v, hr, hot⟩ := hot
        refine ih _ (by rw [← hk]; simp) fuel (done ++ [i]) t ks.tail (pend ++ [(i, v)]) C (putT ts (nthO ops i).dst v) A listed a w rfl (by rw [hf]; simp; omega) ?_ hC
        exact {
          split := hsplit
          ord := hord
          pair := hpairN
          lt := hltN
          nodup := hndN
          sub := by rw [List.map_append]; exact inv.sub.append (List.Sublist.refl _)
          size := inv.size
          mem := fun j hj => by
            rw [inv.mem j hj, List.map_append, List.mem_append, List.mem_append]
            constructor
            · rintro ⟨h1, h2⟩
              refine ⟨.inl h1, ?_⟩
              rintro (h | h)
              · exact h2 h
              · simp at h; subst h; exact hin h1
            · rintro ⟨h1 | h1, h2⟩
              · exact ⟨h1, fun h => h2 (.inl h)⟩
              · exact absurd (.inr (by simpa using h1)) h2
          closed := hcl
          up := inv.up
          pc := PC.snoc pend a inv.pc fun x hx => hr _ x (inv.hd x hx)
          hd := fun x hx => by
            rw [puts_append]
            exact (inv.hd x hx).put (hdO i hilt) v
          ot := hot }
      · have hG : ∃ kb, (ks.headD .wr = .cr → kb = true) ∧ Gn P w0 n ds ops kb (nthO ops i) ts A fun v A' => OT P w0 n ds ops (pick ops t) ks.tail (putT ts (nthO ops i).dst v) A' K := by
          simp only [pick, OT] at hot
          cases hks : ks.headD .wr with
          | rd => exact absurd hks hkd
          | cr => rw [hks] at hot; exact ⟨true, fun _ => rfl, hot⟩
          | wr => rw [hks] at hot; exact ⟨false, (fun h => by cases h), hot⟩
        obtain ⟨kb, hkb, hG⟩ := hG
        have hiun : listed.getD i false = false := by
          cases h : listed.getD i false with
          | false => rfl
          | true => exact absurd ((inv.mem i hilt).1 h).1 hin
        cases fuel with
        | zero => simp at hf
        | succ f =>
          refine ⟨fun h0 => absurd h0 (ready_ex hed inv.size i hilt hiun), fun j hj => ?_⟩
          obtain ⟨h1, h2, h3⟩ := ready_mem j hj
          by_cases hjp : j ∈ pend.map (·.1)
          · obtain ⟨⟨j', v⟩, hp, rfl⟩ := List.mem_map.1 hjp
            obtain ⟨p1, p2, hpe⟩ := List.append_of_mem hp
            exact takeP _ p1 p2 v hpe hj f rfl
          · have hjt : j ∈ i :: t := by
              have := hall j h1
              rw [← inv.split, List.mem_append] at this
              rcases this with h | h
              · have := (inv.mem j h1).2 ⟨h, hjp⟩
                rw [h2] at this; cases this
              · exact h
            rcases List.mem_cons.1 hjt with hji | hjt
            rotate_left
            · have := dep_listed hc hcl hilt j h1 h3 (hcr hkd j hjt)
              rw [hiun] at this; cases this
            · subst hji
              have hapL : apartL ops j pend := pend_apart hc hcl inv.lt hmem h1 h3 fun p hp => hap p.1 (hmem p hp).1
              have hG' := (wpV_puts hsel h1 pend a hapL).1 (hG _ w (inv.hd w hC))
              refine wpV_op (hdN _ h1) (nthO_get h1) hG' fun v w' ⟨A', hb, hst, hot'⟩ => ?_
              have hl : ∀ x, x < ops.length → ((listed.setIfInBounds j true).getD x false = true ↔ x ∈ done ++ [j] ∧ x ∉ pend.map (·.1)) := fun x hx => by
                by_cases hxj : x = j
                · subst hxj
                  exact ⟨fun _ => ⟨by simp, hiP⟩, fun _ => by simp [inv.size, hx]⟩
                · rw [getD_set_ne false (Ne.symm hxj), inv.mem x hx]
                  simp [hxj]
              have hclN : Closed ops (listed.setIfInBounds j true) := fun x hx hlx e he hbe => by
                by_cases hxj : x = j
                · subst hxj; exact getD_set_true (h3 e he hbe)
                · rw [getD_set_ne false (Ne.symm hxj)] at hlx
                  exact getD_set_true (hcl x hx hlx e he hbe)
              by_cases hks : ks.headD .wr = .cr
              · have hb := hb (hkb hks)
                refine ih _ (by rw [← hk]; simp; omega) f (done ++ [j]) t ks.tail pend (fun x => C x ∧ St w0 A' x) (putT ts (nthO ops j).dst v) A' _ _ w' rfl (by simp at hf; omega) ?_ ⟨inv.up w w' hC hb, hst⟩
                exact {
                  split := hsplit
                  ord := hord
                  pair := hpairN
                  lt := hltN
                  nodup := hndN
                  sub := inv.sub.trans (List.sublist_append_left _ _)
                  size := by simp [inv.size]
                  mem := hl
                  closed := hclN
                  up := fun x y hx hxy => ⟨inv.up x y hx.1 hxy, hx.2.grow hxy⟩
                  pc := PC.put hsel pend a (fun p hp => inv.lt _ (hmem p hp).1) hapL (PC.mono (fun x hx => hx.1) pend a inv.pc)
                  hd := fun x hx => by
                    rw [puts_put pend a hapL]
                    exact ((inv.hd x hx.1).world hx.2).put (hdO j h1) v
                  ot := hot' }
              · have hw' : ks.headD .wr = .wr := by
                  cases h : ks.headD .wr with
                  | rd => exact absurd h hkd
                  | cr => exact absurd h hks
                  | wr => rfl
                have hpe : pend = [] := by
                  cases hpe : pend with
                  | nil => rfl
                  | cons p l =>
                    have hp := hmem p (by rw [hpe]; exact .head _)
                    have := dep_listed hc hcl (inv.lt _ hp.1) j h1 h3 (hwr hw' p.1 hp.1)
                    rw [hp.2] at this; cases this
                subst hpe
                refine ih _ (by rw [← hk]; simp; omega) f (done ++ [j]) t ks.tail [] (fun x => St w0 A' x) (putT ts (nthO ops j).dst v) A' _ _ w' rfl (by simp at hf ⊢; omega) ?_ hst
                exact {
                  split := hsplit
                  ord := hord
                  pair := hpairN
                  lt := hltN
                  nodup := hndN
                  sub := by simp
                  size := by simp [inv.size]
                  mem := hl
                  closed := hclN
                  up := fun x y hx hxy => hx.grow hxy
                  pc := trivial
                  hd := fun x hx => ((inv.hd w hC).world hx).put (hdO j h1) v
                  ot := hot' }
end
/-! ## Code -/
section
variable {F : Fence} {m : Nat} {P : Program} {b : Frame} {a : Act} {k : List Item} {cs : List Frame} {w : World} {Q : Exit → Act → World → Prop}
theorem wpIn_loop_ghost {c : Code} (I : Nat → Act → World → Prop) (n₀ : Nat) (h₀ : I n₀ a w)
    (round : ∀ n a w, I n a w → c.wpIn F m P (Exit.then (fun a' w' => ∃ n', n' < n ∧ I n' a' w') Q) a w) : (Code.loop c).wpIn F m P Q a w := by
  refine wpIn_loop (fun a w => ∃ n, I n a w) (fun a w => Go.leastOf (fun n => I n a w)) ⟨n₀, h₀⟩ ?_
  intro a w hI
  refine wpIn_mono (round _ a w (leastOf_spec hI).1) ?_
  intro e a' w' hq
  cases e with
  | normal =>
    obtain ⟨n', hlt, hI'⟩ := hq
    exact show (∃ n, I n a' w') ∧ Go.leastOf (fun n => I n a' w') < Go.leastOf (fun n => I n a w) from ⟨⟨n', hI'⟩, Nat.lt_of_le_of_lt ((leastOf_spec ⟨n', hI'⟩).2 n' hI') hlt⟩
  | _ => exact hq
theorem stepR_scope {c : Code} : step P (lone (b.atR a (.code (.scope c) :: k)) cs w) = .next (lone (b.atR a (.code c :: .inScope c :: k)) cs w) :=
  step_lone_go (by simp [stepG, stepG.exec, Frame.atR])
theorem stepR_inScope {c : Code} : step P (lone (b.atR a (.inScope c :: k)) cs w) = .next (lone (b.atR a k) cs w) :=
  step_lone_go (by simp [stepG, stepG.exec, Frame.atR])
theorem wpIn_scope_straight {c : Code} (h : c.wpIn F m P (Exit.noGoto Q) a w) : (Code.scope c).wpIn F m P Q a w := by
  intro b k cs hro hb hr
  have h0 : (lone (b.atR a (.code (.scope c) :: k)) cs w).fenced P F := fenced_calm hb hr rfl
  obtain ⟨e, a₁, w₁, hq, harr⟩ := h b (.inScope c :: k) cs hro hb hr
  cases e with
  | normal => exact ⟨.normal, a₁, w₁, hq, .head h0 stepR_scope (StepsIn.trans harr (.one (fenced_calm hb hr rfl) stepR_inScope))⟩
  | exit id =>
    have hx : exitTo id (.inScope c :: k) = exitTo id k := by simp [exitTo]
    exact ⟨.exit id, a₁, w₁, hq, fun k' hk => .head h0 stepR_scope (harr.1 k' (by rw [hx]; exact hk)), fun hr' hk => let ⟨k₁, h1, h2⟩ := harr.2 hr' (by rw [hx]; exact hk); ⟨k₁, h1, .head h0 stepR_scope h2⟩⟩
  | goto l => exact hq.elim
  | ret => exact ⟨_, a₁, w₁, hq, .of_steps (.one h0 stepR_scope) harr⟩
  | panic ch => exact ⟨_, a₁, w₁, hq, .of_steps (.one h0 stepR_scope) harr⟩
  | outgrown => exact ⟨_, a₁, w₁, hq, .of_steps (b := b) (k := k) (cs := cs) (e := .outgrown) (.one h0 stepR_scope) harr⟩
end
abbrev PostT := Exit → List Deferred → TS → List Chunk → Prop
def QX (w0 : World) (n : Nat) (Q : PostT) : Exit → Act → World → Prop := fun e a w => ∃ ds ts A, Q e ds ts A ∧ Hd w0 n ds ts A a w
def Tr (P : Program) (r : Option Nat) (w0 : World) (n : Nat) (c : Code) (ds : List Deferred) (ts : TS) (A : List Chunk) (Q : PostT) : Prop :=
  ∀ m a w, Hd w0 n ds ts A a w → c.wpIn (fw r) m P (QX w0 n Q) a w
section
variable {P : Program} {r : Option Nat} {w0 : World} {n : Nat} {ds : List Deferred} {ts : TS} {A : List Chunk} {Q : PostT}
theorem tr_region_seq {id : Nat} {l : List Oper} (hd : dstOk n l = true) (h : OT P w0 n ds l l [] ts A fun ts A => Q .normal ds ts A) : Tr P r w0 n (.region id l.toArray false) ds ts A Q :=
  fun m a w hh => wpIn_region_lit (ot_seq l (fun o ho => dstOk_spec hd ho) [] ts A a w hh h fun ts A a w hq hh => ⟨ds, ts, A, hq, hh⟩)
theorem tr_region_draw {id : Nat} {l : List Oper} (hm : P.follows .mixedOrders = true) (π : List Nat) (ks : List Kind) (hd : dstOk n l = true) (hb : drawB l π ks = true)
    (h : OT P w0 n ds l (pick l π) ks ts A fun ts A => Q .normal ds ts A) : Tr P r w0 n (.region id l.toArray true) ds ts A Q := fun m a w hh => by
  simp only [drawB, Bool.and_eq_true] at hb
  obtain ⟨⟨⟨⟨⟨h1, h2⟩, h3⟩, h4⟩, h5⟩, h6⟩ := hb
  have hall : ∀ i, i < l.length → i ∈ π := fun i hi => by
    have := List.all_eq_true.1 h4 i (List.mem_range.2 hi)
    simpa using this
  refine wpIn_region_any hm ?_
  have hlen : l.toArray.size = π.length := by simp at h5 ⊢; omega
  rw [hlen]
  refine draw_inv (D := (Region.before l.toArray).toList) (π := π) (K := fun ts A => Q .normal ds ts A) h1 h2 h3 hall (fun o ho => dstOk_spec hd ho) (fun ts A a w hq hh => ⟨ds, ts, A, hq, hh⟩) _ π.length [] π ks [] (St w0 A) ts A _ a _ rfl (by simp) ?_ hh.st.drew
  exact {
    split := rfl
    ord := h6
    pair := .nil
    lt := by simp
    nodup := .nil
    sub := .slnil
    size := by simp [← hlen]
    mem := fun i hi => by simp [← hlen, hi]
    closed := fun i hi hl => by
      have : (Array.replicate π.length false).getD i false = false := by
        simp [← hlen, hi]
      rw [this] at hl; cases hl
    up := fun w w' hs hb => hs.grow hb
    pc := trivial
    hd := fun x hx => hh.world hx
    ot := h }

def thenQ (K : List Deferred → TS → List Chunk → Prop) (Q : PostT) : PostT := fun e ds ts A => match e with
  | .normal => K ds ts A
  | e => Q e ds ts A
theorem tr_mono {c : Code} {Q' : PostT} (h : Tr P r w0 n c ds ts A Q) (hq : ∀ e ds ts A, Q e ds ts A → Q' e ds ts A) : Tr P r w0 n c ds ts A Q' :=
  fun m a w hh => wpIn_mono (h m a w hh) fun e a w ⟨ds, ts, A, q, hd⟩ => ⟨ds, ts, A, hq _ _ _ _ q, hd⟩
theorem tr_skip (h : Q .normal ds ts A) : Tr P r w0 n .skip ds ts A Q := fun m a w hh => wpIn_skip ⟨ds, ts, A, h, hh⟩
theorem tr_label {l : Nat} (h : Q .normal ds ts A) : Tr P r w0 n (.label l) ds ts A Q := fun m a w hh => wpIn_label ⟨ds, ts, A, h, hh⟩
theorem tr_exit {i : Nat} (h : Q (.exit i) ds ts A) : Tr P r w0 n (.exit i) ds ts A Q := fun m a w hh => wpIn_exit ⟨ds, ts, A, h, hh⟩
theorem tr_goto {i : Nat} (h : Q (.goto i) ds ts A) : Tr P r w0 n (.goto i) ds ts A Q := fun m a w hh => wpIn_goto ⟨ds, ts, A, h, hh⟩
theorem tr_ret (h : Q .ret ds ts A) : Tr P r w0 n .ret ds ts A Q := fun m a w hh => wpIn_ret ⟨ds, ts, A, h, hh⟩
theorem tr_seq {x y : Code} (h : Tr P r w0 n x ds ts A (thenQ (fun ds ts A => Tr P r w0 n y ds ts A Q) Q)) : Tr P r w0 n (.seq x y) ds ts A Q :=
  fun m a w hh => wpIn_seq (wpIn_mono (h m a w hh) fun e a w ⟨ds, ts, A, q, hd⟩ => by
    cases e with
    | normal => exact q m a w hd
    | _ => exact ⟨ds, ts, A, q, hd⟩)
theorem tr_cond {c : Operand} {x y : Code} {b : Bool} (hc : evT ts c = some (.bool b)) (ht : b = true → Tr P r w0 n x ds ts A Q) (hf : b = false → Tr P r w0 n y ds ts A Q) : Tr P r w0 n (.cond c x y) ds ts A Q :=
  fun m a w hh => wpIn_cond_split (hh.ev hc) (fun e => ht e m a w hh) fun e => hf e m a w hh
def blockQ (i : Nat) (Q : PostT) : PostT := fun e ds ts A => match e with
  | .exit j => match Nat.beq j i with
    | true => Q .normal ds ts A
    | false => Q (.exit j) ds ts A
  | e => Q e ds ts A
theorem tr_block {i : Nat} {c : Code} (h : Tr P r w0 n c ds ts A (blockQ i Q)) : Tr P r w0 n (.block i c) ds ts A Q :=
  fun m a w hh => wpIn_block (wpIn_mono (h m a w hh) fun e a w ⟨ds, ts, A, q, hd⟩ => by
    cases e with
    | exit j =>
      simp only [blockQ] at q
      simp only [Exit.inBlock]
      by_cases hj : j = i
      · subst hj
        rw [if_pos rfl]
        rw [show Nat.beq j j = true from Nat.beq_refl j] at q
        exact ⟨ds, ts, A, q, hd⟩
      · rw [if_neg hj]
        rw [show Nat.beq j i = false from by
          cases h : Nat.beq j i
          · rfl
          · exact absurd (Nat.eq_of_beq_eq_true h) hj] at q
        exact ⟨ds, ts, A, q, hd⟩
    | _ => exact ⟨ds, ts, A, q, hd⟩)
def scopeQ (Q : PostT) : PostT := fun e ds ts A => match e with
  | .goto _ => False
  | e => Q e ds ts A
theorem tr_scope {c : Code} (h : Tr P r w0 n c ds ts A (scopeQ Q)) : Tr P r w0 n (.scope c) ds ts A Q :=
  fun m a w hh => wpIn_scope_straight (wpIn_mono (h m a w hh) fun e a w ⟨ds, ts, A, q, hd⟩ => by
    cases e with
    | goto _ => exact q.elim
    | _ => exact ⟨ds, ts, A, q, hd⟩)

/-! ### Less is told -/
def subT : TS → TS → Prop
  | [], _ => True
  | (t, v) :: l, ts => look ts t = some v ∧ subT l ts
theorem subT_spec {l ts : TS} (h : subT l ts) : ∀ t v, look l t = some v → look ts t = some v := by
  induction l with
  | nil => intro t v hv; cases hv
  | cons p l ih =>
    obtain ⟨u, x⟩ := p
    intro t v hv
    simp only [look] at hv
    split at hv
    · rename_i he
      obtain rfl : u = t := Nat.eq_of_beq_eq_true he
      cases hv
      exact h.1
    · exact ih h.2 t v hv
theorem Hd.weak {a : Act} {w : World} {l : TS} {B : List Chunk} (h : Hd w0 n ds ts A a w) (hl : subT l ts) (hB : B.Sublist A) : Hd w0 n ds l B a w :=
  ⟨h.size, fun t v hv => h.slots t v (subT_spec hl t v hv), h.ds, h.st.sub hB⟩
theorem tr_weak {c : Code} {l : TS} {B : List Chunk} (hl : subT l ts) (hB : B.Sublist A) (h : Tr P r w0 n c ds l B Q) : Tr P r w0 n c ds ts A Q :=
  fun m a w hh => h m a w (hh.weak hl hB)
theorem tr_perm {c : Code} {B : List Chunk} (hB : A.Perm B) (h : Tr P r w0 n c ds ts B Q) : Tr P r w0 n c ds ts A Q :=
  fun m a w hh => h m a w ⟨hh.size, hh.slots, hh.ds, hh.st.perm hB⟩
/-- A fact that memory gives. -/
theorem tr_fact {c : Code} {p : Prop} (hp : ∀ w, St w0 A w → p) (h : p → Tr P r w0 n c ds ts A Q) : Tr P r w0 n c ds ts A Q :=
  fun m a w hh => h (hp w hh.st) m a w hh
theorem tr_st {c : Code} {B : List Chunk} (hp : ∀ w, St w0 A w → St w0 B w) (h : Tr P r w0 n c ds ts B Q) : Tr P r w0 n c ds ts A Q :=
  fun m a w hh => h m a w (hh.world (hp w hh.st))

/-! ### Loops -/
/-- A round hands on the relation, at a lesser number. -/
def Rnd (I : Nat → List Deferred → TS → List Chunk → Prop) (g : Nat) (ds : List Deferred) (ts : TS) (A : List Chunk) : Prop := ∃ g' l B, g' < g ∧ subT l ts ∧ B.Sublist A ∧ I g' ds l B
theorem tr_loop {c : Code} (I : Nat → List Deferred → TS → List Chunk → Prop) (g0 : Nat) {l : TS} {B : List Chunk} (hl : subT l ts) (hB : B.Sublist A) (h0 : I g0 ds l B)
    (round : ∀ g ds ts A, I g ds ts A → Tr P r w0 n c ds ts A (thenQ (Rnd I g) Q)) : Tr P r w0 n (.loop c) ds ts A Q := fun m a w hh =>
  wpIn_loop_ghost (fun g a w => ∃ ds l B, I g ds l B ∧ Hd w0 n ds l B a w) g0 ⟨ds, l, B, h0, hh.weak hl hB⟩ fun g a w ⟨ds1, l, B, hI, hd⟩ => wpIn_mono (round g ds1 l B hI m a w hd) fun e a w ⟨ds', ts, A, q, hd2⟩ => by
    cases e with
    | normal =>
      obtain ⟨g', l, B, h1, h2, h3, h4⟩ := q
      exact ⟨g', h1, ds', l, B, h4, hd2.weak h2 h3⟩
    | _ => exact ⟨ds', ts, A, q, hd2⟩
/-! ### A function -/
def argT : Nat → List Value → TS
  | _, [] => []
  | i, v :: l => (i, v) :: argT (i + 1) l
theorem argT_spec : ∀ (l : List Value) (i t : Nat) (v : Value), look (argT i l) t = some v → i ≤ t ∧ l[t - i]? = some v := by
  intro l
  induction l with
  | nil => intro i t v h; cases h
  | cons x l ih =>
    intro i t v h
    simp only [argT, look] at h
    split at h
    · rename_i he
      obtain rfl : i = t := Nat.eq_of_beq_eq_true he
      cases h
      exact ⟨Nat.le_refl _, by simp⟩
    · obtain ⟨h1, h2⟩ := ih (i + 1) t v h
      refine ⟨by omega, ?_⟩
      rw [show t - i = (t - (i + 1)) + 1 from by omega]
      simpa using h2
/-- The marks of ranges over functions are taken, the results read. -/
def LeaveOK (P : Program) (w0 : World) (n : Nat) (fn : Func) (R : Ending → World → Prop) : List Deferred → TS → List Chunk → Prop
  | [], ts, A => ∀ a w, Hd w0 n [] ts A a w → ∃ v, (results fn a.tmps).run P w = .ok v w ∧ R (.returned v) w
  | d :: ds, ts, A => ∃ D A', d = { target := .collected D, args := #[] } ∧ Upd (.obj D (.deferred (some []))) (.obj D (.deferred none)) A A' ∧ LeaveOK P w0 n fn R ds ts A'
/-- What a function hands back. -/
def RetOK (P : Program) (w0 : World) (n : Nat) (fn : Func) (R : Ending → World → Prop) : PostT := fun e ds ts A =>
  (e = .normal ∨ e = .ret) ∧ LeaveOK P w0 n fn R ds ts A
theorem leave_ok {fn : Func} {R : Ending → World → Prop} {m : Nat} : ∀ (ds : List Deferred) (ts : TS) (A : List Chunk) (a : Act) (w : World) (e : Deferred), LeaveOK P w0 n fn R ds ts A → Hd w0 n a.defers ts A a w →
    LeavesInM (fw none) m P fn a.tmps R ds .returning w := by
  intro ds
  induction ds with
  | nil =>
    intro ts A a w _ h hh
    obtain ⟨v, h1, h2⟩ := h { a with defers := [] } w ⟨hh.size, hh.slots, rfl, hh.st⟩
    exact ⟨v, h1, h2⟩
  | cons d ds ih =>
    intro ts A a w e h hh
    obtain ⟨D, A', rfl, hu, h⟩ := h
    have hD := (hh.st.all _ hu.mem).2
    refine ⟨by simp, .inl ⟨D, _, rfl, run_takeDeferred hD, ?_⟩⟩
    refine ih ts A' a _ e h (hh.world (hh.st.upd hu rfl ?_ ⟨(hh.st.all _ hu.mem).1, ?_⟩ fun b hb => .inl hb))
    · exact grownBy_putObj' w D _
    · exact World.putObj_heap_same (Array.getElem?_eq_some_iff.1 hD).1
theorem fn_enter {f : FuncId} {fn : Func} {c : Code} {args : List Value} {w : World} {R : Ending → World → Prop} (hf : P.funcs[f]? = some fn) (hb : fn.body = some c) (hn : fn.ntmps = n) (hs : args.length ≤ n) (hst : St w0 A w)
    (h : Tr P none w0 n c [] (argT 0 args) A (RetOK P w0 n fn R)) : Calls P f args.toArray w R := by
  refine (callsIn_wide (n := 5)).1 (callsIn_of_wp_marks (F := fw none) hf hb trivial ?_)
  refine wpIn_mono (h 5 _ w ?_) ?_
  · refine ⟨by simp [hn]; omega, fun t v ht => ?_, rfl, hst⟩
    obtain ⟨_, h2⟩ := argT_spec args 0 t v ht
    have hlt : t < args.length := by
      have := (List.getElem?_eq_some_iff.1 h2).1; omega
    rw [Array.getElem?_append_left (by simpa using hlt)]
    simpa using h2
  · rintro e a w ⟨ds, ts, A, ⟨he, hr⟩, hh⟩
    have hds := hh.ds
    subst hds
    have := leave_ok (m := 5) a.defers ts A a w default hr hh
    rcases he with rfl | rfl <;> exact this
/-- One result, and what it is. -/
def RV (P : Program) (w0 : World) (ts : TS) (A : List Chunk) (r : ResultVar) (v : Value) : Prop :=
  match r with
  | .tmp t => look ts t = some v
  | .cell a t => ∃ b o, look ts a = some (.pointer (some ⟨b, o, none⟩)) ∧ ∀ w, St w0 A w → (loadVar t ⟨b, o, none⟩).run P w = .ok v w
theorem RV.parts {r : ResultVar} {v : Value} (h : RV P w0 ts A r v) {a : Act} {w : World} (hh : Hd w0 n ds ts A a w) :
    (∃ t, r = .tmp t ∧ a.tmps[t]? = some v) ∨ ∃ x t b o, r = .cell x t ∧ a.tmps[x]? = some (.pointer (some ⟨b, o, none⟩)) ∧ (loadVar t ⟨b, o, none⟩).run P w = .ok v w := by
  cases r with
  | tmp t => exact .inl ⟨t, rfl, hh.slots t v h⟩
  | cell x t =>
    obtain ⟨b, o, h1, h2⟩ := h
    exact .inr ⟨x, t, b, o, rfl, hh.slots x _ h1, h2 w hh.st⟩
theorem ret1 {fn : Func} {R : Ending → World → Prop} {e : Exit} {r : ResultVar} {v : Value} (he : e = .normal ∨ e = .ret) (hr : fn.results = #[r]) (h : RV P w0 ts A r v) (hR : ∀ w, St w0 A w → R (.returned v) w) :
    RetOK P w0 n fn R e [] ts A :=
  ⟨he, fun a w hh => ⟨v, by
    rcases h.parts hh with ⟨_, rfl, h1⟩ | ⟨_, _, _, _, rfl, h1, h2⟩ <;> simp [results, hr, Sem.run_bind, asAddr, *], hR w hh.st⟩⟩
theorem ret2 {fn : Func} {R : Ending → World → Prop} {e : Exit} {r1 r2 : ResultVar} {v1 v2 : Value} (he : e = .normal ∨ e = .ret) (hr : fn.results = #[r1, r2]) (g1 : RV P w0 ts A r1 v1) (g2 : RV P w0 ts A r2 v2) (hR : ∀ w, St w0 A w → R (.returned (.tuple #[v1, v2])) w) :
    RetOK P w0 n fn R e [] ts A :=
  ⟨he, fun a w hh => ⟨.tuple #[v1, v2], by
    rcases g1.parts hh with ⟨_, rfl, h1⟩ | ⟨_, _, _, _, rfl, h1, h2⟩ <;> rcases g2.parts hh with ⟨_, rfl, h3⟩ | ⟨_, _, _, _, rfl, h3, h4⟩ <;> simp [results, hr, Sem.run_bind, asAddr, *], hR w hh.st⟩⟩
theorem ret3 {fn : Func} {R : Ending → World → Prop} {e : Exit} {r1 r2 r3 : ResultVar} {v1 v2 v3 : Value} (he : e = .normal ∨ e = .ret) (hr : fn.results = #[r1, r2, r3]) (g1 : RV P w0 ts A r1 v1) (g2 : RV P w0 ts A r2 v2) (g3 : RV P w0 ts A r3 v3)
    (hR : ∀ w, St w0 A w → R (.returned (.tuple #[v1, v2, v3])) w) : RetOK P w0 n fn R e [] ts A :=
  ⟨he, fun a w hh => ⟨.tuple #[v1, v2, v3], by
    rcases g1.parts hh with ⟨_, rfl, h1⟩ | ⟨_, _, _, _, rfl, h1, h2⟩ <;> rcases g2.parts hh with ⟨_, rfl, h3⟩ | ⟨_, _, _, _, rfl, h3, h4⟩ <;> rcases g3.parts hh with ⟨_, rfl, h5⟩ | ⟨_, _, _, _, rfl, h5, h6⟩ <;> simp [results, hr, Sem.run_bind, asAddr, *], hR w hh.st⟩⟩
end
end Go.Proofs.YtiodmphhjgkgjaaGreat
