/- Layer 3, blends: Lists of lots made of others; BlendTurned: lemmas for the rows of this seat. No conditions. -/
import Derived.Test.YtfjnnegaljfkgaaProg
import Derived.Test.YtfjnnegaljfkgaaBase
import Derived.Test.YtfjnnegaljfkgaaPlain
import Derived.Test.YtfjnnegaljfkgaaWA
import Derived.Test.YtfjnnegaljfkgaaSeg
import Derived.Test.YtfjnnegaljfkgaaKeys
import Derived.Test.YtfjnnegaljfkgaaW20
import Derived.Test.YtfjnnegaljfkgaaW21
import Derived.Test.YtfjnnegaljfkgaaW22
import Derived.Test.YtfjnnegaljfkgaaS1
import Derived.Test.YtfjnnegaljfkgaaS5
import Derived.Test.YtfjnnegaljfkgaaS12
import Derived.Test.YtfjnnegaljfkgaaTab
import Derived.Test.YtfjnnegaljfkgaaS14
import Derived.Test.YtfjnnegaljfkgaaArms
import Derived.Test.YtfjnnegaljfkgaaWE
import Derived.Test.YtfjnnegaljfkgaaB1
import Derived.Test.YtfjnnegaljfkgaaB2
import Derived.Test.YtfjnnegaljfkgaaB3
import Derived.Test.YtfjnnegaljfkgaaB4
import Derived.Test.YtfjnnegaljfkgaaB5
import Derived.Test.YtfjnnegaljfkgaaB6
import Derived.Test.YtfjnnegaljfkgaaB7
import Derived.Test.YtfjnnegaljfkgaaB8
import Derived.Test.YtfjnnegaljfkgaaB9
import Derived.Test.YtfjnnegaljfkgaaB10
import Derived.Test.YtfjnnegaljfkgaaB11
import Derived.Test.YtfjnnegaljfkgaaB12
import Derived.Test.YtfjnnegaljfkgaaB13
import Derived.Test.YtfjnnegaljfkgaaB14
import Derived.Test.YtfjnnegaljfkgaaC1
import Derived.Test.YtfjnnegaljfkgaaC2a
import Derived.Test.YtfjnnegaljfkgaaC2
import Derived.Test.YtfjnnegaljfkgaaL1
import Derived.Test.YtfjnnegaljfkgaaL2
import Derived.Test.YtfjnnegaljfkgaaC3a
import Derived.Test.YtfjnnegaljfkgaaC6
import Derived.Test.YtfjnnegaljfkgaaC7
set_option linter.all false
namespace Go.Proofs.Ytfjnnegaljfkgaa
open Go.RowKit
/-! ## Lists of lots made of others; BlendTurned -/
/-- Lay theorems by their runs: a list of lots, index by index. -/
def mapUpto (f : Nat → Int × Int) : Nat → List (Int × Int)
  | 0 => []
  | k + 1 => mapUpto f k ++ [f k]
theorem mapUpto_length (f : Nat → Int × Int) (k : Nat) : (mapUpto f k).length = k := by
  induction k with
  | zero => rfl
  | succ k ih => simp [mapUpto, ih]
theorem mapUpto_mem (f : Nat → Int × Int) (p : Int × Int) : ∀ k, p ∈ mapUpto f k ↔ ∃ j, j < k ∧ f j = p := by
  intro k
  induction k with
  | zero => constructor
            · intro h; cases h
            · rintro ⟨j, hj, _⟩; omega
  | succ k ih =>
    simp only [mapUpto, List.mem_append, List.mem_singleton, ih]
    constructor
    · rintro (⟨j, hj, h⟩ | rfl)
      · exact ⟨j, by omega, h⟩
      · exact ⟨k, by omega, rfl⟩
    · rintro ⟨j, hj, h⟩
      by_cases e : j = k
      · subst e; exact .inr h.symm
      · exact .inl ⟨j, by omega, h⟩
theorem Good.of_mem {xs : List (Int × Int)} (h1 : 1 ≤ xs.length) (h2 : xs.length ≤ 8) (h : ∀ p ∈ xs, 0 ≤ p.1 ∧ p.1 ≤ 100 ∧ 0 ≤ p.2 ∧ p.2 ≤ 1000) : Good xs :=
  ⟨⟨h1, h2⟩, fun j hj => not_lotBad.2 (h _ (lotAt_mem hj))⟩
theorem Wit.congr {xs ys : List (Int × Int)} {t N D : Int} (h : Wit xs t N D) (hs : ∀ p ∈ xs, p ∈ ys) : Wit ys t N D := by
  obtain ⟨a, ha, b, hb, h⟩ := h
  exact ⟨a, hs a ha, b, hs b hb, h⟩
theorem Cheap.congr {xs ys : List (Int × Int)} {t N D : Int} (h : Cheap xs t N D) (hs : ∀ p, p ∈ xs ↔ p ∈ ys) : Cheap ys t N D := by
  obtain ⟨d, s, k, hd, hl, he⟩ := h.low
  exact ⟨h.pos, h.wit.congr fun p hp => (hs p).1 hp, d, s, k, hd, fun p hp => hl p ((hs p).2 hp), he⟩
theorem Had.congr {xs ys : List (Int × Int)} {t : Int} (hs : ∀ p, p ∈ xs ↔ p ∈ ys) : Had xs t ↔ Had ys t := by
  constructor
  · rintro ⟨a, ha, b, hb, h⟩; exact ⟨a, (hs a).1 ha, b, (hs b).1 hb, h⟩
  · rintro ⟨a, ha, b, hb, h⟩; exact ⟨a, (hs a).2 ha, b, (hs b).2 hb, h⟩
theorem ch_congr {xs ys : List (Int × Int)} (h : Good xs) (h' : Good ys) (hs : ∀ p, p ∈ xs ↔ p ∈ ys) (t : Int) : chR ys t = chR xs t := by
  cases hb : (chR xs t).2 with
  | true =>
    obtain ⟨h1, h2⟩ := h.ch_true hb
    rw [h'.ch_is h2 (h1.congr hs), ← hb]
  | false =>
    obtain ⟨h1, h2⟩ := h.ch_false hb
    rw [h'.ch_not (fun hh => h1 ((Had.congr hs).2 hh)), ← h2, ← hb]
theorem le_congr {xs ys : List (Int × Int)} (h : Good xs) (h' : Good ys) (hs : ∀ p, p ∈ xs ↔ p ∈ ys) {t : Int} (ht : 0 ≤ t) : leR ys t = leR xs t := by
  cases hb : (leR xs t).2 with
  | true =>
    obtain ⟨h1, h2⟩ := h.le_true ht hb
    have h3 : LeastIs ys t (leR xs t).1.1 (leR xs t).1.2 := by
      obtain ⟨d, s, k, hd, hk, hl, he⟩ := h1.low
      refine ⟨h1.pos, ?_, d, s, k, hd, hk, fun p hp => hl p ((hs p).2 hp), he⟩
      rcases h1.wit with ⟨c, hc, hw⟩ | hw
      · exact .inl ⟨c, (hs c).1 hc, hw⟩
      · exact .inr (hw.congr fun p hp => (hs p).1 hp)
    rw [h'.le_is ht h2 h3, ← hb]
  | false =>
    obtain ⟨h1, h2⟩ := h.le_false hb
    have h3 : (leR ys t).2 = false := by
      cases hc : (leR ys t).2 with
      | false => rfl
      | true =>
        obtain ⟨h4, _⟩ := h'.le_true ht hc
        rcases h4.wit with ⟨c, hcc, hw, _⟩ | hw
        · have := h1 c ((hs c).2 hcc); omega
        · obtain ⟨_, _, b, hbb, _, hw2⟩ := hw.had
          have := h1 b ((hs b).2 hbb); omega
    rw [show leR ys t = ((leR ys t).1, (leR ys t).2) from rfl, (h'.le_false h3).2, h3, ← h2, ← hb]
/-- The lots seen in a mirror. -/
def mir (p : Int × Int) : Int × Int := (100 - p.1, p.2)
theorem mir_cheap {xs ys : List (Int × Int)} {t N D : Int} (h : Cheap xs t N D) (hs : ∀ p, p ∈ xs → mir p ∈ ys) (hs' : ∀ p ∈ ys, mir p ∈ xs) : Cheap ys (100 - t) N D := by
  obtain ⟨d, s, k, hd, hl, he⟩ := h.low
  refine ⟨h.pos, ?_, d, s + k * 100, -k, hd, fun p hp => ?_, by rw [← he]; grind⟩
  · obtain ⟨a, ha, b, hb, h1, h2, h3 | h3⟩ := h.wit
    · refine ⟨mir b, hs b hb, mir a, hs a ha, by unfold mir; dsimp only; omega, by unfold mir; dsimp only; omega, .inl ⟨by unfold mir; dsimp only; omega, ?_⟩⟩
      have := h3.2
      unfold mir
      dsimp only
      grind
    · exact ⟨mir a, hs a ha, mir a, hs a ha, by unfold mir; dsimp only; omega, by unfold mir; dsimp only; omega, .inr ⟨by unfold mir; dsimp only; omega, h3.2⟩⟩
  · have := hl _ (hs' p hp)
    unfold mir at this
    dsimp only at this
    grind
theorem mir_mir (p : Int × Int) : mir (mir p) = p := by unfold mir; exact Prod.ext (by dsimp only; omega) rfl
theorem mir_ch {xs ys : List (Int × Int)} (h : Good xs) (h' : Good ys) (hs : ∀ p, p ∈ xs → mir p ∈ ys) (hs' : ∀ p ∈ ys, mir p ∈ xs) (t : Int) : chR ys (100 - t) = chR xs t := by
  cases hb : (chR xs t).2 with
  | true =>
    obtain ⟨h1, h2⟩ := h.ch_true hb
    rw [h'.ch_is h2 (mir_cheap h1 hs hs'), ← hb]
  | false =>
    obtain ⟨h1, h2⟩ := h.ch_false hb
    refine (h'.ch_not ?_).trans (by rw [← h2, ← hb])
    rintro ⟨a, ha, b, hb', g1, g2⟩
    refine h1 ⟨mir b, hs' b hb', mir a, hs' a ha, ?_, ?_⟩ <;> unfold mir <;> dsimp only <;> omega
section
variable {P : Program} {w0 : World} {n : Nat} {r : Option Nat} {ds : List Deferred} {ops : List Oper} {o : Oper} {os : List Oper} {ks : List Kind} {ts : TS} {A : List Chunk} {K : TS → List Chunk → Prop} {d : Tmp} {x y : Operand} {t u : TypeId}
/-- Two Bools, compared. -/
theorem ot_eqlb {p q : Bool} (b : Bool) (hop : o.op = .binOp .eql t x y u) (hd : o.dst = some d) (hw : wantB ops ts o = some true) (hx : evT ts x = some (.bool p)) (hy : evT ts y = some (.bool q)) (he : ∀ w, (Op.equal t (.bool p) (.bool q)).run P w = .ok (p == q) w) (hb : (p == q) = b)
    (hk : OT P w0 n ds ops os ks.tail ((d, .bool b) :: ts) A K) : OT P w0 n ds ops (o :: os) ks ts A K :=
  ot_val _ hd hw (fun a w hh => by
    have e1 : eqGuard .eql t x y (.bool p) (.bool q) = pure () := rfl
    have e2 : (binOp .eql t (.bool p) (.bool q)).run P w = .ok (.bool b) w := by simp [binOp, he, hb]
    simp only [execOp, hop, hh.ev hx, hh.ev hy, Sem.run_bind, e1, e2, Result.andThen_ok, Sem.run_pure]) hk
theorem ot_neqb {p q : Bool} (b : Bool) (hop : o.op = .binOp .neq t x y u) (hd : o.dst = some d) (hw : wantB ops ts o = some true) (hx : evT ts x = some (.bool p)) (hy : evT ts y = some (.bool q)) (he : ∀ w, (Op.equal t (.bool p) (.bool q)).run P w = .ok (p == q) w) (hb : (!(p == q)) = b)
    (hk : OT P w0 n ds ops os ks.tail ((d, .bool b) :: ts) A K) : OT P w0 n ds ops (o :: os) ks ts A K :=
  ot_val _ hd hw (fun a w hh => by
    have e1 : eqGuard .neq t x y (.bool p) (.bool q) = pure () := rfl
    have e2 : (binOp .neq t (.bool p) (.bool q)).run P w = .ok (.bool b) w := by simp [binOp, he, ← hb]
    simp only [execOp, hop, hh.ev hx, hh.ev hy, Sem.run_bind, e1, e2, Result.andThen_ok, Sem.run_pure]) hk
theorem St.own_rd {w : World} {B : Option Addr} {c t sz m : Nat} {xs : List Value} (hs : St w0 A w) (h : .own (.slice B m c) t sz m xs ∈ A) : Reads w w.heap.size sz B m xs := by
  obtain ⟨B', c', e, hr⟩ := hs.own_reads h
  cases e
  exact hr
/-- What is owned is a slice. -/
theorem tr_own_slice {c : Code} {v : Value} {t sz m : Nat} {xs : List Value} {Q : PostT} (hA : .own v t sz m xs ∈ A) (h : (∃ B c, v = .slice B m c) → Tr P r w0 n c ds ts A Q) : Tr P r w0 n c ds ts A Q :=
  tr_fact (fun w hs => by obtain ⟨B, c, e, _⟩ := hs.own_reads hA; exact ⟨B, c, e⟩) h
end
theorem bool_eq (p q : Bool) (w : World) : (Op.equal 4 (.bool p) (.bool q)).run Try.prog w = .ok (p == q) w := by
  cases p <;> cases q <;> kernel_rfl
end Go.Proofs.Ytfjnnegaljfkgaa
