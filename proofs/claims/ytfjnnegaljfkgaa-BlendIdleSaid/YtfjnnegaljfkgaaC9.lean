/- Layer 3, blends: Lists of lots made of others; BlendTurned: lemmas for the rows of this seat. No conditions. -/
import Derived.Test.YtfjnnegaljfkgaaProg
import Derived.Test.YtfjnnegaljfkgaaBase
import Derived.Test.YtfjnnegaljfkgaaPlain
import Derived.Test.YtfjnnegaljfkgaaWA
import Derived.Test.YtfjnnegaljfkgaaSeg
import Derived.Test.YtfjnnegaljfkgaaKeys
import Derived.Test.YtfjnnegaljfkgaaW20
import Derived.Test.YtfjnnegaljfkgaaW21
import Derived.Test.YtfjnnegaljfkgaaW22
import Derived.Test.YtfjnnegaljfkgaaS1
import Derived.Test.YtfjnnegaljfkgaaS5
import Derived.Test.YtfjnnegaljfkgaaS12
import Derived.Test.YtfjnnegaljfkgaaTab
import Derived.Test.YtfjnnegaljfkgaaS14
import Derived.Test.YtfjnnegaljfkgaaArms
import Derived.Test.YtfjnnegaljfkgaaWE
import Derived.Test.YtfjnnegaljfkgaaB1
import Derived.Test.YtfjnnegaljfkgaaB2
import Derived.Test.YtfjnnegaljfkgaaB3
import Derived.Test.YtfjnnegaljfkgaaB4
import Derived.Test.YtfjnnegaljfkgaaB5
import Derived.Test.YtfjnnegaljfkgaaB6
import Derived.Test.YtfjnnegaljfkgaaB7
import Derived.Test.YtfjnnegaljfkgaaB8
import Derived.Test.YtfjnnegaljfkgaaB9
import Derived.Test.YtfjnnegaljfkgaaB10
import Derived.Test.YtfjnnegaljfkgaaB11
import Derived.Test.YtfjnnegaljfkgaaB12
import Derived.Test.YtfjnnegaljfkgaaB13
import Derived.Test.YtfjnnegaljfkgaaB14
import Derived.Test.YtfjnnegaljfkgaaC1
import Derived.Test.YtfjnnegaljfkgaaC2a
import Derived.Test.YtfjnnegaljfkgaaC2
import Derived.Test.YtfjnnegaljfkgaaL1
import Derived.Test.YtfjnnegaljfkgaaL2
import Derived.Test.YtfjnnegaljfkgaaC3a
import Derived.Test.YtfjnnegaljfkgaaC6
import Derived.Test.YtfjnnegaljfkgaaC7
set_option linter.all false
namespace Go.Proofs.Ytfjnnegaljfkgaa
open Go.RowKit
/-! ## Lists of lots made of others; BlendTurned -/
theorem Good.of_mem {xs : List (Int × Int)} (h1 : 1 ≤ xs.length) (h2 : xs.length ≤ 8) (h : ∀ p ∈ xs, 0 ≤ p.1 ∧ p.1 ≤ 100 ∧ 0 ≤ p.2 ∧ p.2 ≤ 1000) : Good xs :=
  ⟨⟨h1, h2⟩, fun j hj => not_lotBad.2 (h _ (lotAt_mem hj))⟩
theorem Wit.congr {xs ys : List (Int × Int)} {t N D : Int} (h : Wit xs t N D) (hs : ∀ p ∈ xs, p ∈ ys) : Wit ys t N D := by
  obtain ⟨a, ha, b, hb, h⟩ := h
  exact ⟨a, hs a ha, b, hs b hb, h⟩
theorem Cheap.congr {xs ys : List (Int × Int)} {t N D : Int} (h : Cheap xs t N D) (hs : ∀ p, p ∈ xs ↔ p ∈ ys) : Cheap ys t N D := by
  obtain ⟨d, s, k, hd, hl, he⟩ := h.low
  exact ⟨h.pos, h.wit.congr fun p hp => (hs p).1 hp, d, s, k, hd, fun p hp => hl p ((hs p).2 hp), he⟩
theorem Had.congr {xs ys : List (Int × Int)} {t : Int} (hs : ∀ p, p ∈ xs ↔ p ∈ ys) : Had xs t ↔ Had ys t := by
  constructor
  · rintro ⟨a, ha, b, hb, h⟩; exact ⟨a, (hs a).1 ha, b, (hs b).1 hb, h⟩
  · rintro ⟨a, ha, b, hb, h⟩; exact ⟨a, (hs a).2 ha, b, (hs b).2 hb, h⟩
section
variable {P : Program} {w0 : World} {n : Nat} {r : Option Nat} {ds : List Deferred} {ops : List Oper} {o : Oper} {os : List Oper} {ks : List Kind} {ts : TS} {A : List Chunk} {K : TS → List Chunk → Prop} {d : Tmp} {x y : Operand} {t u : TypeId}
/-- Two Bools, compared. -/
theorem ot_eqlb {p q : Bool} (b : Bool) (hop : o.op = .binOp .eql t x y u) (hd : o.dst = some d) (hw : wantB ops ts o = some true) (hx : evT ts x = some (.bool p)) (hy : evT ts y = some (.bool q)) (he : ∀ w, (Op.equal t (.bool p) (.bool q)).run P w = .ok (p == q) w) (hb : (p == q) = b)
    (hk : OT P w0 n ds ops os ks.tail ((d, .bool b) :: ts) A K) : OT P w0 n ds ops (o :: os) ks ts A K :=
  ot_val _ hd hw (fun a w hh => by
    have e1 : eqGuard .eql t x y (.bool p) (.bool q) = pure () := rfl
    have e2 : (binOp .eql t (.bool p) (.bool q)).run P w = .ok (.bool b) w := by simp [binOp, he, hb]
    simp only [execOp, hop, hh.ev hx, hh.ev hy, Sem.run_bind, e1, e2, Result.andThen_ok, Sem.run_pure]) hk
end
theorem bool_eq (p q : Bool) (w : World) : (Op.equal 4 (.bool p) (.bool q)).run Try.prog w = .ok (p == q) w := by
  cases p <;> cases q <;> kernel_rfl
end Go.Proofs.Ytfjnnegaljfkgaa
