/- Layer 3, blends: A drawn region whose texts own order serves: lemmas for the rows of this seat. No conditions. -/
import Derived.Test.YtfjnnegaljfkgaaProg
import Derived.Test.YtfjnnegaljfkgaaBase
import Derived.Test.YtfjnnegaljfkgaaPlain
import Derived.Test.YtfjnnegaljfkgaaWA
import Derived.Test.YtfjnnegaljfkgaaSeg
import Derived.Test.YtfjnnegaljfkgaaKeys
import Derived.Test.YtfjnnegaljfkgaaW20
import Derived.Test.YtfjnnegaljfkgaaW21
import Derived.Test.YtfjnnegaljfkgaaW22
import Derived.Test.YtfjnnegaljfkgaaS1
import Derived.Test.YtfjnnegaljfkgaaS5
import Derived.Test.YtfjnnegaljfkgaaS12
import Derived.Test.YtfjnnegaljfkgaaTab
import Derived.Test.YtfjnnegaljfkgaaS14
import Derived.Test.YtfjnnegaljfkgaaArms
import Derived.Test.YtfjnnegaljfkgaaWE
import Derived.Test.YtfjnnegaljfkgaaV
set_option linter.all false
namespace Go.Proofs.Ytfjnnegaljfkgaa
open Go.RowKit
/-! ## A drawn region whose text's own order serves -/
section
variable {P : Program} {r : Option Nat} {w0 : World} {n : Nat} {ds : List Deferred} {ts : TS} {A : List Chunk} {Q : PostT}
end
/-! ## Fractions and lines, compared -/
/-- Lay theorems by their runs: the type of fractions. -/
theorem Try.ratKeys : KeyEnc Try.prog 27 (fun p : Int × Int => .agg #[.int .i64 p.1, .int .i64 p.2]) :=
  pairKeys Try.underlying27 Try.underlying2 Try.underlying2 rfl rfl (by decide) (by decide) (by kernel_rfl)
theorem rat_same (a b : Int) (w : World) : (Op.equal 27 (.agg #[.int .i64 a, .int .i64 b]) (.agg #[.int .i64 a, .int .i64 b])).run Try.prog w = .ok true w := by
  have := Try.ratKeys.eq (a, b) (a, b) w
  simpa using this
theorem rat_cmp {a b c d : Int} (v : Bool) (h : decide ((a, b) = (c, d)) = v) (w : World) : (Op.equal 27 (.agg #[.int .i64 a, .int .i64 b]) (.agg #[.int .i64 c, .int .i64 d])).run Try.prog w = .ok v w := by
  have := Try.ratKeys.eq (a, b) (c, d) w
  rw [h] at this
  exact this
theorem line_cmp {a b c d e f : Int} (v : Bool) (h : decide ((a, b, c) = (d, e, f)) = v) (w : World) : (Op.equal 41 (.agg #[.int .i64 a, .int .i64 b, .int .i64 c]) (.agg #[.int .i64 d, .int .i64 e, .int .i64 f])).run Try.prog w = .ok v w := by
  refine equal_ints (P := Try.prog) (t := 41) (fs := _) (Try.underlying41.trans rfl) (by kernel_rfl) ?_ [a, b, c] [d, e, f] rfl rfl v ?_ w
  · rintro (_ | _ | _ | j) f hf
    · cases hf; exact ⟨rfl, Try.underlying2, by decide⟩
    · cases hf; exact ⟨rfl, Try.underlying2, by decide⟩
    · cases hf; exact ⟨rfl, Try.underlying2, by decide⟩
    · cases hf
  · rw [← h]
    simp
theorem ints_ret {r : List Int × Int} {P : Program} {f : FuncId} {args : Array Value} {w : World} {l : List Int} {q : Int} (h : Calls P f args w (IntsRet r w)) (e : r = (l, q)) : Calls P f args w (SliceIntRet 1 l.length (i64s l) q w) := by
  subst e; exact h
end Go.Proofs.Ytfjnnegaljfkgaa
