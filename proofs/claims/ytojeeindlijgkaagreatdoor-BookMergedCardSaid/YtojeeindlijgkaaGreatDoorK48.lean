/- Books put together, by what they have: lemmas for the rows of this seat. No conditions. -/
import Derived.Laws.StructEq
import Derived.Test.YtojeeindlijgkaaGreatDoorK17
import Derived.Test.YtojeeindlijgkaaGreatDoorK34
import Derived.Test.YtojeeindlijgkaaGreatDoorK39
set_option linter.all false
namespace Go.Proofs.YtojeeindlijgkaaGreatDoor
open Go.RowKit
/-! ## Books put together, by what they have -/
theorem merge_j {a b o : List Ln} (hj : Joins a b o) (A1 : Option Addr) (c1 : Nat) (A2 : Option Addr) (c2 : Nat) (w : World) (h1 : BookR w A1 a) (h2 : BookR w A2 b) :
  Calls Tryz.prog 26 #[.agg #[.slice A1 a.length c1], .agg #[.slice A2 b.length c2]] w fun e w' => ∃ x : SlX, e = .returned (.tuple #[.agg #[.slice x.1 o.length x.2], .int .i64 0]) ∧ True ∧ St w ([] ++ [.own (.slice x.1 o.length x.2) 61 5 o.length (lnC o)]) w' := by
 have := merge_ok A1 c1 a A2 c2 b w h1 h2 hj.va hj.vb hj.free (by rw [hj.eq]; exact hj.vo.len)
 rw [hj.eq] at this
 exact this
theorem merged_j {a b o : List Ln} (hj : Joins a b o) (A1 : Option Addr) (c1 : Nat) (A2 : Option Addr) (c2 : Nat) (w : World) (h1 : BookR w A1 a) (h2 : BookR w A2 b) :
  Calls Tryz.prog 44 #[.agg #[.slice A1 a.length c1], .agg #[.slice A2 b.length c2]] w fun e w' => ∃ x : SlX, e = .returned (.tuple #[.agg #[.slice x.1 o.length x.2], .bool true]) ∧ True ∧ St w ([] ++ [.own (.slice x.1 o.length x.2) 61 5 o.length (lnC o)]) w' := by
 have := merged_ok A1 c1 a A2 c2 b w h1 h2 o hj.vo.len fun w1 h h' => merge_j hj A1 c1 A2 c2 w1 h h'
 rw [decide_eq_true (chk_valid.2 hj.vo)] at this
 exact this
theorem sameB {l : List Ln} {m : Nat} {A1 A2 : Option Addr} {c1 c2 : Nat} {A : List Chunk} {w0 w : World} (hs : St w0 A w) (h1 : Chunk.own (.slice A1 m c1) 61 5 m (lnC l) ∈ A) (h2 : BookR w0 A2 l) (hl : l.length = m) (hm : m ≤ 1000) :
  Calls Tryz.prog 28 #[.agg #[.slice A1 m c1], .agg #[.slice A2 m c2]] w fun e w' => e = .returned (.bool true) ∧ Below w.heap.size w w' := by
 subst hl
 have := same_any A1 c1 l A2 c2 l w (hs.own_rd h1) (hs.book h2) (by unfold maxLen; omega)
 rwa [decide_eq_true rfl] at this
end Go.Proofs.YtojeeindlijgkaaGreatDoor
