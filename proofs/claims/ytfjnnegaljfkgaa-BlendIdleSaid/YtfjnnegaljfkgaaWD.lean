/- Layer 3, blends: steps: lemmas for the rows of this seat. No conditions. -/
import Derived.Test.YtfjnnegaljfkgaaProg
import Derived.Test.YtfjnnegaljfkgaaBase
import Derived.Test.YtfjnnegaljfkgaaPlain
import Derived.Test.YtfjnnegaljfkgaaWA
set_option linter.all false
namespace Go.Proofs.Ytfjnnegaljfkgaa
open Go.RowKit
theorem Reads.step {w w' : World} {size n : Nat} {A : Option Addr} {xs : List Value} (h : Reads w w.heap.size size A n xs) (hb : Below w.heap.size w w') : Reads w' w'.heap.size size A n xs := (h.below hb).more hb.size
end Go.Proofs.Ytfjnnegaljfkgaa
