/- Trees of orders under the new steps: lemmas for the rows of this seat. No conditions. -/
import Derived.WalkKit
import Derived.WalkSpells
import Derived.WalkLawsBesides
import Derived.Lib.Hide
import Derived.Deep.AppendLies
import Derived.Deep.Draws
import Derived.Maps.AppendAt
import Derived.RegionTactic
import Derived.OwnWalk
import Derived.Deep.QuietTactic
import Derived.BigQuiet
import Derived.Deep.DeepFit
import Derived.Deep.LoopGhost
import Derived.Deep.DeepMust
import Derived.Deep.DeepCutAuto
import Derived.StillTail
import Derived.Deep.Quiet
import Derived.Deep.RegionHeld3
import Derived.Deep.RegionWith
import Derived.Deep.RegionLaw
import Derived.Maps.OwnOps
import Derived.Maps.OwnSet
import Derived.Maps.OwnRows
import Derived.Maps.RangeWalk
import Derived.Carry
import Derived.Test.YtkbcogaodnmdoaaBase
import Derived.Test.YtkbcogaodnmdoaaS1
import Derived.Test.YtkbcogaodnmdoaaS5
import Derived.Test.YtkbcogaodnmdoaaS12
import Derived.Test.YtkbcogaodnmdoaaS14
import Derived.Test.YtkbcogaodnmdoaaV
import Derived.Test.YtkbcogaodnmdoaaV2
import Derived.Test.YtkbcogaodnmdoaaV3
import Derived.Test.YtkbcogaodnmdoaaV4
import Derived.Test.YtkbcogaodnmdoaaV5
import Derived.Test.YtkbcogaodnmdoaaV6
set_option linter.all false
namespace Go.Proofs.Ytkbcogaodnmdoaa
open Go.RowKit
/-! ## Trees of orders under the new steps -/
inductive VT (X : Prop) : Prop
  | mk (x : X)
section
variable {P : Program} {w0 : World} {n : Nat} {r : Option Nat} {ds : List Deferred} {ops : List Oper} {K : TS → List Chunk → Prop}
theorem vt_of {X : Prop} (h : VT X) : X := by cases h; assumption
theorem tr_region_treeV {ts : TS} {A : List Chunk} {Q : PostT} {id : Nat} {l : List Oper} (hm : P.follows .mixedOrders = true) (A0 : List Chunk) (hA0 : A0.Sublist A) (R : List Nat) (T : List Nat) (ks : List Kind) (kd : Nat → Kind) (D : List Nat) (hD : (Region.before l.toArray).toList = D) (hd : dstOk n l = true) (hb : treeR l R T ks = true)
    (h : OT P w0 n ds l (pick l R) ks ts A0 fun ts _ => VT (OTX P w0 n ds l A0 kd D T R T ts A fun ts A => Q .normal ds ts A)) :
    Tr P r w0 n (.region id l.toArray true) ds ts A Q := tr_region_tree hm A0 hA0 R T ks kd D hD hd hb (ot_mono (fun _ _ h => vt_of h) h)
theorem otx_oneV {A0 : List Chunk} {kd : Nat → Kind} {D done todo F : List Nat} {x : Nat} {ts : TS} {A : List Chunk} (i : Nat) (hf : frees ops done todo = [i]) (hb : treeB ops D done todo i = true) (hk : kd i ≠ .rd)
    (h : OT P w0 n ds ops [nthO ops i] [kd i] ts A fun ts' A' => A0.Sublist A' ∧ VT (OTX P w0 n ds ops A0 kd D F (done ++ [i]) (todo.erase i) ts' A' K)) : OTX P w0 n ds ops A0 kd D (x :: F) done todo ts A K :=
  otx_one i hf hb hk (ot_mono (fun _ _ h => ⟨h.1, vt_of h.2⟩) h)
theorem otx_twoV {A0 : List Chunk} {kd : Nat → Kind} {D done todo F : List Nat} {x : Nat} {ts : TS} {A : List Chunk} (i j : Nat) (hf : frees ops done todo = [i, j]) (hb : treeB ops D done todo i = true) (hk : kd i ≠ .rd) (hb' : treeB ops D done todo j = true) (hk' : kd j ≠ .rd)
    (h : OT P w0 n ds ops [nthO ops i] [kd i] ts A fun ts' A' => A0.Sublist A' ∧ VT (OTX P w0 n ds ops A0 kd D F (done ++ [i]) (todo.erase i) ts' A' K))
    (h' : OT P w0 n ds ops [nthO ops j] [kd j] ts A fun ts' A' => A0.Sublist A' ∧ VT (OTX P w0 n ds ops A0 kd D F (done ++ [j]) (todo.erase j) ts' A' K)) : OTX P w0 n ds ops A0 kd D (x :: F) done todo ts A K :=
  otx_two i j hf hb hk hb' hk' (ot_mono (fun _ _ h => ⟨h.1, vt_of h.2⟩) h) (ot_mono (fun _ _ h => ⟨h.1, vt_of h.2⟩) h')
end
theorem CellAt.more {w0 : World} {A A' : List Chunk} {b o : Nat} {v : Value} (h : CellAt w0 A b o v) (hs : A.Sublist A') : CellAt w0 A' b o v := fun w hw => h w (hw.sub hs)
theorem cells_more {w0 : World} {A A' : List Chunk} {b o : Nat} {vs : List Value} (h : CellsAt w0 A b o vs) (hs : A.Sublist A') : CellsAt w0 A' b o vs := fun w hw => h w (hw.sub hs)
end Go.Proofs.Ytkbcogaodnmdoaa
