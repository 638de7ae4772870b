/- Late writes under the new steps; chunks in another order: lemmas for the rows of this seat. No conditions. -/
import Derived.WalkKit
import Derived.WalkSpells
import Derived.WalkLawsBesides
import Derived.Lib.Hide
import Derived.Deep.AppendLies
import Derived.Deep.Draws
import Derived.Maps.AppendAt
import Derived.RegionTactic
import Derived.OwnWalk
import Derived.Deep.QuietTactic
import Derived.BigQuiet
import Derived.Deep.DeepFit
import Derived.Deep.LoopGhost
import Derived.Deep.DeepMust
import Derived.Deep.DeepCutAuto
import Derived.StillTail
import Derived.Deep.Quiet
import Derived.Deep.RegionHeld3
import Derived.Deep.RegionWith
import Derived.Deep.RegionLaw
import Derived.Maps.OwnOps
import Derived.Maps.OwnSet
import Derived.Maps.OwnRows
import Derived.Maps.RangeWalk
import Derived.Carry
import Derived.Test.YtkbcogaodnmdoaaBase
import Derived.Test.YtkbcogaodnmdoaaS1
import Derived.Test.YtkbcogaodnmdoaaS5
import Derived.Test.YtkbcogaodnmdoaaS12
import Derived.Test.YtkbcogaodnmdoaaS14
import Derived.Test.YtkbcogaodnmdoaaV
set_option linter.all false
namespace Go.Proofs.Ytkbcogaodnmdoaa
open Go.RowKit
/-! ## Late writes under the new steps; chunks in another order -/
inductive VK (X : Prop) : Prop
  | mk (x : X)
section
variable {P : Program} {w0 : World} {n : Nat} {r : Option Nat} {ds : List Deferred} {ops : List Oper} {K K' : TS → List Chunk → Prop}
theorem ot_mono : ∀ {os : List Oper} {ks : List Kind} {ts : TS} {A : List Chunk}, (∀ ts A, K ts A → K' ts A) → OT P w0 n ds ops os ks ts A K → OT P w0 n ds ops os ks ts A K'
  | [], _, _, _, hk, h => hk _ _ h
  | o :: os, ks, ts, A, hk, h => by
    unfold OT at h ⊢
    cases hkk : ks.headD .wr with
    | rd =>
      rw [hkk] at h
      obtain ⟨v, h1, h2⟩ := h
      exact ⟨v, h1, ot_mono hk h2⟩
    | cr => rw [hkk] at h; exact Gn.mono h fun v A' h => ot_mono hk h
    | wr => rw [hkk] at h; exact Gn.mono h fun v A' h => ot_mono hk h
theorem tr_region_lateV {ts : TS} {A : List Chunk} {Q : PostT} {id : Nat} {l : List Oper} (hm : P.follows .mixedOrders = true) (A0 : List Chunk) (hA0 : A0.Sublist A) (R : List Nat) (T : List Nat) (ks ks' : List Kind) (hd : dstOk n l = true) (hb : lateB0 l R T ks ks' = true)
    (h : OT P w0 n ds l (pick l R) ks ts A0 fun ts _ => VK (OTL P w0 n ds l A0 (pick l T) ks' ts A fun ts A => Q .normal ds ts A)) :
    Tr P r w0 n (.region id l.toArray true) ds ts A Q := tr_region_late0 hm A0 hA0 R T ks ks' hd hb (ot_mono (fun _ _ h => by cases h; assumption) h)
end
section
variable {κ : Type} [DecidableEq κ]
/-- A map with an entry laid, before the entry is stored. -/
def entM (m : κ → Option Value) (k : κ) (z : Value) : κ → Option Value := match m k with
  | none => updM m k z
  | some _ => m
theorem upd_ent (m : κ → Option Value) (k : κ) (z v : Value) : updM (entM m k z) k v = updM m k v := by
  funext x
  unfold entM
  cases h : m k with
  | none => simp only [updM]; split <;> rfl
  | some u => simp only [updM]
end
section
variable {P : Program} {κ : Type} [DecidableEq κ] {enc : κ → Value} {kt t et : TypeId} {w0 : World} {n : Nat} {ds : List Deferred} {ops : List Oper} {K : TS → List Chunk → Prop}
/-- An entry is laid and stored, among writes that come late. -/
theorem otl_put {m : κ → Option Value} {st : List (Nat × κ)} {zv v : Value} {k : κ} {b : Nat} {A A0 : List Chunk} {A1 A2 : Nat → List Chunk} {oE oX oS : Oper} {os : List Oper} {ks : List Kind} {ts : TS} {dE dX : Tmp} {x x' y z : Operand}
    (Ke : KeyEnc P kt enc) (ht : P.underlying t = some (.map kt et)) (hzv : ∀ w, (zeroValue et).run P w = .ok zv w)
    (hopE : oE.op = .mapEntry t x y) (hdE : oE.dst = some dE) (hwE : wantB ops ts oE = some true) (hx : evT ts x = some (.map (some b))) (hy : evT ts y = some (enc k))
    (hopX : oX.op = .extract (.tmp dE) 1) (hdX : oX.dst = some dX) (hwX : ∀ u (s : Nat), wantB ops ((dE, .tuple #[u, .int .i64 (s : Int)]) :: ts) oX = some true) (hX : ∀ u (s : Nat), evT ((dE, .tuple #[u, .int .i64 (s : Int)]) :: ts) (.tmp dE) = some (.tuple #[u, .int .i64 (s : Int)]))
    (hopS : oS.op = .entryStore t x' (.tmp dX) z) (hdS : oS.dst = none) (hwS : ∀ u (s : Nat), wantB ops ((dX, .int .i64 (s : Int)) :: (dE, .tuple #[u, .int .i64 (s : Int)]) :: ts) oS = some true)
    (hx' : ∀ u (s : Nat), evT ((dX, .int .i64 (s : Int)) :: (dE, .tuple #[u, .int .i64 (s : Int)]) :: ts) x' = some (.map (some b))) (hX' : ∀ u (s : Nat), evT ((dX, .int .i64 (s : Int)) :: (dE, .tuple #[u, .int .i64 (s : Int)]) :: ts) (.tmp dX) = some (.int .i64 (s : Int)))
    (hz : ∀ u (s : Nat), evT ((dX, .int .i64 (s : Int)) :: (dE, .tuple #[u, .int .i64 (s : Int)]) :: ts) z = some v)
    (hu1 : ∀ s, Upd (.prd b (MapP enc m st)) (.prd b (MapP enc (entM m k zv) ((s, k) :: st))) A (A1 s)) (hu2 : ∀ s, Upd (.prd b (MapP enc (entM m k zv) ((s, k) :: st))) (.prd b (MapP enc (updM m k v) ((s, k) :: st))) (A1 s) (A2 s))
    (hs1 : ∀ s, A0.Sublist (A1 s)) (hs2 : ∀ s, A0.Sublist (A2 s))
    (hk : ∀ u (s : Nat), OTL P w0 n ds ops A0 os ks ((dX, .int .i64 (s : Int)) :: (dE, .tuple #[u, .int .i64 (s : Int)]) :: ts) (A2 s) K) :
    OTL P w0 n ds ops A0 (oE :: oX :: oS :: os) (.wr :: .wr :: .wr :: ks) ts A K := by
  refine otl_cons (ot_entryF (k := k) (A'v := A1) Ke ht hzv rfl hopE hdE hwE hx hy hu1 fun u s => ⟨hs1 s, ?_⟩)
  refine otl_cons (ot_extract hopX hdX (hwX u s) (hX u s) rfl ⟨hs1 s, ?_⟩)
  refine otl_cons (ot_estoreF (k := k) (st := (s, k) :: st) (m := entM m k zv) (A' := A2 s) Ke rfl hopS hdS (hwS u s) (hx' u s) (hX' u s) (hz u s) (List.Mem.head _) ?_ ⟨hs2 s, hk u s⟩)
  rw [upd_ent m k zv v]
  exact hu2 s
end
end Go.Proofs.Ytkbcogaodnmdoaa
