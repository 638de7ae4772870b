/- Sittings set in a book of the calls own: lemmas for the rows of this seat. No conditions. -/
import Derived.Test.YtkbcogaodnmdoaaProg
import Derived.WalkKit
import Derived.WalkSpells
import Derived.WalkLawsBesides
import Derived.Lib.Hide
import Derived.Deep.AppendLies
import Derived.Deep.Draws
import Derived.Maps.AppendAt
import Derived.RegionTactic
import Derived.OwnWalk
import Derived.Deep.QuietTactic
import Derived.BigQuiet
import Derived.Deep.DeepFit
import Derived.Deep.LoopGhost
import Derived.Deep.DeepMust
import Derived.Deep.DeepCutAuto
import Derived.StillTail
import Derived.Deep.Quiet
import Derived.Deep.RegionHeld3
import Derived.Deep.RegionWith
import Derived.Deep.RegionLaw
import Derived.Maps.OwnOps
import Derived.Maps.OwnSet
import Derived.Maps.OwnRows
import Derived.Maps.RangeWalk
import Derived.Carry
import Derived.Test.YtkbcogaodnmdoaaBase
import Derived.Test.YtkbcogaodnmdoaaMaps
import Derived.Test.YtkbcogaodnmdoaaKeys
import Derived.Test.YtkbcogaodnmdoaaS1
import Derived.Test.YtkbcogaodnmdoaaS5
import Derived.Test.YtkbcogaodnmdoaaS12
import Derived.Test.YtkbcogaodnmdoaaS14
import Derived.Test.YtkbcogaodnmdoaaV
import Derived.Test.YtkbcogaodnmdoaaV2
import Derived.Test.YtkbcogaodnmdoaaV3
import Derived.Test.YtkbcogaodnmdoaaV4
import Derived.Test.YtkbcogaodnmdoaaV5
import Derived.Test.YtkbcogaodnmdoaaV6
import Derived.Test.YtkbcogaodnmdoaaTab
import Derived.Test.YtkbcogaodnmdoaaE1
import Derived.Test.YtkbcogaodnmdoaaE2
import Derived.Test.YtkbcogaodnmdoaaE3
import Derived.Test.YtkbcogaodnmdoaaE4
import Derived.Test.YtkbcogaodnmdoaaE5
import Derived.Test.YtkbcogaodnmdoaaE6
import Derived.Test.YtkbcogaodnmdoaaE7
import Derived.Test.YtkbcogaodnmdoaaE8
import Derived.Test.YtkbcogaodnmdoaaE9
import Derived.Test.YtkbcogaodnmdoaaE10
import Derived.Test.YtkbcogaodnmdoaaE11
import Derived.Test.YtkbcogaodnmdoaaE12
import Derived.Test.YtkbcogaodnmdoaaE13
import Derived.Test.YtkbcogaodnmdoaaE14
import Derived.Test.YtkbcogaodnmdoaaE15
import Derived.Test.YtkbcogaodnmdoaaE16
import Derived.Test.YtkbcogaodnmdoaaE17
import Derived.Test.YtkbcogaodnmdoaaE18
import Derived.Test.YtkbcogaodnmdoaaE19
import Derived.Test.YtkbcogaodnmdoaaE20
import Derived.Test.YtkbcogaodnmdoaaE21
import Derived.Test.YtkbcogaodnmdoaaE22
import Derived.Test.YtkbcogaodnmdoaaE23
import Derived.Test.YtkbcogaodnmdoaaE24
import Derived.Test.YtkbcogaodnmdoaaE25
import Derived.Test.YtkbcogaodnmdoaaE26
import Derived.Test.YtkbcogaodnmdoaaE27
import Derived.Test.YtkbcogaodnmdoaaE28
import Derived.Test.YtkbcogaodnmdoaaE29
import Derived.Test.YtkbcogaodnmdoaaE30
import Derived.Test.YtkbcogaodnmdoaaE31
import Derived.Test.YtkbcogaodnmdoaaE32
set_option linter.all false
namespace Go.Proofs.Ytkbcogaodnmdoaa
open Go.RowKit
/-! ## Sittings set in a book of the call's own -/
theorem sitCh_pull : ∀ {xs : List SitX} {S : List (List T3)} {i : Nat} (h : xs.length = S.length) (hi : i < S.length), (sitCh xs S).Perm (sitC (xs[i]'(by omega)) S[i] :: sitCh (xs.eraseIdx i) (S.eraseIdx i))
  | [], S, i, h, hi => absurd hi (by rw [← h]; exact Nat.not_lt_zero _)
  | x :: xs, s :: S, 0, _, _ => .refl _
  | x :: xs, s :: S, i + 1, h, hi => by
    have := sitCh_pull (xs := xs) (S := S) (i := i) (by simpa using h) (by simpa using hi)
    exact (List.Perm.cons _ this).trans (.swap _ _ _)
theorem sitCh_put {xs : List SitX} {S : List (List T3)} {i : Nat} (h : xs.length = S.length) (hi : i < S.length) (x : SitX) (s : List T3) : (sitC x s :: sitCh (xs.eraseIdx i) (S.eraseIdx i)).Perm (sitCh (xs.set i x) (S.set i s)) := by
  have := sitCh_pull (xs := xs.set i x) (S := S.set i s) (i := i) (by rw [List.length_set, List.length_set, h]) (by rw [List.length_set]; exact hi)
  rw [List.getElem_set_self, List.getElem_set_self, List.eraseIdx_set_eq, List.eraseIdx_set_eq] at this
  exact this.symm
theorem sitVs_put : ∀ {xs : List SitX} {S : List (List T3)} {i : Nat} (x : SitX) (s : List T3), xs.length = S.length → (sitVs xs S).set i (sitV x s) = sitVs (xs.set i x) (S.set i s)
  | [], [], i, _, _, _ => by cases i <;> rfl
  | y :: xs, u :: S, 0, x, s, _ => rfl
  | y :: xs, u :: S, i + 1, x, s, h => by
    have := sitVs_put (xs := xs) (S := S) (i := i) x s (by simpa using h)
    simp only [sitVs, List.set_cons_succ]
    rw [this]
theorem sitVs_id {xs : List SitX} {S : List (List T3)} {i : Nat} (h : xs.length = S.length) (hi : i < S.length) : xs.set i (xs[i]'(by omega)) = xs := List.set_getElem_self _
/-! ## less01 -/
section
variable (rlo rhi : Int) (L : Nat) (Al : Option Addr) (c : Nat) (S : List (List T3)) (w : World) (hN : NestR w 3 Al (nestOf S)) (hO : Okb rlo rhi L S)
include hN hO
set_option maxHeartbeats 1000000 in
set_option maxRecDepth 20000 in
theorem less01_any (Bs : Option Addr) (cs : Nat) (l : List (Int × Int)) (was : Bool) (hl : Reads w w.heap.size 2 Bs l.length (rngCells l)) (hlm : l.length ≤ 1000) :
    Calls Try.prog 49 #[bookV rlo rhi L Al S.length c, .slice Bs l.length cs, .bool was] w fun e w' => e = .returned (.bool (!canB rlo rhi L S (-1) || was && withinR (spansP rlo rhi L S) l)) ∧ Below w.heap.size w w' := by
  have hsp := fun w1 (h : NestR w1 3 Al (nestOf S)) => spans_any rlo rhi L Al c S w1 h hO
  have hn := spansP_len rlo rhi L S
  have hL := hO.l
  have hwi := fun A ca w1 ha (hb : Below w.heap.size w w1) => withinR_any A Bs ca cs (spansP rlo rhi L S) l w1 ha ((hl.below hb).more hb.size) (by omega) hlm
  clear hO
  unfold bookV at *
  generalize canB rlo rhi L S (-1) = cb at *
  generalize spansP rlo rhi L S = sp at *
  generalize withinR sp l = wi at *
  refine fn_v Try.tabOk (n := 29) (A := []) Try.func49 rfl rfl (Nat.le_of_ble_eq_true rfl) (St.nil (Below.refl _ _)) ?_
  ((try first | apply tr_v Try.tabOk | apply ot_v Try.tabOk); (conv => whnf); (repeat ((first | (apply VNew.mk; intro g hg) | (apply VLdN.mk; (focus ((repeat (first | (with_reducible apply ldn_blk) | (with_reducible apply ldn_row) | (with_reducible assumption) | (with_reducible apply ldn_skip))); done)); exact rfl)); (conv => whnf))); try (first | apply VStop.mk | apply VCall.stop))
  refine ot_call_st (X := Option Addr × Nat) (fun x => .tuple #[.slice x.1 sp.length x.2, .bool cb, .bool true]) (fun x => [.own (.slice x.1 sp.length x.2) 23 2 sp.length (rngCells sp)]) (fun x => mut_one rfl) (by decide) rfl rfl rfl (by kernel_rfl) (evl_of rfl) (fun w1 hs => hsp w1 (hs.nest hN)) (fun y => ?_)
  dsimp only [List.cons_append, List.nil_append]
  apply ot_v Try.tabOk
  cases cb <;> cases was <;> (((try first | apply tr_v Try.tabOk | apply ot_v Try.tabOk); (conv => whnf); (repeat ((first | (apply VCall.q; kernel_rfl; (focus (intro w1 hs; first | with_reducible apply hwi _ _ w1 (hs.own_rd (by (repeat (first | with_unfolding_all exact List.Mem.head _ | assumption | with_unfolding_all refine List.Mem.tail _ ?_)))) hs.base))) | apply VBr.t | apply VBr.f); (conv => whnf))); try (first | apply VStop.mk | apply VCall.stop)); ((apply VRet.mk); refine ret1 (by first | exact .inl rfl | exact .inr rfl) rfl (by exact rv_tmp rfl) ?_; exact fun w h => ⟨rfl, h.base⟩))
end
section
variable {rlo rhi rlo' rhi' : Int} {L : Nat} {S S' : List (List T3)}
theorem less_true (hO : Okb rlo rhi L S) (hO' : Okb rlo' rhi' L S') (hsub : ∀ sh ti', TruthA rlo' rhi' L S' sh ti' → ∃ ti, TruthA rlo rhi L S sh ti) : (!canB rlo' rhi' L S' (-1) || canB rlo rhi L S (-1) && withinR (spansP rlo' rhi' L S') (spansP rlo rhi L S)) = true := by
  cases hc' : canB rlo' rhi' L S' (-1) with
  | false => rfl
  | true =>
    obtain ⟨hc, hle⟩ := spans_le hO hO' hsub hc'
    rw [hc, Bool.not_true, Bool.false_or, Bool.true_and]
    unfold spansP withinR
    rw [if_pos hc, if_pos hc', List.length_map, List.length_map, decide_eq_true rfl, Bool.true_and, truthUpto_all]
    intro k hk
    rw [List.length_range] at hk
    rw [List.getElem?_map, List.getElem?_map, List.getElem?_range hk, decide_eq_true_eq]
    exact hle k hk
end
/-- A rest, and half of it. -/
theorem narrow_num {a m : Int} (ha : 0 ≤ a) (hm : 0 < m) : 0 ≤ Int.tmod a m ∧ Int.tmod a m < m ∧ 0 ≤ Int.tdiv (Int.tmod a m) 2 ∧ Int.tdiv (Int.tmod a m) 2 ≤ Int.tmod a m := by
  have h1 := Int.tmod_nonneg m ha
  have h2 := Int.tmod_lt_of_pos a hm
  have h3 : 0 ≤ Int.tdiv (Int.tmod a m) 2 := Int.tdiv_nonneg h1 (by omega)
  refine ⟨h1, h2, h3, ?_⟩
  rw [Int.tdiv_eq_ediv_of_nonneg h1]
  omega
theorem tdiv_nat (z : Int) (h : 0 ≤ z) : Int.tdiv z 4 = ((z.toNat / 4 : Nat) : Int) := by
  rw [Int.tdiv_eq_ediv_of_nonneg h]
  omega
end Go.Proofs.Ytkbcogaodnmdoaa
