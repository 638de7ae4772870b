/- Names and bounds: lemmas for the rows of this seat. No conditions. -/
import Derived.Test.YtkbcogaodnmdoaaProg
import Derived.WalkKit
import Derived.WalkSpells
import Derived.WalkLawsBesides
import Derived.Lib.Hide
import Derived.Deep.AppendLies
import Derived.Deep.Draws
import Derived.Maps.AppendAt
import Derived.RegionTactic
import Derived.OwnWalk
import Derived.Deep.QuietTactic
import Derived.BigQuiet
import Derived.Deep.DeepFit
import Derived.Deep.LoopGhost
import Derived.Deep.DeepMust
import Derived.Deep.DeepCutAuto
import Derived.StillTail
import Derived.Deep.Quiet
import Derived.Deep.RegionHeld3
import Derived.Deep.RegionWith
import Derived.Deep.RegionLaw
import Derived.Maps.OwnOps
import Derived.Maps.OwnSet
import Derived.Maps.OwnRows
import Derived.Maps.RangeWalk
import Derived.Carry
import Derived.Test.YtkbcogaodnmdoaaBase
import Derived.Test.YtkbcogaodnmdoaaMaps
import Derived.Test.YtkbcogaodnmdoaaKeys
import Derived.Test.YtkbcogaodnmdoaaS1
import Derived.Test.YtkbcogaodnmdoaaS5
import Derived.Test.YtkbcogaodnmdoaaS14
import Derived.Test.YtkbcogaodnmdoaaV
import Derived.Test.YtkbcogaodnmdoaaTab
import Derived.Test.YtkbcogaodnmdoaaE1
import Derived.Test.YtkbcogaodnmdoaaE2
import Derived.Test.YtkbcogaodnmdoaaE3
set_option linter.all false
namespace Go.Proofs.Ytkbcogaodnmdoaa
open Go.RowKit
/-! ## Names and bounds -/
/-- Whether a taste is the first one of its sitting. -/
def firstFrom : Nat → List (List T3) → Int → Bool
  | _, [], _ => false
  | m, s :: S, k => decide ((m : Int) = k) || firstFrom (m + s.length) S k
def firstB (S : List (List T3)) (k : Int) : Bool := firstFrom 0 S k
theorem flat_le (S : List (List T3)) (j : Nat) : (S.take j).flatten.length ≤ S.flatten.length := by
  have : S.flatten = (S.take j).flatten ++ (S.drop j).flatten := by rw [← List.flatten_append, List.take_append_drop]
  rw [this, List.length_append]; omega
section
variable (rlo rhi lots : Int) (Al : Option Addr) (c : Nat) (S : List (List T3)) (w : World) (hN : NestR w 3 Al (nestOf S)) (hF : Fit S)
include hN hF
set_option maxHeartbeats 1000000 in
set_option maxRecDepth 20000 in
theorem isFirst_any (k : Int) : Calls Try.prog 87 #[bookV rlo rhi lots Al S.length c, .int .i64 k] w fun e w' => e = .returned (.bool (firstB S k)) ∧ Below w.heap.size w w' := by
  unfold bookV
  have hlen := hF.len
  have htot := hF.total
  refine fn_v Try.tabOk (n := 25) (A := []) Try.func87 rfl rfl (Nat.le_of_ble_eq_true rfl) (St.nil (Below.refl _ _)) ?_
  ((try first | apply tr_v Try.tabOk | apply ot_v Try.tabOk); (conv => whnf); (repeat ((first | (apply VNew.mk; intro g hg)); (conv => whnf))); try (first | apply VStop.mk | apply VCall.stop))
  refine v_loop (fun gm ds ts A => ds = [] ∧ ∃ j, j + gm = S.length ∧ firstB S k = firstFrom (S.take j).flatten.length (S.drop j) k ∧ A = [.blk g 26 [.int .i64 rlo, .int .i64 rhi, .int .i64 lots, .slice Al S.length c]] ∧ ts = [(1, .int .i64 k), (2, .pointer (some ⟨g, 0, none⟩)), (5, .int .i64 ((S.take j).flatten.length : Int)), (6, .int .i64 (j : Int))]) S.length
    (l := [(1, _), (2, _), (5, _), (6, _)]) (B := [_]) ?_ (by (repeat (first | exact List.nil_sublist _ | exact List.Sublist.refl _ | refine List.Sublist.cons_cons _ ?_ | refine List.Sublist.cons _ ?_))) ⟨rfl, 0, by omega, rfl, rfl, rfl⟩ ?_
  · exact ⟨rfl, rfl, rfl, rfl, trivial⟩
  rintro gm ds ts A ⟨rfl, j, hj, hsc, rfl, rfl⟩
  by_cases hlt : j < S.length
  · obtain ⟨b, o, rfl, B, c', hce, hrd⟩ := nest_at hN hlt
    have hl16 := hF.at_ hlt
    have hle := flat_le S j
    have hst : (S.take (j + 1)).flatten.length = (S.take j).flatten.length + S[j].length := by rw [flat_step S j hlt, List.length_append]
    rw [List.drop_eq_getElem_cons hlt, firstFrom, ← hst] at hsc
    by_cases hb : ((S.take j).flatten.length : Int) = k
    · rw [decide_eq_true hb, Bool.true_or] at hsc
      ((try first | apply tr_v Try.tabOk | apply ot_v Try.tabOk); (conv => whnf); (repeat ((first | (apply VLd.mk; exact hce _) | (apply VLd.mk; (focus ((repeat (first | ((with_reducible apply ld_blk); exact rfl) | ((with_reducible apply ld_row); exact rfl) | ((with_reducible apply ld_row0); exact rfl) | (with_reducible assumption) | (with_reducible exact CellAt.base (by assumption)) | (with_reducible apply ld_skip))); done))) | apply VBr.t | (apply v_t; omega)); (conv => whnf))); try (first | apply VStop.mk | apply VCall.stop))
      (apply VRet.mk)
      refine ret1 (by first | exact .inl rfl | exact .inr rfl) rfl (by exact rv_tmp rfl) ?_
      exact fun w h => ⟨by rw [hsc], h.base⟩
    · rw [decide_eq_false hb, Bool.false_or] at hsc
      ((try first | apply tr_v Try.tabOk | apply ot_v Try.tabOk); (conv => whnf); (repeat ((first | (apply VLd.mk; exact hce _) | (apply VLd.mk; (focus ((repeat (first | ((with_reducible apply ld_blk); exact rfl) | ((with_reducible apply ld_row); exact rfl) | ((with_reducible apply ld_row0); exact rfl) | (with_reducible assumption) | (with_reducible exact CellAt.base (by assumption)) | (with_reducible apply ld_skip))); done))) | (apply VRng.mk; omega) | apply VBr.t | apply VBr.f | (apply v_t; omega) | (apply v_f; omega) | (apply VIx.mk; exact rfl; omega)); (conv => whnf))); try (first | apply VStop.mk | apply VCall.stop))
      exact v_rnd (gm - 1) (by omega) (l := [(1, _), (2, _), (5, _), (6, _)]) (B := [_]) ⟨rfl, rfl, rfl, rfl, trivial⟩ (by (repeat (first | exact List.nil_sublist _ | exact List.Sublist.refl _ | refine List.Sublist.cons_cons _ ?_ | refine List.Sublist.cons _ ?_))) ⟨rfl, j + 1, by omega, hsc, rfl, by rw [hst]; rfl⟩
  · obtain rfl : j = S.length := by omega
    rw [List.drop_length, firstFrom] at hsc
    ((try first | apply tr_v Try.tabOk | apply ot_v Try.tabOk); (conv => whnf); (repeat ((first | (apply VLd.mk; (focus ((repeat (first | ((with_reducible apply ld_blk); exact rfl) | ((with_reducible apply ld_row); exact rfl) | ((with_reducible apply ld_row0); exact rfl) | (with_reducible assumption) | (with_reducible exact CellAt.base (by assumption)) | (with_reducible apply ld_skip))); done))) | apply VBr.f | (apply v_f; omega)); (conv => whnf))); try (first | apply VStop.mk | apply VCall.stop))
    (apply VRet.mk)
    refine ret1 (by first | exact .inl rfl | exact .inr rfl) rfl (by exact rv_tmp rfl) ?_
    exact fun w h => ⟨by rw [hsc], h.base⟩
set_option maxHeartbeats 1000000 in
set_option maxRecDepth 20000 in
theorem names_any (hl : -1000 ≤ lots ∧ lots ≤ 1000) : Calls Try.prog 74 #[bookV rlo rhi lots Al S.length c] w fun e w' => e = .returned (.int .i64 (1 + lots + S.flatten.length)) ∧ Below w.heap.size w w' := by
  have hta := fun w1 (h : NestR w1 3 Al (nestOf S)) => tastes_any rlo rhi lots Al c S w1 h hF
  unfold bookV at *
  have htot := hF.total
  refine fn_v Try.tabOk (n := 10) (A := []) Try.func74 rfl rfl (Nat.le_of_ble_eq_true rfl) (St.nil (Below.refl _ _)) ?_
  ((try first | apply tr_v Try.tabOk | apply ot_v Try.tabOk); (conv => whnf); (repeat ((first | ((first | apply VStop.mk | apply VCall.stop); (first | refine tr_region_lex (id := 1) (by kernel_rfl) [.rd, .rd, .rd, .rd, .cr, .rd, .rd, .rd] rfl (by kernel_rfl) ?_); try first | apply ot_v Try.tabOk | apply tr_v Try.tabOk) | (apply VLd.mk; (focus ((repeat (first | ((with_reducible apply ld_blk); exact rfl) | ((with_reducible apply ld_row); exact rfl) | ((with_reducible apply ld_row0); exact rfl) | (with_reducible assumption) | (with_reducible exact CellAt.base (by assumption)) | (with_reducible apply ld_skip))); done))) | (apply VRng.mk; omega) | (apply VNew.mk; intro g hg) | (apply VLdN.mk; (focus ((repeat (first | (with_reducible apply ldn_blk) | (with_reducible apply ldn_row) | (with_reducible assumption) | (with_reducible apply ldn_skip))); done)); exact rfl)); (conv => whnf))); try (first | apply VStop.mk | apply VCall.stop))
  refine ot_call_ownS (t := 67) (sz := 3) (m := S.flatten.length) (xs := saidCells S.flatten) (by decide) rfl rfl rfl (by kernel_rfl) (evl_of rfl) (fun w1 hs => hta w1 (hs.nest hN)) (fun B cap hB => ?_)
  ((try first | apply tr_v Try.tabOk | apply ot_v Try.tabOk); (conv => whnf); (repeat ((first | (apply VRng.mk; omega)); (conv => whnf))); try (first | apply VStop.mk | apply VCall.stop))
  ((apply VRet.mk); refine ret1 (by first | exact .inl rfl | exact .inr rfl) rfl (by exact rv_tmp rfl) ?_; exact fun w h => ⟨rfl, h.base⟩)
set_option maxRecDepth 20000 in
theorem fine_any (hm : ∀ s ∈ S, s.length ≤ maxLen) : Calls Try.prog 41 #[bookV rlo rhi lots Al S.length c] w fun e w' => e = .returned (.bool (decide (chkBook rlo rhi lots S = 0))) ∧ Below w.heap.size w w' := by
  have hgr := fun w1 (h : NestR w1 3 Al (nestOf S)) => great_any rlo rhi lots Al c S w1 h hm
  have hck := fun w1 (h : NestR w1 3 Al (nestOf S)) => refCheckBook_any rlo rhi lots Al c S w1 h hF
  have hg : greatB S = false := by
    unfold greatB
    rw [decide_eq_false (by have := hF.len; omega), Bool.false_or, List.any_eq_false]
    intro s hs
    have := hF.all s hs
    simp; omega
  rw [hg] at hgr
  unfold bookV at *
  refine fn_v Try.tabOk (n := 11) (A := []) Try.func41 rfl rfl (Nat.le_of_ble_eq_true rfl) (St.nil (Below.refl _ _)) ?_
  ((try first | apply tr_v Try.tabOk | apply ot_v Try.tabOk); (conv => whnf); (repeat ((first | (apply VCall.q; kernel_rfl; (focus (intro w1 hs; first | with_reducible apply hgr w1 (hs.nest hN) | with_reducible apply hck w1 (hs.nest hN)))) | apply VBr.t | apply v_d | (apply VNew.mk; intro g hg) | (apply VLdN.mk; (focus ((repeat (first | (with_reducible apply ldn_blk) | (with_reducible apply ldn_row) | (with_reducible assumption) | (with_reducible apply ldn_skip))); done)); exact rfl)); (conv => whnf))); try (first | apply VStop.mk | apply VCall.stop))
  ((apply VRet.mk); refine ret1 (by first | exact .inl rfl | exact .inr rfl) rfl (by exact rv_tmp rfl) ?_; exact fun w h => ⟨rfl, h.base⟩)
end
theorem chk_great (rlo rhi lots : Int) {S : List (List T3)} (h : chkBook rlo rhi lots S = 0) : Fit S := by
  unfold chkBook at h
  split at h
  · cases h
  · split at h
    · cases h
    · rename_i h2
      split at h
      · cases h
      · rename_i h3
        have h12 : S.flatten.length ≤ 12 := by
          unfold manyB at h3
          simp only [Bool.or_eq_true, decide_eq_true_eq, not_or] at h3
          omega
        refine ⟨by omega, fun s hs => ?_⟩
        have : s.length ≤ S.flatten.length := by
          obtain ⟨i, hi, rfl⟩ := List.mem_iff_getElem.1 hs
          have h1 := flat_le S (i + 1)
          rw [flat_step S i hi, List.length_append] at h1
          omega
        omega
set_option maxRecDepth 20000 in
/-- fine, of any book. -/
theorem fineG_any (rlo rhi lots : Int) (Al : Option Addr) (c : Nat) (S : List (List T3)) (w : World) (hN : NestR w 3 Al (nestOf S)) (hm : ∀ s ∈ S, s.length ≤ maxLen) :
    Calls Try.prog 41 #[bookV rlo rhi lots Al S.length c] w fun e w' => e = .returned (.bool (decide (chkBook rlo rhi lots S = 0))) ∧ Below w.heap.size w w' := by
  cases hg : greatB S with
  | false =>
    refine fine_any rlo rhi lots Al c S w hN ?_ hm
    unfold greatB at hg
    simp only [Bool.or_eq_false_iff, decide_eq_false_iff_not, List.any_eq_false, decide_eq_true_eq] at hg
    exact ⟨by omega, fun s hs => by have := hg.2 s hs; omega⟩
  | true =>
    have hne : decide (chkBook rlo rhi lots S = 0) = false := decide_eq_false fun h => by
      have hF := chk_great rlo rhi lots h
      unfold greatB at hg
      simp only [Bool.or_eq_true, decide_eq_true_eq, List.any_eq_true] at hg
      rcases hg with hg | ⟨s, hs, hg⟩
      · have := hF.len; omega
      · have := hF.all s hs; omega
    rw [hne]
    have hgr := fun w1 (h : NestR w1 3 Al (nestOf S)) => great_any rlo rhi lots Al c S w1 h hm
    rw [hg] at hgr
    unfold bookV at *
    refine fn_v Try.tabOk (n := 11) (A := []) Try.func41 rfl rfl (Nat.le_of_ble_eq_true rfl) (St.nil (Below.refl _ _)) ?_
    ((try first | apply tr_v Try.tabOk | apply ot_v Try.tabOk); (conv => whnf); (repeat ((first | (apply VCall.q; kernel_rfl; (focus (intro w1 hs; first | with_reducible apply hgr w1 (hs.nest hN)))) | apply VBr.f | (apply VNew.mk; intro g hg) | (apply VLdN.mk; (focus ((repeat (first | (with_reducible apply ldn_blk) | (with_reducible apply ldn_row) | (with_reducible assumption) | (with_reducible apply ldn_skip))); done)); exact rfl)); (conv => whnf))); try (first | apply VStop.mk | apply VCall.stop))
    ((apply VRet.mk); refine ret1 (by first | exact .inl rfl | exact .inr rfl) rfl (by exact rv_tmp rfl) ?_; exact fun w h => ⟨rfl, h.base⟩)
/-- The bound from one name to another one, if there is one; a taste that is not looked at has none from its lot or to it. -/
def tasteAt (S : List (List T3)) (k : Nat) : T3 := S.flatten[k]?.getD (0, 0, 0)
def bnd (rlo rhi : Int) (L : Nat) (S : List (List T3)) (but : Int) (i k : Nat) : Option Int :=
  if i = 0 then
    (if k = 0 then none else if k ≤ L then some 1000 else if firstB S ((k - L - 1 : Nat) : Int) = true then some 0 else none)
  else if i ≤ L then
    (if k = 0 then some 0 else if k ≤ L then none else if ((k - L - 1 : Nat) : Int) ≠ but ∧ (tasteAt S (k - L - 1)).1 = (i : Int) - 1 then some (-(tasteAt S (k - L - 1)).2.1) else none)
  else
    (if k = 0 then (if firstB S ((i - L - 1 : Nat) : Int) = true then some 0 else none)
    else if k ≤ L then (if ((i - L - 1 : Nat) : Int) ≠ but ∧ (tasteAt S (i - L - 1)).1 = (k : Int) - 1 then some (tasteAt S (i - L - 1)).2.2 else none)
    else if k - L - 1 = i - L - 1 + 1 ∧ firstB S ((k - L - 1 : Nat) : Int) = false then some rhi
    else if i - L - 1 = k - L - 1 + 1 ∧ firstB S ((i - L - 1 : Nat) : Int) = false then some (-rlo) else none)
end Go.Proofs.Ytkbcogaodnmdoaa
