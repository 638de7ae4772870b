/- The references books: lemmas for the rows of this seat. No conditions. -/
import Derived.Test.YtkbcogaodnmdoaaProg
import Derived.WalkKit
import Derived.WalkSpells
import Derived.WalkLawsBesides
import Derived.Lib.Hide
import Derived.Deep.AppendLies
import Derived.Deep.Draws
import Derived.Maps.AppendAt
import Derived.RegionTactic
import Derived.OwnWalk
import Derived.Deep.QuietTactic
import Derived.BigQuiet
import Derived.Deep.DeepFit
import Derived.Deep.LoopGhost
import Derived.Deep.DeepMust
import Derived.Deep.DeepCutAuto
import Derived.StillTail
import Derived.Deep.Quiet
import Derived.Deep.RegionHeld3
import Derived.Deep.RegionWith
import Derived.Deep.RegionLaw
import Derived.Maps.OwnOps
import Derived.Maps.OwnSet
import Derived.Maps.OwnRows
import Derived.Maps.RangeWalk
import Derived.Carry
import Derived.Test.YtkbcogaodnmdoaaBase
import Derived.Test.YtkbcogaodnmdoaaMaps
import Derived.Test.YtkbcogaodnmdoaaKeys
import Derived.Test.YtkbcogaodnmdoaaS1
import Derived.Test.YtkbcogaodnmdoaaS5
import Derived.Test.YtkbcogaodnmdoaaS14
import Derived.Test.YtkbcogaodnmdoaaV
import Derived.Test.YtkbcogaodnmdoaaTab
import Derived.Test.YtkbcogaodnmdoaaE1
import Derived.Test.YtkbcogaodnmdoaaE2
set_option linter.all false
namespace Go.Proofs.Ytkbcogaodnmdoaa
open Go.RowKit
/-! ## The reference's books -/
section
variable (rlo rhi lots : Int) (Al : Option Addr) (c : Nat) (S : List (List T3)) (w : World) (hN : NestR w 3 Al (nestOf S)) (hF : Fit S)
include hN hF
set_option maxHeartbeats 1000000 in
set_option maxRecDepth 20000 in
theorem tastes_any : Calls Try.prog 44 #[bookV rlo rhi lots Al S.length c] w (OwnRet 67 3 S.flatten.length (saidCells S.flatten) w) := by
  unfold bookV
  have hlen := hF.len
  have htot := hF.total
  refine fn_v Try.tabOk (n := 20) (A := []) Try.func44 rfl rfl (Nat.le_of_ble_eq_true rfl) (St.nil (Below.refl _ _)) ?_
  ((try first | apply tr_v Try.tabOk | apply ot_v Try.tabOk); (conv => whnf); (repeat ((first | (apply VNew.mk; intro g hg)); (conv => whnf))); try (first | apply VStop.mk | apply VCall.stop))
  refine tr_own_nil 67 3 ?_
  refine v_loop (fun gm ds ts A => ds = [] ∧ ∃ j v, j + gm = S.length ∧ A = [.own v 67 3 (S.take j).flatten.length (saidCells (S.take j).flatten), .blk g 26 [.int .i64 rlo, .int .i64 rhi, .int .i64 lots, .slice Al S.length c]] ∧ ts = [(1, .pointer (some ⟨g, 0, none⟩)), (3, v), (4, .int .i64 (j : Int))]) S.length
    (l := [(1, _), (3, _), (4, _)]) (B := [_, _]) ?_ (by (repeat (first | exact List.nil_sublist _ | exact List.Sublist.refl _ | refine List.Sublist.cons_cons _ ?_ | refine List.Sublist.cons _ ?_))) ⟨rfl, 0, .slice none 0 0, by omega, rfl, rfl⟩ ?_
  · exact ⟨rfl, rfl, rfl, trivial⟩
  rintro gm ds ts A ⟨rfl, j, v, hj, rfl, rfl⟩
  by_cases hlt : j < S.length
  · obtain ⟨b, o, rfl, B, c', hce, hrd⟩ := nest_at hN hlt
    have hl16 := hF.at_ hlt
    have hst := flat_step S j hlt
    have hle : (S.take (j + 1)).flatten.length ≤ 128 := Nat.le_trans (by have := sumN_take (nestOf S) (j + 1) (by rw [nestOf_length]; omega); rw [sumN_nest, show (nestOf S).take (j + 1) = nestOf (S.take (j + 1)) by simp [nestOf, List.map_take], sumN_nest] at this; exact this) htot
    rw [hst, List.length_append] at hle
    ((try first | apply tr_v Try.tabOk | apply ot_v Try.tabOk); (conv => whnf); (repeat ((first | (apply VLd.mk; exact hce _) | (apply VLd.mk; (focus ((repeat (first | ((with_reducible apply ld_blk); exact rfl) | ((with_reducible apply ld_row); exact rfl) | ((with_reducible apply ld_row0); exact rfl) | (with_reducible assumption) | (with_reducible exact CellAt.base (by assumption)) | (with_reducible apply ld_skip))); done))) | apply VBr.t | (apply v_t; omega) | (apply VIx.mk; exact rfl; omega)); (conv => whnf))); try (first | apply VStop.mk | apply VCall.stop))
    refine ot_appendR (sz := 3) (A'v := fun v' => [.own v' 67 3 _ _, _]) Try.tabOk rfl rfl rfl rfl rfl rfl rfl rfl rfl rfl (by decide) rfl (fun w1 hs => hs.reads hrd) (saidCells_one _) (fun v' => by (repeat (first | exact Upd.here | apply Upd.there))) (by omega) (by decide) (fun v' => ?_)
    ((try first | apply tr_v Try.tabOk | apply ot_v Try.tabOk); (conv => whnf); (repeat ((first | (apply VRng.mk; omega)); (conv => whnf))); try (first | apply VStop.mk | apply VCall.stop))
    exact v_rnd (gm - 1) (by omega) (l := [(1, _), (3, _), (4, _)]) (B := [_, _]) ⟨rfl, rfl, rfl, trivial⟩ (by (repeat (first | exact List.nil_sublist _ | exact List.Sublist.refl _ | refine List.Sublist.cons_cons _ ?_ | refine List.Sublist.cons _ ?_))) ⟨rfl, j + 1, v', by omega, by rw [hst, List.length_append, saidCells_append], rfl⟩
  · obtain rfl : j = S.length := by omega
    rw [List.take_length]
    ((try first | apply tr_v Try.tabOk | apply ot_v Try.tabOk); (conv => whnf); (repeat ((first | (apply VLd.mk; (focus ((repeat (first | ((with_reducible apply ld_blk); exact rfl) | ((with_reducible apply ld_row); exact rfl) | ((with_reducible apply ld_row0); exact rfl) | (with_reducible assumption) | (with_reducible exact CellAt.base (by assumption)) | (with_reducible apply ld_skip))); done))) | apply VBr.f | (apply v_f; omega)); (conv => whnf))); try (first | apply VStop.mk | apply VCall.stop))
    (apply VRet.mk)
    refine ret1 (by first | exact .inl rfl | exact .inr rfl) rfl (by exact rv_tmp rfl) ?_
    exact fun w1 hs => own_ret hs (.head _)
end
/-- Too great to look at. -/
def greatB (S : List (List T3)) : Bool := decide (8 < S.length) || S.any (fun s => decide (16 < s.length))
def maxLenOf : List (List T3) → Int
  | [] => 0
  | s :: S => let m := maxLenOf S
    if (s.length : Int) > m then s.length else m
def maxUpto (S : List (List T3)) : Nat → Int
  | 0 => 0
  | k + 1 => if ((S[k]?.getD []).length : Int) > maxUpto S k then (S[k]?.getD []).length else maxUpto S k
theorem maxUpto_any (S : List (List T3)) : ∀ k, k ≤ S.length → decide (16 < maxUpto S k) = (S.take k).any (fun s => decide (16 < s.length)) := by
  intro k
  induction k with
  | zero => intro _; simp [maxUpto]
  | succ k ih =>
    intro hk
    rw [take_snoc S k (by omega), List.any_append, ← ih (by omega), maxUpto, List.getElem?_eq_getElem (show k < S.length by omega), Option.getD_some]
    simp only [List.any_cons, List.any_nil, Bool.or_false]
    rw [Bool.eq_iff_iff]
    simp only [Bool.or_eq_true, decide_eq_true_eq]
    split <;> omega
set_option maxHeartbeats 1000000 in
set_option maxRecDepth 20000 in
theorem great_any (rlo rhi lots : Int) (Al : Option Addr) (c : Nat) (S : List (List T3)) (w : World) (hN : NestR w 3 Al (nestOf S)) (hm : ∀ s ∈ S, s.length ≤ maxLen) :
    Calls Try.prog 19 #[bookV rlo rhi lots Al S.length c] w fun e w' => e = .returned (.bool (greatB S)) ∧ Below w.heap.size w w' := by
  unfold bookV
  have hres : greatB S = (decide (8 < S.length) || decide (16 < maxUpto S S.length)) := by rw [maxUpto_any S _ (Nat.le_refl _), List.take_length]; rfl
  rw [hres]
  clear hres
  refine fn_v Try.tabOk (n := 26) (A := []) Try.func19 rfl rfl (Nat.le_of_ble_eq_true rfl) (St.nil (Below.refl _ _)) ?_
  by_cases h8 : 8 < (S.length : Int)
  · rw [decide_eq_true (show 8 < S.length by omega)]
    ((try first | apply tr_v Try.tabOk | apply ot_v Try.tabOk); (conv => whnf); (repeat ((first | (apply VLd.mk; (focus ((repeat (first | ((with_reducible apply ld_blk); exact rfl) | ((with_reducible apply ld_row); exact rfl) | ((with_reducible apply ld_row0); exact rfl) | (with_reducible assumption) | (with_reducible exact CellAt.base (by assumption)) | (with_reducible apply ld_skip))); done))) | apply VBr.t | (apply v_t; omega) | (apply VNew.mk; intro g hg)); (conv => whnf))); try (first | apply VStop.mk | apply VCall.stop))
    ((apply VRet.mk); refine ret1 (by first | exact .inl rfl | exact .inr rfl) rfl (by exact rv_tmp rfl) ?_; exact fun w h => ⟨rfl, h.base⟩)
  · rw [decide_eq_false (show ¬ 8 < S.length by omega), Bool.false_or]
    ((try first | apply tr_v Try.tabOk | apply ot_v Try.tabOk); (conv => whnf); (repeat ((first | (apply VLd.mk; (focus ((repeat (first | ((with_reducible apply ld_blk); exact rfl) | ((with_reducible apply ld_row); exact rfl) | ((with_reducible apply ld_row0); exact rfl) | (with_reducible assumption) | (with_reducible exact CellAt.base (by assumption)) | (with_reducible apply ld_skip))); done))) | apply VBr.f | (apply v_f; omega) | (apply VNew.mk; intro g hg)); (conv => whnf))); try (first | apply VStop.mk | apply VCall.stop))
    refine v_loop (fun gm ds ts A => ds = [] ∧ ∃ j, j + gm = S.length ∧ A = [.blk g 26 [.int .i64 rlo, .int .i64 rhi, .int .i64 lots, .slice Al S.length c]] ∧ ts = [(1, .pointer (some ⟨g, 0, none⟩)), (3, .int .i64 (maxUpto S j)), (4, .int .i64 (j : Int))]) S.length
      (l := [(1, _), (3, _), (4, _)]) (B := [_]) ?_ (by (repeat (first | exact List.nil_sublist _ | exact List.Sublist.refl _ | refine List.Sublist.cons_cons _ ?_ | refine List.Sublist.cons _ ?_))) ⟨rfl, 0, by omega, rfl, rfl⟩ ?_
    · exact ⟨rfl, rfl, rfl, trivial⟩
    rintro gm ds ts A ⟨rfl, j, hj, rfl, rfl⟩
    by_cases hlt : j < S.length
    · obtain ⟨b, o, rfl, B, c', hce, hrd⟩ := nest_at hN hlt
      have hst : maxUpto S (j + 1) = if (S[j].length : Int) > maxUpto S j then (S[j].length : Int) else maxUpto S j := by rw [maxUpto, List.getElem?_eq_getElem hlt, Option.getD_some]
      ((try first | apply tr_v Try.tabOk | apply ot_v Try.tabOk); (conv => whnf); (repeat ((first | (apply VLd.mk; exact hce _) | (apply VLd.mk; (focus ((repeat (first | ((with_reducible apply ld_blk); exact rfl) | ((with_reducible apply ld_row); exact rfl) | ((with_reducible apply ld_row0); exact rfl) | (with_reducible assumption) | (with_reducible exact CellAt.base (by assumption)) | (with_reducible apply ld_skip))); done))) | (apply VRng.mk; omega) | apply VBr.t | (apply v_t; omega) | (apply VIx.mk; exact rfl; omega)); (conv => whnf))); try (first | apply VStop.mk | apply VCall.stop))
      exact v_rnd (gm - 1) (by omega) (l := [(1, _), (3, _), (4, _)]) (B := [_]) ⟨rfl, rfl, rfl, trivial⟩ (by (repeat (first | exact List.nil_sublist _ | exact List.Sublist.refl _ | refine List.Sublist.cons_cons _ ?_ | refine List.Sublist.cons _ ?_))) ⟨rfl, j + 1, by omega, rfl, by rw [hst]; rfl⟩
    · obtain rfl : j = S.length := by omega
      ((try first | apply tr_v Try.tabOk | apply ot_v Try.tabOk); (conv => whnf); (repeat ((first | (apply VLd.mk; (focus ((repeat (first | ((with_reducible apply ld_blk); exact rfl) | ((with_reducible apply ld_row); exact rfl) | ((with_reducible apply ld_row0); exact rfl) | (with_reducible assumption) | (with_reducible exact CellAt.base (by assumption)) | (with_reducible apply ld_skip))); done))) | apply VBr.f | (apply v_f; omega) | apply v_d); (conv => whnf))); try (first | apply VStop.mk | apply VCall.stop))
      ((apply VRet.mk); refine ret1 (by first | exact .inl rfl | exact .inr rfl) rfl (by exact rv_tmp rfl) ?_; exact fun w h => ⟨rfl, h.base⟩)
section
variable (rlo rhi lots : Int) (Al : Option Addr) (c : Nat) (S : List (List T3)) (w : World) (hN : NestR w 3 Al (nestOf S)) (hF : Fit S)
include hN hF
set_option maxHeartbeats 4000000 in
set_option maxRecDepth 20000 in
theorem refCheckBook_any : Calls Try.prog 22 #[bookV rlo rhi lots Al S.length c] w fun e w' => e = .returned (.int .i64 (chkBook rlo rhi lots S)) ∧ Below w.heap.size w w' := by
  have hta := fun w1 (h : NestR w1 3 Al (nestOf S)) => tastes_any rlo rhi lots Al c S w1 h hF
  unfold bookV at *
  have hlen := hF.len
  have htot := hF.total
  have hra := fun w1 => refRange_any 0 50 rlo rhi w1
  have hck : chkBook rlo rhi lots S = if rangeB 0 50 rlo rhi = false then 3 else if lots < 1 ∨ 6 < lots ∨ 4 < S.length then 6 else if manyB S = true then 6 else if S.flatten.any (strayB lots) = true then 3 else 0 := rfl
  generalize rangeB 0 50 rlo rhi = b1 at *
  refine fn_v Try.tabOk (n := 91) (A := []) Try.func22 rfl rfl (Nat.le_of_ble_eq_true rfl) (St.nil (Below.refl _ _)) ?_
  cases b1 with
  | false =>
    rw [if_pos rfl] at hck
    rw [hck]
    ((try first | apply tr_v Try.tabOk | apply ot_v Try.tabOk); (conv => whnf); (repeat ((first | (apply VCall.q; kernel_rfl; (focus (intro w1 hs; first | with_reducible apply hra w1))) | apply VBr.t | (apply VNew.mk; intro g hg) | (apply VLdN.sub; (focus ((repeat (first | (with_reducible apply ldn_blk) | (with_reducible apply ldn_row) | (with_reducible assumption) | (with_reducible apply ldn_skip))); done)); exact rfl)); (conv => whnf))); try (first | apply VStop.mk | apply VCall.stop))
    ((apply VRet.mk); refine ret1 (by first | exact .inl rfl | exact .inr rfl) rfl (by exact rv_tmp rfl) ?_; exact fun w h => ⟨rfl, h.base⟩)
  | true =>
    rw [if_neg (by simp)] at hck
    by_cases hlo : lots < 1 ∨ 6 < lots ∨ 4 < S.length
    · rw [if_pos hlo] at hck
      rw [hck]
      by_cases h1 : lots < 1
      · ((try first | apply tr_v Try.tabOk | apply ot_v Try.tabOk); (conv => whnf); (repeat ((first | (apply VCall.q; kernel_rfl; (focus (intro w1 hs; first | with_reducible apply hra w1))) | (apply VLd.mk; (focus ((repeat (first | ((with_reducible apply ld_blk); exact rfl) | ((with_reducible apply ld_row); exact rfl) | ((with_reducible apply ld_row0); exact rfl) | (with_reducible assumption) | (with_reducible exact CellAt.base (by assumption)) | (with_reducible apply ld_skip))); done))) | apply VBr.t | apply VBr.f | (apply v_t; omega) | (apply VNew.mk; intro g hg) | (apply VLdN.sub; (focus ((repeat (first | (with_reducible apply ldn_blk) | (with_reducible apply ldn_row) | (with_reducible assumption) | (with_reducible apply ldn_skip))); done)); exact rfl)); (conv => whnf))); try (first | apply VStop.mk | apply VCall.stop))
        ((apply VRet.mk); refine ret1 (by first | exact .inl rfl | exact .inr rfl) rfl (by exact rv_tmp rfl) ?_; exact fun w h => ⟨rfl, h.base⟩)
      · by_cases h2 : 6 < lots
        · ((try first | apply tr_v Try.tabOk | apply ot_v Try.tabOk); (conv => whnf); (repeat ((first | (apply VCall.q; kernel_rfl; (focus (intro w1 hs; first | with_reducible apply hra w1))) | (apply VLd.mk; (focus ((repeat (first | ((with_reducible apply ld_blk); exact rfl) | ((with_reducible apply ld_row); exact rfl) | ((with_reducible apply ld_row0); exact rfl) | (with_reducible assumption) | (with_reducible exact CellAt.base (by assumption)) | (with_reducible apply ld_skip))); done))) | apply VBr.t | apply VBr.f | (apply v_t; omega) | (apply v_f; omega) | (apply VNew.mk; intro g hg) | (apply VLdN.sub; (focus ((repeat (first | (with_reducible apply ldn_blk) | (with_reducible apply ldn_row) | (with_reducible assumption) | (with_reducible apply ldn_skip))); done)); exact rfl)); (conv => whnf))); try (first | apply VStop.mk | apply VCall.stop))
          ((apply VRet.mk); refine ret1 (by first | exact .inl rfl | exact .inr rfl) rfl (by exact rv_tmp rfl) ?_; exact fun w h => ⟨rfl, h.base⟩)
        · ((try first | apply tr_v Try.tabOk | apply ot_v Try.tabOk); (conv => whnf); (repeat ((first | (apply VCall.q; kernel_rfl; (focus (intro w1 hs; first | with_reducible apply hra w1))) | (apply VLd.mk; (focus ((repeat (first | ((with_reducible apply ld_blk); exact rfl) | ((with_reducible apply ld_row); exact rfl) | ((with_reducible apply ld_row0); exact rfl) | (with_reducible assumption) | (with_reducible exact CellAt.base (by assumption)) | (with_reducible apply ld_skip))); done))) | apply VBr.t | apply VBr.f | (apply v_t; omega) | (apply v_f; omega) | (apply VNew.mk; intro g hg) | (apply VLdN.sub; (focus ((repeat (first | (with_reducible apply ldn_blk) | (with_reducible apply ldn_row) | (with_reducible assumption) | (with_reducible apply ldn_skip))); done)); exact rfl)); (conv => whnf))); try (first | apply VStop.mk | apply VCall.stop))
          ((apply VRet.mk); refine ret1 (by first | exact .inl rfl | exact .inr rfl) rfl (by exact rv_tmp rfl) ?_; exact fun w h => ⟨rfl, h.base⟩)
    · rw [if_neg hlo] at hck
      have hsc := scanR_eq S
      rw [← hsc] at hck
      clear hsc
      ((try first | apply tr_v Try.tabOk | apply ot_v Try.tabOk); (conv => whnf); (repeat ((first | (apply VCall.q; kernel_rfl; (focus (intro w1 hs; first | with_reducible apply hra w1))) | (apply VLd.mk; (focus ((repeat (first | ((with_reducible apply ld_blk); exact rfl) | ((with_reducible apply ld_row); exact rfl) | ((with_reducible apply ld_row0); exact rfl) | (with_reducible assumption) | (with_reducible exact CellAt.base (by assumption)) | (with_reducible apply ld_skip))); done))) | apply VBr.f | (apply v_f; omega) | (apply VNew.mk; intro g hg) | (apply VLdN.sub; (focus ((repeat (first | (with_reducible apply ldn_blk) | (with_reducible apply ldn_row) | (with_reducible assumption) | (with_reducible apply ldn_skip))); done)); exact rfl)); (conv => whnf))); try (first | apply VStop.mk | apply VCall.stop))
      refine v_loop (fun gm ds ts A => ds = [] ∧ ∃ j, j + gm = S.length ∧ scanR S = scanR (S.drop j) ∧ A = [.blk g 26 [.int .i64 rlo, .int .i64 rhi, .int .i64 lots, .slice Al S.length c]] ∧ ts = [(1, .pointer (some ⟨g, 0, none⟩)), (3, .int .i64 ((S.take j).flatten.length : Int)), (4, .int .i64 (j : Int))]) S.length
        (l := [(1, _), (3, _), (4, _)]) (B := [_]) ?_ (by (repeat (first | exact List.nil_sublist _ | exact List.Sublist.refl _ | refine List.Sublist.cons_cons _ ?_ | refine List.Sublist.cons _ ?_))) ⟨rfl, 0, by omega, rfl, rfl, rfl⟩ ?_
      · exact ⟨rfl, rfl, rfl, trivial⟩
      rintro gm ds ts A ⟨rfl, j, hj, hsc, rfl, rfl⟩
      by_cases hlt : j < S.length
      · obtain ⟨b, o, rfl, B, c', hce, hrd⟩ := nest_at hN hlt
        have hl16 := hF.at_ hlt
        have hst : (S.take (j + 1)).flatten.length = (S.take j).flatten.length + S[j].length := by rw [flat_step S j hlt, List.length_append]
        have hle : (S.take j).flatten.length ≤ 128 := Nat.le_trans (by have := sumN_take (nestOf S) j (by rw [nestOf_length]; omega); rw [sumN_nest, show (nestOf S).take j = nestOf (S.take j) by simp [nestOf, List.map_take], sumN_nest] at this; exact this) htot
        rw [List.drop_eq_getElem_cons hlt, scanR] at hsc
        by_cases hb : S[j].length = 0 ∨ 12 < S[j].length
        · rw [if_pos hb] at hsc
          rw [hsc, if_pos (by simp)] at hck
          rw [hck]
          by_cases hb0 : S[j].length = 0
          · ((try first | apply tr_v Try.tabOk | apply ot_v Try.tabOk); (conv => whnf); (repeat ((first | (apply VLd.mk; exact hce _) | (apply VLd.mk; (focus ((repeat (first | ((with_reducible apply ld_blk); exact rfl) | ((with_reducible apply ld_row); exact rfl) | ((with_reducible apply ld_row0); exact rfl) | (with_reducible assumption) | (with_reducible exact CellAt.base (by assumption)) | (with_reducible apply ld_skip))); done))) | apply VBr.t | (apply v_t; omega) | (apply VIx.mk; exact rfl; omega)); (conv => whnf))); try (first | apply VStop.mk | apply VCall.stop))
            ((apply VRet.mk); refine ret1 (by first | exact .inl rfl | exact .inr rfl) rfl (by exact rv_tmp rfl) ?_; exact fun w h => ⟨rfl, h.base⟩)
          · ((try first | apply tr_v Try.tabOk | apply ot_v Try.tabOk); (conv => whnf); (repeat ((first | (apply VLd.mk; exact hce _) | (apply VLd.mk; (focus ((repeat (first | ((with_reducible apply ld_blk); exact rfl) | ((with_reducible apply ld_row); exact rfl) | ((with_reducible apply ld_row0); exact rfl) | (with_reducible assumption) | (with_reducible exact CellAt.base (by assumption)) | (with_reducible apply ld_skip))); done))) | apply VBr.t | apply VBr.f | (apply v_t; omega) | (apply v_f; omega) | (apply VIx.mk; exact rfl; omega)); (conv => whnf))); try (first | apply VStop.mk | apply VCall.stop))
            ((apply VRet.mk); refine ret1 (by first | exact .inl rfl | exact .inr rfl) rfl (by exact rv_tmp rfl) ?_; exact fun w h => ⟨rfl, h.base⟩)
        · rw [if_neg hb] at hsc
          ((try first | apply tr_v Try.tabOk | apply ot_v Try.tabOk); (conv => whnf); (repeat ((first | (apply VLd.mk; exact hce _) | (apply VLd.mk; (focus ((repeat (first | ((with_reducible apply ld_blk); exact rfl) | ((with_reducible apply ld_row); exact rfl) | ((with_reducible apply ld_row0); exact rfl) | (with_reducible assumption) | (with_reducible exact CellAt.base (by assumption)) | (with_reducible apply ld_skip))); done))) | (apply VRng.mk; omega) | apply VBr.t | apply VBr.f | (apply v_t; omega) | (apply v_f; omega) | (apply VIx.mk; exact rfl; omega)); (conv => whnf))); try (first | apply VStop.mk | apply VCall.stop))
          exact v_rnd (gm - 1) (by omega) (l := [(1, _), (3, _), (4, _)]) (B := [_]) ⟨rfl, rfl, rfl, trivial⟩ (by (repeat (first | exact List.nil_sublist _ | exact List.Sublist.refl _ | refine List.Sublist.cons_cons _ ?_ | refine List.Sublist.cons _ ?_))) ⟨rfl, j + 1, by omega, hsc, rfl, by rw [hst]; rfl⟩
      · obtain rfl : j = S.length := by omega
        rw [List.drop_length, scanR] at hsc
        rw [hsc, Bool.false_or] at hck
        rw [List.take_length]
        by_cases h12 : 12 < (S.flatten.length : Int)
        · rw [decide_eq_true (show 12 < S.flatten.length by omega), if_pos rfl] at hck
          rw [hck]
          ((try first | apply tr_v Try.tabOk | apply ot_v Try.tabOk); (conv => whnf); (repeat ((first | (apply VLd.mk; (focus ((repeat (first | ((with_reducible apply ld_blk); exact rfl) | ((with_reducible apply ld_row); exact rfl) | ((with_reducible apply ld_row0); exact rfl) | (with_reducible assumption) | (with_reducible exact CellAt.base (by assumption)) | (with_reducible apply ld_skip))); done))) | apply VBr.t | apply VBr.f | (apply v_t; omega) | (apply v_f; omega)); (conv => whnf))); try (first | apply VStop.mk | apply VCall.stop))
          ((apply VRet.mk); refine ret1 (by first | exact .inl rfl | exact .inr rfl) rfl (by exact rv_tmp rfl) ?_; exact fun w h => ⟨rfl, h.base⟩)
        · rw [decide_eq_false (show ¬ 12 < S.flatten.length by omega), if_neg (by simp)] at hck
          ((try first | apply tr_v Try.tabOk | apply ot_v Try.tabOk); (conv => whnf); (repeat ((first | (apply VLd.mk; (focus ((repeat (first | ((with_reducible apply ld_blk); exact rfl) | ((with_reducible apply ld_row); exact rfl) | ((with_reducible apply ld_row0); exact rfl) | (with_reducible assumption) | (with_reducible exact CellAt.base (by assumption)) | (with_reducible apply ld_skip))); done))) | apply VBr.f | (apply v_f; omega) | (apply VLdN.mk; (focus ((repeat (first | (with_reducible apply ldn_blk) | (with_reducible apply ldn_row) | (with_reducible assumption) | (with_reducible apply ldn_skip))); done)); exact rfl)); (conv => whnf))); try (first | apply VStop.mk | apply VCall.stop))
          refine ot_call_own (t := 67) (sz := 3) (m := S.flatten.length) (xs := saidCells S.flatten) (by decide) rfl rfl rfl (by kernel_rfl) (evl_of rfl) (fun w1 hs => hta w1 (hs.nest hN)) (fun v0 => ?_)
          refine ot_fact rfl (p := ∃ B cap, v0 = .slice B S.flatten.length cap) (fun w1 hs => ?_) ?_
          · obtain ⟨B, cc, e, _⟩ := hs.own_reads (v := v0) (.head _)
            exact ⟨B, cc, e⟩
          rintro ⟨B, cap, rfl⟩
          generalize S.flatten = l at *
          clear hN hta
          ((try first | apply tr_v Try.tabOk | apply ot_v Try.tabOk); (conv => whnf); try (first | apply VStop.mk | apply VCall.stop))
          refine v_loop (fun gm ds ts A => ds = [] ∧ ∃ j, j + gm = l.length ∧ l.any (strayB lots) = (l.drop j).any (strayB lots) ∧ A = [.own (.slice B l.length cap) 67 3 l.length (saidCells l), .blk g 26 [.int .i64 rlo, .int .i64 rhi, .int .i64 lots, .slice Al S.length c]] ∧ ts = [(1, .pointer (some ⟨g, 0, none⟩)), (5, .slice B l.length cap), (6, .int .i64 (j : Int))]) l.length
            (l := [(1, _), (5, _), (6, _)]) (B := [_, _]) ?_ (by (repeat (first | exact List.nil_sublist _ | exact List.Sublist.refl _ | refine List.Sublist.cons_cons _ ?_ | refine List.Sublist.cons _ ?_))) ⟨rfl, 0, by omega, rfl, rfl, rfl⟩ ?_
          · exact ⟨rfl, rfl, rfl, trivial⟩
          rintro gm ds ts A ⟨rfl, j, hj, han, rfl, rfl⟩
          by_cases hlt : j < l.length
          · refine tr_fact (p := ∃ b, B = some ⟨b, 0, none⟩) (fun w1 hs => ?_) ?_
            · obtain ⟨b, o, e, _⟩ := (hs.own_rd (.head _)).2 (by omega)
              rcases (hs.all _ (.head _)).2 with ⟨h, _⟩ | ⟨g', cp, cur, h, _⟩
              · have := (Value.slice.inj h).2.1; omega
              · exact ⟨g', (Value.slice.inj h).1⟩
            rintro ⟨b, rfl⟩
            have hce : ∀ Ch, Chunk.own (.slice (some ⟨b, 0, none⟩) l.length cap) 67 3 l.length (saidCells l) ∈ Ch → CellsAt w Ch b (0 + j * 3) (saidL (l[j]?.getD (0, 0, 0))) := fun Ch hm w1 hs i u hu => by
              have hi : i < 3 := by
                have := (List.getElem?_eq_some_iff.1 hu).1
                simpa [saidL] using this
              rw [Nat.zero_add]
              exact cell_own hm (by rw [saidCells_get l j hlt i hi]; exact hu) w1 hs
            rw [List.drop_eq_getElem_cons hlt, List.any_cons] at han
            rw [List.getElem?_eq_getElem hlt, Option.getD_some] at hce
            generalize l[j] = x at *
            obtain ⟨x1, x2, x3⟩ := x
            have hsb : strayB lots (x1, x2, x3) = (!(decide (0 ≤ x1 ∧ x1 < lots)) || !rangeB (-1000) 1000 x2 x3) := rfl
            have hc0 : ∀ Ch, _ → CellAt w Ch b (0 + j * 3 + 0) (.int .i64 x1) := fun Ch h => (hce Ch h).cell rfl
            have hc1 : ∀ Ch, _ → CellsAt w Ch b (0 + j * 3 + 1) [.int .i64 x2, .int .i64 x3] := fun Ch h => (hce Ch h).sub _ fun i u hu => by
              match i with
              | 0 => exact hu
              | 1 => exact hu
              | i + 2 => simp at hu
            have hr2 := fun w1 => refRange_any (-1000) 1000 x2 x3 w1
            generalize rangeB (-1000) 1000 x2 x3 = b4 at *
            by_cases h1 : 0 ≤ x1 ∧ x1 < lots
            · rw [decide_eq_true h1] at hsb
              cases b4
              · rw [hsb] at han
                rw [han, if_pos (by simp)] at hck
                rw [hck]
                ((try first | apply tr_v Try.tabOk | apply ot_v Try.tabOk); (conv => whnf); (repeat ((first | ((first | apply VStop.mk | apply VCall.stop); (first | refine tr_region_lex (id := 18) (by kernel_rfl) [.rd, .rd, .rd, .rd, .rd, .rd, .rd, .rd, .rd, .rd, .rd, .rd, .rd, .rd, .rd, .rd, .rd, .rd, .rd, .rd, .rd, .rd, .cr, .rd, .rd] rfl (by kernel_rfl) ?_); try first | apply ot_v Try.tabOk | apply tr_v Try.tabOk) | (apply VLd.mk; exact hc0 _ (by (repeat (first | with_unfolding_all exact List.Mem.head _ | assumption | with_unfolding_all refine List.Mem.tail _ ?_)))) | (apply VLdN.mk; exact hc1 _ (by (repeat (first | with_unfolding_all exact List.Mem.head _ | assumption | with_unfolding_all refine List.Mem.tail _ ?_))); exact rfl) | (apply VCall.q; kernel_rfl; (focus (intro w1 hs; first | with_reducible apply hr2 w1))) | (apply VLd.mk; (focus ((repeat (first | ((with_reducible apply ld_blk); exact rfl) | ((with_reducible apply ld_row); exact rfl) | ((with_reducible apply ld_row0); exact rfl) | (with_reducible assumption) | (with_reducible exact CellAt.base (by assumption)) | (with_reducible apply ld_skip))); done))) | apply VBr.t | apply VBr.f | (apply v_t; omega) | (apply v_f; omega) | (apply VIx.mk; exact rfl; omega)); (conv => whnf))); try (first | apply VStop.mk | apply VCall.stop))
                ((apply VRet.mk); refine ret1 (by first | exact .inl rfl | exact .inr rfl) rfl (by exact rv_tmp rfl) ?_; exact fun w h => ⟨rfl, h.base⟩)
              · rw [hsb] at han
                ((try first | apply tr_v Try.tabOk | apply ot_v Try.tabOk); (conv => whnf); (repeat ((first | ((first | apply VStop.mk | apply VCall.stop); (first | refine tr_region_lex (id := 18) (by kernel_rfl) [.rd, .rd, .rd, .rd, .rd, .rd, .rd, .rd, .rd, .rd, .rd, .rd, .rd, .rd, .rd, .rd, .rd, .rd, .rd, .rd, .rd, .rd, .cr, .rd, .rd] rfl (by kernel_rfl) ?_); try first | apply ot_v Try.tabOk | apply tr_v Try.tabOk) | (apply VLd.mk; exact hc0 _ (by (repeat (first | with_unfolding_all exact List.Mem.head _ | assumption | with_unfolding_all refine List.Mem.tail _ ?_)))) | (apply VLdN.mk; exact hc1 _ (by (repeat (first | with_unfolding_all exact List.Mem.head _ | assumption | with_unfolding_all refine List.Mem.tail _ ?_))); exact rfl) | (apply VCall.q; kernel_rfl; (focus (intro w1 hs; first | with_reducible apply hr2 w1))) | (apply VLd.mk; (focus ((repeat (first | ((with_reducible apply ld_blk); exact rfl) | ((with_reducible apply ld_row); exact rfl) | ((with_reducible apply ld_row0); exact rfl) | (with_reducible assumption) | (with_reducible exact CellAt.base (by assumption)) | (with_reducible apply ld_skip))); done))) | (apply VRng.mk; omega) | apply VBr.t | apply VBr.f | (apply v_t; omega) | (apply v_f; omega) | (apply VIx.mk; exact rfl; omega)); (conv => whnf))); try (first | apply VStop.mk | apply VCall.stop))
                exact v_rnd (gm - 1) (by omega) (l := [(1, _), (5, _), (6, _)]) (B := [_, _]) ⟨rfl, rfl, rfl, trivial⟩ (by (repeat (first | exact List.nil_sublist _ | exact List.Sublist.refl _ | refine List.Sublist.cons_cons _ ?_ | refine List.Sublist.cons _ ?_))) ⟨rfl, j + 1, by omega, han, rfl, rfl⟩
            · rw [decide_eq_false h1] at hsb
              rw [hsb] at han
              rw [han, if_pos (by simp)] at hck
              rw [hck]
              by_cases h2 : x1 < 0
              · ((try first | apply tr_v Try.tabOk | apply ot_v Try.tabOk); (conv => whnf); (repeat ((first | ((first | apply VStop.mk | apply VCall.stop); (first | refine tr_region_lex (id := 18) (by kernel_rfl) [.rd, .rd, .rd, .rd, .rd, .rd, .rd, .rd, .rd, .rd, .rd, .rd, .rd, .rd, .rd, .rd, .rd, .rd, .rd, .rd, .rd, .rd, .cr, .rd, .rd] rfl (by kernel_rfl) ?_); try first | apply ot_v Try.tabOk | apply tr_v Try.tabOk) | (apply VLd.mk; exact hc0 _ (by (repeat (first | with_unfolding_all exact List.Mem.head _ | assumption | with_unfolding_all refine List.Mem.tail _ ?_)))) | (apply VLdN.mk; exact hc1 _ (by (repeat (first | with_unfolding_all exact List.Mem.head _ | assumption | with_unfolding_all refine List.Mem.tail _ ?_))); exact rfl) | (apply VCall.q; kernel_rfl; (focus (intro w1 hs; first | with_reducible apply hr2 w1))) | apply VBr.t | (apply v_t; omega) | (apply VIx.mk; exact rfl; omega)); (conv => whnf))); try (first | apply VStop.mk | apply VCall.stop))
                ((apply VRet.mk); refine ret1 (by first | exact .inl rfl | exact .inr rfl) rfl (by exact rv_tmp rfl) ?_; exact fun w h => ⟨rfl, h.base⟩)
              · ((try first | apply tr_v Try.tabOk | apply ot_v Try.tabOk); (conv => whnf); (repeat ((first | ((first | apply VStop.mk | apply VCall.stop); (first | refine tr_region_lex (id := 18) (by kernel_rfl) [.rd, .rd, .rd, .rd, .rd, .rd, .rd, .rd, .rd, .rd, .rd, .rd, .rd, .rd, .rd, .rd, .rd, .rd, .rd, .rd, .rd, .rd, .cr, .rd, .rd] rfl (by kernel_rfl) ?_); try first | apply ot_v Try.tabOk | apply tr_v Try.tabOk) | (apply VLd.mk; exact hc0 _ (by (repeat (first | with_unfolding_all exact List.Mem.head _ | assumption | with_unfolding_all refine List.Mem.tail _ ?_)))) | (apply VLdN.mk; exact hc1 _ (by (repeat (first | with_unfolding_all exact List.Mem.head _ | assumption | with_unfolding_all refine List.Mem.tail _ ?_))); exact rfl) | (apply VCall.q; kernel_rfl; (focus (intro w1 hs; first | with_reducible apply hr2 w1))) | (apply VLd.mk; (focus ((repeat (first | ((with_reducible apply ld_blk); exact rfl) | ((with_reducible apply ld_row); exact rfl) | ((with_reducible apply ld_row0); exact rfl) | (with_reducible assumption) | (with_reducible exact CellAt.base (by assumption)) | (with_reducible apply ld_skip))); done))) | apply VBr.t | apply VBr.f | (apply v_t; omega) | (apply v_f; omega) | (apply VIx.mk; exact rfl; omega)); (conv => whnf))); try (first | apply VStop.mk | apply VCall.stop))
                ((apply VRet.mk); refine ret1 (by first | exact .inl rfl | exact .inr rfl) rfl (by exact rv_tmp rfl) ?_; exact fun w h => ⟨rfl, h.base⟩)
          · obtain rfl : j = l.length := by omega
            rw [List.drop_length] at han
            rw [han, if_neg (by simp)] at hck
            rw [hck]
            ((try first | apply tr_v Try.tabOk | apply ot_v Try.tabOk); (conv => whnf); (repeat ((first | apply VBr.f | (apply v_f; omega)); (conv => whnf))); try (first | apply VStop.mk | apply VCall.stop))
            ((apply VRet.mk); refine ret1 (by first | exact .inl rfl | exact .inr rfl) rfl (by exact rv_tmp rfl) ?_; exact fun w h => ⟨rfl, h.base⟩)
end
end Go.Proofs.Ytkbcogaodnmdoaa
