/- The laws of law.go: lemmas for the rows of this seat. No conditions. -/
import Derived.Test.YtkbcogaodnmdoaaProg
import Derived.WalkKit
import Derived.WalkSpells
import Derived.WalkLawsBesides
import Derived.Lib.Hide
import Derived.Deep.AppendLies
import Derived.Deep.Draws
import Derived.Maps.AppendAt
import Derived.RegionTactic
import Derived.OwnWalk
import Derived.Deep.QuietTactic
import Derived.BigQuiet
import Derived.Deep.DeepFit
import Derived.Deep.LoopGhost
import Derived.Deep.DeepMust
import Derived.Deep.DeepCutAuto
import Derived.StillTail
import Derived.Deep.Quiet
import Derived.Deep.RegionHeld3
import Derived.Deep.RegionWith
import Derived.Deep.RegionLaw
import Derived.Maps.OwnOps
import Derived.Maps.OwnSet
import Derived.Maps.OwnRows
import Derived.Maps.RangeWalk
import Derived.Carry
import Derived.Test.YtkbcogaodnmdoaaBase
import Derived.Test.YtkbcogaodnmdoaaMaps
import Derived.Test.YtkbcogaodnmdoaaKeys
import Derived.Test.YtkbcogaodnmdoaaS1
import Derived.Test.YtkbcogaodnmdoaaS5
import Derived.Test.YtkbcogaodnmdoaaS12
import Derived.Test.YtkbcogaodnmdoaaS14
import Derived.Test.YtkbcogaodnmdoaaV
import Derived.Test.YtkbcogaodnmdoaaV2
import Derived.Test.YtkbcogaodnmdoaaV3
import Derived.Test.YtkbcogaodnmdoaaV4
import Derived.Test.YtkbcogaodnmdoaaTab
import Derived.Test.YtkbcogaodnmdoaaE1
import Derived.Test.YtkbcogaodnmdoaaE2
import Derived.Test.YtkbcogaodnmdoaaE3
import Derived.Test.YtkbcogaodnmdoaaE4
import Derived.Test.YtkbcogaodnmdoaaE5
import Derived.Test.YtkbcogaodnmdoaaE6
import Derived.Test.YtkbcogaodnmdoaaE7
import Derived.Test.YtkbcogaodnmdoaaE8
import Derived.Test.YtkbcogaodnmdoaaE9
import Derived.Test.YtkbcogaodnmdoaaE10
import Derived.Test.YtkbcogaodnmdoaaE11
import Derived.Test.YtkbcogaodnmdoaaE12
import Derived.Test.YtkbcogaodnmdoaaE13
import Derived.Test.YtkbcogaodnmdoaaE14
import Derived.Test.YtkbcogaodnmdoaaE15
import Derived.Test.YtkbcogaodnmdoaaE16
import Derived.Test.YtkbcogaodnmdoaaE17
import Derived.Test.YtkbcogaodnmdoaaE18
import Derived.Test.YtkbcogaodnmdoaaE19
import Derived.Test.YtkbcogaodnmdoaaE20
import Derived.Test.YtkbcogaodnmdoaaE21
import Derived.Test.YtkbcogaodnmdoaaE22
import Derived.Test.YtkbcogaodnmdoaaE23
import Derived.Test.YtkbcogaodnmdoaaE24
import Derived.Test.YtkbcogaodnmdoaaE25
import Derived.Test.YtkbcogaodnmdoaaE26
import Derived.Test.YtkbcogaodnmdoaaE27
set_option linter.all false
namespace Go.Proofs.Ytkbcogaodnmdoaa
open Go.RowKit
/-! ## The laws of law.go -/
theorem fit_of {S : List (List T3)} (h : greatB S = false) : Fit S := by
  unfold greatB at h
  rw [Bool.or_eq_false_iff] at h
  refine ⟨by simpa using h.1, fun s hs => ?_⟩
  have := List.any_eq_false.1 h.2 s hs
  simpa using this
section
variable (rlo rhi lots : Int) (Al : Option Addr) (c : Nat) (S : List (List T3)) (w : World) (hN : NestR w 3 Al (nestOf S)) (hm : ∀ s ∈ S, s.length ≤ maxLen)
include hN hm
set_option maxHeartbeats 4000000 in
set_option maxRecDepth 20000 in
theorem tasteBooks_any (Bs Bt : Option Addr) (cs ct : Nat) (sharp tired : List Int) (hs0 : Reads w w.heap.size 1 Bs sharp.length (i64s sharp)) (ht0 : Reads w w.heap.size 1 Bt tired.length (i64s tired)) (hms : sharp.length ≤ maxLen) (hmt : tired.length ≤ maxLen) :
    Calls Try.prog 3 #[bookV rlo rhi lots Al S.length c, .slice Bs sharp.length cs, .slice Bt tired.length ct] w fun e w' => e = .returned (.bool true) ∧ Below w.heap.size w w' := by
  have hgr := fun w1 (h : NestR w1 3 Al (nestOf S)) => great_any rlo rhi lots Al c S w1 h hm
  have hwk := fun w1 => works_any w1
  unfold maxLen at hms hmt
  cases hg : greatB S with
  | true =>
    rw [hg] at hgr
    unfold bookV at *
    refine fn_v Try.tabOk (n := 39) (A := []) Try.func3 rfl rfl (Nat.le_of_ble_eq_true rfl) (St.nil (Below.refl _ _)) ?_
    ((try first | apply tr_v Try.tabOk | apply ot_v Try.tabOk); (conv => whnf); (repeat ((first | (apply VCall.q; kernel_rfl; (focus (intro w1 hs; first | with_reducible apply hgr w1 (hs.nest hN) | with_reducible apply hwk w1))) | apply VBr.t | (apply VNew.mk; intro g hg) | (apply VLdN.mk; (focus ((repeat (first | (with_reducible apply ldn_blk) | (with_reducible apply ldn_row) | (with_reducible assumption) | (with_reducible apply ldn_skip))); done)); exact rfl)); (conv => whnf))); try (first | apply VStop.mk | apply VCall.stop))
    ((apply VRet.mk); refine ret1 (by first | exact .inl rfl | exact .inr rfl) rfl (by exact rv_tmp rfl) ?_; exact fun w h => ⟨rfl, h.base⟩)
  | false =>
    rw [hg] at hgr
    by_cases h1 : 30 < sharp.length
    · unfold bookV at *
      refine fn_v Try.tabOk (n := 39) (A := []) Try.func3 rfl rfl (Nat.le_of_ble_eq_true rfl) (St.nil (Below.refl _ _)) ?_
      ((try first | apply tr_v Try.tabOk | apply ot_v Try.tabOk); (conv => whnf); (repeat ((first | (apply VCall.q; kernel_rfl; (focus (intro w1 hs; first | with_reducible apply hgr w1 (hs.nest hN) | with_reducible apply hwk w1))) | apply VBr.t | apply VBr.f | (apply v_t; omega) | (apply VNew.mk; intro g hg) | (apply VLdN.mk; (focus ((repeat (first | (with_reducible apply ldn_blk) | (with_reducible apply ldn_row) | (with_reducible assumption) | (with_reducible apply ldn_skip))); done)); exact rfl)); (conv => whnf))); try (first | apply VStop.mk | apply VCall.stop))
      ((apply VRet.mk); refine ret1 (by first | exact .inl rfl | exact .inr rfl) rfl (by exact rv_tmp rfl) ?_; exact fun w h => ⟨rfl, h.base⟩)
    by_cases h2 : 30 < tired.length
    · unfold bookV at *
      refine fn_v Try.tabOk (n := 39) (A := []) Try.func3 rfl rfl (Nat.le_of_ble_eq_true rfl) (St.nil (Below.refl _ _)) ?_
      ((try first | apply tr_v Try.tabOk | apply ot_v Try.tabOk); (conv => whnf); (repeat ((first | (apply VCall.q; kernel_rfl; (focus (intro w1 hs; first | with_reducible apply hgr w1 (hs.nest hN) | with_reducible apply hwk w1))) | apply VBr.t | apply VBr.f | (apply v_t; omega) | (apply v_f; omega) | (apply VNew.mk; intro g hg) | (apply VLdN.mk; (focus ((repeat (first | (with_reducible apply ldn_blk) | (with_reducible apply ldn_row) | (with_reducible assumption) | (with_reducible apply ldn_skip))); done)); exact rfl)); (conv => whnf))); try (first | apply VStop.mk | apply VCall.stop))
      ((apply VRet.mk); refine ret1 (by first | exact .inl rfl | exact .inr rfl) rfl (by exact rv_tmp rfl) ?_; exact fun w h => ⟨rfl, h.base⟩)
    have hF := fit_of hg
    have c1 := fun w1 (h : NestR w1 3 Al (nestOf S)) => checkBook_any rlo rhi lots Al c S w1 h hF
    have c2 := fun w1 (h : NestR w1 3 Al (nestOf S)) => refCheckBook_any rlo rhi lots Al c S w1 h hF
    have c3 := fun w1 (h : NestR w1 3 Al (nestOf S)) (hb : Below w.heap.size w w1) => checkTruth_any rlo rhi lots Al c S w1 h hF Bs Bt cs ct sharp tired ((hs0.below hb).more hb.size) ((ht0.below hb).more hb.size) (by omega) (by omega)
    have c4 := fun w1 (h : NestR w1 3 Al (nestOf S)) (hb : Below w.heap.size w w1) => refCheckTruth_any rlo rhi lots Al c S w1 h hF Bs Bt cs ct sharp tired ((hs0.below hb).more hb.size) ((ht0.below hb).more hb.size) (by omega) (by omega)
    unfold bookV at *
    generalize chkBook rlo rhi lots S = e1 at *
    generalize truthR rlo rhi lots S sharp tired = e2 at *
    refine fn_v Try.tabOk (n := 39) (A := []) Try.func3 rfl rfl (Nat.le_of_ble_eq_true rfl) (St.nil (Below.refl _ _)) ?_
    ((try first | apply tr_v Try.tabOk | apply ot_v Try.tabOk); (conv => whnf); (repeat ((first | ((first | apply VStop.mk | apply VCall.stop); (first | refine tr_region_draw (id := 3) (by kernel_rfl) [0, 2, 1, 3, 4, 5, 6, 7, 8, 10, 11, 12, 9, 13, 14, 15, 16, 17, 18, 19] [.rd, .rd, .cr, .cr, .rd, .rd, .rd, .rd, .rd, .rd, .rd, .rd, .cr, .cr, .rd, .rd, .rd, .cr, .rd, .rd] rfl (by kernel_rfl) ?_); try first | apply ot_v Try.tabOk | apply tr_v Try.tabOk) | (apply VCall.q; kernel_rfl; (focus (intro w1 hs; first | with_reducible apply hgr w1 (hs.nest hN) | with_reducible apply hwk w1 | with_reducible apply c1 w1 (hs.nest hN) | with_reducible apply c2 w1 (hs.nest hN) | with_reducible apply c3 w1 (hs.nest hN) hs.base | with_reducible apply c4 w1 (hs.nest hN) hs.base))) | apply VBr.t | apply VBr.f | (apply v_t; omega) | (apply v_f; omega) | (apply VNew.mk; intro g hg) | (apply VLdN.mk; (focus ((repeat (first | (with_reducible apply ldn_blk) | (with_reducible apply ldn_row) | (with_reducible assumption) | (with_reducible apply ldn_skip))); done)); exact rfl)); (conv => whnf))); try (first | apply VStop.mk | apply VCall.stop))
    ((apply VRet.mk); refine ret1 (by first | exact .inl rfl | exact .inr rfl) rfl (by exact rv_tmp rfl) ?_; exact fun w h => ⟨rfl, h.base⟩)
end
theorem endR_len {rlo rhi lots : Int} {S : List (List T3)} (gr : Bool) : (endR rlo rhi lots S gr).1.length ≤ 6 ∧ (endR rlo rhi lots S gr).2.1.length ≤ 12 := by
  unfold endR
  by_cases h0 : chkBook rlo rhi lots S = 0
  · rw [if_neg (by simpa using h0)]
    have hO := chk_ok.1 h0
    have hl := hO.l
    have ht := hO.t
    split
    · simp
    · dsimp only
      unfold sharpL tiredL
      rw [List.length_map, List.length_range, List.length_map, List.length_range]
      omega
  · rw [if_pos h0]; simp
theorem wrongR_len {rlo rhi lots : Int} {S : List (List T3)} : (wrongR rlo rhi lots S).1.length ≤ 12 := by
  unfold wrongR
  by_cases h0 : chkBook rlo rhi lots S = 0
  · rw [if_neg (by simpa using h0)]
    have ht := (chk_ok.1 h0).t
    have := wrongUpto_le (fun k => canB rlo rhi lots.toNat S k) S.flatten.length
    dsimp only
    omega
  · rw [if_pos h0]; simp
theorem roundRet_facts {rlo rhi lots : Int} {S : List (List T3)} : (roundRet rlo rhi lots S).2 = roundErr rlo rhi lots S ∧ (roundRet rlo rhi lots S).1.length ≤ 19 ∧ (roundErr rlo rhi lots S ≠ 0 → (roundRet rlo rhi lots S).1 = []) ∧ (roundErr rlo rhi lots S = 0 → ∃ n, 0 < n ∧ roundR rlo rhi lots S (roundRet rlo rhi lots S).1 = (n, 0)) := by
  by_cases h0 : chkBook rlo rhi lots S = 0
  · have hO := chk_ok.1 h0
    obtain ⟨L, rfl⟩ : ∃ L : Nat, lots = L := ⟨lots.toNat, by have := hO.l; omega⟩
    have hre : roundErr rlo rhi L S = if canB rlo rhi L S (-1) = true then 5 else 0 := by unfold roundErr; rw [if_neg (by simpa using h0), Int.toNat_natCast]
    cases hc : canB rlo rhi L S (-1) with
    | true =>
      rw [hre, hc, if_pos rfl, roundRet_no hO hc]
      exact ⟨rfl, by simp, fun _ => rfl, fun h => by cases h⟩
    | false =>
      obtain ⟨r, n, h1, h2, h3, h4, h5⟩ := roundRet_yes hO hc
      rw [hre, hc, if_neg (by decide), h1]
      exact ⟨rfl, h5, fun h => absurd rfl h, fun _ => ⟨n, h2, h3⟩⟩
  · have hr : roundRet rlo rhi lots S = ([], chkBook rlo rhi lots S) := by unfold roundRet; rw [if_pos h0]
    have he : roundErr rlo rhi lots S = chkBook rlo rhi lots S := by unfold roundErr; rw [if_pos h0]
    rw [hr, he]
    exact ⟨rfl, by simp, fun _ => rfl, fun h => absurd h h0⟩
/-- Two lists that lie in memory are the same list. -/
theorem longs_same {A B : Option Addr} {ca cb : Nat} {a : List Int} {w : World} (ha : Reads w w.heap.size 1 A a.length (i64s a)) (hb : Reads w w.heap.size 1 B a.length (i64s a)) (hm : a.length ≤ 1000000) : Calls Try.prog 29 #[.slice A a.length ca, .slice B a.length cb] w fun e w' => e = .returned (.bool true) ∧ Below w.heap.size w w' := by
  have := longs_eq_any A B ca cb a a w ha hb hm hm
  rwa [decide_eq_true rfl] at this
theorem ints_same {A B : Option Addr} {ca cb : Nat} {a : List Int} {w : World} (ha : Reads w w.heap.size 1 A a.length (i64s a)) (hb : Reads w w.heap.size 1 B a.length (i64s a)) (hm : a.length ≤ 1000000) : Calls Try.prog 40 #[.slice A a.length ca, .slice B a.length cb] w fun e w' => e = .returned (.bool true) ∧ Below w.heap.size w w' := by
  have := ints_eq_any A B ca cb a a w ha hb hm hm
  rwa [decide_eq_true rfl] at this
section
variable (rlo rhi lots : Int) (Al : Option Addr) (c : Nat) (S : List (List T3)) (w : World) (hN : NestR w 3 Al (nestOf S)) (hm : ∀ s ∈ S, s.length ≤ maxLen)
include hN hm
set_option maxHeartbeats 4000000 in
set_option maxRecDepth 20000 in
theorem tasteTruths_any : Calls Try.prog 4 #[bookV rlo rhi lots Al S.length c] w fun e w' => e = .returned (.bool true) ∧ Below w.heap.size w w' := by
  have hgr := fun w1 (h : NestR w1 3 Al (nestOf S)) => great_any rlo rhi lots Al c S w1 h hm
  have hwk := fun w1 => works_any w1
  cases hg : greatB S with
  | true =>
    rw [hg] at hgr
    unfold bookV at *
    refine fn_v Try.tabOk (n := 73) (A := []) Try.func4 rfl rfl (Nat.le_of_ble_eq_true rfl) (St.nil (Below.refl _ _)) ?_
    ((try first | apply tr_v Try.tabOk | apply ot_v Try.tabOk); (conv => whnf); (repeat ((first | (apply VCall.q; kernel_rfl; (focus (intro w1 hs; first | with_reducible apply hgr w1 (hs.nest hN) | with_reducible apply hwk w1))) | apply VBr.t | (apply VNew.mk; intro g hg) | (apply VLdN.mk; (focus ((repeat (first | (with_reducible apply ldn_blk) | (with_reducible apply ldn_row) | (with_reducible assumption) | (with_reducible apply ldn_skip))); done)); exact rfl)); (conv => whnf))); try (first | apply VStop.mk | apply VCall.stop))
    ((apply VRet.mk); refine ret1 (by first | exact .inl rfl | exact .inr rfl) rfl (by exact rv_tmp rfl) ?_; exact fun w h => ⟨rfl, h.base⟩)
  | false =>
    rw [hg] at hgr
    have hF := fit_of hg
    have c1 := fun w1 (h : NestR w1 3 Al (nestOf S)) => least_any rlo rhi lots Al c S w1 h hF
    have c2 := fun w1 (h : NestR w1 3 Al (nestOf S)) => refLeast_any rlo rhi lots Al c S w1 h hF
    have c3 := fun w1 (h : NestR w1 3 Al (nestOf S)) => greatest_any rlo rhi lots Al c S w1 h hF
    have c4 := fun w1 (h : NestR w1 3 Al (nestOf S)) => refGreatest_any rlo rhi lots Al c S w1 h hF
    obtain ⟨la, lb⟩ := endR_len (rlo := rlo) (rhi := rhi) (lots := lots) (S := S) false
    obtain ⟨lc, ld⟩ := endR_len (rlo := rlo) (rhi := rhi) (lots := lots) (S := S) true
    unfold bookV at *
    generalize endR rlo rhi lots S false = r1 at *
    generalize endR rlo rhi lots S true = r2 at *
    obtain ⟨a1, b1, e1⟩ := r1
    obtain ⟨a2, b2, e2⟩ := r2
    dsimp only at la lb lc ld
    refine fn_v Try.tabOk (n := 73) (A := []) Try.func4 rfl rfl (Nat.le_of_ble_eq_true rfl) (St.nil (Below.refl _ _)) ?_
    ((try first | apply tr_v Try.tabOk | apply ot_v Try.tabOk); (conv => whnf); (repeat ((first | (apply VCall.q; kernel_rfl; (focus (intro w1 hs; first | with_reducible apply hgr w1 (hs.nest hN) | with_reducible apply hwk w1))) | apply VBr.f | (apply VNew.mk; intro g hg) | (apply VLdN.mk; (focus ((repeat (first | (with_reducible apply ldn_blk) | (with_reducible apply ldn_row) | (with_reducible assumption) | (with_reducible apply ldn_skip))); done)); exact rfl)); (conv => whnf))); try (first | apply VStop.mk | apply VCall.stop))
    refine ot_call_st (X := TwoX) (fun x => .tuple #[.slice x.1.1 a1.length x.1.2, .slice x.2.1 b1.length x.2.2, .int .i64 e1]) (fun x => [.own (.slice x.1.1 a1.length x.1.2) 2 1 a1.length (i64s a1), .own (.slice x.2.1 b1.length x.2.2) 2 1 b1.length (i64s b1)]) (fun x => mut_two rfl rfl) (by decide) rfl rfl rfl (by kernel_rfl) (evl_of rfl) (fun w1 hs => (c1 w1 (hs.nest hN)).mono fun e w' h => h.slices) (fun y1 => ?_)
    dsimp only [List.cons_append, List.nil_append]
    apply ot_v Try.tabOk
    ((try first | apply tr_v Try.tabOk | apply ot_v Try.tabOk); (conv => whnf); (repeat ((first | (apply VLdN.mk; (focus ((repeat (first | (with_reducible apply ldn_blk) | (with_reducible apply ldn_row) | (with_reducible assumption) | (with_reducible apply ldn_skip))); done)); exact rfl)); (conv => whnf))); try (first | apply VStop.mk | apply VCall.stop))
    refine ot_call_st (X := TwoX) (fun x => .tuple #[.slice x.1.1 a1.length x.1.2, .slice x.2.1 b1.length x.2.2, .int .i64 e1]) (fun x => [.own (.slice x.1.1 a1.length x.1.2) 2 1 a1.length (i64s a1), .own (.slice x.2.1 b1.length x.2.2) 2 1 b1.length (i64s b1)]) (fun x => mut_two rfl rfl) (by decide) rfl rfl rfl (by kernel_rfl) (evl_of rfl) (fun w1 hs => (c2 w1 (hs.nest hN)).mono fun e w' h => h.slices) (fun y2 => ?_)
    dsimp only [List.cons_append, List.nil_append]
    apply ot_v Try.tabOk
    ((try first | apply tr_v Try.tabOk | apply ot_v Try.tabOk); (conv => whnf); (repeat ((first | (apply VLdN.mk; (focus ((repeat (first | (with_reducible apply ldn_blk) | (with_reducible apply ldn_row) | (with_reducible assumption) | (with_reducible apply ldn_skip))); done)); exact rfl)); (conv => whnf))); try (first | apply VStop.mk | apply VCall.stop))
    refine ot_call_st (X := TwoX) (fun x => .tuple #[.slice x.1.1 a2.length x.1.2, .slice x.2.1 b2.length x.2.2, .int .i64 e2]) (fun x => [.own (.slice x.1.1 a2.length x.1.2) 2 1 a2.length (i64s a2), .own (.slice x.2.1 b2.length x.2.2) 2 1 b2.length (i64s b2)]) (fun x => mut_two rfl rfl) (by decide) rfl rfl rfl (by kernel_rfl) (evl_of rfl) (fun w1 hs => (c3 w1 (hs.nest hN)).mono fun e w' h => h.slices) (fun y3 => ?_)
    dsimp only [List.cons_append, List.nil_append]
    apply ot_v Try.tabOk
    ((try first | apply tr_v Try.tabOk | apply ot_v Try.tabOk); (conv => whnf); (repeat ((first | (apply VLdN.mk; (focus ((repeat (first | (with_reducible apply ldn_blk) | (with_reducible apply ldn_row) | (with_reducible assumption) | (with_reducible apply ldn_skip))); done)); exact rfl)); (conv => whnf))); try (first | apply VStop.mk | apply VCall.stop))
    refine ot_call_st (X := TwoX) (fun x => .tuple #[.slice x.1.1 a2.length x.1.2, .slice x.2.1 b2.length x.2.2, .int .i64 e2]) (fun x => [.own (.slice x.1.1 a2.length x.1.2) 2 1 a2.length (i64s a2), .own (.slice x.2.1 b2.length x.2.2) 2 1 b2.length (i64s b2)]) (fun x => mut_two rfl rfl) (by decide) rfl rfl rfl (by kernel_rfl) (evl_of rfl) (fun w1 hs => (c4 w1 (hs.nest hN)).mono fun e w' h => h.slices) (fun y4 => ?_)
    dsimp only [List.cons_append, List.nil_append]
    apply ot_v Try.tabOk
    ((try first | apply tr_v Try.tabOk | apply ot_v Try.tabOk); (conv => whnf); (repeat ((first | (apply VCall.q; kernel_rfl; (focus (intro w1 hs; first | with_reducible apply hwk w1 | with_reducible apply longs_same (hs.own_rd (by (repeat (first | with_unfolding_all exact List.Mem.head _ | assumption | with_unfolding_all refine List.Mem.tail _ ?_)))) (hs.own_rd (by (repeat (first | with_unfolding_all exact List.Mem.head _ | assumption | with_unfolding_all refine List.Mem.tail _ ?_)))) (by omega)))) | apply VBr.t | (apply v_t; omega)); (conv => whnf))); try (first | apply VStop.mk | apply VCall.stop))
    ((apply VRet.mk); refine ret1 (by first | exact .inl rfl | exact .inr rfl) rfl (by exact rv_tmp rfl) ?_; exact fun w h => ⟨rfl, h.base⟩)
set_option maxHeartbeats 4000000 in
set_option maxRecDepth 20000 in
theorem tasteSpans_any (one two : Int) : Calls Try.prog 5 #[bookV rlo rhi lots Al S.length c, .int .i64 one, .int .i64 two] w fun e w' => e = .returned (.bool true) ∧ Below w.heap.size w w' := by
  have hgr := fun w1 (h : NestR w1 3 Al (nestOf S)) => great_any rlo rhi lots Al c S w1 h hm
  have hwk := fun w1 => works_any w1
  cases hg : greatB S with
  | true =>
    rw [hg] at hgr
    unfold bookV at *
    refine fn_v Try.tabOk (n := 65) (A := []) Try.func5 rfl rfl (Nat.le_of_ble_eq_true rfl) (St.nil (Below.refl _ _)) ?_
    ((try first | apply tr_v Try.tabOk | apply ot_v Try.tabOk); (conv => whnf); (repeat ((first | (apply VCall.q; kernel_rfl; (focus (intro w1 hs; first | with_reducible apply hgr w1 (hs.nest hN) | with_reducible apply hwk w1))) | apply VBr.t | (apply VNew.mk; intro g hg) | (apply VLdN.mk; (focus ((repeat (first | (with_reducible apply ldn_blk) | (with_reducible apply ldn_row) | (with_reducible assumption) | (with_reducible apply ldn_skip))); done)); exact rfl)); (conv => whnf))); try (first | apply VStop.mk | apply VCall.stop))
    ((apply VRet.mk); refine ret1 (by first | exact .inl rfl | exact .inr rfl) rfl (by exact rv_tmp rfl) ?_; exact fun w h => ⟨rfl, h.base⟩)
  | false =>
    rw [hg] at hgr
    have hF := fit_of hg
    have c1 := fun w1 (h : NestR w1 3 Al (nestOf S)) => span_any rlo rhi lots Al c S w1 h hF one
    have c2 := fun w1 (h : NestR w1 3 Al (nestOf S)) => refSpan_any rlo rhi lots Al c S w1 h hF one
    have c3 := fun w1 (h : NestR w1 3 Al (nestOf S)) => apart_any rlo rhi lots Al c S w1 h hF one two
    have c4 := fun w1 (h : NestR w1 3 Al (nestOf S)) => refApart_any rlo rhi lots Al c S w1 h hF one two
    unfold bookV rangeV at *
    generalize spanR rlo rhi lots S one = r1 at *
    generalize apartR rlo rhi lots S one two = r2 at *
    obtain ⟨a1, b1, e1⟩ := r1
    obtain ⟨a2, b2, e2⟩ := r2
    dsimp only at c1 c2 c3 c4
    refine fn_v Try.tabOk (n := 65) (A := []) Try.func5 rfl rfl (Nat.le_of_ble_eq_true rfl) (St.nil (Below.refl _ _)) ?_
    ((try first | apply tr_v Try.tabOk | apply ot_v Try.tabOk); (conv => whnf); (repeat ((first | (apply VEq.mk true; kernel_rfl; first | exact rng_same a1 b1 | exact rng_same a2 b2) | (apply VCall.q; kernel_rfl; (focus (intro w1 hs; first | with_reducible apply hgr w1 (hs.nest hN) | with_reducible apply hwk w1 | with_reducible apply c1 w1 (hs.nest hN) | with_reducible apply c2 w1 (hs.nest hN) | with_reducible apply c3 w1 (hs.nest hN) | with_reducible apply c4 w1 (hs.nest hN)))) | apply VBr.t | apply VBr.f | (apply v_t; omega) | (apply VNew.mk; intro g hg) | (apply VLdN.mk; (focus ((repeat (first | (with_reducible apply ldn_blk) | (with_reducible apply ldn_row) | (with_reducible assumption) | (with_reducible apply ldn_skip))); done)); exact rfl) | (apply VSt.mk; (focus ((repeat (first | (with_reducible exact At.here) | (with_reducible apply At.there))); done)); exact rfl)); (conv => whnf))); try (first | apply VStop.mk | apply VCall.stop))
    ((apply VRet.mk); refine ret1 (by first | exact .inl rfl | exact .inr rfl) rfl (by exact rv_tmp rfl) ?_; exact fun w h => ⟨rfl, h.base⟩)
set_option maxHeartbeats 4000000 in
set_option maxRecDepth 20000 in
theorem tasteWrongs_any : Calls Try.prog 7 #[bookV rlo rhi lots Al S.length c] w fun e w' => e = .returned (.bool true) ∧ Below w.heap.size w w' := by
  have hgr := fun w1 (h : NestR w1 3 Al (nestOf S)) => great_any rlo rhi lots Al c S w1 h hm
  have hwk := fun w1 => works_any w1
  cases hg : greatB S with
  | true =>
    rw [hg] at hgr
    unfold bookV at *
    refine fn_v Try.tabOk (n := 31) (A := []) Try.func7 rfl rfl (Nat.le_of_ble_eq_true rfl) (St.nil (Below.refl _ _)) ?_
    ((try first | apply tr_v Try.tabOk | apply ot_v Try.tabOk); (conv => whnf); (repeat ((first | (apply VCall.q; kernel_rfl; (focus (intro w1 hs; first | with_reducible apply hgr w1 (hs.nest hN) | with_reducible apply hwk w1))) | apply VBr.t | (apply VNew.mk; intro g hg) | (apply VLdN.mk; (focus ((repeat (first | (with_reducible apply ldn_blk) | (with_reducible apply ldn_row) | (with_reducible assumption) | (with_reducible apply ldn_skip))); done)); exact rfl)); (conv => whnf))); try (first | apply VStop.mk | apply VCall.stop))
    ((apply VRet.mk); refine ret1 (by first | exact .inl rfl | exact .inr rfl) rfl (by exact rv_tmp rfl) ?_; exact fun w h => ⟨rfl, h.base⟩)
  | false =>
    rw [hg] at hgr
    have hF := fit_of hg
    have c1 := fun w1 (h : NestR w1 3 Al (nestOf S)) => wrong_any rlo rhi lots Al c S w1 h hF
    have c2 := fun w1 (h : NestR w1 3 Al (nestOf S)) => refWrong_any rlo rhi lots Al c S w1 h hF
    have la := wrongR_len (rlo := rlo) (rhi := rhi) (lots := lots) (S := S)
    unfold bookV at *
    generalize wrongR rlo rhi lots S = r1 at *
    obtain ⟨a1, e1⟩ := r1
    dsimp only at la
    refine fn_v Try.tabOk (n := 31) (A := []) Try.func7 rfl rfl (Nat.le_of_ble_eq_true rfl) (St.nil (Below.refl _ _)) ?_
    ((try first | apply tr_v Try.tabOk | apply ot_v Try.tabOk); (conv => whnf); (repeat ((first | (apply VCall.q; kernel_rfl; (focus (intro w1 hs; first | with_reducible apply hgr w1 (hs.nest hN) | with_reducible apply hwk w1))) | apply VBr.f | (apply VNew.mk; intro g hg) | (apply VLdN.mk; (focus ((repeat (first | (with_reducible apply ldn_blk) | (with_reducible apply ldn_row) | (with_reducible assumption) | (with_reducible apply ldn_skip))); done)); exact rfl)); (conv => whnf))); try (first | apply VStop.mk | apply VCall.stop))
    refine ot_call_st (X := Option Addr × Nat) (fun x => .tuple #[.slice x.1 a1.length x.2, .int .i64 e1]) (fun x => [.own (.slice x.1 a1.length x.2) 3 1 a1.length (i64s a1)]) (fun x => mut_one rfl) (by decide) rfl rfl rfl (by kernel_rfl) (evl_of rfl) (fun w1 hs => (c1 w1 (hs.nest hN)).mono fun e w' h => h.slices) (fun y1 => ?_)
    dsimp only [List.cons_append, List.nil_append]
    apply ot_v Try.tabOk
    ((try first | apply tr_v Try.tabOk | apply ot_v Try.tabOk); (conv => whnf); (repeat ((first | (apply VLdN.mk; (focus ((repeat (first | (with_reducible apply ldn_blk) | (with_reducible apply ldn_row) | (with_reducible assumption) | (with_reducible apply ldn_skip))); done)); exact rfl)); (conv => whnf))); try (first | apply VStop.mk | apply VCall.stop))
    refine ot_call_st (X := Option Addr × Nat) (fun x => .tuple #[.slice x.1 a1.length x.2, .int .i64 e1]) (fun x => [.own (.slice x.1 a1.length x.2) 3 1 a1.length (i64s a1)]) (fun x => mut_one rfl) (by decide) rfl rfl rfl (by kernel_rfl) (evl_of rfl) (fun w1 hs => (c2 w1 (hs.nest hN)).mono fun e w' h => h.slices) (fun y2 => ?_)
    dsimp only [List.cons_append, List.nil_append]
    apply ot_v Try.tabOk
    ((try first | apply tr_v Try.tabOk | apply ot_v Try.tabOk); (conv => whnf); (repeat ((first | (apply VCall.q; kernel_rfl; (focus (intro w1 hs; first | with_reducible apply hwk w1 | with_reducible apply ints_same (hs.own_rd (by (repeat (first | with_unfolding_all exact List.Mem.head _ | assumption | with_unfolding_all refine List.Mem.tail _ ?_)))) (hs.own_rd (by (repeat (first | with_unfolding_all exact List.Mem.head _ | assumption | with_unfolding_all refine List.Mem.tail _ ?_)))) (by omega)))) | apply VBr.t | (apply v_t; omega)); (conv => whnf))); try (first | apply VStop.mk | apply VCall.stop))
    ((apply VRet.mk); refine ret1 (by first | exact .inl rfl | exact .inr rfl) rfl (by exact rv_tmp rfl) ?_; exact fun w h => ⟨rfl, h.base⟩)
set_option maxHeartbeats 4000000 in
set_option maxRecDepth 20000 in
theorem tasteRounds_any (Bs : Option Addr) (cs : Nat) (l : List Int) (hs0 : Reads w w.heap.size 1 Bs l.length (i64s l)) (hml : l.length ≤ maxLen) : Calls Try.prog 6 #[bookV rlo rhi lots Al S.length c, .slice Bs l.length cs] w fun e w' => e = .returned (.bool true) ∧ Below w.heap.size w w' := by
  have hgr := fun w1 (h : NestR w1 3 Al (nestOf S)) => great_any rlo rhi lots Al c S w1 h hm
  have hwk := fun w1 => works_any w1
  unfold maxLen at hml
  cases hg : greatB S with
  | true =>
    rw [hg] at hgr
    unfold bookV at *
    refine fn_v Try.tabOk (n := 76) (A := []) Try.func6 rfl rfl (Nat.le_of_ble_eq_true rfl) (St.nil (Below.refl _ _)) ?_
    ((try first | apply tr_v Try.tabOk | apply ot_v Try.tabOk); (conv => whnf); (repeat ((first | (apply VCall.q; kernel_rfl; (focus (intro w1 hs; first | with_reducible apply hgr w1 (hs.nest hN) | with_reducible apply hwk w1))) | apply VBr.t | (apply VNew.mk; intro g hg) | (apply VLdN.mk; (focus ((repeat (first | (with_reducible apply ldn_blk) | (with_reducible apply ldn_row) | (with_reducible assumption) | (with_reducible apply ldn_skip))); done)); exact rfl)); (conv => whnf))); try (first | apply VStop.mk | apply VCall.stop))
    ((apply VRet.mk); refine ret1 (by first | exact .inl rfl | exact .inr rfl) rfl (by exact rv_tmp rfl) ?_; exact fun w h => ⟨rfl, h.base⟩)
  | false =>
    rw [hg] at hgr
    by_cases h1 : 30 < l.length
    · unfold bookV at *
      refine fn_v Try.tabOk (n := 76) (A := []) Try.func6 rfl rfl (Nat.le_of_ble_eq_true rfl) (St.nil (Below.refl _ _)) ?_
      ((try first | apply tr_v Try.tabOk | apply ot_v Try.tabOk); (conv => whnf); (repeat ((first | (apply VCall.q; kernel_rfl; (focus (intro w1 hs; first | with_reducible apply hgr w1 (hs.nest hN) | with_reducible apply hwk w1))) | apply VBr.t | apply VBr.f | (apply v_t; omega) | (apply VNew.mk; intro g hg) | (apply VLdN.mk; (focus ((repeat (first | (with_reducible apply ldn_blk) | (with_reducible apply ldn_row) | (with_reducible assumption) | (with_reducible apply ldn_skip))); done)); exact rfl)); (conv => whnf))); try (first | apply VStop.mk | apply VCall.stop))
      ((apply VRet.mk); refine ret1 (by first | exact .inl rfl | exact .inr rfl) rfl (by exact rv_tmp rfl) ?_; exact fun w h => ⟨rfl, h.base⟩)
    have hF := fit_of hg
    have c1 := fun w1 (h : NestR w1 3 Al (nestOf S)) (hb : Below w.heap.size w w1) => checkRound_any rlo rhi lots Al c S w1 h hF Bs cs l ((hs0.below hb).more hb.size) (by omega)
    have c2 := fun w1 (h : NestR w1 3 Al (nestOf S)) (hb : Below w.heap.size w w1) => refCheckRound_any rlo rhi lots Al c S w1 h hF Bs cs l ((hs0.below hb).more hb.size) (by omega)
    have c3 := fun w1 (h : NestR w1 3 Al (nestOf S)) => rounds_any rlo rhi lots Al c S w1 h hF
    have c4 := fun w1 (h : NestR w1 3 Al (nestOf S)) => roundErr_any rlo rhi lots Al c S w1 h hF
    have c5 := fun w1 (h : NestR w1 3 Al (nestOf S)) B cB l' hr hl' => refCheckRound_any rlo rhi lots Al c S w1 h hF B cB l' hr hl'
    obtain ⟨f1, f2, f3, f4⟩ := roundRet_facts (rlo := rlo) (rhi := rhi) (lots := lots) (S := S)
    unfold bookV at *
    generalize hrr : roundRet rlo rhi lots S = rr at *
    obtain ⟨rd, re⟩ := rr
    dsimp only at f1 f2 f3 f4
    subst f1
    generalize roundErr rlo rhi lots S = re at *
    by_cases hre : re = 0
    · obtain ⟨n, hn, hrn⟩ := f4 hre
      have c6 := fun w1 h B cB hr => c5 w1 h B cB rd hr (by omega)
      rw [hrn] at c6
      clear c5 hrr f3 f4
      subst hre
      generalize roundR rlo rhi lots S l = r1 at *
      obtain ⟨a1, e1⟩ := r1
      dsimp only at c1 c2 c6
      refine fn_v Try.tabOk (n := 76) (A := []) Try.func6 rfl rfl (Nat.le_of_ble_eq_true rfl) (St.nil (Below.refl _ _)) ?_
      ((try first | apply tr_v Try.tabOk | apply ot_v Try.tabOk); (conv => whnf); (repeat ((first | (apply VCall.q; kernel_rfl; (focus (intro w1 hs; first | with_reducible apply hgr w1 (hs.nest hN) | with_reducible apply hwk w1 | with_reducible apply c1 w1 (hs.nest hN) hs.base | with_reducible apply c2 w1 (hs.nest hN) hs.base))) | apply VBr.f | (apply v_f; omega) | (apply VNew.mk; intro g hg) | (apply VLdN.mk; (focus ((repeat (first | (with_reducible apply ldn_blk) | (with_reducible apply ldn_row) | (with_reducible assumption) | (with_reducible apply ldn_skip))); done)); exact rfl)); (conv => whnf))); try (first | apply VStop.mk | apply VCall.stop))
      refine ot_call_st (X := Option Addr × Nat) (fun x => .tuple #[.slice x.1 rd.length x.2, .int .i64 0]) (fun x => [.own (.slice x.1 rd.length x.2) 3 1 rd.length (i64s rd)]) (fun x => mut_one rfl) (by decide) rfl rfl rfl (by kernel_rfl) (evl_of rfl) (fun w1 hs => (c3 w1 (hs.nest hN)).mono fun e w' h => h.slices) (fun y1 => ?_)
      dsimp only [List.cons_append, List.nil_append]
      apply ot_v Try.tabOk
      ((try first | apply tr_v Try.tabOk | apply ot_v Try.tabOk); (conv => whnf); (repeat ((first | (apply VCall.q; kernel_rfl; (focus (intro w1 hs; first | with_reducible apply c4 w1 (hs.nest hN) | with_reducible apply hwk w1 | with_reducible apply c6 w1 (hs.nest hN) _ _ (hs.own_rd (by (repeat (first | with_unfolding_all exact List.Mem.head _ | assumption | with_unfolding_all refine List.Mem.tail _ ?_))))))) | apply VBr.t | apply VBr.f | (apply v_t; omega) | (apply v_f; omega) | (apply VLdN.mk; (focus ((repeat (first | (with_reducible apply ldn_blk) | (with_reducible apply ldn_row) | (with_reducible assumption) | (with_reducible apply ldn_skip))); done)); exact rfl)); (conv => whnf))); try (first | apply VStop.mk | apply VCall.stop))
      ((apply VRet.mk); refine ret1 (by first | exact .inl rfl | exact .inr rfl) rfl (by exact rv_tmp rfl) ?_; exact fun w h => ⟨rfl, h.base⟩)
    · obtain rfl := f3 hre
      clear c5 hrr f3 f4
      generalize roundR rlo rhi lots S l = r1 at *
      obtain ⟨a1, e1⟩ := r1
      dsimp only at c1 c2
      refine fn_v Try.tabOk (n := 76) (A := []) Try.func6 rfl rfl (Nat.le_of_ble_eq_true rfl) (St.nil (Below.refl _ _)) ?_
      ((try first | apply tr_v Try.tabOk | apply ot_v Try.tabOk); (conv => whnf); (repeat ((first | (apply VCall.q; kernel_rfl; (focus (intro w1 hs; first | with_reducible apply hgr w1 (hs.nest hN) | with_reducible apply hwk w1 | with_reducible apply c1 w1 (hs.nest hN) hs.base | with_reducible apply c2 w1 (hs.nest hN) hs.base))) | apply VBr.f | (apply v_f; omega) | (apply VNew.mk; intro g hg) | (apply VLdN.mk; (focus ((repeat (first | (with_reducible apply ldn_blk) | (with_reducible apply ldn_row) | (with_reducible assumption) | (with_reducible apply ldn_skip))); done)); exact rfl)); (conv => whnf))); try (first | apply VStop.mk | apply VCall.stop))
      refine ot_call_st (X := Option Addr × Nat) (fun x => .tuple #[.slice x.1 0 x.2, .int .i64 re]) (fun x => [.own (.slice x.1 0 x.2) 3 1 0 (i64s [])]) (fun x => mut_one rfl) (by decide) rfl rfl rfl (by kernel_rfl) (evl_of rfl) (fun w1 hs => (c3 w1 (hs.nest hN)).mono fun e w' h => h.slices) (fun y1 => ?_)
      dsimp only [List.cons_append, List.nil_append]
      apply ot_v Try.tabOk
      ((try first | apply tr_v Try.tabOk | apply ot_v Try.tabOk); (conv => whnf); (repeat ((first | (apply VCall.q; kernel_rfl; (focus (intro w1 hs; first | with_reducible apply c4 w1 (hs.nest hN) | with_reducible apply hwk w1))) | apply VBr.t | apply VBr.f | (apply v_t; omega) | (apply v_f; omega) | (apply VLdN.mk; (focus ((repeat (first | (with_reducible apply ldn_blk) | (with_reducible apply ldn_row) | (with_reducible assumption) | (with_reducible apply ldn_skip))); done)); exact rfl)); (conv => whnf))); try (first | apply VStop.mk | apply VCall.stop))
      ((apply VRet.mk); refine ret1 (by first | exact .inl rfl | exact .inr rfl) rfl (by exact rv_tmp rfl) ?_; exact fun w h => ⟨rfl, h.base⟩)
end
end Go.Proofs.Ytkbcogaodnmdoaa
