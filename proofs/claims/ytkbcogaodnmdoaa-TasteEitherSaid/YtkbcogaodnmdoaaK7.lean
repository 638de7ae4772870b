/- TasteEither: lemmas for the rows of this seat. No conditions. -/
import Derived.Test.YtkbcogaodnmdoaaProg
import Derived.WalkKit
import Derived.WalkSpells
import Derived.WalkLawsBesides
import Derived.Lib.Hide
import Derived.Deep.AppendLies
import Derived.Deep.Draws
import Derived.Maps.AppendAt
import Derived.RegionTactic
import Derived.OwnWalk
import Derived.Deep.QuietTactic
import Derived.BigQuiet
import Derived.Deep.DeepFit
import Derived.Deep.LoopGhost
import Derived.Deep.DeepMust
import Derived.Deep.DeepCutAuto
import Derived.StillTail
import Derived.Deep.Quiet
import Derived.Deep.RegionHeld3
import Derived.Deep.RegionWith
import Derived.Deep.RegionLaw
import Derived.Maps.OwnOps
import Derived.Maps.OwnSet
import Derived.Maps.OwnRows
import Derived.Maps.RangeWalk
import Derived.Carry
import Derived.Test.YtkbcogaodnmdoaaBase
import Derived.Test.YtkbcogaodnmdoaaMaps
import Derived.Test.YtkbcogaodnmdoaaKeys
import Derived.Test.YtkbcogaodnmdoaaS1
import Derived.Test.YtkbcogaodnmdoaaS5
import Derived.Test.YtkbcogaodnmdoaaS12
import Derived.Test.YtkbcogaodnmdoaaS14
import Derived.Test.YtkbcogaodnmdoaaV
import Derived.Test.YtkbcogaodnmdoaaV2
import Derived.Test.YtkbcogaodnmdoaaV3
import Derived.Test.YtkbcogaodnmdoaaV4
import Derived.Test.YtkbcogaodnmdoaaV5
import Derived.Test.YtkbcogaodnmdoaaV6
import Derived.Test.YtkbcogaodnmdoaaTab
import Derived.Test.YtkbcogaodnmdoaaE1
import Derived.Test.YtkbcogaodnmdoaaE2
import Derived.Test.YtkbcogaodnmdoaaE3
import Derived.Test.YtkbcogaodnmdoaaE4
import Derived.Test.YtkbcogaodnmdoaaE5
import Derived.Test.YtkbcogaodnmdoaaE6
import Derived.Test.YtkbcogaodnmdoaaE7
import Derived.Test.YtkbcogaodnmdoaaE8
import Derived.Test.YtkbcogaodnmdoaaE9
import Derived.Test.YtkbcogaodnmdoaaE10
import Derived.Test.YtkbcogaodnmdoaaE11
import Derived.Test.YtkbcogaodnmdoaaE12
import Derived.Test.YtkbcogaodnmdoaaE13
import Derived.Test.YtkbcogaodnmdoaaE14
import Derived.Test.YtkbcogaodnmdoaaE15
import Derived.Test.YtkbcogaodnmdoaaE16
import Derived.Test.YtkbcogaodnmdoaaE17
import Derived.Test.YtkbcogaodnmdoaaE18
import Derived.Test.YtkbcogaodnmdoaaE19
import Derived.Test.YtkbcogaodnmdoaaE20
import Derived.Test.YtkbcogaodnmdoaaE21
import Derived.Test.YtkbcogaodnmdoaaE22
import Derived.Test.YtkbcogaodnmdoaaE23
import Derived.Test.YtkbcogaodnmdoaaE24
import Derived.Test.YtkbcogaodnmdoaaE25
import Derived.Test.YtkbcogaodnmdoaaE26
import Derived.Test.YtkbcogaodnmdoaaE27
import Derived.Test.YtkbcogaodnmdoaaE28
import Derived.Test.YtkbcogaodnmdoaaE29
import Derived.Test.YtkbcogaodnmdoaaE30
import Derived.Test.YtkbcogaodnmdoaaE31
import Derived.Test.YtkbcogaodnmdoaaE32
import Derived.Test.YtkbcogaodnmdoaaE33
import Derived.Test.YtkbcogaodnmdoaaE34
import Derived.Test.YtkbcogaodnmdoaaE35
set_option linter.all false
namespace Go.Proofs.Ytkbcogaodnmdoaa
open Go.RowKit
/-! ## TasteEither -/
section
variable (rlo rhi lots : Int) (Al : Option Addr) (c : Nat) (S : List (List T3)) (w : World) (hN : NestR w 3 Al (nestOf S)) (hm : ∀ s ∈ S, s.length ≤ maxLen)
include hN hm
set_option maxHeartbeats 4000000 in
set_option maxRecDepth 20000 in
theorem tasteEither_any (Bs : Option Addr) (cs : Nat) (l : List Int) (hs0 : Reads w w.heap.size 1 Bs l.length (i64s l)) (hml : l.length ≤ maxLen) (By : Option Addr) (cb : Nat) (by_ : List Int) (hby : Reads w w.heap.size 1 By by_.length (by_.map (Value.int .u16))) (hmb : by_.length ≤ maxLen) (hb0 : ∀ z ∈ by_, (Lit.int .u16 z).wf = true) :
    Calls Try.prog 8 #[bookV rlo rhi lots Al S.length c, .slice Bs l.length cs, .slice By by_.length cb] w fun e w' => e = .returned (.bool true) ∧ Below w.heap.size w w' := by
  have hb : ∀ z ∈ by_, 0 ≤ z ∧ z ≤ 65535 := fun z hz => by
    have h := hb0 z hz
    have e1 : IntKind.u16.min = 0 := rfl
    have e2 : IntKind.u16.max = 65535 := rfl
    simpa [Lit.wf, e1, e2] using h
  have hfn := fun w1 (h : NestR w1 3 Al (nestOf S)) => fineG_any rlo rhi lots Al c S w1 h hm
  have hwk := fun w1 => works_any w1
  unfold maxLen at hml hmb
  by_cases h0 : chkBook rlo rhi lots S = 0
  rotate_left
  · rw [decide_eq_false h0] at hfn
    unfold bookV at *
    refine fn_v Try.tabOk (n := 176) (A := []) Try.func8 rfl rfl (Nat.le_of_ble_eq_true rfl) (St.nil (Below.refl _ _)) ?_
    ((try first | apply tr_v Try.tabOk | apply ot_v Try.tabOk); (conv => whnf); (repeat ((first | (apply VCall.q; kernel_rfl; (focus (intro w1 hs; first | with_reducible apply hfn w1 (hs.nest hN) | with_reducible apply hwk w1))) | apply VBr.t | (apply VNew.mk; intro g hg) | (apply VLdN.mk; (focus ((repeat (first | (with_reducible apply ldn_blk) | (with_reducible apply ldn_row) | (with_reducible assumption) | (with_reducible apply ldn_skip))); done)); exact rfl)); (conv => whnf))); try (first | apply VStop.mk | apply VCall.stop))
    ((apply VRet.mk); refine ret1 (by first | exact .inl rfl | exact .inr rfl) rfl (by exact rv_tmp rfl) ?_; exact fun w h => ⟨rfl, h.base⟩)
  rw [decide_eq_true h0] at hfn
  by_cases hl30 : 30 < l.length
  · unfold bookV at *
    refine fn_v Try.tabOk (n := 176) (A := []) Try.func8 rfl rfl (Nat.le_of_ble_eq_true rfl) (St.nil (Below.refl _ _)) ?_
    ((try first | apply tr_v Try.tabOk | apply ot_v Try.tabOk); (conv => whnf); (repeat ((first | (apply VCall.q; kernel_rfl; (focus (intro w1 hs; first | with_reducible apply hfn w1 (hs.nest hN) | with_reducible apply hwk w1))) | apply VBr.t | apply VBr.f | (apply v_t; omega) | (apply VNew.mk; intro g hg) | (apply VLdN.mk; (focus ((repeat (first | (with_reducible apply ldn_blk) | (with_reducible apply ldn_row) | (with_reducible assumption) | (with_reducible apply ldn_skip))); done)); exact rfl)); (conv => whnf))); try (first | apply VStop.mk | apply VCall.stop))
    ((apply VRet.mk); refine ret1 (by first | exact .inl rfl | exact .inr rfl) rfl (by exact rv_tmp rfl) ?_; exact fun w h => ⟨rfl, h.base⟩)
  by_cases hb30 : 30 < by_.length
  · unfold bookV at *
    refine fn_v Try.tabOk (n := 176) (A := []) Try.func8 rfl rfl (Nat.le_of_ble_eq_true rfl) (St.nil (Below.refl _ _)) ?_
    ((try first | apply tr_v Try.tabOk | apply ot_v Try.tabOk); (conv => whnf); (repeat ((first | (apply VCall.q; kernel_rfl; (focus (intro w1 hs; first | with_reducible apply hfn w1 (hs.nest hN) | with_reducible apply hwk w1))) | apply VBr.t | apply VBr.f | (apply v_t; omega) | (apply v_f; omega) | (apply VNew.mk; intro g hg) | (apply VLdN.mk; (focus ((repeat (first | (with_reducible apply ldn_blk) | (with_reducible apply ldn_row) | (with_reducible assumption) | (with_reducible apply ldn_skip))); done)); exact rfl)); (conv => whnf))); try (first | apply VStop.mk | apply VCall.stop))
    ((apply VRet.mk); refine ret1 (by first | exact .inl rfl | exact .inr rfl) rfl (by exact rv_tmp rfl) ?_; exact fun w h => ⟨rfl, h.base⟩)
  have hO := chk_ok.1 h0
  obtain ⟨L, rfl⟩ : ∃ L : Nat, lots = L := ⟨lots.toNat, by have := hO.l; omega⟩
  have hF := hO.fit
  have hl := hO.l
  have ht := hO.t
  have hhd : ∀ w1, NestR w1 3 Al (nestOf S) → Below w.heap.size w w1 → Calls Try.prog 42 #[bookV rlo rhi L Al S.length c, .slice By by_.length cb] w1 fun e w' => ∃ x : NestX S.length × TwoX, e = .returned (.tuple #[bookV rlo rhi L x.1.1.1 S.length x.1.1.2, .slice x.2.1.1 L x.2.1.2, .slice x.2.2.1 S.flatten.length x.2.2.2]) ∧
      St w1 [.own (.slice x.2.1.1 L x.2.1.2) 2 1 L (i64s (heldL by_ L)), .own (.slice x.2.2.1 S.flatten.length x.2.2.2) 2 1 S.flatten.length (i64s (heldTl rlo rhi L S by_ S.flatten.length))] w' := fun w1 h hbe =>
    (held_any rlo rhi L Al c S w1 h hO By cb by_ ((hby.below hbe).more hbe.size) (by omega) hb).mono fun e w' ⟨x, he, hs⟩ => ⟨x, he, hs.sub (.cons_cons _ (.cons_cons _ (List.nil_sublist _)))⟩
  have c1 := fun w1 (h : NestR w1 3 Al (nestOf S)) => least_any rlo rhi L Al c S w1 h hF
  have c2 := fun w1 (h : NestR w1 3 Al (nestOf S)) => greatest_any rlo rhi L Al c S w1 h hF
  have c3 := fun w1 (h : NestR w1 3 Al (nestOf S)) => rounds_any rlo rhi L Al c S w1 h hF
  have c4 := fun w1 (h : NestR w1 3 Al (nestOf S)) (hb : Below w.heap.size w w1) => checkRound_any rlo rhi L Al c S w1 h hF Bs cs l ((hs0.below hb).more hb.size) (by omega)
  have c5 := fun w1 (h : NestR w1 3 Al (nestOf S)) A B ca cb' sh ti ha hb h1 h2 => checkTruth_any rlo rhi L Al c S w1 h hF A B ca cb' sh ti ha hb h1 h2
  have c6 := fun w1 (h : NestR w1 3 Al (nestOf S)) A B ca cb' sh ti ha hb h1 h2 => refCheckTruth_any rlo rhi L Al c S w1 h hF A B ca cb' sh ti ha hb h1 h2
  have n1 : (heldL by_ L).length = L := by simp [heldL]
  have n2 : (heldTl rlo rhi L S by_ S.flatten.length).length = S.flatten.length := by simp [heldTl]
  have hv5 : ∀ w1 (h : NestR w1 3 Al (nestOf S)) A B ca cb', Reads w1 w1.heap.size 1 A L (i64s (heldL by_ L)) → Reads w1 w1.heap.size 1 B S.flatten.length (i64s (heldTl rlo rhi L S by_ S.flatten.length)) → _ := fun w1 h A B ca cb' ha hb => c5 w1 h A B ca cb' (heldL by_ L) (heldTl rlo rhi L S by_ S.flatten.length) (by rw [n1]; exact ha) (by rw [n2]; exact hb) (by omega) (by omega)
  have hv6 : ∀ w1 (h : NestR w1 3 Al (nestOf S)) A B ca cb', Reads w1 w1.heap.size 1 A L (i64s (heldL by_ L)) → Reads w1 w1.heap.size 1 B S.flatten.length (i64s (heldTl rlo rhi L S by_ S.flatten.length)) → _ := fun w1 h A B ca cb' ha hb => c6 w1 h A B ca cb' (heldL by_ L) (heldTl rlo rhi L S by_ S.flatten.length) (by rw [n1]; exact ha) (by rw [n2]; exact hb) (by omega) (by omega)
  rw [n1, n2] at hv5 hv6
  cases hc : canB rlo rhi L S (-1) with
  | true =>
    have ez := end_lens hO hc
    rw [ez] at c1 c2
    rw [roundRet_no hO hc] at c3
    have z1 := end_truth hO hc false
    have z2 := end_truth hO hc true
    have zr := roundR_err hO (l := l) hc
    have m1 : ∀ gr, (sharpL (jm rlo rhi L S (-1)) gr L).length = L := fun gr => by simp [sharpL]
    have m2 : ∀ gr, (tiredL (jm rlo rhi L S (-1)) gr L S.flatten.length).length = S.flatten.length := fun gr => by simp [tiredL]
    have mm1 := m1 false
    have mm2 := m2 false
    have mm3 := m1 true
    have mm4 := m2 true
    clear hO ez m1 m2
    unfold bookV at *
    generalize sharpL (jm rlo rhi L S (-1)) false L = a1 at *
    generalize tiredL (jm rlo rhi L S (-1)) false L S.flatten.length = b1 at *
    generalize sharpL (jm rlo rhi L S (-1)) true L = a2 at *
    generalize tiredL (jm rlo rhi L S (-1)) true L S.flatten.length = b2 at *
    have k1 := fun w1 (h : NestR w1 3 Al (nestOf S)) A B ca cb' ha hb => c5 w1 h A B ca cb' a1 b1 ha hb (by omega) (by omega)
    have k2 := fun w1 (h : NestR w1 3 Al (nestOf S)) A B ca cb' ha hb => c5 w1 h A B ca cb' a2 b2 ha hb (by omega) (by omega)
    have k3 := fun w1 (h : NestR w1 3 Al (nestOf S)) A B ca cb' ha hb => c6 w1 h A B ca cb' a1 b1 ha hb (by omega) (by omega)
    have k4 := fun w1 (h : NestR w1 3 Al (nestOf S)) A B ca cb' ha hb => c6 w1 h A B ca cb' a2 b2 ha hb (by omega) (by omega)
    rw [z1] at k1 k3
    rw [z2] at k2 k4
    clear c5 c6
    generalize truthR rlo rhi L S (heldL by_ L) (heldTl rlo rhi L S by_ S.flatten.length) = tv at *
    generalize roundR rlo rhi L S l = rr at *
    obtain ⟨r1, r2⟩ := rr
    dsimp only at zr c4
    refine fn_v Try.tabOk (n := 176) (A := []) Try.func8 rfl rfl (Nat.le_of_ble_eq_true rfl) (St.nil (Below.refl _ _)) ?_
    ((try first | apply tr_v Try.tabOk | apply ot_v Try.tabOk); (conv => whnf); (repeat ((first | (apply VCall.q; kernel_rfl; (focus (intro w1 hs; first | with_reducible apply hfn w1 (hs.nest hN)))) | apply VBr.f | (apply v_f; omega) | (apply VNew.mk; intro g hg) | (apply VLdN.mk; (focus ((repeat (first | (with_reducible apply ldn_blk) | (with_reducible apply ldn_row) | (with_reducible assumption) | (with_reducible apply ldn_skip))); done)); exact rfl)); (conv => whnf))); try (first | apply VStop.mk | apply VCall.stop))
    refine ot_call_st (X := NestX S.length × TwoX) (fun x => .tuple #[.agg #[.int .i64 rlo, .int .i64 rhi, .int .i64 L, .slice x.1.1.1 S.length x.1.1.2], .slice x.2.1.1 L x.2.1.2, .slice x.2.2.1 S.flatten.length x.2.2.2]) (fun x => [.own (.slice x.2.1.1 L x.2.1.2) 2 1 L (i64s (heldL by_ L)), .own (.slice x.2.2.1 S.flatten.length x.2.2.2) 2 1 S.flatten.length (i64s (heldTl rlo rhi L S by_ S.flatten.length))]) (fun x => mut_two rfl rfl) (by decide) rfl rfl rfl (by kernel_rfl) (evl_of rfl) (fun w1 hs => hhd w1 (hs.nest hN) hs.base) (fun x => ?_)
    obtain ⟨x0, y0⟩ := x
    dsimp only [List.cons_append, List.nil_append]
    apply ot_v Try.tabOk
    ((try first | apply tr_v Try.tabOk | apply ot_v Try.tabOk); (conv => whnf); (repeat ((first | (apply VNew.mk; intro g hg) | (apply VLdN.mk; (focus ((repeat (first | (with_reducible apply ldn_blk) | (with_reducible apply ldn_row) | (with_reducible assumption) | (with_reducible apply ldn_skip))); done)); exact rfl) | (apply VSt.mk; (focus ((repeat (first | (with_reducible exact At.here) | (with_reducible apply At.there))); done)); exact rfl)); (conv => whnf))); try (first | apply VStop.mk | apply VCall.stop))
    refine ot_call_st (X := TwoX) (fun x => .tuple #[.slice x.1.1 a1.length x.1.2, .slice x.2.1 b1.length x.2.2, .int .i64 0]) (fun x => [.own (.slice x.1.1 a1.length x.1.2) 2 1 a1.length (i64s a1), .own (.slice x.2.1 b1.length x.2.2) 2 1 b1.length (i64s b1)]) (fun x => mut_two rfl rfl) (by decide) rfl rfl rfl (by kernel_rfl) (evl_of rfl) (fun w1 hs => (c1 w1 (hs.nest hN)).mono fun e w' h => h.slices) (fun y1 => ?_)
    dsimp only [List.cons_append, List.nil_append]
    apply ot_v Try.tabOk
    ((try first | apply tr_v Try.tabOk | apply ot_v Try.tabOk); (conv => whnf); (repeat ((first | (apply VLdN.mk; (focus ((repeat (first | (with_reducible apply ldn_blk) | (with_reducible apply ldn_row) | (with_reducible assumption) | (with_reducible apply ldn_skip))); done)); exact rfl)); (conv => whnf))); try (first | apply VStop.mk | apply VCall.stop))
    refine ot_call_st (X := TwoX) (fun x => .tuple #[.slice x.1.1 a2.length x.1.2, .slice x.2.1 b2.length x.2.2, .int .i64 0]) (fun x => [.own (.slice x.1.1 a2.length x.1.2) 2 1 a2.length (i64s a2), .own (.slice x.2.1 b2.length x.2.2) 2 1 b2.length (i64s b2)]) (fun x => mut_two rfl rfl) (by decide) rfl rfl rfl (by kernel_rfl) (evl_of rfl) (fun w1 hs => (c2 w1 (hs.nest hN)).mono fun e w' h => h.slices) (fun y2 => ?_)
    dsimp only [List.cons_append, List.nil_append]
    apply ot_v Try.tabOk
    ((try first | apply tr_v Try.tabOk | apply ot_v Try.tabOk); (conv => whnf); (repeat ((first | (apply VLdN.mk; (focus ((repeat (first | (with_reducible apply ldn_blk) | (with_reducible apply ldn_row) | (with_reducible assumption) | (with_reducible apply ldn_skip))); done)); exact rfl)); (conv => whnf))); try (first | apply VStop.mk | apply VCall.stop))
    refine ot_call_st (X := Option Addr × Nat) (fun x => .tuple #[.slice x.1 0 x.2, .int .i64 5]) (fun x => [.own (.slice x.1 0 x.2) 3 1 0 (i64s [])]) (fun x => mut_one rfl) (by decide) rfl rfl rfl (by kernel_rfl) (evl_of rfl) (fun w1 hs => (c3 w1 (hs.nest hN)).mono fun e w' h => h.slices) (fun y3 => ?_)
    dsimp only [List.cons_append, List.nil_append]
    apply ot_v Try.tabOk
    ((try first | apply tr_v Try.tabOk | apply ot_v Try.tabOk); (conv => whnf); (repeat ((first | (apply VCall.q; kernel_rfl; (focus (intro w1 hs; first | with_reducible apply c4 w1 (hs.nest hN) hs.base | with_reducible apply hv5 w1 (hs.nest hN) _ _ _ _ (hs.own_rd (by (repeat (first | with_unfolding_all exact List.Mem.head _ | assumption | with_unfolding_all refine List.Mem.tail _ ?_)))) (hs.own_rd (by (repeat (first | with_unfolding_all exact List.Mem.head _ | assumption | with_unfolding_all refine List.Mem.tail _ ?_)))) | with_reducible apply hv6 w1 (hs.nest hN) _ _ _ _ (hs.own_rd (by (repeat (first | with_unfolding_all exact List.Mem.head _ | assumption | with_unfolding_all refine List.Mem.tail _ ?_)))) (hs.own_rd (by (repeat (first | with_unfolding_all exact List.Mem.head _ | assumption | with_unfolding_all refine List.Mem.tail _ ?_)))) | with_reducible apply k1 w1 (hs.nest hN) _ _ _ _ (hs.own_rd (by (repeat (first | with_unfolding_all exact List.Mem.head _ | assumption | with_unfolding_all refine List.Mem.tail _ ?_)))) (hs.own_rd (by (repeat (first | with_unfolding_all exact List.Mem.head _ | assumption | with_unfolding_all refine List.Mem.tail _ ?_)))) | with_reducible apply k2 w1 (hs.nest hN) _ _ _ _ (hs.own_rd (by (repeat (first | with_unfolding_all exact List.Mem.head _ | assumption | with_unfolding_all refine List.Mem.tail _ ?_)))) (hs.own_rd (by (repeat (first | with_unfolding_all exact List.Mem.head _ | assumption | with_unfolding_all refine List.Mem.tail _ ?_)))) | with_reducible apply k3 w1 (hs.nest hN) _ _ _ _ (hs.own_rd (by (repeat (first | with_unfolding_all exact List.Mem.head _ | assumption | with_unfolding_all refine List.Mem.tail _ ?_)))) (hs.own_rd (by (repeat (first | with_unfolding_all exact List.Mem.head _ | assumption | with_unfolding_all refine List.Mem.tail _ ?_)))) | with_reducible apply k4 w1 (hs.nest hN) _ _ _ _ (hs.own_rd (by (repeat (first | with_unfolding_all exact List.Mem.head _ | assumption | with_unfolding_all refine List.Mem.tail _ ?_)))) (hs.own_rd (by (repeat (first | with_unfolding_all exact List.Mem.head _ | assumption | with_unfolding_all refine List.Mem.tail _ ?_)))) | with_reducible apply hwk w1))) | apply VBr.t | apply VBr.f | (apply v_t; omega) | (apply v_f; omega) | (apply VLdN.mk; (focus ((repeat (first | (with_reducible apply ldn_blk) | (with_reducible apply ldn_row) | (with_reducible assumption) | (with_reducible apply ldn_skip))); done)); exact rfl)); (conv => whnf))); try (first | apply VStop.mk | apply VCall.stop))
    ((apply VRet.mk); refine ret1 (by first | exact .inl rfl | exact .inr rfl) rfl (by exact rv_tmp rfl) ?_; exact fun w h => ⟨rfl, h.base⟩)
  | false =>
    have ez := end_no' hO hc
    rw [ez] at c1 c2
    obtain ⟨rd, n, hr, hn, hrn, hr1, hr2⟩ := roundRet_yes hO hc
    rw [hr] at c3
    have ztv := truthR_err hO (sharp := heldL by_ L) (tired := heldTl rlo rhi L S by_ S.flatten.length) hc
    have k1 := fun w1 (h : NestR w1 3 Al (nestOf S)) B cB ha => checkRound_any rlo rhi L Al c S w1 h hF B cB rd ha (by omega)
    have k2 := fun w1 (h : NestR w1 3 Al (nestOf S)) B cB ha => refCheckRound_any rlo rhi L Al c S w1 h hF B cB rd ha (by omega)
    rw [hrn] at k1 k2
    clear hO ez hr hrn c5 c6
    unfold bookV at *
    generalize truthR rlo rhi L S (heldL by_ L) (heldTl rlo rhi L S by_ S.flatten.length) = tv at *
    generalize roundR rlo rhi L S l = rr at *
    obtain ⟨r1, r2⟩ := rr
    dsimp only at c4
    refine fn_v Try.tabOk (n := 176) (A := []) Try.func8 rfl rfl (Nat.le_of_ble_eq_true rfl) (St.nil (Below.refl _ _)) ?_
    ((try first | apply tr_v Try.tabOk | apply ot_v Try.tabOk); (conv => whnf); (repeat ((first | (apply VCall.q; kernel_rfl; (focus (intro w1 hs; first | with_reducible apply hfn w1 (hs.nest hN)))) | apply VBr.f | (apply v_f; omega) | (apply VNew.mk; intro g hg) | (apply VLdN.mk; (focus ((repeat (first | (with_reducible apply ldn_blk) | (with_reducible apply ldn_row) | (with_reducible assumption) | (with_reducible apply ldn_skip))); done)); exact rfl)); (conv => whnf))); try (first | apply VStop.mk | apply VCall.stop))
    refine ot_call_st (X := NestX S.length × TwoX) (fun x => .tuple #[.agg #[.int .i64 rlo, .int .i64 rhi, .int .i64 L, .slice x.1.1.1 S.length x.1.1.2], .slice x.2.1.1 L x.2.1.2, .slice x.2.2.1 S.flatten.length x.2.2.2]) (fun x => [.own (.slice x.2.1.1 L x.2.1.2) 2 1 L (i64s (heldL by_ L)), .own (.slice x.2.2.1 S.flatten.length x.2.2.2) 2 1 S.flatten.length (i64s (heldTl rlo rhi L S by_ S.flatten.length))]) (fun x => mut_two rfl rfl) (by decide) rfl rfl rfl (by kernel_rfl) (evl_of rfl) (fun w1 hs => hhd w1 (hs.nest hN) hs.base) (fun x => ?_)
    obtain ⟨x0, y0⟩ := x
    dsimp only [List.cons_append, List.nil_append]
    apply ot_v Try.tabOk
    ((try first | apply tr_v Try.tabOk | apply ot_v Try.tabOk); (conv => whnf); (repeat ((first | (apply VNew.mk; intro g hg) | (apply VLdN.mk; (focus ((repeat (first | (with_reducible apply ldn_blk) | (with_reducible apply ldn_row) | (with_reducible assumption) | (with_reducible apply ldn_skip))); done)); exact rfl) | (apply VSt.mk; (focus ((repeat (first | (with_reducible exact At.here) | (with_reducible apply At.there))); done)); exact rfl)); (conv => whnf))); try (first | apply VStop.mk | apply VCall.stop))
    refine ot_call_st (X := TwoX) (fun x => .tuple #[.slice x.1.1 0 x.1.2, .slice x.2.1 0 x.2.2, .int .i64 17]) (fun x => [.own (.slice x.1.1 0 x.1.2) 2 1 0 (i64s []), .own (.slice x.2.1 0 x.2.2) 2 1 0 (i64s [])]) (fun x => mut_two rfl rfl) (by decide) rfl rfl rfl (by kernel_rfl) (evl_of rfl) (fun w1 hs => (c1 w1 (hs.nest hN)).mono fun e w' h => h.slices) (fun y1 => ?_)
    dsimp only [List.cons_append, List.nil_append]
    apply ot_v Try.tabOk
    ((try first | apply tr_v Try.tabOk | apply ot_v Try.tabOk); (conv => whnf); (repeat ((first | (apply VLdN.mk; (focus ((repeat (first | (with_reducible apply ldn_blk) | (with_reducible apply ldn_row) | (with_reducible assumption) | (with_reducible apply ldn_skip))); done)); exact rfl)); (conv => whnf))); try (first | apply VStop.mk | apply VCall.stop))
    refine ot_call_st (X := TwoX) (fun x => .tuple #[.slice x.1.1 0 x.1.2, .slice x.2.1 0 x.2.2, .int .i64 17]) (fun x => [.own (.slice x.1.1 0 x.1.2) 2 1 0 (i64s []), .own (.slice x.2.1 0 x.2.2) 2 1 0 (i64s [])]) (fun x => mut_two rfl rfl) (by decide) rfl rfl rfl (by kernel_rfl) (evl_of rfl) (fun w1 hs => (c2 w1 (hs.nest hN)).mono fun e w' h => h.slices) (fun y2 => ?_)
    dsimp only [List.cons_append, List.nil_append]
    apply ot_v Try.tabOk
    ((try first | apply tr_v Try.tabOk | apply ot_v Try.tabOk); (conv => whnf); (repeat ((first | (apply VLdN.mk; (focus ((repeat (first | (with_reducible apply ldn_blk) | (with_reducible apply ldn_row) | (with_reducible assumption) | (with_reducible apply ldn_skip))); done)); exact rfl)); (conv => whnf))); try (first | apply VStop.mk | apply VCall.stop))
    refine ot_call_st (X := Option Addr × Nat) (fun x => .tuple #[.slice x.1 rd.length x.2, .int .i64 0]) (fun x => [.own (.slice x.1 rd.length x.2) 3 1 rd.length (i64s rd)]) (fun x => mut_one rfl) (by decide) rfl rfl rfl (by kernel_rfl) (evl_of rfl) (fun w1 hs => (c3 w1 (hs.nest hN)).mono fun e w' h => h.slices) (fun y3 => ?_)
    dsimp only [List.cons_append, List.nil_append]
    apply ot_v Try.tabOk
    ((try first | apply tr_v Try.tabOk | apply ot_v Try.tabOk); (conv => whnf); (repeat ((first | (apply VCall.q; kernel_rfl; (focus (intro w1 hs; first | with_reducible apply k1 w1 (hs.nest hN) _ _ (hs.own_rd (by (repeat (first | with_unfolding_all exact List.Mem.head _ | assumption | with_unfolding_all refine List.Mem.tail _ ?_)))) | with_reducible apply c4 w1 (hs.nest hN) hs.base | with_reducible apply hv5 w1 (hs.nest hN) _ _ _ _ (hs.own_rd (by (repeat (first | with_unfolding_all exact List.Mem.head _ | assumption | with_unfolding_all refine List.Mem.tail _ ?_)))) (hs.own_rd (by (repeat (first | with_unfolding_all exact List.Mem.head _ | assumption | with_unfolding_all refine List.Mem.tail _ ?_)))) | with_reducible apply hv6 w1 (hs.nest hN) _ _ _ _ (hs.own_rd (by (repeat (first | with_unfolding_all exact List.Mem.head _ | assumption | with_unfolding_all refine List.Mem.tail _ ?_)))) (hs.own_rd (by (repeat (first | with_unfolding_all exact List.Mem.head _ | assumption | with_unfolding_all refine List.Mem.tail _ ?_)))) | with_reducible apply k2 w1 (hs.nest hN) _ _ (hs.own_rd (by (repeat (first | with_unfolding_all exact List.Mem.head _ | assumption | with_unfolding_all refine List.Mem.tail _ ?_)))) | with_reducible apply hwk w1))) | apply VBr.t | apply VBr.f | (apply v_t; omega) | (apply v_f; omega) | (apply VLdN.mk; (focus ((repeat (first | (with_reducible apply ldn_blk) | (with_reducible apply ldn_row) | (with_reducible assumption) | (with_reducible apply ldn_skip))); done)); exact rfl)); (conv => whnf))); try (first | apply VStop.mk | apply VCall.stop))
    ((apply VRet.mk); refine ret1 (by first | exact .inl rfl | exact .inr rfl) rfl (by exact rv_tmp rfl) ?_; exact fun w h => ⟨rfl, h.base⟩)
end
end Go.Proofs.Ytkbcogaodnmdoaa
