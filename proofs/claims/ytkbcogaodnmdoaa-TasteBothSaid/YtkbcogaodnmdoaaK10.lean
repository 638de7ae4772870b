/- TasteBoth: lemmas for the rows of this seat. No conditions. -/
import Derived.Test.YtkbcogaodnmdoaaProg
import Derived.WalkKit
import Derived.WalkSpells
import Derived.WalkLawsBesides
import Derived.Lib.Hide
import Derived.Deep.AppendLies
import Derived.Deep.Draws
import Derived.Maps.AppendAt
import Derived.RegionTactic
import Derived.OwnWalk
import Derived.Deep.QuietTactic
import Derived.BigQuiet
import Derived.Deep.DeepFit
import Derived.Deep.LoopGhost
import Derived.Deep.DeepMust
import Derived.Deep.DeepCutAuto
import Derived.StillTail
import Derived.Deep.Quiet
import Derived.Deep.RegionHeld3
import Derived.Deep.RegionWith
import Derived.Deep.RegionLaw
import Derived.Maps.OwnOps
import Derived.Maps.OwnSet
import Derived.Maps.OwnRows
import Derived.Maps.RangeWalk
import Derived.Carry
import Derived.Test.YtkbcogaodnmdoaaBase
import Derived.Test.YtkbcogaodnmdoaaMaps
import Derived.Test.YtkbcogaodnmdoaaKeys
import Derived.Test.YtkbcogaodnmdoaaS1
import Derived.Test.YtkbcogaodnmdoaaS5
import Derived.Test.YtkbcogaodnmdoaaS12
import Derived.Test.YtkbcogaodnmdoaaS14
import Derived.Test.YtkbcogaodnmdoaaV
import Derived.Test.YtkbcogaodnmdoaaV2
import Derived.Test.YtkbcogaodnmdoaaV3
import Derived.Test.YtkbcogaodnmdoaaV4
import Derived.Test.YtkbcogaodnmdoaaV5
import Derived.Test.YtkbcogaodnmdoaaV6
import Derived.Test.YtkbcogaodnmdoaaV7
import Derived.Test.YtkbcogaodnmdoaaTab
import Derived.Test.YtkbcogaodnmdoaaE1
import Derived.Test.YtkbcogaodnmdoaaE2
import Derived.Test.YtkbcogaodnmdoaaE3
import Derived.Test.YtkbcogaodnmdoaaE4
import Derived.Test.YtkbcogaodnmdoaaE5
import Derived.Test.YtkbcogaodnmdoaaE6
import Derived.Test.YtkbcogaodnmdoaaE7
import Derived.Test.YtkbcogaodnmdoaaE8
import Derived.Test.YtkbcogaodnmdoaaE9
import Derived.Test.YtkbcogaodnmdoaaE10
import Derived.Test.YtkbcogaodnmdoaaE11
import Derived.Test.YtkbcogaodnmdoaaE12
import Derived.Test.YtkbcogaodnmdoaaE13
import Derived.Test.YtkbcogaodnmdoaaE14
import Derived.Test.YtkbcogaodnmdoaaE15
import Derived.Test.YtkbcogaodnmdoaaE16
import Derived.Test.YtkbcogaodnmdoaaE17
import Derived.Test.YtkbcogaodnmdoaaE18
import Derived.Test.YtkbcogaodnmdoaaE19
import Derived.Test.YtkbcogaodnmdoaaE20
import Derived.Test.YtkbcogaodnmdoaaE21
import Derived.Test.YtkbcogaodnmdoaaE22
import Derived.Test.YtkbcogaodnmdoaaE23
import Derived.Test.YtkbcogaodnmdoaaE24
import Derived.Test.YtkbcogaodnmdoaaE25
import Derived.Test.YtkbcogaodnmdoaaE26
import Derived.Test.YtkbcogaodnmdoaaE27
import Derived.Test.YtkbcogaodnmdoaaE28
import Derived.Test.YtkbcogaodnmdoaaE29
import Derived.Test.YtkbcogaodnmdoaaE30
import Derived.Test.YtkbcogaodnmdoaaE31
import Derived.Test.YtkbcogaodnmdoaaE32
import Derived.Test.YtkbcogaodnmdoaaE33
import Derived.Test.YtkbcogaodnmdoaaE34
import Derived.Test.YtkbcogaodnmdoaaE35
import Derived.Test.YtkbcogaodnmdoaaE36
import Derived.Test.YtkbcogaodnmdoaaE38
set_option linter.all false
namespace Go.Proofs.Ytkbcogaodnmdoaa
open Go.RowKit
/-! ## TasteBoth -/
/- appended -/
section
variable (rlo rhi lots : Int) (Al : Option Addr) (c : Nat) (S : List (List T3)) (w : World) (hN : NestR w 3 Al (nestOf S)) (hm : ∀ s ∈ S, s.length ≤ maxLen)
include hN hm
set_option maxHeartbeats 4000000 in
set_option maxRecDepth 20000 in
theorem tasteBoth_any (By : Option Addr) (cb : Nat) (by_ : List Int) (hby : Reads w w.heap.size 1 By by_.length (by_.map (Value.int .u16))) (hmb : by_.length ≤ maxLen) (hb0 : ∀ z ∈ by_, (Lit.int .u16 z).wf = true) (Bz : Option Addr) (cz : Nat) (bz : List Int) (hbz : Reads w w.heap.size 1 Bz bz.length (bz.map (Value.int .u16))) (hmz : bz.length ≤ maxLen) (hz0 : ∀ z ∈ bz, (Lit.int .u16 z).wf = true) :
    Calls Try.prog 11 #[bookV rlo rhi lots Al S.length c, .slice By by_.length cb, .slice Bz bz.length cz] w fun e w' => e = .returned (.bool true) ∧ Below w.heap.size w w' := by
  have hb : ∀ z ∈ by_, 0 ≤ z ∧ z ≤ 65535 := fun z hz => by
    have h := hb0 z hz
    have e1 : IntKind.u16.min = 0 := rfl
    have e2 : IntKind.u16.max = 65535 := rfl
    simpa [Lit.wf, e1, e2] using h
  have hbz' : ∀ z ∈ bz, 0 ≤ z ∧ z ≤ 65535 := fun z hz => by
    have h := hz0 z hz
    have e1 : IntKind.u16.min = 0 := rfl
    have e2 : IntKind.u16.max = 65535 := rfl
    simpa [Lit.wf, e1, e2] using h
  have hfn := fun w1 (h : NestR w1 3 Al (nestOf S)) => fineG_any rlo rhi lots Al c S w1 h hm
  have hwk := fun w1 => works_any w1
  unfold maxLen at hmb hmz
  by_cases h0 : chkBook rlo rhi lots S = 0
  rotate_left
  · rw [decide_eq_false h0] at hfn
    unfold bookV at *
    refine fn_v Try.tabOk (n := 154) (A := []) Try.func11 rfl rfl (Nat.le_of_ble_eq_true rfl) (St.nil (Below.refl _ _)) ?_
    ((try first | apply tr_v Try.tabOk | apply ot_v Try.tabOk); (conv => whnf); (repeat ((first | (apply VCall.q; kernel_rfl; (focus (intro w1 hs; first | with_reducible apply hfn w1 (hs.nest hN) | with_reducible apply hwk w1))) | apply VBr.t | (apply VNew.mk; intro g hg) | (apply VLdN.mk; (focus ((repeat (first | (with_reducible apply ldn_blk) | (with_reducible apply ldn_row) | (with_reducible assumption) | (with_reducible apply ldn_skip))); done)); exact rfl)); (conv => whnf))); try (first | apply VStop.mk | apply VCall.stop))
    ((apply VRet.mk); refine ret1 (by first | exact .inl rfl | exact .inr rfl) rfl (by exact rv_tmp rfl) ?_; exact fun w h => ⟨rfl, h.base⟩)
  rw [decide_eq_true h0] at hfn
  by_cases hb30 : 30 < by_.length
  · unfold bookV at *
    refine fn_v Try.tabOk (n := 154) (A := []) Try.func11 rfl rfl (Nat.le_of_ble_eq_true rfl) (St.nil (Below.refl _ _)) ?_
    ((try first | apply tr_v Try.tabOk | apply ot_v Try.tabOk); (conv => whnf); (repeat ((first | (apply VCall.q; kernel_rfl; (focus (intro w1 hs; first | with_reducible apply hfn w1 (hs.nest hN) | with_reducible apply hwk w1))) | apply VBr.t | apply VBr.f | (apply v_t; omega) | (apply VNew.mk; intro g hg) | (apply VLdN.mk; (focus ((repeat (first | (with_reducible apply ldn_blk) | (with_reducible apply ldn_row) | (with_reducible assumption) | (with_reducible apply ldn_skip))); done)); exact rfl)); (conv => whnf))); try (first | apply VStop.mk | apply VCall.stop))
    ((apply VRet.mk); refine ret1 (by first | exact .inl rfl | exact .inr rfl) rfl (by exact rv_tmp rfl) ?_; exact fun w h => ⟨rfl, h.base⟩)
  by_cases hz30 : 30 < bz.length
  · unfold bookV at *
    refine fn_v Try.tabOk (n := 154) (A := []) Try.func11 rfl rfl (Nat.le_of_ble_eq_true rfl) (St.nil (Below.refl _ _)) ?_
    ((try first | apply tr_v Try.tabOk | apply ot_v Try.tabOk); (conv => whnf); (repeat ((first | (apply VCall.q; kernel_rfl; (focus (intro w1 hs; first | with_reducible apply hfn w1 (hs.nest hN) | with_reducible apply hwk w1))) | apply VBr.t | apply VBr.f | (apply v_t; omega) | (apply v_f; omega) | (apply VNew.mk; intro g hg) | (apply VLdN.mk; (focus ((repeat (first | (with_reducible apply ldn_blk) | (with_reducible apply ldn_row) | (with_reducible assumption) | (with_reducible apply ldn_skip))); done)); exact rfl)); (conv => whnf))); try (first | apply VStop.mk | apply VCall.stop))
    ((apply VRet.mk); refine ret1 (by first | exact .inl rfl | exact .inr rfl) rfl (by exact rv_tmp rfl) ?_; exact fun w h => ⟨rfl, h.base⟩)
  have hO := chk_ok.1 h0
  obtain ⟨L, rfl⟩ : ∃ L : Nat, lots = L := ⟨lots.toNat, by have := hO.l; omega⟩
  have hl := hO.l
  have ht := hO.t
  have hbd := fun w1 (hbe : Below w.heap.size w w1) => (hby.below hbe).more hbe.size
  have hzd := fun w1 (hbe : Below w.heap.size w w1) => (hbz.below hbe).more hbe.size
  have hd1 := fun w1 (h : NestR w1 3 Al (nestOf S)) (hbe : Below w.heap.size w w1) => held_any rlo rhi L Al c S w1 h hO By cb by_ (hbd w1 hbe) (by omega) hb
  have l1 := heldS_len rlo rhi L S by_
  have fl1 := held_flat (rlo := rlo) (rhi := rhi) (L := L) (S := S) (by_ := by_)
  have m1 : ∀ s ∈ heldS rlo rhi L S by_, s.length ≤ maxLen := fun s hs => by
    obtain ⟨j, hj, rfl⟩ := List.getElem_of_mem hs
    rw [l1] at hj
    rw [heldS_atl hj]
    exact hm _ (List.getElem_mem hj)
  have l2 := heldS_len rlo rhi L (heldS rlo rhi L S by_) bz
  have fl2 := held_flat (rlo := rlo) (rhi := rhi) (L := L) (S := heldS rlo rhi L S by_) (by_ := bz)
  have m2 : ∀ s ∈ heldS rlo rhi L (heldS rlo rhi L S by_) bz, s.length ≤ maxLen := fun s hs => by
    obtain ⟨j, hj, rfl⟩ := List.getElem_of_mem hs
    rw [l2] at hj
    rw [heldS_atl hj]
    exact m1 _ (List.getElem_mem hj)
  have bt := fun h2 h1 => both_truth (by_ := by_) hO hb (two := bz) h2 h1
  have st := fun (h1 : Okb rlo rhi L (heldS rlo rhi L S by_)) h2 => held_truthN (S := heldS rlo rhi L S by_) (by_ := bz) h2 (fun j hj => held_off (by rw [l2] at hj; exact hj)) (held_self h1 hbz')
  have n1 : (heldL by_ L).length = L := by simp [heldL]
  have n2 : (heldL bz L).length = L := by simp [heldL]
  rw [l1] at l2
  rw [fl1] at fl2
  rw [fl2] at bt st
  generalize hS1 : heldS rlo rhi L S by_ = S1 at *
  have hf1 := fun w1 A c (h : NestR w1 3 A (nestOf S1)) => fineG_any rlo rhi L A c S1 w1 h m1
  have hd2 := fun (h1 : Okb rlo rhi L S1) w1 A c (h : NestR w1 3 A (nestOf S1)) (hbe : Below w.heap.size w w1) => held_any rlo rhi L A c S1 w1 h h1 Bz cz bz (hzd w1 hbe) (by omega) hbz'
  generalize hS2 : heldS rlo rhi L S1 bz = S2 at *
  have hf2 := fun w1 A c (h : NestR w1 3 A (nestOf S2)) => fineG_any rlo rhi L A c S2 w1 h m2
  have hd3 : ∀ (h1 : Okb rlo rhi L S2) w1 A c (h : NestR w1 3 A (nestOf S2)) (hbe : Below w.heap.size w w1), Calls Try.prog 42 #[bookV rlo rhi L A S2.length c, .slice By by_.length cb] w1 fun e w' => ∃ x : NestX S2.length × TwoX, e = Ending.returned (.tuple #[bookV rlo rhi L x.1.1.1 S2.length x.1.1.2, .slice x.2.1.1 L x.2.1.2, .slice x.2.2.1 S2.flatten.length x.2.2.2]) ∧ St w1 [.own (.slice x.2.1.1 L x.2.1.2) 2 1 L (i64s (heldL by_ L)), .own (.slice x.2.2.1 S2.flatten.length x.2.2.2) 2 1 S2.flatten.length (i64s (heldTl rlo rhi L S2 by_ S2.flatten.length))] w' :=
    fun h1 w1 A c h hbe => (held_any rlo rhi L A c S2 w1 h h1 By cb by_ (hbd w1 hbe) (by omega) hb).mono fun e w' ⟨x, he, hs⟩ => ⟨x, he, hs.sub (.cons_cons _ (.cons_cons _ (List.nil_sublist _)))⟩
  rw [l1] at hf1 hd2
  rw [l2] at hf2 hd3
  rw [fl1] at hd2
  rw [fl2] at hd3
  have n3 : (heldTl rlo rhi L S1 bz S.flatten.length).length = S.flatten.length := by simp [heldTl]
  have n4 : (heldTl rlo rhi L S2 by_ S.flatten.length).length = S.flatten.length := by simp [heldTl]
  unfold bookV at hfn hd1 hd2 hd3 hf1 hf2
  clear hO
  unfold bookV
  refine fn_v Try.tabOk (n := 154) (A := []) Try.func11 rfl rfl (Nat.le_of_ble_eq_true rfl) (St.nil (Below.refl _ _)) ?_
  ((try first | apply tr_v Try.tabOk | apply ot_v Try.tabOk); (conv => whnf); (repeat ((first | (apply VCall.q; kernel_rfl; (focus (intro w1 hs; first | with_reducible apply hfn w1 (hs.nest hN)))) | apply VBr.f | (apply v_f; omega) | (apply VNew.mk; intro g hg) | (apply VLdN.mk; (focus ((repeat (first | (with_reducible apply ldn_blk) | (with_reducible apply ldn_row) | (with_reducible assumption) | (with_reducible apply ldn_skip))); done)); exact rfl)); (conv => whnf))); try (first | apply VStop.mk | apply VCall.stop))
  refine ot_call_st (X := NestX S.length × TwoX) (fun x => .tuple #[.agg #[.int .i64 rlo, .int .i64 rhi, .int .i64 L, .slice x.1.1.1 S.length x.1.1.2], .slice x.2.1.1 L x.2.1.2, .slice x.2.2.1 S.flatten.length x.2.2.2]) (fun x => .own (.slice x.2.1.1 L x.2.1.2) 2 1 L (i64s (heldL by_ L)) :: .own (.slice x.2.2.1 S.flatten.length x.2.2.2) 2 1 S.flatten.length (i64s (heldTl rlo rhi L S by_ S.flatten.length)) :: .own (.slice x.1.1.1 S.length x.1.1.2) 55 1 S.length (sitVs x.1.2.1 S1) :: sitCh x.1.2.1 S1) (fun x c hc => by
    simp only [List.mem_cons] at hc
    rcases hc with rfl | rfl | rfl | hc
    · rfl
    · rfl
    · rfl
    · exact sitCh_mut c hc) (by decide) rfl rfl rfl (by kernel_rfl) (evl_of rfl) (fun w1 hs => hd1 w1 (hs.nest hN) hs.base) (fun x => ?_)
  obtain ⟨⟨⟨Bo, co⟩, ⟨xs, hxs⟩⟩, ⟨⟨B8, c8⟩, ⟨B9, c9⟩⟩⟩ := x
  simp only [List.cons_append, List.nil_append]
  have hnx : ∀ {w1 : World} {A : List Chunk}, St w A w1 → .own (.slice Bo S.length co) 55 1 S.length (sitVs xs S1) ∈ A → (∀ d ∈ sitCh xs S1, d ∈ A) → NestR w1 3 Bo (nestOf S1) := fun hs h h2 => hs.nestO (c := co) (by rw [l1]; exact hxs) (by rw [l1]; exact h) h2
  generalize hR : sitCh xs S1 = R at *
  apply ot_v Try.tabOk
  by_cases h1 : chkBook rlo rhi L S1 = 0
  rotate_left
  · rw [decide_eq_false h1] at hf1
    ((try first | apply tr_v Try.tabOk | apply ot_v Try.tabOk); (conv => whnf); (repeat ((first | (apply VCall.q; kernel_rfl; (focus (intro w1 hs; first | with_reducible apply hf1 w1 _ _ (hnx hs (by (repeat (first | with_unfolding_all exact List.Mem.head _ | assumption | with_unfolding_all refine List.Mem.tail _ ?_))) fun d hd => by simp only [List.mem_cons, List.mem_append, hd, true_or, or_true]) | with_reducible apply hwk w1))) | apply VBr.t | (apply VNew.mk; intro g hg) | (apply VLdN.mk; (focus ((repeat (first | (with_reducible apply ldn_blk) | (with_reducible apply ldn_row) | (with_reducible assumption) | (with_reducible apply ldn_skip))); done)); exact rfl) | (apply VSt.mk; (focus ((repeat (first | (with_reducible exact At.here) | (with_reducible apply At.there))); done)); exact rfl)); (conv => whnf))); try (first | apply VStop.mk | apply VCall.stop))
    ((apply VRet.mk); refine ret1 (by first | exact .inl rfl | exact .inr rfl) rfl (by exact rv_tmp rfl) ?_; exact fun w h => ⟨rfl, h.base⟩)
  rw [decide_eq_true h1] at hf1
  have hO1 := chk_ok.1 h1
  ((try first | apply tr_v Try.tabOk | apply ot_v Try.tabOk); (conv => whnf); (repeat ((first | (apply VCall.q; kernel_rfl; (focus (intro w1 hs; first | with_reducible apply hf1 w1 _ _ (hnx hs (by (repeat (first | with_unfolding_all exact List.Mem.head _ | assumption | with_unfolding_all refine List.Mem.tail _ ?_))) fun d hd => by simp only [List.mem_cons, List.mem_append, hd, true_or, or_true])))) | apply VBr.f | (apply VNew.mk; intro g hg) | (apply VLdN.mk; (focus ((repeat (first | (with_reducible apply ldn_blk) | (with_reducible apply ldn_row) | (with_reducible assumption) | (with_reducible apply ldn_skip))); done)); exact rfl) | (apply VSt.mk; (focus ((repeat (first | (with_reducible exact At.here) | (with_reducible apply At.there))); done)); exact rfl)); (conv => whnf))); try (first | apply VStop.mk | apply VCall.stop))
  refine ot_call_st (X := NestX S.length × TwoX) (fun x => .tuple #[.agg #[.int .i64 rlo, .int .i64 rhi, .int .i64 L, .slice x.1.1.1 S.length x.1.1.2], .slice x.2.1.1 L x.2.1.2, .slice x.2.2.1 S.flatten.length x.2.2.2]) (fun x => .own (.slice x.2.1.1 L x.2.1.2) 2 1 L (i64s (heldL bz L)) :: .own (.slice x.2.2.1 S.flatten.length x.2.2.2) 2 1 S.flatten.length (i64s (heldTl rlo rhi L S1 bz S.flatten.length)) :: .own (.slice x.1.1.1 S.length x.1.1.2) 55 1 S.length (sitVs x.1.2.1 S2) :: sitCh x.1.2.1 S2) (fun x c hc => by
    simp only [List.mem_cons] at hc
    rcases hc with rfl | rfl | rfl | hc
    · rfl
    · rfl
    · rfl
    · exact sitCh_mut c hc) (by decide) rfl rfl rfl (by kernel_rfl) (evl_of rfl) (fun w1 hs => hd2 hO1 w1 _ _ (hnx hs (by (repeat (first | with_unfolding_all exact List.Mem.head _ | assumption | with_unfolding_all refine List.Mem.tail _ ?_))) fun d hd => by simp only [List.mem_cons, List.mem_append, hd, true_or, or_true]) hs.base) (fun x => ?_)
  obtain ⟨⟨⟨Bq, cq⟩, ⟨xq, hxq⟩⟩, ⟨⟨Bs, ks⟩, ⟨Bt, kt⟩⟩⟩ := x
  simp only [List.cons_append, List.nil_append]
  have hny : ∀ {w1 : World} {A : List Chunk}, St w A w1 → .own (.slice Bq S.length cq) 55 1 S.length (sitVs xq S2) ∈ A → (∀ d ∈ sitCh xq S2, d ∈ A) → NestR w1 3 Bq (nestOf S2) := fun hs h h2 => hs.nestO (c := cq) (by rw [l2]; exact hxq) (by rw [l2]; exact h) h2
  generalize hR2 : sitCh xq S2 = R2 at *
  apply ot_v Try.tabOk
  by_cases h2 : chkBook rlo rhi L S2 = 0
  rotate_left
  · rw [decide_eq_false h2] at hf2
    ((try first | apply tr_v Try.tabOk | apply ot_v Try.tabOk); (conv => whnf); (repeat ((first | (apply VCall.q; kernel_rfl; (focus (intro w1 hs; first | with_reducible apply hf2 w1 _ _ (hny hs (by (repeat (first | with_unfolding_all exact List.Mem.head _ | assumption | with_unfolding_all refine List.Mem.tail _ ?_))) fun d hd => by simp only [List.mem_cons, List.mem_append, hd, true_or, or_true]) | with_reducible apply hwk w1))) | apply VBr.t | (apply VNew.mk; intro g hg) | (apply VLdN.mk; (focus ((repeat (first | (with_reducible apply ldn_blk) | (with_reducible apply ldn_row) | (with_reducible assumption) | (with_reducible apply ldn_skip))); done)); exact rfl) | (apply VSt.mk; (focus ((repeat (first | (with_reducible exact At.here) | (with_reducible apply At.there))); done)); exact rfl)); (conv => whnf))); try (first | apply VStop.mk | apply VCall.stop))
    ((apply VRet.mk); refine ret1 (by first | exact .inl rfl | exact .inr rfl) rfl (by exact rv_tmp rfl) ?_; exact fun w h => ⟨rfl, h.base⟩)
  rw [decide_eq_true h2] at hf2
  have hO2 := chk_ok.1 h2
  ((try first | apply tr_v Try.tabOk | apply ot_v Try.tabOk); (conv => whnf); (repeat ((first | (apply VCall.q; kernel_rfl; (focus (intro w1 hs; first | with_reducible apply hf2 w1 _ _ (hny hs (by (repeat (first | with_unfolding_all exact List.Mem.head _ | assumption | with_unfolding_all refine List.Mem.tail _ ?_))) fun d hd => by simp only [List.mem_cons, List.mem_append, hd, true_or, or_true])))) | apply VBr.f | (apply VNew.mk; intro g hg) | (apply VLdN.mk; (focus ((repeat (first | (with_reducible apply ldn_blk) | (with_reducible apply ldn_row) | (with_reducible assumption) | (with_reducible apply ldn_skip))); done)); exact rfl) | (apply VSt.mk; (focus ((repeat (first | (with_reducible exact At.here) | (with_reducible apply At.there))); done)); exact rfl)); (conv => whnf))); try (first | apply VStop.mk | apply VCall.stop))
  obtain ⟨g10, rfl⟩ : ∃ x, x = g := ⟨g, rfl⟩
  refine ot_call_st (X := NestX S.length × TwoX) (fun x => .tuple #[.agg #[.int .i64 rlo, .int .i64 rhi, .int .i64 L, .slice x.1.1.1 S.length x.1.1.2], .slice x.2.1.1 L x.2.1.2, .slice x.2.2.1 S.flatten.length x.2.2.2]) (fun x => [.own (.slice x.2.1.1 L x.2.1.2) 2 1 L (i64s (heldL by_ L)), .own (.slice x.2.2.1 S.flatten.length x.2.2.2) 2 1 S.flatten.length (i64s (heldTl rlo rhi L S2 by_ S.flatten.length))]) (fun x => mut_two rfl rfl) (by decide) rfl rfl rfl (by kernel_rfl) (evl_of rfl) (fun w1 hs => hd3 hO2 w1 _ _ (hny hs (by (repeat (first | with_unfolding_all exact List.Mem.head _ | assumption | with_unfolding_all refine List.Mem.tail _ ?_))) fun d hd => by simp only [List.mem_cons, List.mem_append, hd, true_or, or_true]) hs.base) (fun x => ?_)
  obtain ⟨x0, ⟨⟨Bu, ku⟩, ⟨Bv, kv⟩⟩⟩ := x
  simp only [List.cons_append, List.nil_append]
  apply ot_v Try.tabOk
  have tA := st hO1 hO2
  have tB := bt hO2 hO1
  have hF2 := hO2.fit
  have zA := truthR_zero hO2 n2 (by rw [n3, fl2]) tA
  have zB := truthR_zero hO2 n1 (by rw [n4, fl2]) tB
  have tmn := truth_mn tA tB
  have tmx := truth_mx tA tB
  have tmn' := TruthN.congr' hO2 tmn (sh' := iAt (mnL mnI (heldL bz L) (heldL by_ L) L)) (ti' := iAt (mnL mnI (heldTl rlo rhi L S1 bz S.flatten.length) (heldTl rlo rhi L S2 by_ S.flatten.length) S.flatten.length)) (fun i hi => mnL_at hi) (fun k hk => mnL_at (by rw [fl2] at hk; exact hk))
  have tmx' := TruthN.congr' hO2 tmx (sh' := iAt (mnL mxI (heldL bz L) (heldL by_ L) L)) (ti' := iAt (mnL mxI (heldTl rlo rhi L S1 bz S.flatten.length) (heldTl rlo rhi L S2 by_ S.flatten.length) S.flatten.length)) (fun i hi => mnL_at hi) (fun k hk => mnL_at (by rw [fl2] at hk; exact hk))
  have zC := truthR_zero hO2 (by simp [mnL]) (by rw [fl2]; simp [mnL]) tmn'
  have zD := truthR_zero hO2 (by simp [mnL]) (by rw [fl2]; simp [mnL]) tmx'
  have sAb : ∀ j, j < L → 0 ≤ iAt (heldL bz L) j ∧ iAt (heldL bz L) j ≤ 1000 := fun j hj => tA.sharp j hj
  have sBb : ∀ j, j < L → 0 ≤ iAt (heldL by_ L) j ∧ iAt (heldL by_ L) j ≤ 1000 := fun j hj => tB.sharp j hj
  clear tA tB tmn tmx tmn' tmx' hd1 hd2 hd3 bt st hfn hf1 hf2 hbd hzd
  have ck := fun w1 (h : NestR w1 3 Bq (nestOf S2)) A1 A2 q1 q2 sh ti ha hb hl1 hl2 => checkTruth_any rlo rhi L Bq cq S2 w1 h hF2 A1 A2 q1 q2 sh ti ha hb hl1 hl2
  unfold bookV at ck
  rw [l2] at ck
  generalize heldL bz L = s1 at *
  generalize heldL by_ L = u1 at *
  generalize heldTl rlo rhi L S1 bz S.flatten.length = t1 at *
  generalize heldTl rlo rhi L S2 by_ S.flatten.length = v1 at *
  generalize S.flatten.length = T at *
  have mL : ∀ f a b n, (mnL f a b n).length = n := fun f a b n => by simp [mnL]
  have kA := fun w1 h A1 A2 q1 q2 ha hb => ck w1 h A1 A2 q1 q2 s1 t1 ha hb (by omega) (by omega)
  have kB := fun w1 h A1 A2 q1 q2 ha hb => ck w1 h A1 A2 q1 q2 u1 v1 ha hb (by omega) (by omega)
  have kC := fun w1 h A1 A2 q1 q2 ha hb => ck w1 h A1 A2 q1 q2 (mnL mnI s1 u1 L) (mnL mnI t1 v1 T) ha hb (by rw [mL]; omega) (by rw [mL]; omega)
  have kD := fun w1 h A1 A2 q1 q2 ha hb => ck w1 h A1 A2 q1 q2 (mnL mxI s1 u1 L) (mnL mxI t1 v1 T) ha hb (by rw [mL]; omega) (by rw [mL]; omega)
  rw [zA, n2, n3] at kA
  rw [zB, n1, n4] at kB
  rw [zC, mL, mL] at kC
  rw [zD, mL, mL] at kD
  clear ck zA zB zC zD
  ((try first | apply tr_v Try.tabOk | apply ot_v Try.tabOk); (conv => whnf); (repeat ((first | (apply VNew.mk; intro g hg) | (apply VSt.mk; (focus ((repeat (first | (with_reducible exact At.here) | (with_reducible apply At.there))); done)); exact rfl)); (conv => whnf))); try (first | apply VStop.mk | apply VCall.stop))
  refine tr_fact (p := ((∃ b, Bs = some ⟨b, 0, none⟩) ∧ ∃ b, Bu = some ⟨b, 0, none⟩) ∧ (0 < T → (∃ b, Bt = some ⟨b, 0, none⟩) ∧ ∃ b, Bv = some ⟨b, 0, none⟩)) (fun w' hs => ?_) fun hp => ?_
  · exact ⟨⟨own_some hs (n := L) (cap := ks) (sz := 1) (t := 2) (xs := i64s s1) (by (repeat (first | with_unfolding_all exact List.Mem.head _ | assumption | with_unfolding_all refine List.Mem.tail _ ?_))) (by omega), own_some hs (n := L) (cap := ku) (sz := 1) (t := 2) (xs := i64s u1) (by (repeat (first | with_unfolding_all exact List.Mem.head _ | assumption | with_unfolding_all refine List.Mem.tail _ ?_))) (by omega)⟩, fun hT => ⟨own_some hs (n := T) (cap := kt) (sz := 1) (t := 2) (xs := i64s t1) (by (repeat (first | with_unfolding_all exact List.Mem.head _ | assumption | with_unfolding_all refine List.Mem.tail _ ?_))) hT, own_some hs (n := T) (cap := kv) (sz := 1) (t := 2) (xs := i64s v1) (by (repeat (first | with_unfolding_all exact List.Mem.head _ | assumption | with_unfolding_all refine List.Mem.tail _ ?_))) hT⟩⟩
  obtain ⟨⟨⟨dS, rfl⟩, ⟨dU, rfl⟩⟩, hp2⟩ := hp
  refine tr_nameA ?_
  intro A0 hA0
  have fs : ∀ j, j < L → CellAt w A0 dS (0 + j * 1) (.int .i64 (iAt s1 j)) := fun j hj => by subst hA0; exact own_int (n := L) (cap := ks) (t := 2) (by (repeat (first | with_unfolding_all exact List.Mem.head _ | assumption | with_unfolding_all refine List.Mem.tail _ ?_))) (by omega)
  have fu : ∀ j, j < L → CellAt w A0 dU (0 + j * 1) (.int .i64 (iAt u1 j)) := fun j hj => by subst hA0; exact own_int (n := L) (cap := ku) (t := 2) (by (repeat (first | with_unfolding_all exact List.Mem.head _ | assumption | with_unfolding_all refine List.Mem.tail _ ?_))) (by omega)
  have fT : 0 < T → ∃ dT dV, Bt = some ⟨dT, 0, none⟩ ∧ Bv = some ⟨dV, 0, none⟩ ∧ ∀ j, j < T → CellAt w A0 dT (0 + j * 1) (.int .i64 (iAt t1 j)) ∧ CellAt w A0 dV (0 + j * 1) (.int .i64 (iAt v1 j)) := fun hT => by
    obtain ⟨⟨dT, rfl⟩, ⟨dV, rfl⟩⟩ := hp2 hT
    subst hA0
    exact ⟨dT, dV, rfl, rfl, fun j hj => ⟨own_int (n := T) (cap := kt) (t := 2) (by (repeat (first | with_unfolding_all exact List.Mem.head _ | assumption | with_unfolding_all refine List.Mem.tail _ ?_))) (by omega), own_int (n := T) (cap := kv) (t := 2) (by (repeat (first | with_unfolding_all exact List.Mem.head _ | assumption | with_unfolding_all refine List.Mem.tail _ ?_))) (by omega)⟩⟩
  have fg : CellsAt w A0 g10 0 [.int .i64 rlo, .int .i64 rhi, .int .i64 L, .slice Bq S.length cq] := by subst hA0; exact cells_blk_all (by (repeat (first | with_unfolding_all exact List.Mem.head _ | assumption | with_unfolding_all refine List.Mem.tail _ ?_)))
  have fN : ∀ {w1 : World} {A : List Chunk}, St w A w1 → A0.Sublist A → NestR w1 3 Bq (nestOf S2) := fun hs h => by
    subst hA0
    exact hny (hs.sub h) (by (repeat (first | with_unfolding_all exact List.Mem.head _ | assumption | with_unfolding_all refine List.Mem.tail _ ?_))) fun d hd => by simp only [List.mem_cons, List.mem_append, hd, true_or, or_true]
  have r1 : ∀ {w1 : World} {A : List Chunk}, St w A w1 → A0.Sublist A → Reads w1 w1.heap.size 1 (some ⟨dS, 0, none⟩) L (i64s s1) ∧ Reads w1 w1.heap.size 1 (some ⟨dU, 0, none⟩) L (i64s u1) ∧ Reads w1 w1.heap.size 1 Bt T (i64s t1) ∧ Reads w1 w1.heap.size 1 Bv T (i64s v1) := fun hs h => by
    subst hA0
    exact ⟨(hs.sub h).own_rd (c := ks) (t := 2) (by (repeat (first | with_unfolding_all exact List.Mem.head _ | assumption | with_unfolding_all refine List.Mem.tail _ ?_))), (hs.sub h).own_rd (c := ku) (t := 2) (by (repeat (first | with_unfolding_all exact List.Mem.head _ | assumption | with_unfolding_all refine List.Mem.tail _ ?_))), (hs.sub h).own_rd (c := kt) (t := 2) (by (repeat (first | with_unfolding_all exact List.Mem.head _ | assumption | with_unfolding_all refine List.Mem.tail _ ?_))), (hs.sub h).own_rd (c := kv) (t := 2) (by (repeat (first | with_unfolding_all exact List.Mem.head _ | assumption | with_unfolding_all refine List.Mem.tail _ ?_)))⟩
  clear hA0 hp2
  refine tr_own_nil 2 1 ?_
  refine tr_own_nil 2 1 ?_
  refine v_loop (fun gm ds ts A => ds = [] ∧ ∃ (j : Nat) (Ba : Option Addr) (ca : Nat) (Bb : Option Addr) (ce : Nat), j + gm = L ∧ A = .own (.slice Ba j ca) 2 1 j (i64s (mnL mnI s1 u1 j)) :: .own (.slice Bb j ce) 2 1 j (i64s (mnL mxI s1 u1 j)) :: A0 ∧ ts = [(10, .pointer (some ⟨g10, 0, none⟩)), (11, .slice (some ⟨dS, 0, none⟩) L ks), (12, .slice Bt T kt), (14, .slice (some ⟨dU, 0, none⟩) L ku), (15, .slice Bv T kv), (16, .slice Ba j ca), (17, .slice none 0 0), (18, .slice Bb j ce), (19, .slice none 0 0), (20, .int .i64 (j : Int))]) L
    (l := [(10, _), (11, _), (12, _), (14, _), (15, _), (16, _), (17, _), (18, _), (19, _), (20, _)]) (B := _) ?_ (List.Sublist.refl _) ⟨rfl, 0, none, 0, none, 0, by omega, rfl, rfl⟩ ?_
  · exact ⟨rfl, rfl, rfl, rfl, rfl, rfl, rfl, rfl, rfl, rfl, trivial⟩
  rintro gm ds ts A ⟨rfl, j, Ba, ca, Bb, ce, hj, rfl, rfl⟩
  by_cases hlt : j < L
  · have es := fs j hlt
    have eu := fu j hlt
    have hm1 := mnL_snoc mnI s1 u1 j
    have hm2 := mnL_snoc mxI s1 u1 j
    generalize iAt s1 j = vs at *
    generalize iAt u1 j = vu at *
    ((try first | apply tr_v Try.tabOk | apply ot_v Try.tabOk); (conv => whnf); (repeat ((first | ((first | apply VStop.mk | apply VCall.stop); (first | refine tr_region_treeV (id := 14) (by kernel_rfl) A0 (by (repeat (first | exact List.nil_sublist _ | exact List.Sublist.refl _ | refine List.Sublist.cons_cons _ ?_ | refine List.Sublist.cons _ ?_ | (with_reducible refine List.Sublist.trans ?_ (List.sublist_append_right _ _))))) [0, 1, 2, 3, 4, 5, 6, 7, 8, 9, 12, 13, 14, 15, 16, 17, 18, 19, 20, 21] [10, 11, 22, 23, 24, 25] [.rd, .rd, .rd, .rd, .rd, .rd, .rd, .rd, .rd, .rd, .rd, .rd, .rd, .rd, .rd, .rd, .rd, .rd, .rd, .rd] (fun i => [.wr, .wr, .wr, .wr, .wr, .wr, .wr, .wr, .wr, .wr, .cr, .wr, .wr, .wr, .wr, .wr, .wr, .wr, .wr, .wr, .wr, .wr, .cr, .wr, .wr, .wr].getD i .wr) _ rfl rfl (by kernel_rfl) ?_); try first | apply ot_v Try.tabOk | apply tr_v Try.tabOk) | (apply VIx.mk (j := j); exact rfl; omega) | (apply VLd.mk; first | exact es | exact eu) | apply VBr.t | (apply v_t; omega)); (conv => whnf))); try (first | apply VStop.mk | apply VCall.stop))
    refine VT.mk (otx_twoV 10 22 (by kernel_rfl) (by kernel_rfl) (by decide) (by kernel_rfl) (by decide) ?_ ?_)
    · (apply ot_v Try.tabOk; (conv => whnf); (apply VNew.mk; intro g hg); (conv => whnf); refine slist_and (by (repeat (first | exact List.nil_sublist _ | exact List.Sublist.refl _ | refine List.Sublist.cons_cons _ ?_ | refine List.Sublist.cons _ ?_ | (with_reducible refine List.Sublist.trans ?_ (List.sublist_append_right _ _))))) ?_)
      refine VT.mk (otx_twoV 11 22 (by kernel_rfl) (by kernel_rfl) (by decide) (by kernel_rfl) (by decide) ?_ ?_)
      · (refine ot_appendS (sz := 1) (sl := j) (xs := i64s (mnL mnI s1 u1 j)) (A'v := fun v' => _ :: .own v' 2 1 (j + 1) _ :: _) Try.tabOk rfl rfl rfl rfl rfl rfl rfl rfl rfl rfl (by decide) rfl (cells_blk_all (by (repeat (first | with_unfolding_all exact List.Mem.head _ | assumption | with_unfolding_all refine List.Mem.tail _ ?_)))) rfl rfl (fun v' => .there (.here)) (by omega) (by decide) (fun Bn cn => ?_); refine ot_nil ?_; refine slist_and (by (repeat (first | exact List.nil_sublist _ | exact List.Sublist.refl _ | refine List.Sublist.cons_cons _ ?_ | refine List.Sublist.cons _ ?_ | (with_reducible refine List.Sublist.trans ?_ (List.sublist_append_right _ _))))) ?_)
        refine VT.mk (otx_oneV 22 (by kernel_rfl) (by kernel_rfl) (by decide) ?_)
        (apply ot_v Try.tabOk; (conv => whnf); (apply VNew.mk; intro g hg); (conv => whnf); refine slist_and (by (repeat (first | exact List.nil_sublist _ | exact List.Sublist.refl _ | refine List.Sublist.cons_cons _ ?_ | refine List.Sublist.cons _ ?_ | (with_reducible refine List.Sublist.trans ?_ (List.sublist_append_right _ _))))) ?_)
        refine VT.mk (otx_oneV 23 (by kernel_rfl) (by kernel_rfl) (by decide) ?_)
        (refine ot_appendS (sz := 1) (sl := j) (xs := i64s (mnL mxI s1 u1 j)) (A'v := fun v' => _ :: _ :: _ :: .own v' 2 1 (j + 1) _ :: _) Try.tabOk rfl rfl rfl rfl rfl rfl rfl rfl rfl rfl (by decide) rfl (cells_blk_all (by (repeat (first | with_unfolding_all exact List.Mem.head _ | assumption | with_unfolding_all refine List.Mem.tail _ ?_)))) rfl rfl (fun v' => .there (.there (.there (.here)))) (by omega) (by decide) (fun Bn cn => ?_); refine ot_nil ?_; refine slist_and (by (repeat (first | exact List.nil_sublist _ | exact List.Sublist.refl _ | refine List.Sublist.cons_cons _ ?_ | refine List.Sublist.cons _ ?_ | (with_reducible refine List.Sublist.trans ?_ (List.sublist_append_right _ _))))) ?_)
        refine VT.mk (otx_oneV 24 (by kernel_rfl) (by kernel_rfl) (by decide) ?_)
        (apply ot_v Try.tabOk; (conv => whnf); refine slist_and (by (repeat (first | exact List.nil_sublist _ | exact List.Sublist.refl _ | refine List.Sublist.cons_cons _ ?_ | refine List.Sublist.cons _ ?_ | (with_reducible refine List.Sublist.trans ?_ (List.sublist_append_right _ _))))) ?_)
        refine VT.mk (otx_oneV 25 (by kernel_rfl) (by kernel_rfl) (by decide) ?_)
        (apply ot_v Try.tabOk; (conv => whnf); refine slist_and (by (repeat (first | exact List.nil_sublist _ | exact List.Sublist.refl _ | refine List.Sublist.cons_cons _ ?_ | refine List.Sublist.cons _ ?_ | (with_reducible refine List.Sublist.trans ?_ (List.sublist_append_right _ _))))) ?_)
        refine VT.mk (otx_end ?_)
        ((try first | apply tr_v Try.tabOk | apply ot_v Try.tabOk); (conv => whnf); (repeat ((first | (apply VRng.mk; omega)); (conv => whnf))); try (first | apply VStop.mk | apply VCall.stop))
        exact v_rnd (gm - 1) (by omega) (l := [(10, _), (11, _), (12, _), (14, _), (15, _), (16, _), (17, _), (18, _), (19, _), (20, _)]) (B := .own (.slice _ (j + 1) _) 2 1 (j + 1) (i64s (mnL mnI s1 u1 j) ++ [.int .i64 (mnI vs vu)]) :: .own (.slice _ (j + 1) _) 2 1 (j + 1) (i64s (mnL mxI s1 u1 j) ++ [.int .i64 (mxI vs vu)]) :: A0) ⟨rfl, rfl, rfl, rfl, rfl, rfl, rfl, rfl, rfl, rfl, trivial⟩ (.cons _ (.cons _ (List.Sublist.refl _))) ⟨rfl, j + 1, _, _, _, _, by omega, by rw [← hm1, ← hm2]; rfl, rfl⟩
      · (apply ot_v Try.tabOk; (conv => whnf); (apply VNew.mk; intro g hg); (conv => whnf); refine slist_and (by (repeat (first | exact List.nil_sublist _ | exact List.Sublist.refl _ | refine List.Sublist.cons_cons _ ?_ | refine List.Sublist.cons _ ?_ | (with_reducible refine List.Sublist.trans ?_ (List.sublist_append_right _ _))))) ?_)
        refine VT.mk (otx_oneV 11 (by kernel_rfl) (by kernel_rfl) (by decide) ?_)
        (refine ot_appendS (sz := 1) (sl := j) (xs := i64s (mnL mnI s1 u1 j)) (A'v := fun v' => _ :: _ :: .own v' 2 1 (j + 1) _ :: _) Try.tabOk rfl rfl rfl rfl rfl rfl rfl rfl rfl rfl (by decide) rfl (cells_blk_all (by (repeat (first | with_unfolding_all exact List.Mem.head _ | assumption | with_unfolding_all refine List.Mem.tail _ ?_)))) rfl rfl (fun v' => .there (.there (.here))) (by omega) (by decide) (fun Bn cn => ?_); refine ot_nil ?_; refine slist_and (by (repeat (first | exact List.nil_sublist _ | exact List.Sublist.refl _ | refine List.Sublist.cons_cons _ ?_ | refine List.Sublist.cons _ ?_ | (with_reducible refine List.Sublist.trans ?_ (List.sublist_append_right _ _))))) ?_)
        refine VT.mk (otx_oneV 23 (by kernel_rfl) (by kernel_rfl) (by decide) ?_)
        (refine ot_appendS (sz := 1) (sl := j) (xs := i64s (mnL mxI s1 u1 j)) (A'v := fun v' => _ :: _ :: _ :: .own v' 2 1 (j + 1) _ :: _) Try.tabOk rfl rfl rfl rfl rfl rfl rfl rfl rfl rfl (by decide) rfl (cells_blk_all (by (repeat (first | with_unfolding_all exact List.Mem.head _ | assumption | with_unfolding_all refine List.Mem.tail _ ?_)))) rfl rfl (fun v' => .there (.there (.there (.here)))) (by omega) (by decide) (fun Bn cn => ?_); refine ot_nil ?_; refine slist_and (by (repeat (first | exact List.nil_sublist _ | exact List.Sublist.refl _ | refine List.Sublist.cons_cons _ ?_ | refine List.Sublist.cons _ ?_ | (with_reducible refine List.Sublist.trans ?_ (List.sublist_append_right _ _))))) ?_)
        refine VT.mk (otx_oneV 24 (by kernel_rfl) (by kernel_rfl) (by decide) ?_)
        (apply ot_v Try.tabOk; (conv => whnf); refine slist_and (by (repeat (first | exact List.nil_sublist _ | exact List.Sublist.refl _ | refine List.Sublist.cons_cons _ ?_ | refine List.Sublist.cons _ ?_ | (with_reducible refine List.Sublist.trans ?_ (List.sublist_append_right _ _))))) ?_)
        refine VT.mk (otx_oneV 25 (by kernel_rfl) (by kernel_rfl) (by decide) ?_)
        (apply ot_v Try.tabOk; (conv => whnf); refine slist_and (by (repeat (first | exact List.nil_sublist _ | exact List.Sublist.refl _ | refine List.Sublist.cons_cons _ ?_ | refine List.Sublist.cons _ ?_ | (with_reducible refine List.Sublist.trans ?_ (List.sublist_append_right _ _))))) ?_)
        refine VT.mk (otx_end ?_)
        ((try first | apply tr_v Try.tabOk | apply ot_v Try.tabOk); (conv => whnf); (repeat ((first | (apply VRng.mk; omega)); (conv => whnf))); try (first | apply VStop.mk | apply VCall.stop))
        exact v_rnd (gm - 1) (by omega) (l := [(10, _), (11, _), (12, _), (14, _), (15, _), (16, _), (17, _), (18, _), (19, _), (20, _)]) (B := .own (.slice _ (j + 1) _) 2 1 (j + 1) (i64s (mnL mnI s1 u1 j) ++ [.int .i64 (mnI vs vu)]) :: .own (.slice _ (j + 1) _) 2 1 (j + 1) (i64s (mnL mxI s1 u1 j) ++ [.int .i64 (mxI vs vu)]) :: A0) ⟨rfl, rfl, rfl, rfl, rfl, rfl, rfl, rfl, rfl, rfl, trivial⟩ (.cons _ (.cons _ (List.Sublist.refl _))) ⟨rfl, j + 1, _, _, _, _, by omega, by rw [← hm1, ← hm2]; rfl, rfl⟩
    · (apply ot_v Try.tabOk; (conv => whnf); (apply VNew.mk; intro g hg); (conv => whnf); refine slist_and (by (repeat (first | exact List.nil_sublist _ | exact List.Sublist.refl _ | refine List.Sublist.cons_cons _ ?_ | refine List.Sublist.cons _ ?_ | (with_reducible refine List.Sublist.trans ?_ (List.sublist_append_right _ _))))) ?_)
      refine VT.mk (otx_oneV 10 (by kernel_rfl) (by kernel_rfl) (by decide) ?_)
      (apply ot_v Try.tabOk; (conv => whnf); (apply VNew.mk; intro g hg); (conv => whnf); refine slist_and (by (repeat (first | exact List.nil_sublist _ | exact List.Sublist.refl _ | refine List.Sublist.cons_cons _ ?_ | refine List.Sublist.cons _ ?_ | (with_reducible refine List.Sublist.trans ?_ (List.sublist_append_right _ _))))) ?_)
      refine VT.mk (otx_oneV 11 (by kernel_rfl) (by kernel_rfl) (by decide) ?_)
      (refine ot_appendS (sz := 1) (sl := j) (xs := i64s (mnL mnI s1 u1 j)) (A'v := fun v' => _ :: _ :: .own v' 2 1 (j + 1) _ :: _) Try.tabOk rfl rfl rfl rfl rfl rfl rfl rfl rfl rfl (by decide) rfl (cells_blk_all (by (repeat (first | with_unfolding_all exact List.Mem.head _ | assumption | with_unfolding_all refine List.Mem.tail _ ?_)))) rfl rfl (fun v' => .there (.there (.here))) (by omega) (by decide) (fun Bn cn => ?_); refine ot_nil ?_; refine slist_and (by (repeat (first | exact List.nil_sublist _ | exact List.Sublist.refl _ | refine List.Sublist.cons_cons _ ?_ | refine List.Sublist.cons _ ?_ | (with_reducible refine List.Sublist.trans ?_ (List.sublist_append_right _ _))))) ?_)
      refine VT.mk (otx_oneV 23 (by kernel_rfl) (by kernel_rfl) (by decide) ?_)
      (refine ot_appendS (sz := 1) (sl := j) (xs := i64s (mnL mxI s1 u1 j)) (A'v := fun v' => _ :: _ :: _ :: .own v' 2 1 (j + 1) _ :: _) Try.tabOk rfl rfl rfl rfl rfl rfl rfl rfl rfl rfl (by decide) rfl (cells_blk_all (by (repeat (first | with_unfolding_all exact List.Mem.head _ | assumption | with_unfolding_all refine List.Mem.tail _ ?_)))) rfl rfl (fun v' => .there (.there (.there (.here)))) (by omega) (by decide) (fun Bn cn => ?_); refine ot_nil ?_; refine slist_and (by (repeat (first | exact List.nil_sublist _ | exact List.Sublist.refl _ | refine List.Sublist.cons_cons _ ?_ | refine List.Sublist.cons _ ?_ | (with_reducible refine List.Sublist.trans ?_ (List.sublist_append_right _ _))))) ?_)
      refine VT.mk (otx_oneV 24 (by kernel_rfl) (by kernel_rfl) (by decide) ?_)
      (apply ot_v Try.tabOk; (conv => whnf); refine slist_and (by (repeat (first | exact List.nil_sublist _ | exact List.Sublist.refl _ | refine List.Sublist.cons_cons _ ?_ | refine List.Sublist.cons _ ?_ | (with_reducible refine List.Sublist.trans ?_ (List.sublist_append_right _ _))))) ?_)
      refine VT.mk (otx_oneV 25 (by kernel_rfl) (by kernel_rfl) (by decide) ?_)
      (apply ot_v Try.tabOk; (conv => whnf); refine slist_and (by (repeat (first | exact List.nil_sublist _ | exact List.Sublist.refl _ | refine List.Sublist.cons_cons _ ?_ | refine List.Sublist.cons _ ?_ | (with_reducible refine List.Sublist.trans ?_ (List.sublist_append_right _ _))))) ?_)
      refine VT.mk (otx_end ?_)
      ((try first | apply tr_v Try.tabOk | apply ot_v Try.tabOk); (conv => whnf); (repeat ((first | (apply VRng.mk; omega)); (conv => whnf))); try (first | apply VStop.mk | apply VCall.stop))
      exact v_rnd (gm - 1) (by omega) (l := [(10, _), (11, _), (12, _), (14, _), (15, _), (16, _), (17, _), (18, _), (19, _), (20, _)]) (B := .own (.slice _ (j + 1) _) 2 1 (j + 1) (i64s (mnL mnI s1 u1 j) ++ [.int .i64 (mnI vs vu)]) :: .own (.slice _ (j + 1) _) 2 1 (j + 1) (i64s (mnL mxI s1 u1 j) ++ [.int .i64 (mxI vs vu)]) :: A0) ⟨rfl, rfl, rfl, rfl, rfl, rfl, rfl, rfl, rfl, rfl, trivial⟩ (.cons _ (.cons _ (List.Sublist.refl _))) ⟨rfl, j + 1, _, _, _, _, by omega, by rw [← hm1, ← hm2]; rfl, rfl⟩
  obtain rfl : L = j := by omega
  ((try first | apply tr_v Try.tabOk | apply ot_v Try.tabOk); (conv => whnf); (repeat ((first | apply VBr.f | (apply v_f; omega)); (conv => whnf))); try (first | apply VStop.mk | apply VCall.stop))
  obtain ⟨A1, hA1⟩ : ∃ A1 : List Chunk, A1 = .own (.slice Ba L ca) 2 1 L (i64s (mnL mnI s1 u1 L)) :: .own (.slice Bb L ce) 2 1 L (i64s (mnL mxI s1 u1 L)) :: A0 := ⟨_, rfl⟩
  have r2 : ∀ {w1 : World} {A : List Chunk}, St w A w1 → A1.Sublist A → Reads w1 w1.heap.size 1 Ba L (i64s (mnL mnI s1 u1 L)) ∧ Reads w1 w1.heap.size 1 Bb L (i64s (mnL mxI s1 u1 L)) := fun hs h => by
    subst hA1
    exact ⟨(hs.sub h).own_rd (c := ca) (t := 2) (by (repeat (first | with_unfolding_all exact List.Mem.head _ | assumption | with_unfolding_all refine List.Mem.tail _ ?_))), (hs.sub h).own_rd (c := ce) (t := 2) (by (repeat (first | with_unfolding_all exact List.Mem.head _ | assumption | with_unfolding_all refine List.Mem.tail _ ?_)))⟩
  have h01 : A0.Sublist A1 := by rw [hA1]; exact .cons _ (.cons _ (List.Sublist.refl _))
  refine tr_weak (l := [(10, _), (11, _), (12, _), (14, _), (15, _), (16, _), (17, _), (18, _), (19, _), (21, _)]) (B := A1) ⟨rfl, rfl, rfl, rfl, rfl, rfl, rfl, rfl, rfl, rfl, trivial⟩ (by rw [hA1]; exact List.Sublist.refl _) ?_
  clear hA1
  refine tr_own_nil 2 1 ?_
  refine tr_own_nil 2 1 ?_
  refine v_loop (fun gm ds ts A => ds = [] ∧ ∃ (j : Nat) (Bc : Option Addr) (cc' : Nat) (Bd : Option Addr) (cd' : Nat), j + gm = T ∧ A = .own (.slice Bc j cc') 2 1 j (i64s (mnL mnI t1 v1 j)) :: .own (.slice Bd j cd') 2 1 j (i64s (mnL mxI t1 v1 j)) :: A1 ∧ ts = [(10, .pointer (some ⟨g10, 0, none⟩)), (11, .slice (some ⟨dS, 0, none⟩) L ks), (12, .slice Bt T kt), (14, .slice (some ⟨dU, 0, none⟩) L ku), (15, .slice Bv T kv), (16, .slice Ba L ca), (17, .slice Bc j cc'), (18, .slice Bb L ce), (19, .slice Bd j cd'), (21, .int .i64 (j : Int))]) T
    (l := [(10, _), (11, _), (12, _), (14, _), (15, _), (16, _), (17, _), (18, _), (19, _), (21, _)]) (B := _) ?_ (List.Sublist.refl _) ⟨rfl, 0, none, 0, none, 0, by omega, rfl, rfl⟩ ?_
  · exact ⟨rfl, rfl, rfl, rfl, rfl, rfl, rfl, rfl, rfl, rfl, trivial⟩
  rintro gm' ds ts A ⟨rfl, j, Bc, cc', Bd, cd', hj', rfl, rfl⟩
  by_cases hlt' : j < T
  · obtain ⟨dT, dV, rfl, rfl, fT'⟩ := fT (by omega)
    obtain ⟨es, eu⟩ := fT' j hlt'
    have hm1 := mnL_snoc mnI t1 v1 j
    have hm2 := mnL_snoc mxI t1 v1 j
    generalize iAt t1 j = vs at *
    generalize iAt v1 j = vu at *
    ((try first | apply tr_v Try.tabOk | apply ot_v Try.tabOk); (conv => whnf); (repeat ((first | ((first | apply VStop.mk | apply VCall.stop); (first | refine tr_region_treeV (id := 18) (by kernel_rfl) A1 (by (repeat (first | exact List.nil_sublist _ | exact List.Sublist.refl _ | refine List.Sublist.cons_cons _ ?_ | refine List.Sublist.cons _ ?_ | (with_reducible refine List.Sublist.trans ?_ (List.sublist_append_right _ _))))) [0, 1, 2, 3, 4, 5, 6, 7, 8, 9, 12, 13, 14, 15, 16, 17, 18, 19, 20, 21] [10, 11, 22, 23, 24, 25] [.rd, .rd, .rd, .rd, .rd, .rd, .rd, .rd, .rd, .rd, .rd, .rd, .rd, .rd, .rd, .rd, .rd, .rd, .rd, .rd] (fun i => [.wr, .wr, .wr, .wr, .wr, .wr, .wr, .wr, .wr, .wr, .cr, .wr, .wr, .wr, .wr, .wr, .wr, .wr, .wr, .wr, .wr, .wr, .cr, .wr, .wr, .wr].getD i .wr) _ rfl rfl (by kernel_rfl) ?_); try first | apply ot_v Try.tabOk | apply tr_v Try.tabOk) | (apply VIx.mk (j := j); exact rfl; omega) | (apply VLd.mk; first | exact es.more h01 | exact eu.more h01) | apply VBr.t | (apply v_t; omega)); (conv => whnf))); try (first | apply VStop.mk | apply VCall.stop))
    refine VT.mk (otx_twoV 10 22 (by kernel_rfl) (by kernel_rfl) (by decide) (by kernel_rfl) (by decide) ?_ ?_)
    · (apply ot_v Try.tabOk; (conv => whnf); (apply VNew.mk; intro g hg); (conv => whnf); refine slist_and (by (repeat (first | exact List.nil_sublist _ | exact List.Sublist.refl _ | refine List.Sublist.cons_cons _ ?_ | refine List.Sublist.cons _ ?_ | (with_reducible refine List.Sublist.trans ?_ (List.sublist_append_right _ _))))) ?_)
      refine VT.mk (otx_twoV 11 22 (by kernel_rfl) (by kernel_rfl) (by decide) (by kernel_rfl) (by decide) ?_ ?_)
      · (refine ot_appendS (sz := 1) (sl := j) (xs := i64s (mnL mnI t1 v1 j)) (A'v := fun v' => _ :: .own v' 2 1 (j + 1) _ :: _) Try.tabOk rfl rfl rfl rfl rfl rfl rfl rfl rfl rfl (by decide) rfl (cells_blk_all (by (repeat (first | with_unfolding_all exact List.Mem.head _ | assumption | with_unfolding_all refine List.Mem.tail _ ?_)))) rfl rfl (fun v' => .there (.here)) (by omega) (by decide) (fun Bn cn => ?_); refine ot_nil ?_; refine slist_and (by (repeat (first | exact List.nil_sublist _ | exact List.Sublist.refl _ | refine List.Sublist.cons_cons _ ?_ | refine List.Sublist.cons _ ?_ | (with_reducible refine List.Sublist.trans ?_ (List.sublist_append_right _ _))))) ?_)
        refine VT.mk (otx_oneV 22 (by kernel_rfl) (by kernel_rfl) (by decide) ?_)
        (apply ot_v Try.tabOk; (conv => whnf); (apply VNew.mk; intro g hg); (conv => whnf); refine slist_and (by (repeat (first | exact List.nil_sublist _ | exact List.Sublist.refl _ | refine List.Sublist.cons_cons _ ?_ | refine List.Sublist.cons _ ?_ | (with_reducible refine List.Sublist.trans ?_ (List.sublist_append_right _ _))))) ?_)
        refine VT.mk (otx_oneV 23 (by kernel_rfl) (by kernel_rfl) (by decide) ?_)
        (refine ot_appendS (sz := 1) (sl := j) (xs := i64s (mnL mxI t1 v1 j)) (A'v := fun v' => _ :: _ :: _ :: .own v' 2 1 (j + 1) _ :: _) Try.tabOk rfl rfl rfl rfl rfl rfl rfl rfl rfl rfl (by decide) rfl (cells_blk_all (by (repeat (first | with_unfolding_all exact List.Mem.head _ | assumption | with_unfolding_all refine List.Mem.tail _ ?_)))) rfl rfl (fun v' => .there (.there (.there (.here)))) (by omega) (by decide) (fun Bn cn => ?_); refine ot_nil ?_; refine slist_and (by (repeat (first | exact List.nil_sublist _ | exact List.Sublist.refl _ | refine List.Sublist.cons_cons _ ?_ | refine List.Sublist.cons _ ?_ | (with_reducible refine List.Sublist.trans ?_ (List.sublist_append_right _ _))))) ?_)
        refine VT.mk (otx_oneV 24 (by kernel_rfl) (by kernel_rfl) (by decide) ?_)
        (apply ot_v Try.tabOk; (conv => whnf); refine slist_and (by (repeat (first | exact List.nil_sublist _ | exact List.Sublist.refl _ | refine List.Sublist.cons_cons _ ?_ | refine List.Sublist.cons _ ?_ | (with_reducible refine List.Sublist.trans ?_ (List.sublist_append_right _ _))))) ?_)
        refine VT.mk (otx_oneV 25 (by kernel_rfl) (by kernel_rfl) (by decide) ?_)
        (apply ot_v Try.tabOk; (conv => whnf); refine slist_and (by (repeat (first | exact List.nil_sublist _ | exact List.Sublist.refl _ | refine List.Sublist.cons_cons _ ?_ | refine List.Sublist.cons _ ?_ | (with_reducible refine List.Sublist.trans ?_ (List.sublist_append_right _ _))))) ?_)
        refine VT.mk (otx_end ?_)
        ((try first | apply tr_v Try.tabOk | apply ot_v Try.tabOk); (conv => whnf); (repeat ((first | (apply VRng.mk; omega)); (conv => whnf))); try (first | apply VStop.mk | apply VCall.stop))
        exact v_rnd (gm' - 1) (by omega) (l := [(10, _), (11, _), (12, _), (14, _), (15, _), (16, _), (17, _), (18, _), (19, _), (21, _)]) (B := .own (.slice _ (j + 1) _) 2 1 (j + 1) (i64s (mnL mnI t1 v1 j) ++ [.int .i64 (mnI vs vu)]) :: .own (.slice _ (j + 1) _) 2 1 (j + 1) (i64s (mnL mxI t1 v1 j) ++ [.int .i64 (mxI vs vu)]) :: A1) ⟨rfl, rfl, rfl, rfl, rfl, rfl, rfl, rfl, rfl, rfl, trivial⟩ (.cons _ (.cons _ (List.Sublist.refl _))) ⟨rfl, j + 1, _, _, _, _, by omega, by rw [← hm1, ← hm2]; rfl, rfl⟩
      · (apply ot_v Try.tabOk; (conv => whnf); (apply VNew.mk; intro g hg); (conv => whnf); refine slist_and (by (repeat (first | exact List.nil_sublist _ | exact List.Sublist.refl _ | refine List.Sublist.cons_cons _ ?_ | refine List.Sublist.cons _ ?_ | (with_reducible refine List.Sublist.trans ?_ (List.sublist_append_right _ _))))) ?_)
        refine VT.mk (otx_oneV 11 (by kernel_rfl) (by kernel_rfl) (by decide) ?_)
        (refine ot_appendS (sz := 1) (sl := j) (xs := i64s (mnL mnI t1 v1 j)) (A'v := fun v' => _ :: _ :: .own v' 2 1 (j + 1) _ :: _) Try.tabOk rfl rfl rfl rfl rfl rfl rfl rfl rfl rfl (by decide) rfl (cells_blk_all (by (repeat (first | with_unfolding_all exact List.Mem.head _ | assumption | with_unfolding_all refine List.Mem.tail _ ?_)))) rfl rfl (fun v' => .there (.there (.here))) (by omega) (by decide) (fun Bn cn => ?_); refine ot_nil ?_; refine slist_and (by (repeat (first | exact List.nil_sublist _ | exact List.Sublist.refl _ | refine List.Sublist.cons_cons _ ?_ | refine List.Sublist.cons _ ?_ | (with_reducible refine List.Sublist.trans ?_ (List.sublist_append_right _ _))))) ?_)
        refine VT.mk (otx_oneV 23 (by kernel_rfl) (by kernel_rfl) (by decide) ?_)
        (refine ot_appendS (sz := 1) (sl := j) (xs := i64s (mnL mxI t1 v1 j)) (A'v := fun v' => _ :: _ :: _ :: .own v' 2 1 (j + 1) _ :: _) Try.tabOk rfl rfl rfl rfl rfl rfl rfl rfl rfl rfl (by decide) rfl (cells_blk_all (by (repeat (first | with_unfolding_all exact List.Mem.head _ | assumption | with_unfolding_all refine List.Mem.tail _ ?_)))) rfl rfl (fun v' => .there (.there (.there (.here)))) (by omega) (by decide) (fun Bn cn => ?_); refine ot_nil ?_; refine slist_and (by (repeat (first | exact List.nil_sublist _ | exact List.Sublist.refl _ | refine List.Sublist.cons_cons _ ?_ | refine List.Sublist.cons _ ?_ | (with_reducible refine List.Sublist.trans ?_ (List.sublist_append_right _ _))))) ?_)
        refine VT.mk (otx_oneV 24 (by kernel_rfl) (by kernel_rfl) (by decide) ?_)
        (apply ot_v Try.tabOk; (conv => whnf); refine slist_and (by (repeat (first | exact List.nil_sublist _ | exact List.Sublist.refl _ | refine List.Sublist.cons_cons _ ?_ | refine List.Sublist.cons _ ?_ | (with_reducible refine List.Sublist.trans ?_ (List.sublist_append_right _ _))))) ?_)
        refine VT.mk (otx_oneV 25 (by kernel_rfl) (by kernel_rfl) (by decide) ?_)
        (apply ot_v Try.tabOk; (conv => whnf); refine slist_and (by (repeat (first | exact List.nil_sublist _ | exact List.Sublist.refl _ | refine List.Sublist.cons_cons _ ?_ | refine List.Sublist.cons _ ?_ | (with_reducible refine List.Sublist.trans ?_ (List.sublist_append_right _ _))))) ?_)
        refine VT.mk (otx_end ?_)
        ((try first | apply tr_v Try.tabOk | apply ot_v Try.tabOk); (conv => whnf); (repeat ((first | (apply VRng.mk; omega)); (conv => whnf))); try (first | apply VStop.mk | apply VCall.stop))
        exact v_rnd (gm' - 1) (by omega) (l := [(10, _), (11, _), (12, _), (14, _), (15, _), (16, _), (17, _), (18, _), (19, _), (21, _)]) (B := .own (.slice _ (j + 1) _) 2 1 (j + 1) (i64s (mnL mnI t1 v1 j) ++ [.int .i64 (mnI vs vu)]) :: .own (.slice _ (j + 1) _) 2 1 (j + 1) (i64s (mnL mxI t1 v1 j) ++ [.int .i64 (mxI vs vu)]) :: A1) ⟨rfl, rfl, rfl, rfl, rfl, rfl, rfl, rfl, rfl, rfl, trivial⟩ (.cons _ (.cons _ (List.Sublist.refl _))) ⟨rfl, j + 1, _, _, _, _, by omega, by rw [← hm1, ← hm2]; rfl, rfl⟩
    · (apply ot_v Try.tabOk; (conv => whnf); (apply VNew.mk; intro g hg); (conv => whnf); refine slist_and (by (repeat (first | exact List.nil_sublist _ | exact List.Sublist.refl _ | refine List.Sublist.cons_cons _ ?_ | refine List.Sublist.cons _ ?_ | (with_reducible refine List.Sublist.trans ?_ (List.sublist_append_right _ _))))) ?_)
      refine VT.mk (otx_oneV 10 (by kernel_rfl) (by kernel_rfl) (by decide) ?_)
      (apply ot_v Try.tabOk; (conv => whnf); (apply VNew.mk; intro g hg); (conv => whnf); refine slist_and (by (repeat (first | exact List.nil_sublist _ | exact List.Sublist.refl _ | refine List.Sublist.cons_cons _ ?_ | refine List.Sublist.cons _ ?_ | (with_reducible refine List.Sublist.trans ?_ (List.sublist_append_right _ _))))) ?_)
      refine VT.mk (otx_oneV 11 (by kernel_rfl) (by kernel_rfl) (by decide) ?_)
      (refine ot_appendS (sz := 1) (sl := j) (xs := i64s (mnL mnI t1 v1 j)) (A'v := fun v' => _ :: _ :: .own v' 2 1 (j + 1) _ :: _) Try.tabOk rfl rfl rfl rfl rfl rfl rfl rfl rfl rfl (by decide) rfl (cells_blk_all (by (repeat (first | with_unfolding_all exact List.Mem.head _ | assumption | with_unfolding_all refine List.Mem.tail _ ?_)))) rfl rfl (fun v' => .there (.there (.here))) (by omega) (by decide) (fun Bn cn => ?_); refine ot_nil ?_; refine slist_and (by (repeat (first | exact List.nil_sublist _ | exact List.Sublist.refl _ | refine List.Sublist.cons_cons _ ?_ | refine List.Sublist.cons _ ?_ | (with_reducible refine List.Sublist.trans ?_ (List.sublist_append_right _ _))))) ?_)
      refine VT.mk (otx_oneV 23 (by kernel_rfl) (by kernel_rfl) (by decide) ?_)
      (refine ot_appendS (sz := 1) (sl := j) (xs := i64s (mnL mxI t1 v1 j)) (A'v := fun v' => _ :: _ :: _ :: .own v' 2 1 (j + 1) _ :: _) Try.tabOk rfl rfl rfl rfl rfl rfl rfl rfl rfl rfl (by decide) rfl (cells_blk_all (by (repeat (first | with_unfolding_all exact List.Mem.head _ | assumption | with_unfolding_all refine List.Mem.tail _ ?_)))) rfl rfl (fun v' => .there (.there (.there (.here)))) (by omega) (by decide) (fun Bn cn => ?_); refine ot_nil ?_; refine slist_and (by (repeat (first | exact List.nil_sublist _ | exact List.Sublist.refl _ | refine List.Sublist.cons_cons _ ?_ | refine List.Sublist.cons _ ?_ | (with_reducible refine List.Sublist.trans ?_ (List.sublist_append_right _ _))))) ?_)
      refine VT.mk (otx_oneV 24 (by kernel_rfl) (by kernel_rfl) (by decide) ?_)
      (apply ot_v Try.tabOk; (conv => whnf); refine slist_and (by (repeat (first | exact List.nil_sublist _ | exact List.Sublist.refl _ | refine List.Sublist.cons_cons _ ?_ | refine List.Sublist.cons _ ?_ | (with_reducible refine List.Sublist.trans ?_ (List.sublist_append_right _ _))))) ?_)
      refine VT.mk (otx_oneV 25 (by kernel_rfl) (by kernel_rfl) (by decide) ?_)
      (apply ot_v Try.tabOk; (conv => whnf); refine slist_and (by (repeat (first | exact List.nil_sublist _ | exact List.Sublist.refl _ | refine List.Sublist.cons_cons _ ?_ | refine List.Sublist.cons _ ?_ | (with_reducible refine List.Sublist.trans ?_ (List.sublist_append_right _ _))))) ?_)
      refine VT.mk (otx_end ?_)
      ((try first | apply tr_v Try.tabOk | apply ot_v Try.tabOk); (conv => whnf); (repeat ((first | (apply VRng.mk; omega)); (conv => whnf))); try (first | apply VStop.mk | apply VCall.stop))
      exact v_rnd (gm' - 1) (by omega) (l := [(10, _), (11, _), (12, _), (14, _), (15, _), (16, _), (17, _), (18, _), (19, _), (21, _)]) (B := .own (.slice _ (j + 1) _) 2 1 (j + 1) (i64s (mnL mnI t1 v1 j) ++ [.int .i64 (mnI vs vu)]) :: .own (.slice _ (j + 1) _) 2 1 (j + 1) (i64s (mnL mxI t1 v1 j) ++ [.int .i64 (mxI vs vu)]) :: A1) ⟨rfl, rfl, rfl, rfl, rfl, rfl, rfl, rfl, rfl, rfl, trivial⟩ (.cons _ (.cons _ (List.Sublist.refl _))) ⟨rfl, j + 1, _, _, _, _, by omega, by rw [← hm1, ← hm2]; rfl, rfl⟩
  obtain rfl : T = j := by omega
  ((try first | apply tr_v Try.tabOk | apply ot_v Try.tabOk); (conv => whnf); (repeat ((first | (apply VLdN.mk; exact cells_more fg (by exact List.Sublist.trans h01 (.cons _ (.cons _ (List.Sublist.refl _)))); exact rfl) | (apply VCall.q; kernel_rfl; (focus (intro w1 hs; first | with_reducible apply kA w1 (fN hs (by exact List.Sublist.trans h01 (.cons _ (.cons _ (List.Sublist.refl _))))) _ _ _ _ (r1 hs (by exact List.Sublist.trans h01 (.cons _ (.cons _ (List.Sublist.refl _))))).1 (r1 hs (by exact List.Sublist.trans h01 (.cons _ (.cons _ (List.Sublist.refl _))))).2.2.1 | with_reducible apply kB w1 (fN hs (by exact List.Sublist.trans h01 (.cons _ (.cons _ (List.Sublist.refl _))))) _ _ _ _ (r1 hs (by exact List.Sublist.trans h01 (.cons _ (.cons _ (List.Sublist.refl _))))).2.1 (r1 hs (by exact List.Sublist.trans h01 (.cons _ (.cons _ (List.Sublist.refl _))))).2.2.2 | with_reducible apply kC w1 (fN hs (by exact List.Sublist.trans h01 (.cons _ (.cons _ (List.Sublist.refl _))))) _ _ _ _ (r2 hs (by (repeat (first | exact List.nil_sublist _ | exact List.Sublist.refl _ | refine List.Sublist.cons_cons _ ?_ | refine List.Sublist.cons _ ?_ | (with_reducible refine List.Sublist.trans ?_ (List.sublist_append_right _ _)))))).1 (hs.own_rd (by (repeat (first | with_unfolding_all exact List.Mem.head _ | assumption | with_unfolding_all refine List.Mem.tail _ ?_)))) | with_reducible apply kD w1 (fN hs (by exact List.Sublist.trans h01 (.cons _ (.cons _ (List.Sublist.refl _))))) _ _ _ _ (r2 hs (by (repeat (first | exact List.nil_sublist _ | exact List.Sublist.refl _ | refine List.Sublist.cons_cons _ ?_ | refine List.Sublist.cons _ ?_ | (with_reducible refine List.Sublist.trans ?_ (List.sublist_append_right _ _)))))).2 (hs.own_rd (by (repeat (first | with_unfolding_all exact List.Mem.head _ | assumption | with_unfolding_all refine List.Mem.tail _ ?_)))) | with_reducible apply hwk w1))) | apply VBr.t | apply VBr.f | (apply v_t; omega) | (apply v_f; omega)); (conv => whnf))); try (first | apply VStop.mk | apply VCall.stop))
  ((apply VRet.mk); refine ret1 (by first | exact .inl rfl | exact .inr rfl) rfl (by exact rv_tmp rfl) ?_; exact fun w h => ⟨rfl, h.base⟩)
end
end Go.Proofs.Ytkbcogaodnmdoaa
