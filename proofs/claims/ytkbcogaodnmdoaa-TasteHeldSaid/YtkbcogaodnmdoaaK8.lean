/- TasteHeld: lemmas for the rows of this seat. No conditions. -/
import Derived.Test.YtkbcogaodnmdoaaProg
import Derived.WalkKit
import Derived.WalkSpells
import Derived.WalkLawsBesides
import Derived.Lib.Hide
import Derived.Deep.AppendLies
import Derived.Deep.Draws
import Derived.Maps.AppendAt
import Derived.RegionTactic
import Derived.OwnWalk
import Derived.Deep.QuietTactic
import Derived.BigQuiet
import Derived.Deep.DeepFit
import Derived.Deep.LoopGhost
import Derived.Deep.DeepMust
import Derived.Deep.DeepCutAuto
import Derived.StillTail
import Derived.Deep.Quiet
import Derived.Deep.RegionHeld3
import Derived.Deep.RegionWith
import Derived.Deep.RegionLaw
import Derived.Maps.OwnOps
import Derived.Maps.OwnSet
import Derived.Maps.OwnRows
import Derived.Maps.RangeWalk
import Derived.Carry
import Derived.Test.YtkbcogaodnmdoaaBase
import Derived.Test.YtkbcogaodnmdoaaMaps
import Derived.Test.YtkbcogaodnmdoaaKeys
import Derived.Test.YtkbcogaodnmdoaaS1
import Derived.Test.YtkbcogaodnmdoaaS5
import Derived.Test.YtkbcogaodnmdoaaS12
import Derived.Test.YtkbcogaodnmdoaaS14
import Derived.Test.YtkbcogaodnmdoaaV
import Derived.Test.YtkbcogaodnmdoaaV2
import Derived.Test.YtkbcogaodnmdoaaV3
import Derived.Test.YtkbcogaodnmdoaaV4
import Derived.Test.YtkbcogaodnmdoaaV5
import Derived.Test.YtkbcogaodnmdoaaV6
import Derived.Test.YtkbcogaodnmdoaaTab
import Derived.Test.YtkbcogaodnmdoaaE1
import Derived.Test.YtkbcogaodnmdoaaE2
import Derived.Test.YtkbcogaodnmdoaaE3
import Derived.Test.YtkbcogaodnmdoaaE4
import Derived.Test.YtkbcogaodnmdoaaE5
import Derived.Test.YtkbcogaodnmdoaaE6
import Derived.Test.YtkbcogaodnmdoaaE7
import Derived.Test.YtkbcogaodnmdoaaE8
import Derived.Test.YtkbcogaodnmdoaaE9
import Derived.Test.YtkbcogaodnmdoaaE10
import Derived.Test.YtkbcogaodnmdoaaE11
import Derived.Test.YtkbcogaodnmdoaaE12
import Derived.Test.YtkbcogaodnmdoaaE13
import Derived.Test.YtkbcogaodnmdoaaE14
import Derived.Test.YtkbcogaodnmdoaaE15
import Derived.Test.YtkbcogaodnmdoaaE16
import Derived.Test.YtkbcogaodnmdoaaE17
import Derived.Test.YtkbcogaodnmdoaaE18
import Derived.Test.YtkbcogaodnmdoaaE19
import Derived.Test.YtkbcogaodnmdoaaE20
import Derived.Test.YtkbcogaodnmdoaaE21
import Derived.Test.YtkbcogaodnmdoaaE22
import Derived.Test.YtkbcogaodnmdoaaE23
import Derived.Test.YtkbcogaodnmdoaaE24
import Derived.Test.YtkbcogaodnmdoaaE25
import Derived.Test.YtkbcogaodnmdoaaE26
import Derived.Test.YtkbcogaodnmdoaaE27
import Derived.Test.YtkbcogaodnmdoaaE28
import Derived.Test.YtkbcogaodnmdoaaE29
import Derived.Test.YtkbcogaodnmdoaaE30
import Derived.Test.YtkbcogaodnmdoaaE31
import Derived.Test.YtkbcogaodnmdoaaE32
import Derived.Test.YtkbcogaodnmdoaaE33
import Derived.Test.YtkbcogaodnmdoaaE34
import Derived.Test.YtkbcogaodnmdoaaE35
import Derived.Test.YtkbcogaodnmdoaaE36
set_option linter.all false
namespace Go.Proofs.Ytkbcogaodnmdoaa
open Go.RowKit
/-! ## TasteHeld -/
/- appended -/
section
variable (rlo rhi lots : Int) (Al : Option Addr) (c : Nat) (S : List (List T3)) (w : World) (hN : NestR w 3 Al (nestOf S)) (hm : ∀ s ∈ S, s.length ≤ maxLen)
include hN hm
set_option maxHeartbeats 4000000 in
set_option maxRecDepth 20000 in
theorem tasteHeld_any (By : Option Addr) (cb : Nat) (by_ : List Int) (hby : Reads w w.heap.size 1 By by_.length (by_.map (Value.int .u16))) (hmb : by_.length ≤ maxLen) (hb0 : ∀ z ∈ by_, (Lit.int .u16 z).wf = true) (one two : Int) (h1 : 0 ≤ one ∧ one ≤ 255) (h2 : 0 ≤ two ∧ two ≤ 255) :
    Calls Try.prog 9 #[bookV rlo rhi lots Al S.length c, .slice By by_.length cb, .int .u8 one, .int .u8 two] w fun e w' => e = .returned (.bool true) ∧ Below w.heap.size w w' := by
  have hb : ∀ z ∈ by_, 0 ≤ z ∧ z ≤ 65535 := fun z hz => by
    have h := hb0 z hz
    have e1 : IntKind.u16.min = 0 := rfl
    have e2 : IntKind.u16.max = 65535 := rfl
    simpa [Lit.wf, e1, e2] using h
  have hfn := fun w1 (h : NestR w1 3 Al (nestOf S)) => fineG_any rlo rhi lots Al c S w1 h hm
  have hwk := fun w1 => works_any w1
  unfold maxLen at hmb
  by_cases h0 : chkBook rlo rhi lots S = 0
  rotate_left
  · rw [decide_eq_false h0] at hfn
    unfold bookV at *
    refine fn_v Try.tabOk (n := 218) (A := []) Try.func9 rfl rfl (Nat.le_of_ble_eq_true rfl) (St.nil (Below.refl _ _)) ?_
    ((try first | apply tr_v Try.tabOk | apply ot_v Try.tabOk); (conv => whnf); (repeat ((first | (apply VCall.q; kernel_rfl; (focus (intro w1 hs; first | with_reducible apply hfn w1 (hs.nest hN) | with_reducible apply hwk w1))) | apply VBr.t | (apply VNew.mk; intro g hg) | (apply VLdN.mk; (focus ((repeat (first | (with_reducible apply ldn_blk) | (with_reducible apply ldn_row) | (with_reducible assumption) | (with_reducible apply ldn_skip))); done)); exact rfl)); (conv => whnf))); try (first | apply VStop.mk | apply VCall.stop))
    ((apply VRet.mk); refine ret1 (by first | exact .inl rfl | exact .inr rfl) rfl (by exact rv_tmp rfl) ?_; exact fun w h => ⟨rfl, h.base⟩)
  rw [decide_eq_true h0] at hfn
  by_cases hb30 : 30 < by_.length
  · unfold bookV at *
    refine fn_v Try.tabOk (n := 218) (A := []) Try.func9 rfl rfl (Nat.le_of_ble_eq_true rfl) (St.nil (Below.refl _ _)) ?_
    ((try first | apply tr_v Try.tabOk | apply ot_v Try.tabOk); (conv => whnf); (repeat ((first | (apply VCall.q; kernel_rfl; (focus (intro w1 hs; first | with_reducible apply hfn w1 (hs.nest hN) | with_reducible apply hwk w1))) | apply VBr.t | apply VBr.f | (apply v_t; omega) | (apply VNew.mk; intro g hg) | (apply VLdN.mk; (focus ((repeat (first | (with_reducible apply ldn_blk) | (with_reducible apply ldn_row) | (with_reducible assumption) | (with_reducible apply ldn_skip))); done)); exact rfl)); (conv => whnf))); try (first | apply VStop.mk | apply VCall.stop))
    ((apply VRet.mk); refine ret1 (by first | exact .inl rfl | exact .inr rfl) rfl (by exact rv_tmp rfl) ?_; exact fun w h => ⟨rfl, h.base⟩)
  have hO := chk_ok.1 h0
  obtain ⟨L, rfl⟩ : ∃ L : Nat, lots = L := ⟨lots.toNat, by have := hO.l; omega⟩
  have hl := hO.l
  have ht := hO.t
  have hhd := fun w1 (h : NestR w1 3 Al (nestOf S)) (hbe : Below w.heap.size w w1) => held_any rlo rhi L Al c S w1 h hO By cb by_ ((hby.below hbe).more hbe.size) (by omega) hb
  have hself := held_self hO hb
  have hlenS := heldS_len rlo rhi L S by_
  have hflat := held_flat (rlo := rlo) (rhi := rhi) (L := L) (S := S) (by_ := by_)
  have hoff := fun j (hj : j ≤ (heldS rlo rhi L S by_).length) => held_off (rlo := rlo) (rhi := rhi) (L := L) (S := S) (by_ := by_) (j := j) (by rw [hlenS] at hj; exact hj)
  have hm' : ∀ s ∈ heldS rlo rhi L S by_, s.length ≤ maxLen := fun s hs => by
    obtain ⟨j, hj, rfl⟩ := List.getElem_of_mem hs
    rw [hlenS] at hj
    rw [heldS_atl hj]
    exact hm _ (List.getElem_mem hj)
  have n1 : (heldL by_ L).length = L := by simp [heldL]
  have n2 : (heldTl rlo rhi L S by_ S.flatten.length).length = S.flatten.length := by simp [heldTl]
  have hTN := fun hO' => held_truthN (by_ := by_) hO' hoff hself
  rw [hflat] at hTN
  generalize heldS rlo rhi L S by_ = S' at *
  generalize hsh : heldL by_ L = sh at *
  generalize hti : heldTl rlo rhi L S by_ S.flatten.length = ti at *
  have hfn2 := fun w1 A c (h : NestR w1 3 A (nestOf S')) => fineG_any rlo rhi L A c S' w1 h hm'
  rw [hlenS] at hfn2
  unfold bookV at hfn hhd hfn2
  obtain ⟨i, hi⟩ : ∃ i, i = one.toNat % L := ⟨_, rfl⟩
  obtain ⟨k, hk⟩ : ∃ k, k = two.toNat % L := ⟨_, rfl⟩
  have hiL : i < L := by rw [hi]; exact Nat.mod_lt _ (by omega)
  have hkL : k < L := by rw [hk]; exact Nat.mod_lt _ (by omega)
  have e1 : Int.tmod one L = i := by rw [tmod_nat one L h1.1, hi]
  have e2 : Int.tmod two L = k := by rw [tmod_nat two L h2.1, hk]
  clear hi hk hO
  unfold bookV
  refine fn_v Try.tabOk (n := 218) (A := []) Try.func9 rfl rfl (Nat.le_of_ble_eq_true rfl) (St.nil (Below.refl _ _)) ?_
  ((try first | apply tr_v Try.tabOk | apply ot_v Try.tabOk); (conv => whnf); (repeat ((first | (apply VCall.q; kernel_rfl; (focus (intro w1 hs; first | with_reducible apply hfn w1 (hs.nest hN)))) | apply VBr.f | (apply v_f; omega) | (apply VNew.mk; intro g hg) | (apply VLdN.mk; (focus ((repeat (first | (with_reducible apply ldn_blk) | (with_reducible apply ldn_row) | (with_reducible assumption) | (with_reducible apply ldn_skip))); done)); exact rfl)); (conv => whnf))); try (first | apply VStop.mk | apply VCall.stop))
  refine ot_call_st (X := NestX S.length × TwoX) (fun x => .tuple #[.agg #[.int .i64 rlo, .int .i64 rhi, .int .i64 L, .slice x.1.1.1 S.length x.1.1.2], .slice x.2.1.1 L x.2.1.2, .slice x.2.2.1 S.flatten.length x.2.2.2]) (fun x => .own (.slice x.2.1.1 L x.2.1.2) 2 1 L (i64s sh) :: .own (.slice x.2.2.1 S.flatten.length x.2.2.2) 2 1 S.flatten.length (i64s ti) :: .own (.slice x.1.1.1 S.length x.1.1.2) 55 1 S.length (sitVs x.1.2.1 S') :: sitCh x.1.2.1 S') (fun x c hc => by
    simp only [List.mem_cons] at hc
    rcases hc with rfl | rfl | rfl | hc
    · rfl
    · rfl
    · rfl
    · exact sitCh_mut c hc) (by decide) rfl rfl rfl (by kernel_rfl) (evl_of rfl) (fun w1 hs => hhd w1 (hs.nest hN) hs.base) (fun x => ?_)
  obtain ⟨⟨⟨Bo, co⟩, ⟨xs, hxs⟩⟩, ⟨⟨B8, c8⟩, ⟨B9, c9⟩⟩⟩ := x
  simp only [List.cons_append, List.nil_append]
  have hnx : ∀ {w1 : World} {A : List Chunk}, St w A w1 → .own (.slice Bo S.length co) 55 1 S.length (sitVs xs S') ∈ A → (∀ d ∈ sitCh xs S', d ∈ A) → NestR w1 3 Bo (nestOf S') := fun hs h h2 => hs.nestO (c := co) (by rw [hlenS]; exact hxs) (by rw [hlenS]; exact h) h2
  generalize hR : sitCh xs S' = R at *
  apply ot_v Try.tabOk
  have hz : ∀ {d : Chunk} {l : List Chunk}, d ∈ R → d ∈ R ++ l := fun h => List.mem_append_left _ h
  by_cases h3 : chkBook rlo rhi L S' = 0
  rotate_left
  · rw [decide_eq_false h3] at hfn2
    ((try first | apply tr_v Try.tabOk | apply ot_v Try.tabOk); (conv => whnf); (repeat ((first | (apply VCall.q; kernel_rfl; (focus (intro w1 hs; first | with_reducible apply hfn2 w1 _ _ (hnx hs (by (repeat (first | with_unfolding_all exact List.Mem.head _ | assumption | with_unfolding_all refine List.Mem.tail _ ?_))) fun d hd => by simp only [List.mem_cons, List.mem_append, hd, true_or, or_true]) | with_reducible apply hwk w1))) | apply VBr.t | (apply VNew.mk; intro g hg) | (apply VLdN.mk; (focus ((repeat (first | (with_reducible apply ldn_blk) | (with_reducible apply ldn_row) | (with_reducible assumption) | (with_reducible apply ldn_skip))); done)); exact rfl) | (apply VSt.mk; (focus ((repeat (first | (with_reducible exact At.here) | (with_reducible apply At.there))); done)); exact rfl)); (conv => whnf))); try (first | apply VStop.mk | apply VCall.stop))
    ((apply VRet.mk); refine ret1 (by first | exact .inl rfl | exact .inr rfl) rfl (by exact rv_tmp rfl) ?_; exact fun w h => ⟨rfl, h.base⟩)
  rw [decide_eq_true h3] at hfn2
  have hO' := chk_ok.1 h3
  have hT := hTN hO'
  have hc : canB rlo rhi L S' (-1) = true := (canB_iff hO' (-1)).2 ((has_iff hO' (-1)).2 ⟨_, _, hT⟩)
  have hF' := hO'.fit
  have q1 : spanR rlo rhi L S' i = (endVal (jm rlo rhi L S' (-1)) false (i + 1), endVal (jm rlo rhi L S' (-1)) true (i + 1), 0) := by
    unfold spanR
    rw [if_neg (by simpa using h3), if_neg (by omega), Int.toNat_natCast, if_neg (by rw [hc]; decide), Int.toNat_natCast]; rfl
  have q2 := apartR_yes hO' hc hiL hkL
  have cs1 := fun w1 A c (h : NestR w1 3 A (nestOf S')) => span_any rlo rhi L A c S' w1 h hF' i
  have cs2 := fun w1 A c (h : NestR w1 3 A (nestOf S')) => apart_any rlo rhi L A c S' w1 h hF' i k
  have cl := fun w1 A c (h : NestR w1 3 A (nestOf S')) => (least_any rlo rhi L A c S' w1 h hF').mono fun e w' h => h.slices
  have cg := fun w1 A c (h : NestR w1 3 A (nestOf S')) => (greatest_any rlo rhi L A c S' w1 h hF').mono fun e w' h => h.slices
  have ct := fun w1 A c (h : NestR w1 3 A (nestOf S')) B1 B2 k1 k2 ha hb => checkTruth_any rlo rhi L A c S' w1 h hF' B1 B2 k1 k2 sh ti ha hb (by omega) (by omega)
  have z := truthR_zero hO' n1 (by rw [n2, hflat]) hT
  rw [end_lens hO' hc, hflat] at cl cg
  have ap1 := apart_holds hO' (truthA_iff.1 (truthS_of hO' hT)) hiL hkL
  have ap2 := apart_holds hO' (truthA_iff.1 (truthS_of hO' hT)) hkL hiL
  have sb := fun j hj => sharp_holds hO' hT (i := j) hj
  have tb := fun j hj => tired_holds hO' hT (k := j) hj
  have s01 := fun j (hj : j < L) => hT.sharp j hj
  have m1 : ∀ gr, (sharpL (jm rlo rhi L S' (-1)) gr L).length = L := fun gr => by simp [sharpL]
  have m2 : ∀ gr, (tiredL (jm rlo rhi L S' (-1)) gr L S.flatten.length).length = S.flatten.length := fun gr => by simp [tiredL]
  have sa := fun gr j (hj : j < L) => sharpL_at (m := jm rlo rhi L S' (-1)) (gr := gr) hj
  have ta := fun gr j (hj : j < S.flatten.length) => tiredL_at (L := L) (m := jm rlo rhi L S' (-1)) (gr := gr) hj
  rw [q1] at cs1
  rw [q2] at cs2
  rw [← sa false i hiL, ← sa true i hiL] at cs1
  rw [n1, n2, z] at ct
  have sb' : ∀ j, j < L → iAt (sharpL (jm rlo rhi L S' (-1)) false L) j ≤ iAt sh j ∧ iAt sh j ≤ iAt (sharpL (jm rlo rhi L S' (-1)) true L) j := fun j hj => by rw [sa false j hj, sa true j hj]; exact sb j hj
  have tb' : ∀ j, j < S.flatten.length → iAt (tiredL (jm rlo rhi L S' (-1)) false L S.flatten.length) j ≤ iAt ti j ∧ iAt ti j ≤ iAt (tiredL (jm rlo rhi L S' (-1)) true L S.flatten.length) j := fun j hj => by rw [ta false j hj, ta true j hj]; exact tb j (by rw [hflat]; exact hj)
  have mm1 := m1 false
  have mm2 := m2 false
  have mm3 := m1 true
  have mm4 := m2 true
  dsimp only at cl cg
  rw [mm1, mm2] at cl
  rw [mm3, mm4] at cg
  unfold bookV rangeV at cs1 cs2
  unfold bookV at cl cg ct
  rw [hlenS] at cs1 cs2 cl cg ct
  clear sa ta m1 m2 q1 q2 hT hTN hfn sb tb z
  generalize sharpL (jm rlo rhi L S' (-1)) false L = a1 at *
  generalize tiredL (jm rlo rhi L S' (-1)) false L S.flatten.length = b1 at *
  generalize sharpL (jm rlo rhi L S' (-1)) true L = a2 at *
  generalize tiredL (jm rlo rhi L S' (-1)) true L S.flatten.length = b2 at *
  generalize jm rlo rhi L S' (-1) (k + 1) (i + 1) = ahi at *
  generalize jm rlo rhi L S' (-1) (i + 1) (k + 1) = alo at *
  have hto := fun a b w1 => to_any a b w1
  ((try first | apply tr_v Try.tabOk | apply ot_v Try.tabOk); (conv => whnf); (repeat ((first | (apply VCall.q; kernel_rfl; (focus (intro w1 hs; first | with_reducible apply hfn2 w1 _ _ (hnx hs (by (repeat (first | with_unfolding_all exact List.Mem.head _ | assumption | with_unfolding_all refine List.Mem.tail _ ?_))) fun d hd => by simp only [List.mem_cons, List.mem_append, hd, true_or, or_true])))) | apply VBr.f | (apply VNew.mk; intro g hg) | (apply VLdN.mk; (focus ((repeat (first | (with_reducible apply ldn_blk) | (with_reducible apply ldn_row) | (with_reducible assumption) | (with_reducible apply ldn_skip))); done)); exact rfl) | (apply VSt.mk; (focus ((repeat (first | (with_reducible exact At.here) | (with_reducible apply At.there))); done)); exact rfl)); (conv => whnf))); try (first | apply VStop.mk | apply VCall.stop))
  refine tr_perm (.cons _ (.cons _ (.cons _ (.cons _ List.perm_append_comm)))) ?_
  simp only [List.cons_append, List.nil_append]
  ((try first | apply tr_v Try.tabOk | apply ot_v Try.tabOk); (conv => whnf); (repeat ((first | ((first | apply VStop.mk | apply VCall.stop); (first | refine tr_region_lex (id := 6) (by kernel_rfl) [.rd, .rd, .rd, .rd, .rd, .rd, .rd, .rd, .rd, .rd, .rd, .rd] rfl (by kernel_rfl) ?_); try first | apply ot_v Try.tabOk | apply tr_v Try.tabOk) | (apply VLd.mk; (focus ((repeat (first | ((with_reducible apply ld_blk); exact rfl) | ((with_reducible apply ld_row); exact rfl) | ((with_reducible apply ld_row0); exact rfl) | (with_reducible assumption) | (with_reducible exact CellAt.base (by assumption)) | (with_reducible apply ld_skip))); done))) | (apply VLdN.mk; (focus ((repeat (first | (with_reducible apply ldn_blk) | (with_reducible apply ldn_row) | (with_reducible assumption) | (with_reducible apply ldn_skip))); done)); exact rfl) | (apply v_wr64; omega) | (apply VNz.mk; omega)); (conv => whnf))); try (first | apply VStop.mk | apply VCall.stop))
  rw [e1, e2]
  ((try first | apply tr_v Try.tabOk | apply ot_v Try.tabOk); (conv => whnf); (repeat ((first | (apply VCall.q; kernel_rfl; (focus (intro w1 hs; first | with_reducible apply cs1 w1 _ _ (hnx hs (by (repeat (first | with_unfolding_all exact List.Mem.head _ | assumption | with_unfolding_all refine List.Mem.tail _ ?_))) fun d hd => by simp only [List.mem_cons, List.mem_append, hd, true_or, or_true]) | with_reducible apply cs2 w1 _ _ (hnx hs (by (repeat (first | with_unfolding_all exact List.Mem.head _ | assumption | with_unfolding_all refine List.Mem.tail _ ?_))) fun d hd => by simp only [List.mem_cons, List.mem_append, hd, true_or, or_true])))) | (apply VNew.mk; intro g hg) | (apply VLdN.mk; (focus ((repeat (first | (with_reducible apply ldn_blk) | (with_reducible apply ldn_row) | (with_reducible assumption) | (with_reducible apply ldn_skip))); done)); exact rfl) | (apply VSt.mk; (focus ((repeat (first | (with_reducible exact At.here) | (with_reducible apply At.there))); done)); exact rfl)); (conv => whnf))); try (first | apply VStop.mk | apply VCall.stop))
  refine ot_call_st (X := TwoX) (fun x => .tuple #[.slice x.1.1 L x.1.2, .slice x.2.1 S.flatten.length x.2.2, .int .i64 0]) (fun x => [.own (.slice x.1.1 L x.1.2) 2 1 L (i64s a1), .own (.slice x.2.1 S.flatten.length x.2.2) 2 1 S.flatten.length (i64s b1)]) (fun x => mut_two rfl rfl) (by decide) rfl rfl rfl (by kernel_rfl) (evl_of rfl) (fun w1 hs => cl w1 _ _ (hnx hs (by (repeat (first | with_unfolding_all exact List.Mem.head _ | assumption | with_unfolding_all refine List.Mem.tail _ ?_))) fun d hd => by simp only [List.mem_cons, List.mem_append, hd, true_or, or_true])) (fun y1 => ?_)
  simp only [List.cons_append, List.nil_append]
  apply ot_v Try.tabOk
  ((try first | apply tr_v Try.tabOk | apply ot_v Try.tabOk); (conv => whnf); (repeat ((first | (apply VLdN.mk; (focus ((repeat (first | (with_reducible apply ldn_blk) | (with_reducible apply ldn_row) | (with_reducible assumption) | (with_reducible apply ldn_skip))); done)); exact rfl)); (conv => whnf))); try (first | apply VStop.mk | apply VCall.stop))
  refine ot_call_st (X := TwoX) (fun x => .tuple #[.slice x.1.1 L x.1.2, .slice x.2.1 S.flatten.length x.2.2, .int .i64 0]) (fun x => [.own (.slice x.1.1 L x.1.2) 2 1 L (i64s a2), .own (.slice x.2.1 S.flatten.length x.2.2) 2 1 S.flatten.length (i64s b2)]) (fun x => mut_two rfl rfl) (by decide) rfl rfl rfl (by kernel_rfl) (evl_of rfl) (fun w1 hs => cg w1 _ _ (hnx hs (by (repeat (first | with_unfolding_all exact List.Mem.head _ | assumption | with_unfolding_all refine List.Mem.tail _ ?_))) fun d hd => by simp only [List.mem_cons, List.mem_append, hd, true_or, or_true])) (fun y2 => ?_)
  simp only [List.cons_append, List.nil_append]
  apply ot_v Try.tabOk
  ((try first | apply tr_v Try.tabOk | apply ot_v Try.tabOk); (conv => whnf); (repeat ((first | (apply VCall.q; kernel_rfl; (focus (intro w1 hs; first | with_reducible apply ct w1 _ _ (hnx hs (by (repeat (first | with_unfolding_all exact List.Mem.head _ | assumption | with_unfolding_all refine List.Mem.tail _ ?_))) fun d hd => by simp only [List.mem_cons, List.mem_append, hd, true_or, or_true]) _ _ _ _ (hs.own_rd (by (repeat (first | with_unfolding_all exact List.Mem.head _ | assumption | with_unfolding_all refine List.Mem.tail _ ?_)))) (hs.own_rd (by (repeat (first | with_unfolding_all exact List.Mem.head _ | assumption | with_unfolding_all refine List.Mem.tail _ ?_))))))) | (apply VLd.mk; (focus ((repeat (first | ((with_reducible apply ld_blk); exact rfl) | ((with_reducible apply ld_row); exact rfl) | ((with_reducible apply ld_row0); exact rfl) | (with_reducible assumption) | (with_reducible exact CellAt.base (by assumption)) | (with_reducible apply ld_skip))); done))) | apply VBr.f | (apply v_f; omega) | (apply VLdN.mk; (focus ((repeat (first | (with_reducible apply ldn_blk) | (with_reducible apply ldn_row) | (with_reducible assumption) | (with_reducible apply ldn_skip))); done)); exact rfl)); (conv => whnf))); try (first | apply VStop.mk | apply VCall.stop))
  rename_i g14 h14
  obtain ⟨⟨p1, k1⟩, ⟨p2, k2⟩⟩ := y1
  obtain ⟨⟨p3, k3⟩, ⟨p4, k4⟩⟩ := y2
  dsimp only
  refine tr_fact (p := ((∃ b, B8 = some ⟨b, 0, none⟩) ∧ (∃ b, p1 = some ⟨b, 0, none⟩) ∧ ∃ b, p3 = some ⟨b, 0, none⟩) ∧ (0 < S.flatten.length → (∃ b, B9 = some ⟨b, 0, none⟩) ∧ (∃ b, p2 = some ⟨b, 0, none⟩) ∧ ∃ b, p4 = some ⟨b, 0, none⟩)) (fun w' hs => ?_) fun hp => ?_
  · exact ⟨⟨own_some hs (n := L) (cap := c8) (sz := 1) (t := 2) (xs := i64s sh) (by (repeat (first | with_unfolding_all exact List.Mem.head _ | assumption | with_unfolding_all refine List.Mem.tail _ ?_))) (by omega), own_some hs (n := L) (cap := k1) (sz := 1) (t := 2) (xs := i64s a1) (by (repeat (first | with_unfolding_all exact List.Mem.head _ | assumption | with_unfolding_all refine List.Mem.tail _ ?_))) (by omega), own_some hs (n := L) (cap := k3) (sz := 1) (t := 2) (xs := i64s a2) (by (repeat (first | with_unfolding_all exact List.Mem.head _ | assumption | with_unfolding_all refine List.Mem.tail _ ?_))) (by omega)⟩, fun hT => ⟨own_some hs (n := S.flatten.length) (cap := c9) (sz := 1) (t := 2) (xs := i64s ti) (by (repeat (first | with_unfolding_all exact List.Mem.head _ | assumption | with_unfolding_all refine List.Mem.tail _ ?_))) hT, own_some hs (n := S.flatten.length) (cap := k2) (sz := 1) (t := 2) (xs := i64s b1) (by (repeat (first | with_unfolding_all exact List.Mem.head _ | assumption | with_unfolding_all refine List.Mem.tail _ ?_))) hT, own_some hs (n := S.flatten.length) (cap := k4) (sz := 1) (t := 2) (xs := i64s b2) (by (repeat (first | with_unfolding_all exact List.Mem.head _ | assumption | with_unfolding_all refine List.Mem.tail _ ?_))) hT⟩⟩
  obtain ⟨⟨⟨d8, rfl⟩, ⟨d1, rfl⟩, ⟨d3, rfl⟩⟩, hp2⟩ := hp
  refine tr_nameA ?_
  intro A0 hA0
  have f8 : ∀ j, j < L → CellAt w A0 d8 (0 + j * 1) (.int .i64 (iAt sh j)) := fun j hj => by subst hA0; exact own_int (n := L) (cap := c8) (t := 2) (by (repeat (first | with_unfolding_all exact List.Mem.head _ | assumption | with_unfolding_all refine List.Mem.tail _ ?_))) (by omega)
  have f1 : ∀ j, j < L → CellAt w A0 d1 (0 + j * 1) (.int .i64 (iAt a1 j)) := fun j hj => by subst hA0; exact own_int (n := L) (cap := k1) (t := 2) (by (repeat (first | with_unfolding_all exact List.Mem.head _ | assumption | with_unfolding_all refine List.Mem.tail _ ?_))) (by omega)
  have f3 : ∀ j, j < L → CellAt w A0 d3 (0 + j * 1) (.int .i64 (iAt a2 j)) := fun j hj => by subst hA0; exact own_int (n := L) (cap := k3) (t := 2) (by (repeat (first | with_unfolding_all exact List.Mem.head _ | assumption | with_unfolding_all refine List.Mem.tail _ ?_))) (by omega)
  have fT : 0 < S.flatten.length → ∃ d9 d2 d4, B9 = some ⟨d9, 0, none⟩ ∧ p2 = some ⟨d2, 0, none⟩ ∧ p4 = some ⟨d4, 0, none⟩ ∧ ∀ j, j < S.flatten.length → CellAt w A0 d9 (0 + j * 1) (.int .i64 (iAt ti j)) ∧ CellAt w A0 d2 (0 + j * 1) (.int .i64 (iAt b1 j)) ∧ CellAt w A0 d4 (0 + j * 1) (.int .i64 (iAt b2 j)) := fun hT => by
    obtain ⟨⟨d9, rfl⟩, ⟨d2, rfl⟩, ⟨d4, rfl⟩⟩ := hp2 hT
    subst hA0
    exact ⟨d9, d2, d4, rfl, rfl, rfl, fun j hj => ⟨own_int (n := S.flatten.length) (cap := c9) (t := 2) (by (repeat (first | with_unfolding_all exact List.Mem.head _ | assumption | with_unfolding_all refine List.Mem.tail _ ?_))) (by omega), own_int (n := S.flatten.length) (cap := k2) (t := 2) (by (repeat (first | with_unfolding_all exact List.Mem.head _ | assumption | with_unfolding_all refine List.Mem.tail _ ?_))) (by omega), own_int (n := S.flatten.length) (cap := k4) (t := 2) (by (repeat (first | with_unfolding_all exact List.Mem.head _ | assumption | with_unfolding_all refine List.Mem.tail _ ?_))) (by omega)⟩⟩
  have f14 : CellsAt w A0 g14 0 [.int .i64 (iAt a1 i), .int .i64 (iAt a2 i)] := by subst hA0; exact cells_blk_all (by (repeat (first | with_unfolding_all exact List.Mem.head _ | assumption | with_unfolding_all refine List.Mem.tail _ ?_)))
  have f16 : CellAt w A0 g (0 + 0) (.int .i64 (-alo)) ∧ CellAt w A0 g (0 + 1) (.int .i64 ahi) := by
    subst hA0
    exact ⟨cell_blk (t := 23) (cs := [.int .i64 (-alo), .int .i64 ahi]) (by (repeat (first | with_unfolding_all exact List.Mem.head _ | assumption | with_unfolding_all refine List.Mem.tail _ ?_))) rfl, cell_blk (t := 23) (cs := [.int .i64 (-alo), .int .i64 ahi]) (by (repeat (first | with_unfolding_all exact List.Mem.head _ | assumption | with_unfolding_all refine List.Mem.tail _ ?_))) rfl⟩
  clear hA0 hp2 ct cl cg cs1 cs2
  refine v_loop (fun gm ds ts A => ds = [] ∧ A = A0 ∧ ∃ (j : Nat), j + gm = L ∧ ts = [(10, .slice (some ⟨d8, 0, none⟩) L c8), (11, .slice B9 S.flatten.length c9), (12, .int .i64 (i : Int)), (13, .int .i64 (k : Int)), (14, .pointer (some ⟨g14, 0, none⟩)), (16, .pointer (some ⟨g, 0, none⟩)), (18, .slice (some ⟨d1, 0, none⟩) L k1), (19, .slice p2 S.flatten.length k2), (21, .slice (some ⟨d3, 0, none⟩) L k3), (22, .slice p4 S.flatten.length k4), (24, .int .i64 (j : Int))]) L
    (l := [(10, _), (11, _), (12, _), (13, _), (14, _), (16, _), (18, _), (19, _), (21, _), (22, _), (24, _)]) (B := _) ?_ (List.Sublist.refl _) ⟨rfl, rfl, 0, by omega, rfl⟩ ?_
  · exact ⟨rfl, rfl, rfl, rfl, rfl, rfl, rfl, rfl, rfl, rfl, rfl, trivial⟩
  rintro gm ds ts A ⟨rfl, rfl, j, hj, rfl⟩
  by_cases hlt : j < L
  · have r8 := f8 j hlt
    have r1 := f1 j hlt
    have r3 := f3 j hlt
    have rb := sb' j hlt
    generalize iAt sh j = v8 at *
    generalize iAt a1 j = v1 at *
    generalize iAt a2 j = v3 at *
    ((try first | apply tr_v Try.tabOk | apply ot_v Try.tabOk); (conv => whnf); (repeat ((first | ((first | apply VStop.mk | apply VCall.stop); (first | refine tr_region_lex (id := 16) (by kernel_rfl) [.rd, .rd, .rd, .rd, .rd, .rd, .rd, .rd, .rd, .rd, .rd, .rd, .rd, .rd, .rd, .rd, .rd, .rd, .rd, .rd] rfl (by kernel_rfl) ?_); try first | apply ot_v Try.tabOk | apply tr_v Try.tabOk) | (apply VIx.mk (j := j); exact rfl; omega) | (apply VLd.mk; first | exact r8 | exact r1 | exact r3) | (apply VRng.mk; omega) | apply VBr.t | apply VBr.f | (apply v_t; omega) | (apply v_f; omega)); (conv => whnf))); try (first | apply VStop.mk | apply VCall.stop))
    exact v_rnd (gm - 1) (by omega) (l := [(10, _), (11, _), (12, _), (13, _), (14, _), (16, _), (18, _), (19, _), (21, _), (22, _), (24, _)]) (B := _) ⟨rfl, rfl, rfl, rfl, rfl, rfl, rfl, rfl, rfl, rfl, rfl, trivial⟩ (List.Sublist.refl _) ⟨rfl, rfl, j + 1, by omega, rfl⟩
  obtain rfl : L = j := by omega
  ((try first | apply tr_v Try.tabOk | apply ot_v Try.tabOk); (conv => whnf); (repeat ((first | apply VBr.f | (apply v_f; omega)); (conv => whnf))); try (first | apply VStop.mk | apply VCall.stop))
  refine v_loop (fun gm ds ts A' => ds = [] ∧ A' = A ∧ ∃ (j : Nat), j + gm = S.flatten.length ∧ ts = [(10, .slice (some ⟨d8, 0, none⟩) L c8), (11, .slice B9 S.flatten.length c9), (12, .int .i64 (i : Int)), (13, .int .i64 (k : Int)), (14, .pointer (some ⟨g14, 0, none⟩)), (16, .pointer (some ⟨g, 0, none⟩)), (18, .slice (some ⟨d1, 0, none⟩) L k1), (19, .slice p2 S.flatten.length k2), (21, .slice (some ⟨d3, 0, none⟩) L k3), (22, .slice p4 S.flatten.length k4), (25, .int .i64 (j : Int))]) S.flatten.length
    (l := [(10, _), (11, _), (12, _), (13, _), (14, _), (16, _), (18, _), (19, _), (21, _), (22, _), (25, _)]) (B := _) ?_ (List.Sublist.refl _) ⟨rfl, rfl, 0, by omega, rfl⟩ ?_
  · exact ⟨rfl, rfl, rfl, rfl, rfl, rfl, rfl, rfl, rfl, rfl, rfl, trivial⟩
  rintro gm' ds ts A' ⟨rfl, rfl, j, hj', rfl⟩
  by_cases hlt' : j < S.flatten.length
  · obtain ⟨d9, d2, d4, rfl, rfl, rfl, fT'⟩ := fT (by omega)
    obtain ⟨r9, r2, r4⟩ := fT' j hlt'
    have rb := tb' j hlt'
    generalize iAt ti j = v9 at *
    generalize iAt b1 j = v2 at *
    generalize iAt b2 j = v4 at *
    ((try first | apply tr_v Try.tabOk | apply ot_v Try.tabOk); (conv => whnf); (repeat ((first | ((first | apply VStop.mk | apply VCall.stop); (first | refine tr_region_lex (id := 21) (by kernel_rfl) [.rd, .rd, .rd, .rd, .rd, .rd, .rd, .rd, .rd, .rd, .rd, .rd, .rd, .rd, .rd, .rd, .rd, .rd, .rd, .rd] rfl (by kernel_rfl) ?_); try first | apply ot_v Try.tabOk | apply tr_v Try.tabOk) | (apply VIx.mk (j := j); exact rfl; omega) | (apply VLd.mk; first | exact r9 | exact r2 | exact r4) | (apply VRng.mk; omega) | apply VBr.t | apply VBr.f | (apply v_t; omega) | (apply v_f; omega)); (conv => whnf))); try (first | apply VStop.mk | apply VCall.stop))
    exact v_rnd (gm' - 1) (by omega) (l := [(10, _), (11, _), (12, _), (13, _), (14, _), (16, _), (18, _), (19, _), (21, _), (22, _), (25, _)]) (B := _) ⟨rfl, rfl, rfl, rfl, rfl, rfl, rfl, rfl, rfl, rfl, rfl, trivial⟩ (List.Sublist.refl _) ⟨rfl, rfl, j + 1, by omega, rfl⟩
  obtain rfl : S.flatten.length = j := by omega
  have r8 := f8 i hiL
  have r8' := f8 k hkL
  have r1 := f1 i hiL
  have r3 := f3 i hiL
  have w1' := s01 i hiL
  have w2' := s01 k hkL
  generalize iAt sh i = v8 at *
  generalize iAt sh k = v8' at *
  generalize iAt a1 i = v1 at *
  generalize iAt a2 i = v3 at *
  ((try first | apply tr_v Try.tabOk | apply ot_v Try.tabOk); (conv => whnf); (repeat ((first | ((first | apply VStop.mk | apply VCall.stop); (first | refine tr_region_lex (id := 23) (by kernel_rfl) [.rd, .rd, .rd, .rd, .rd, .rd, .rd, .rd, .rd, .rd] rfl (by kernel_rfl) ?_ | refine tr_region_lex (id := 24) (by kernel_rfl) [.rd, .rd, .rd, .rd, .rd, .rd, .rd, .rd, .rd, .cr, .rd, .rd, .rd, .rd, .rd, .rd, .rd, .rd, .rd, .rd, .rd, .rd, .rd, .rd, .cr, .rd, .rd] rfl (by kernel_rfl) ?_); try first | apply ot_v Try.tabOk | apply tr_v Try.tabOk) | (apply VEq.mk true; kernel_rfl; exact rng_same v1 v3) | (apply VIx.mk (j := i); exact rfl; omega) | (apply VIx.mk (j := k); exact rfl; omega) | (apply VLdN.mk; exact f14; exact rfl) | (apply VLd.mk; first | exact r8 | exact r8' | exact r1 | exact r3 | exact f16.1 | exact f16.2) | (apply VCall.q; kernel_rfl; (focus (intro w1 hs; first | with_reducible apply hto _ _ w1 | with_reducible apply hwk w1))) | (apply VRng.mk; omega) | apply VBr.t | apply VBr.f | (apply v_t; omega) | (apply v_f; omega)); (conv => whnf))); try (first | apply VStop.mk | apply VCall.stop))
  ((apply VRet.mk); refine ret1 (by first | exact .inl rfl | exact .inr rfl) rfl (by exact rv_tmp rfl) ?_; exact fun w h => ⟨rfl, h.base⟩)
end
end Go.Proofs.Ytkbcogaodnmdoaa
