/- TasteApart: lemmas for the rows of this seat. No conditions. -/
import Derived.Test.YtkbcogaodnmdoaaProg
import Derived.WalkKit
import Derived.WalkSpells
import Derived.WalkLawsBesides
import Derived.Lib.Hide
import Derived.Deep.AppendLies
import Derived.Deep.Draws
import Derived.Maps.AppendAt
import Derived.RegionTactic
import Derived.OwnWalk
import Derived.Deep.QuietTactic
import Derived.BigQuiet
import Derived.Deep.DeepFit
import Derived.Deep.LoopGhost
import Derived.Deep.DeepMust
import Derived.Deep.DeepCutAuto
import Derived.StillTail
import Derived.Deep.Quiet
import Derived.Deep.RegionHeld3
import Derived.Deep.RegionWith
import Derived.Deep.RegionLaw
import Derived.Maps.OwnOps
import Derived.Maps.OwnSet
import Derived.Maps.OwnRows
import Derived.Maps.RangeWalk
import Derived.Carry
import Derived.Test.YtkbcogaodnmdoaaBase
import Derived.Test.YtkbcogaodnmdoaaMaps
import Derived.Test.YtkbcogaodnmdoaaKeys
import Derived.Test.YtkbcogaodnmdoaaS1
import Derived.Test.YtkbcogaodnmdoaaS5
import Derived.Test.YtkbcogaodnmdoaaS12
import Derived.Test.YtkbcogaodnmdoaaS14
import Derived.Test.YtkbcogaodnmdoaaV
import Derived.Test.YtkbcogaodnmdoaaV2
import Derived.Test.YtkbcogaodnmdoaaV3
import Derived.Test.YtkbcogaodnmdoaaV4
import Derived.Test.YtkbcogaodnmdoaaTab
import Derived.Test.YtkbcogaodnmdoaaE1
import Derived.Test.YtkbcogaodnmdoaaE2
import Derived.Test.YtkbcogaodnmdoaaE3
import Derived.Test.YtkbcogaodnmdoaaE4
import Derived.Test.YtkbcogaodnmdoaaE5
import Derived.Test.YtkbcogaodnmdoaaE6
import Derived.Test.YtkbcogaodnmdoaaE7
import Derived.Test.YtkbcogaodnmdoaaE8
import Derived.Test.YtkbcogaodnmdoaaE9
import Derived.Test.YtkbcogaodnmdoaaE10
import Derived.Test.YtkbcogaodnmdoaaE11
import Derived.Test.YtkbcogaodnmdoaaE12
import Derived.Test.YtkbcogaodnmdoaaE13
import Derived.Test.YtkbcogaodnmdoaaE14
import Derived.Test.YtkbcogaodnmdoaaE15
import Derived.Test.YtkbcogaodnmdoaaE16
import Derived.Test.YtkbcogaodnmdoaaE17
import Derived.Test.YtkbcogaodnmdoaaE18
import Derived.Test.YtkbcogaodnmdoaaE19
import Derived.Test.YtkbcogaodnmdoaaE20
import Derived.Test.YtkbcogaodnmdoaaE21
import Derived.Test.YtkbcogaodnmdoaaE22
import Derived.Test.YtkbcogaodnmdoaaE23
import Derived.Test.YtkbcogaodnmdoaaE24
import Derived.Test.YtkbcogaodnmdoaaE25
import Derived.Test.YtkbcogaodnmdoaaE26
import Derived.Test.YtkbcogaodnmdoaaE27
import Derived.Test.YtkbcogaodnmdoaaE28
import Derived.Test.YtkbcogaodnmdoaaE29
import Derived.Test.YtkbcogaodnmdoaaE30
set_option linter.all false
namespace Go.Proofs.Ytkbcogaodnmdoaa
open Go.RowKit
/-! ## TasteApart -/
theorem rng_ne (a b c d : Int) (h : ¬ (a = c ∧ b = d)) (w : World) : (Op.equal 23 (.agg #[.int .i64 a, .int .i64 b]) (.agg #[.int .i64 c, .int .i64 d])).run Try.prog w = .ok false w := by
  rw [rng_eq, decide_eq_false h]
theorem tmod_nat (z : Int) (L : Nat) (h : 0 ≤ z) : Int.tmod z L = ((z.toNat % L : Nat) : Int) := by
  obtain ⟨n, rfl⟩ : ∃ n : Nat, z = n := ⟨z.toNat, by omega⟩
  rw [Int.toNat_natCast]
  exact (Int.ofNat_tmod n L).symm
section
variable {rlo rhi : Int} {L : Nat} {S : List (List T3)} (hO : Okb rlo rhi L S)
include hO
theorem apartR_yes (hc : canB rlo rhi L S (-1) = true) {i k : Nat} (hi : i < L) (hk : k < L) : apartR rlo rhi L S i k = (-(jm rlo rhi L S (-1) (i + 1) (k + 1)), jm rlo rhi L S (-1) (k + 1) (i + 1), 0) := by
  have h0 : chkBook rlo rhi L S = 0 := chk_ok.2 hO
  unfold apartR
  rw [if_neg (by simpa using h0), if_neg (by omega), Int.toNat_natCast, if_neg (by rw [hc]; decide), Int.toNat_natCast, Int.toNat_natCast]
theorem apartR_no (hc : canB rlo rhi L S (-1) = false) {i k : Nat} (hi : i < L) (hk : k < L) : apartR rlo rhi L S i k = (0, 0, 17) := by
  have h0 : chkBook rlo rhi L S = 0 := chk_ok.2 hO
  unfold apartR
  rw [if_neg (by simpa using h0), if_neg (by omega), Int.toNat_natCast, if_pos hc]
theorem spansP_at (hc : canB rlo rhi L S (-1) = true) {i : Nat} (hi : i < L) : (spansP rlo rhi L S)[i]?.getD (0, 0) = (loS rlo rhi L S i, hiS rlo rhi L S i) := by
  unfold spansP
  rw [if_pos hc, List.getElem?_map, List.getElem?_range hi]; rfl
theorem spansP_yes (hc : canB rlo rhi L S (-1) = true) : (spansP rlo rhi L S).length = L := by
  unfold spansP
  rw [if_pos hc, List.length_map, List.length_range]
end
section
variable (rlo rhi lots : Int) (Al : Option Addr) (c : Nat) (S : List (List T3)) (w : World) (hN : NestR w 3 Al (nestOf S)) (hm : ∀ s ∈ S, s.length ≤ maxLen)
include hN hm
set_option maxHeartbeats 4000000 in
set_option maxRecDepth 20000 in
theorem tasteApart_any (one two : Int) (h1 : 0 ≤ one ∧ one ≤ 255) (h2 : 0 ≤ two ∧ two ≤ 255) : Calls Try.prog 12 #[bookV rlo rhi lots Al S.length c, .int .u8 one, .int .u8 two] w fun e w' => e = .returned (.bool true) ∧ Below w.heap.size w w' := by
  have hfn := fun w1 (h : NestR w1 3 Al (nestOf S)) => fineG_any rlo rhi lots Al c S w1 h hm
  have hwk := fun w1 => works_any w1
  by_cases h0 : chkBook rlo rhi lots S = 0
  rotate_left
  · rw [decide_eq_false h0] at hfn
    unfold bookV at *
    refine fn_v Try.tabOk (n := 184) (A := []) Try.func12 rfl rfl (Nat.le_of_ble_eq_true rfl) (St.nil (Below.refl _ _)) ?_
    ((try first | apply tr_v Try.tabOk | apply ot_v Try.tabOk); (conv => whnf); (repeat ((first | (apply VCall.q; kernel_rfl; (focus (intro w1 hs; first | with_reducible apply hfn w1 (hs.nest hN) | with_reducible apply hwk w1))) | (apply VLd.mk; (focus ((repeat (first | ((with_reducible apply ld_blk); exact rfl) | ((with_reducible apply ld_row); exact rfl) | ((with_reducible apply ld_row0); exact rfl) | (with_reducible assumption) | (with_reducible exact CellAt.base (by assumption)) | (with_reducible apply ld_skip))); done))) | (apply VRng.mk; omega) | apply VBr.t | apply VBr.f | (apply v_t; omega) | (apply v_f; omega) | apply v_d | (apply VNew.mk; intro g hg) | (apply VIx.mk; exact rfl; omega) | (apply VIx.mk (j := 0); exact rfl; omega) | (apply VLdN.mk; (focus ((repeat (first | (with_reducible apply ldn_blk) | (with_reducible apply ldn_row) | (with_reducible assumption) | (with_reducible apply ldn_skip))); done)); exact rfl) | (apply VLdN.sub; (focus ((repeat (first | (with_reducible apply ldn_blk) | (with_reducible apply ldn_row) | (with_reducible assumption) | (with_reducible apply ldn_skip))); done)); exact rfl) | (apply VSt.mk; (focus ((repeat (first | (with_reducible exact At.here) | (with_reducible apply At.there))); done)); exact rfl) | (apply VSt.old; (focus ((repeat (first | (with_reducible exact Upd.here) | (with_reducible apply Upd.there))); done)); (first | exact rfl | (simp; omega)); exact rfl) | (apply v_wr64; omega) | (apply VWr.mk; assumption) | (apply VNz.mk; omega) | (refine slist_and (by (repeat (first | exact List.nil_sublist _ | exact List.Sublist.refl _ | refine List.Sublist.cons_cons _ ?_ | refine List.Sublist.cons _ ?_))) ?_; first | refine otl_nil ?_ | (refine otl_cons ?_; apply ot_v Try.tabOk) | skip) | (apply v_ixn; omega) | (apply VK.mk; first | (refine otl_cons ?_; apply ot_v Try.tabOk) | apply ot_v Try.tabOk)); (conv => whnf))); try (first | apply VStop.mk | apply VCall.stop))
    ((apply VRet.mk); refine ret1 (by first | exact .inl rfl | exact .inr rfl) rfl (by first | exact rv_tmp rfl | exact rv_row Try.tabOk rfl rfl rfl (by first | exact cells_blk_all (by (repeat (first | exact List.Mem.head _ | assumption | refine List.Mem.tail _ ?_))) | exact cells_row0 (by (repeat (first | exact List.Mem.head _ | assumption | refine List.Mem.tail _ ?_)))) rfl | exact rv_sc Try.tabOk rfl rfl rfl (by first | exact cell_blk (by (repeat (first | exact List.Mem.head _ | assumption | refine List.Mem.tail _ ?_))) (by rfl) | exact cell_row (by (repeat (first | exact List.Mem.head _ | assumption | refine List.Mem.tail _ ?_))) (by rfl) | exact cell_own (by (repeat (first | exact List.Mem.head _ | assumption | refine List.Mem.tail _ ?_))) (by rfl) | exact cell_row0 (by (repeat (first | exact List.Mem.head _ | assumption | refine List.Mem.tail _ ?_))) (by rfl) | assumption | exact CellAt.base (by assumption))) ?_; exact fun w h => ⟨rfl, h.base⟩)
  rw [decide_eq_true h0] at hfn
  have hO := chk_ok.1 h0
  obtain ⟨L, rfl⟩ : ∃ L : Nat, lots = L := ⟨lots.toNat, by have := hO.l; omega⟩
  have hl := hO.l
  have hF := hO.fit
  have ht := fun a b w1 => to_any a b w1
  have hsp := fun w1 (h : NestR w1 3 Al (nestOf S)) => spans_any rlo rhi L Al c S w1 h hO
  obtain ⟨i, hi⟩ : ∃ i, i = one.toNat % L := ⟨_, rfl⟩
  obtain ⟨k, hk⟩ : ∃ k, k = two.toNat % L := ⟨_, rfl⟩
  have hiL : i < L := by rw [hi]; exact Nat.mod_lt _ (by omega)
  have hkL : k < L := by rw [hk]; exact Nat.mod_lt _ (by omega)
  have e1 : Int.tmod one L = i := by rw [tmod_nat one L h1.1, hi]
  have e2 : Int.tmod two L = k := by rw [tmod_nat two L h2.1, hk]
  clear hi hk
  have a1 := fun w1 (h : NestR w1 3 Al (nestOf S)) => apart_any rlo rhi L Al c S w1 h hF i k
  have a2 := fun w1 (h : NestR w1 3 Al (nestOf S)) => apart_any rlo rhi L Al c S w1 h hF k i
  have a3 := fun w1 (h : NestR w1 3 Al (nestOf S)) => apart_any rlo rhi L Al c S w1 h hF i i
  cases hc : canB rlo rhi L S (-1) with
  | false =>
    rw [apartR_no hO hc hiL hkL] at a1
    rw [apartR_no hO hc hkL hiL] at a2
    rw [apartR_no hO hc hiL hiL] at a3
    rw [hc] at hsp
    have hn := spansP_len rlo rhi L S
    clear h0 hO
    unfold bookV rangeV at *
    dsimp only at a1 a2 a3
    generalize spansP rlo rhi L S = sp at *
    refine fn_v Try.tabOk (n := 184) (A := []) Try.func12 rfl rfl (Nat.le_of_ble_eq_true rfl) (St.nil (Below.refl _ _)) ?_
    ((try first | apply tr_v Try.tabOk | apply ot_v Try.tabOk); (conv => whnf); (repeat ((first | ((first | apply VStop.mk | apply VCall.stop); (first | refine tr_region_lex (id := 3) (by kernel_rfl) [.rd, .rd, .rd, .rd, .rd, .rd, .rd, .rd, .rd, .rd, .rd, .rd] rfl (by kernel_rfl) ?_); try first | apply ot_v Try.tabOk | apply tr_v Try.tabOk) | (apply VCall.q; kernel_rfl; (focus (intro w1 hs; first | with_reducible apply hfn w1 (hs.nest hN) | with_reducible apply hwk w1))) | (apply VLd.mk; (focus ((repeat (first | ((with_reducible apply ld_blk); exact rfl) | ((with_reducible apply ld_row); exact rfl) | ((with_reducible apply ld_row0); exact rfl) | (with_reducible assumption) | (with_reducible exact CellAt.base (by assumption)) | (with_reducible apply ld_skip))); done))) | (apply VRng.mk; omega) | apply VBr.t | apply VBr.f | (apply v_t; omega) | (apply v_f; omega) | apply v_d | (apply VNew.mk; intro g hg) | (apply VIx.mk; exact rfl; omega) | (apply VIx.mk (j := 0); exact rfl; omega) | (apply VLdN.mk; (focus ((repeat (first | (with_reducible apply ldn_blk) | (with_reducible apply ldn_row) | (with_reducible assumption) | (with_reducible apply ldn_skip))); done)); exact rfl) | (apply VLdN.sub; (focus ((repeat (first | (with_reducible apply ldn_blk) | (with_reducible apply ldn_row) | (with_reducible assumption) | (with_reducible apply ldn_skip))); done)); exact rfl) | (apply VSt.mk; (focus ((repeat (first | (with_reducible exact At.here) | (with_reducible apply At.there))); done)); exact rfl) | (apply VSt.old; (focus ((repeat (first | (with_reducible exact Upd.here) | (with_reducible apply Upd.there))); done)); (first | exact rfl | (simp; omega)); exact rfl) | (apply v_wr64; omega) | (apply VWr.mk; assumption) | (apply VNz.mk; omega) | (refine slist_and (by (repeat (first | exact List.nil_sublist _ | exact List.Sublist.refl _ | refine List.Sublist.cons_cons _ ?_ | refine List.Sublist.cons _ ?_))) ?_; first | refine otl_nil ?_ | (refine otl_cons ?_; apply ot_v Try.tabOk) | skip) | (apply v_ixn; omega) | (apply VK.mk; first | (refine otl_cons ?_; apply ot_v Try.tabOk) | apply ot_v Try.tabOk)); (conv => whnf))); try (first | apply VStop.mk | apply VCall.stop))
    rw [e1, e2]
    refine ot_call_st (X := Option Addr × Nat) (fun x => .tuple #[.slice x.1 sp.length x.2, .bool false, .bool true]) (fun x => [.own (.slice x.1 sp.length x.2) 23 2 sp.length (rngCells sp)]) (fun x => mut_one rfl) (by decide) rfl rfl rfl (by kernel_rfl) (evl_of rfl) (fun w1 hs => hsp w1 (hs.nest hN)) (fun y => ?_)
    dsimp only [List.cons_append, List.nil_append]
    apply ot_v Try.tabOk
    ((try first | apply tr_v Try.tabOk | apply ot_v Try.tabOk); (conv => whnf); (repeat ((first | (apply VCall.q; kernel_rfl; (focus (intro w1 hs; first | with_reducible apply a1 w1 (hs.nest hN) | with_reducible apply a2 w1 (hs.nest hN) | with_reducible apply a3 w1 (hs.nest hN) | with_reducible apply hwk w1))) | (apply VLd.mk; (focus ((repeat (first | ((with_reducible apply ld_blk); exact rfl) | ((with_reducible apply ld_row); exact rfl) | ((with_reducible apply ld_row0); exact rfl) | (with_reducible assumption) | (with_reducible exact CellAt.base (by assumption)) | (with_reducible apply ld_skip))); done))) | (apply VRng.mk; omega) | apply VBr.t | apply VBr.f | (apply v_t; omega) | (apply v_f; omega) | apply v_d | (apply VNew.mk; intro g hg) | (apply VIx.mk; exact rfl; omega) | (apply VIx.mk (j := 0); exact rfl; omega) | (apply VLdN.mk; (focus ((repeat (first | (with_reducible apply ldn_blk) | (with_reducible apply ldn_row) | (with_reducible assumption) | (with_reducible apply ldn_skip))); done)); exact rfl) | (apply VLdN.sub; (focus ((repeat (first | (with_reducible apply ldn_blk) | (with_reducible apply ldn_row) | (with_reducible assumption) | (with_reducible apply ldn_skip))); done)); exact rfl) | (apply VSt.mk; (focus ((repeat (first | (with_reducible exact At.here) | (with_reducible apply At.there))); done)); exact rfl) | (apply VSt.old; (focus ((repeat (first | (with_reducible exact Upd.here) | (with_reducible apply Upd.there))); done)); (first | exact rfl | (simp; omega)); exact rfl) | (apply v_wr64; omega) | (apply VWr.mk; assumption) | (apply VNz.mk; omega) | (refine slist_and (by (repeat (first | exact List.nil_sublist _ | exact List.Sublist.refl _ | refine List.Sublist.cons_cons _ ?_ | refine List.Sublist.cons _ ?_))) ?_; first | refine otl_nil ?_ | (refine otl_cons ?_; apply ot_v Try.tabOk) | skip) | (apply v_ixn; omega) | (apply VK.mk; first | (refine otl_cons ?_; apply ot_v Try.tabOk) | apply ot_v Try.tabOk)); (conv => whnf))); try (first | apply VStop.mk | apply VCall.stop))
    ((apply VRet.mk); refine ret1 (by first | exact .inl rfl | exact .inr rfl) rfl (by first | exact rv_tmp rfl | exact rv_row Try.tabOk rfl rfl rfl (by first | exact cells_blk_all (by (repeat (first | exact List.Mem.head _ | assumption | refine List.Mem.tail _ ?_))) | exact cells_row0 (by (repeat (first | exact List.Mem.head _ | assumption | refine List.Mem.tail _ ?_)))) rfl | exact rv_sc Try.tabOk rfl rfl rfl (by first | exact cell_blk (by (repeat (first | exact List.Mem.head _ | assumption | refine List.Mem.tail _ ?_))) (by rfl) | exact cell_row (by (repeat (first | exact List.Mem.head _ | assumption | refine List.Mem.tail _ ?_))) (by rfl) | exact cell_own (by (repeat (first | exact List.Mem.head _ | assumption | refine List.Mem.tail _ ?_))) (by rfl) | exact cell_row0 (by (repeat (first | exact List.Mem.head _ | assumption | refine List.Mem.tail _ ?_))) (by rfl) | assumption | exact CellAt.base (by assumption))) ?_; exact fun w h => ⟨rfl, h.base⟩)
  | true =>
    rw [apartR_yes hO hc hiL hkL] at a1
    rw [apartR_yes hO hc hkL hiL] at a2
    rw [apartR_yes hO hc hiL hiL, jm_self hO hc (by omega)] at a3
    rw [hc] at hsp
    have hn := spansP_yes hO hc
    have g1 := spansP_at hO hc hiL
    have g2 := spansP_at hO hc hkL
    have b1 := span_bounds hO hc hiL
    have b2 := span_bounds hO hc hkL
    have hz : 0 < 1 + L + S.flatten.length := by omega
    have hzi : i + 1 < 1 + L + S.flatten.length := by omega
    have hzk : k + 1 < 1 + L + S.flatten.length := by omega
    have t1 := jm_tri hO hc hzi hz hzk
    have t2 := jm_tri hO hc hzk hz hzi
    have t3 := jm_tri hO hc hzi hzk hz
    have t4 := jm_tri hO hc hzk hzi hz
    have t5 := jm_tri hO hc hz hzi hzk
    have t6 := jm_tri hO hc hz hzk hzi
    have t7 := jm_tri hO hc hzi hzk hzi
    rw [jm_self hO hc hzi] at t7
    clear h0 hO
    unfold bookV rangeV at *
    dsimp only at a1 a2 a3
    unfold loS hiS at *
    rw [Int.neg_zero] at a3
    generalize spansP rlo rhi L S = sp at *
    generalize jm rlo rhi L S (-1) (i + 1) (k + 1) = p at *
    generalize jm rlo rhi L S (-1) (k + 1) (i + 1) = q at *
    generalize jm rlo rhi L S (-1) (i + 1) 0 = i0 at *
    generalize jm rlo rhi L S (-1) (k + 1) 0 = k0 at *
    generalize jm rlo rhi L S (-1) 0 (i + 1) = oi at *
    generalize jm rlo rhi L S (-1) 0 (k + 1) = ok at *
    have o1 : ∀ {b cap : Nat} {A : List Chunk}, Chunk.own (.slice (some ⟨b, 0, none⟩) sp.length cap) 23 2 sp.length (rngCells sp) ∈ A → CellAt w A b (0 + i * 2 + 0) (.int .i64 (-i0)) ∧ CellAt w A b (0 + i * 2 + 1) (.int .i64 oi) := fun h => by
      have := own_rng (w0 := w) h (show i < sp.length by omega)
      rw [g1] at this
      exact this
    have o2 : ∀ {b cap : Nat} {A : List Chunk}, Chunk.own (.slice (some ⟨b, 0, none⟩) sp.length cap) 23 2 sp.length (rngCells sp) ∈ A → CellAt w A b (0 + k * 2 + 0) (.int .i64 (-k0)) ∧ CellAt w A b (0 + k * 2 + 1) (.int .i64 ok) := fun h => by
      have := own_rng (w0 := w) h (show k < sp.length by omega)
      rw [g2] at this
      exact this
    clear g1 g2
    refine fn_v Try.tabOk (n := 184) (A := []) Try.func12 rfl rfl (Nat.le_of_ble_eq_true rfl) (St.nil (Below.refl _ _)) ?_
    ((try first | apply tr_v Try.tabOk | apply ot_v Try.tabOk); (conv => whnf); (repeat ((first | ((first | apply VStop.mk | apply VCall.stop); (first | refine tr_region_lex (id := 3) (by kernel_rfl) [.rd, .rd, .rd, .rd, .rd, .rd, .rd, .rd, .rd, .rd, .rd, .rd] rfl (by kernel_rfl) ?_); try first | apply ot_v Try.tabOk | apply tr_v Try.tabOk) | (apply VCall.q; kernel_rfl; (focus (intro w1 hs; first | with_reducible apply hfn w1 (hs.nest hN) | with_reducible apply hwk w1))) | (apply VLd.mk; (focus ((repeat (first | ((with_reducible apply ld_blk); exact rfl) | ((with_reducible apply ld_row); exact rfl) | ((with_reducible apply ld_row0); exact rfl) | (with_reducible assumption) | (with_reducible exact CellAt.base (by assumption)) | (with_reducible apply ld_skip))); done))) | (apply VRng.mk; omega) | apply VBr.t | apply VBr.f | (apply v_t; omega) | (apply v_f; omega) | apply v_d | (apply VNew.mk; intro g hg) | (apply VIx.mk; exact rfl; omega) | (apply VIx.mk (j := 0); exact rfl; omega) | (apply VLdN.mk; (focus ((repeat (first | (with_reducible apply ldn_blk) | (with_reducible apply ldn_row) | (with_reducible assumption) | (with_reducible apply ldn_skip))); done)); exact rfl) | (apply VLdN.sub; (focus ((repeat (first | (with_reducible apply ldn_blk) | (with_reducible apply ldn_row) | (with_reducible assumption) | (with_reducible apply ldn_skip))); done)); exact rfl) | (apply VSt.mk; (focus ((repeat (first | (with_reducible exact At.here) | (with_reducible apply At.there))); done)); exact rfl) | (apply VSt.old; (focus ((repeat (first | (with_reducible exact Upd.here) | (with_reducible apply Upd.there))); done)); (first | exact rfl | (simp; omega)); exact rfl) | (apply v_wr64; omega) | (apply VWr.mk; assumption) | (apply VNz.mk; omega) | (refine slist_and (by (repeat (first | exact List.nil_sublist _ | exact List.Sublist.refl _ | refine List.Sublist.cons_cons _ ?_ | refine List.Sublist.cons _ ?_))) ?_; first | refine otl_nil ?_ | (refine otl_cons ?_; apply ot_v Try.tabOk) | skip) | (apply v_ixn; omega) | (apply VK.mk; first | (refine otl_cons ?_; apply ot_v Try.tabOk) | apply ot_v Try.tabOk)); (conv => whnf))); try (first | apply VStop.mk | apply VCall.stop))
    rw [e1, e2]
    refine ot_call_st (X := Option Addr × Nat) (fun x => .tuple #[.slice x.1 sp.length x.2, .bool true, .bool true]) (fun x => [.own (.slice x.1 sp.length x.2) 23 2 sp.length (rngCells sp)]) (fun x => mut_one rfl) (by decide) rfl rfl rfl (by kernel_rfl) (evl_of rfl) (fun w1 hs => hsp w1 (hs.nest hN)) (fun y => ?_)
    obtain ⟨yB, yc⟩ := y
    dsimp only [List.cons_append, List.nil_append]
    refine ot_fact (p := ∃ b, yB = some ⟨b, 0, none⟩) rfl (fun w' hs => ?_) fun hy => ?_
    · obtain ⟨B, cp, e, hB⟩ := own_form (hs.all _ (.head _))
      cases e
      exact hB (by omega)
    obtain ⟨yb, rfl⟩ := hy
    apply ot_v Try.tabOk
    have q1 : ∀ w, (Op.equal 23 (.agg #[.int .i64 (-q), .int .i64 p]) (.agg #[.int .i64 (-q), .int .i64 (- -p)])).run Try.prog w = .ok true w := fun w => by rw [rng_eq, decide_eq_true (by omega)]
    ((try first | apply tr_v Try.tabOk | apply ot_v Try.tabOk); (conv => whnf); (repeat ((first | ((first | apply VStop.mk | apply VCall.stop); (first | refine tr_region_lex (id := 12) (by kernel_rfl) [.rd, .rd, .rd, .rd, .rd, .rd, .rd, .rd, .rd, .rd, .rd, .rd, .cr, .rd, .rd, .rd, .rd, .rd, .rd, .rd, .rd, .rd, .rd, .rd, .rd, .rd, .rd, .rd, .rd, .rd, .rd, .rd, .rd, .rd, .rd, .rd, .rd, .rd, .rd, .rd, .cr, .rd, .rd] rfl (by kernel_rfl) ?_ | refine tr_region_lex (id := 14) (by kernel_rfl) [.rd, .rd, .rd, .rd, .rd, .rd, .rd, .rd, .rd, .rd, .rd, .rd, .rd, .rd, .rd, .rd, .rd, .rd, .rd, .rd, .rd, .rd, .rd, .rd, .rd, .rd, .rd, .rd, .rd, .rd, .rd, .rd, .rd, .rd, .rd, .rd, .rd, .rd, .rd, .rd, .rd, .rd, .rd, .rd, .rd, .rd, .rd, .rd, .rd, .rd, .rd, .rd, .rd, .rd, .rd, .rd, .rd, .rd, .rd, .rd, .rd, .rd, .rd, .cr, .rd, .rd] rfl (by kernel_rfl) ?_); try first | apply ot_v Try.tabOk | apply tr_v Try.tabOk) | (apply VEq.mk true; kernel_rfl; first | exact rng_same 0 0 | exact q1) | (apply VIx.mk (j := i); exact rfl; omega) | (apply VIx.mk (j := k); exact rfl; omega) | (apply VLd.mk; first | exact (o1 (by (repeat (first | with_unfolding_all exact List.Mem.head _ | assumption | with_unfolding_all refine List.Mem.tail _ ?_)))).1 | exact (o1 (by (repeat (first | with_unfolding_all exact List.Mem.head _ | assumption | with_unfolding_all refine List.Mem.tail _ ?_)))).2 | exact (o2 (by (repeat (first | with_unfolding_all exact List.Mem.head _ | assumption | with_unfolding_all refine List.Mem.tail _ ?_)))).1 | exact (o2 (by (repeat (first | with_unfolding_all exact List.Mem.head _ | assumption | with_unfolding_all refine List.Mem.tail _ ?_)))).2) | (apply VCall.q; kernel_rfl; (focus (intro w1 hs; first | with_reducible apply a1 w1 (hs.nest hN) | with_reducible apply a2 w1 (hs.nest hN) | with_reducible apply a3 w1 (hs.nest hN) | with_reducible apply hwk w1 | with_reducible apply ht _ _ w1))) | (apply VLd.mk; (focus ((repeat (first | ((with_reducible apply ld_blk); exact rfl) | ((with_reducible apply ld_row); exact rfl) | ((with_reducible apply ld_row0); exact rfl) | (with_reducible assumption) | (with_reducible exact CellAt.base (by assumption)) | (with_reducible apply ld_skip))); done))) | (apply VRng.mk; omega) | apply VBr.t | apply VBr.f | (apply v_t; omega) | (apply v_f; omega) | apply v_d | (apply VNew.mk; intro g hg) | (apply VIx.mk; exact rfl; omega) | (apply VIx.mk (j := 0); exact rfl; omega) | (apply VLdN.mk; (focus ((repeat (first | (with_reducible apply ldn_blk) | (with_reducible apply ldn_row) | (with_reducible assumption) | (with_reducible apply ldn_skip))); done)); exact rfl) | (apply VLdN.sub; (focus ((repeat (first | (with_reducible apply ldn_blk) | (with_reducible apply ldn_row) | (with_reducible assumption) | (with_reducible apply ldn_skip))); done)); exact rfl) | (apply VSt.mk; (focus ((repeat (first | (with_reducible exact At.here) | (with_reducible apply At.there))); done)); exact rfl) | (apply VSt.old; (focus ((repeat (first | (with_reducible exact Upd.here) | (with_reducible apply Upd.there))); done)); (first | exact rfl | (simp; omega)); exact rfl) | (apply v_wr64; omega) | (apply VWr.mk; assumption) | (apply VNz.mk; omega) | (refine slist_and (by (repeat (first | exact List.nil_sublist _ | exact List.Sublist.refl _ | refine List.Sublist.cons_cons _ ?_ | refine List.Sublist.cons _ ?_))) ?_; first | refine otl_nil ?_ | (refine otl_cons ?_; apply ot_v Try.tabOk) | skip) | (apply v_ixn; omega) | (apply VK.mk; first | (refine otl_cons ?_; apply ot_v Try.tabOk) | apply ot_v Try.tabOk)); (conv => whnf))); try (first | apply VStop.mk | apply VCall.stop))
    ((apply VRet.mk); refine ret1 (by first | exact .inl rfl | exact .inr rfl) rfl (by first | exact rv_tmp rfl | exact rv_row Try.tabOk rfl rfl rfl (by first | exact cells_blk_all (by (repeat (first | exact List.Mem.head _ | assumption | refine List.Mem.tail _ ?_))) | exact cells_row0 (by (repeat (first | exact List.Mem.head _ | assumption | refine List.Mem.tail _ ?_)))) rfl | exact rv_sc Try.tabOk rfl rfl rfl (by first | exact cell_blk (by (repeat (first | exact List.Mem.head _ | assumption | refine List.Mem.tail _ ?_))) (by rfl) | exact cell_row (by (repeat (first | exact List.Mem.head _ | assumption | refine List.Mem.tail _ ?_))) (by rfl) | exact cell_own (by (repeat (first | exact List.Mem.head _ | assumption | refine List.Mem.tail _ ?_))) (by rfl) | exact cell_row0 (by (repeat (first | exact List.Mem.head _ | assumption | refine List.Mem.tail _ ?_))) (by rfl) | assumption | exact CellAt.base (by assumption))) ?_; exact fun w h => ⟨rfl, h.base⟩)
end
end Go.Proofs.Ytkbcogaodnmdoaa
