/- The reference: Span, Apart, the ends: lemmas for the rows of this seat. No conditions. -/
import Derived.Test.YtkbcogaodnmdoaaProg
import Derived.WalkKit
import Derived.WalkSpells
import Derived.WalkLawsBesides
import Derived.Lib.Hide
import Derived.Deep.AppendLies
import Derived.Deep.Draws
import Derived.Maps.AppendAt
import Derived.RegionTactic
import Derived.OwnWalk
import Derived.Deep.QuietTactic
import Derived.BigQuiet
import Derived.Deep.DeepFit
import Derived.Deep.LoopGhost
import Derived.Deep.DeepMust
import Derived.Deep.DeepCutAuto
import Derived.StillTail
import Derived.Deep.Quiet
import Derived.Deep.RegionHeld3
import Derived.Deep.RegionWith
import Derived.Deep.RegionLaw
import Derived.Maps.OwnOps
import Derived.Maps.OwnSet
import Derived.Maps.OwnRows
import Derived.Maps.RangeWalk
import Derived.Carry
import Derived.Test.YtkbcogaodnmdoaaBase
import Derived.Test.YtkbcogaodnmdoaaMaps
import Derived.Test.YtkbcogaodnmdoaaKeys
import Derived.Test.YtkbcogaodnmdoaaS1
import Derived.Test.YtkbcogaodnmdoaaS5
import Derived.Test.YtkbcogaodnmdoaaS14
import Derived.Test.YtkbcogaodnmdoaaV
import Derived.Test.YtkbcogaodnmdoaaTab
import Derived.Test.YtkbcogaodnmdoaaE1
import Derived.Test.YtkbcogaodnmdoaaE2
import Derived.Test.YtkbcogaodnmdoaaE3
import Derived.Test.YtkbcogaodnmdoaaE4
import Derived.Test.YtkbcogaodnmdoaaE5
import Derived.Test.YtkbcogaodnmdoaaE6
import Derived.Test.YtkbcogaodnmdoaaE7
set_option linter.all false
namespace Go.Proofs.Ytkbcogaodnmdoaa
open Go.RowKit
/-! ## The reference: Span, Apart, the ends -/
theorem JB {rlo rhi : Int} {L : Nat} {Al : Option Addr} {S : List (List T3)} {w : World} (hN : NestR w 3 Al (nestOf S)) (hO : Okb rlo rhi L S) (but : Int) (N : Nat) (hNn : N = 1 + L + S.flatten.length) : BMN N (joinP (bnd rlo rhi L S but) N) :=
  BMN.fwM (fun i k hi hk => rowV_bd rlo rhi L Al S w hN hO but i k (by omega) (by omega)) N (Nat.le_refl _)
def jm (rlo rhi : Int) (L : Nat) (S : List (List T3)) (but : Int) : Mx := joinP (bnd rlo rhi L S but) (1 + L + S.flatten.length)
def canB (rlo rhi : Int) (L : Nat) (S : List (List T3)) (but : Int) : Bool := canP (1 + L + S.flatten.length) (jm rlo rhi L S but)
/-- Span, plainly: both ends, and the error. -/
def spanR (rlo rhi lots : Int) (S : List (List T3)) (lot : Int) : Int × Int × Int :=
  if chkBook rlo rhi lots S ≠ 0 then (0, 0, chkBook rlo rhi lots S) else if lot < 0 ∨ lots ≤ lot then (0, 0, 2) else if canB rlo rhi lots.toNat S (-1) = false then (0, 0, 17)
  else (-(jm rlo rhi lots.toNat S (-1) (lot.toNat + 1) 0), jm rlo rhi lots.toNat S (-1) 0 (lot.toNat + 1), 0)
def apartR (rlo rhi lots : Int) (S : List (List T3)) (one two : Int) : Int × Int × Int :=
  if chkBook rlo rhi lots S ≠ 0 then (0, 0, chkBook rlo rhi lots S) else if one < 0 ∨ lots ≤ one ∨ two < 0 ∨ lots ≤ two then (0, 0, 2) else if canB rlo rhi lots.toNat S (-1) = false then (0, 0, 17)
  else (-(jm rlo rhi lots.toNat S (-1) (one.toNat + 1) (two.toNat + 1)), jm rlo rhi lots.toNat S (-1) (two.toNat + 1) (one.toNat + 1), 0)
def rangeV (a b e : Int) : Value := .tuple #[.agg #[.int .i64 a, .int .i64 b], .int .i64 e]
section
variable (rlo rhi lots : Int) (Al : Option Addr) (c : Nat) (S : List (List T3)) (w : World) (hN : NestR w 3 Al (nestOf S)) (hF : Fit S)
include hN hF
set_option maxHeartbeats 4000000 in
set_option maxRecDepth 20000 in
theorem refSpan_any (lot : Int) : Calls Try.prog 31 #[bookV rlo rhi lots Al S.length c, .int .i64 lot] w fun e w' => e = .returned (rangeV (spanR rlo rhi lots S lot).1 (spanR rlo rhi lots S lot).2.1 (spanR rlo rhi lots S lot).2.2) ∧ Below w.heap.size w w' := by
  have hck := fun w1 (h : NestR w1 3 Al (nestOf S)) => refCheckBook_any rlo rhi lots Al c S w1 h hF
  by_cases h0 : chkBook rlo rhi lots S = 0
  rotate_left
  · have hs : spanR rlo rhi lots S lot = (0, 0, chkBook rlo rhi lots S) := by unfold spanR; rw [if_pos h0]
    rw [hs]
    unfold bookV rangeV at *
    generalize chkBook rlo rhi lots S = e at *
    refine fn_v Try.tabOk (n := 44) (A := []) Try.func31 rfl rfl (Nat.le_of_ble_eq_true rfl) (St.nil (Below.refl _ _)) ?_
    ((try first | apply tr_v Try.tabOk | apply ot_v Try.tabOk); (conv => whnf); (repeat ((first | (apply VCall.q; kernel_rfl; (focus (intro w1 hs; first | with_reducible apply hck w1 (hs.nest hN)))) | apply VBr.t | (apply v_t; omega) | (apply VNew.mk; intro g hg) | (apply VLdN.mk; (focus ((repeat (first | (with_reducible apply ldn_blk) | (with_reducible apply ldn_row) | (with_reducible assumption) | (with_reducible apply ldn_skip))); done)); exact rfl) | (apply VSt.mk; (focus ((repeat (first | (with_reducible exact At.here) | (with_reducible apply At.there))); done)); exact rfl)); (conv => whnf))); try (first | apply VStop.mk | apply VCall.stop))
    (apply VRet.mk)
    refine ret2 (by first | exact .inl rfl | exact .inr rfl) rfl (by exact rv_row Try.tabOk rfl rfl rfl (by first | exact cells_blk_all (by (repeat (first | exact List.Mem.head _ | assumption | refine List.Mem.tail _ ?_))) | exact cells_row0 (by (repeat (first | exact List.Mem.head _ | assumption | refine List.Mem.tail _ ?_)))) rfl) (by exact rv_tmp rfl) ?_
    exact fun w h => ⟨rfl, h.base⟩
  · have hO := chk_ok.1 h0
    rw [h0] at hck
    obtain ⟨L, rfl⟩ : ∃ L : Nat, lots = L := ⟨lots.toNat, by have := hO.l; omega⟩
    have hl := hO.l
    have ht := hO.t
    have hca := fun w1 (h : NestR w1 3 Al (nestOf S)) => can_any rlo rhi L Al c S w1 h hO (-1) (1 + L + S.flatten.length) rfl
    have hjo := fun w1 (h : NestR w1 3 Al (nestOf S)) => joined_any rlo rhi L Al c S w1 h hO (-1) (1 + L + S.flatten.length) rfl
    have hB := JB hN hO (-1) (1 + L + S.flatten.length) rfl
    have hsp : spanR rlo rhi L S lot = if lot < 0 ∨ (L : Int) ≤ lot then (0, 0, 2) else if canB rlo rhi L S (-1) = false then (0, 0, 17) else (-(jm rlo rhi L S (-1) (lot.toNat + 1) 0), jm rlo rhi L S (-1) 0 (lot.toNat + 1), 0) := by unfold spanR; rw [if_neg (by simpa using h0), Int.toNat_natCast]
    rw [hsp]
    unfold canB jm
    unfold bookV rangeV at *
    have hN2 : 1 + L ≤ 1 + L + S.flatten.length ∧ 1 + L + S.flatten.length ≤ 19 := by omega
    generalize 1 + L + S.flatten.length = N at *
    generalize joinP (bnd rlo rhi L S (-1)) N = m at *
    have hFe : FarC = 1099511627776 := rfl
    clear hsp hO h0
    refine fn_v Try.tabOk (n := 44) (A := []) Try.func31 rfl rfl (Nat.le_of_ble_eq_true rfl) (St.nil (Below.refl _ _)) ?_
    by_cases hlo : lot < 0 ∨ (L : Int) ≤ lot
    · rw [if_pos hlo]
      by_cases h1 : lot < 0
      · ((try first | apply tr_v Try.tabOk | apply ot_v Try.tabOk); (conv => whnf); (repeat ((first | (apply VCall.q; kernel_rfl; (focus (intro w1 hs; first | with_reducible apply hck w1 (hs.nest hN)))) | apply VBr.t | apply VBr.f | (apply v_t; omega) | (apply v_f; omega) | (apply VNew.mk; intro g hg) | (apply VLdN.mk; (focus ((repeat (first | (with_reducible apply ldn_blk) | (with_reducible apply ldn_row) | (with_reducible assumption) | (with_reducible apply ldn_skip))); done)); exact rfl) | (apply VSt.mk; (focus ((repeat (first | (with_reducible exact At.here) | (with_reducible apply At.there))); done)); exact rfl)); (conv => whnf))); try (first | apply VStop.mk | apply VCall.stop))
        (apply VRet.mk)
        refine ret2 (by first | exact .inl rfl | exact .inr rfl) rfl (by exact rv_row Try.tabOk rfl rfl rfl (by first | exact cells_blk_all (by (repeat (first | exact List.Mem.head _ | assumption | refine List.Mem.tail _ ?_))) | exact cells_row0 (by (repeat (first | exact List.Mem.head _ | assumption | refine List.Mem.tail _ ?_)))) rfl) (by exact rv_tmp rfl) ?_
        exact fun w h => ⟨rfl, h.base⟩
      · ((try first | apply tr_v Try.tabOk | apply ot_v Try.tabOk); (conv => whnf); (repeat ((first | (apply VCall.q; kernel_rfl; (focus (intro w1 hs; first | with_reducible apply hck w1 (hs.nest hN)))) | (apply VLd.mk; (focus ((repeat (first | ((with_reducible apply ld_blk); exact rfl) | ((with_reducible apply ld_row); exact rfl) | ((with_reducible apply ld_row0); exact rfl) | (with_reducible assumption) | (with_reducible exact CellAt.base (by assumption)) | (with_reducible apply ld_skip))); done))) | apply VBr.t | apply VBr.f | (apply v_t; omega) | (apply v_f; omega) | (apply VNew.mk; intro g hg) | (apply VLdN.mk; (focus ((repeat (first | (with_reducible apply ldn_blk) | (with_reducible apply ldn_row) | (with_reducible assumption) | (with_reducible apply ldn_skip))); done)); exact rfl) | (apply VSt.mk; (focus ((repeat (first | (with_reducible exact At.here) | (with_reducible apply At.there))); done)); exact rfl)); (conv => whnf))); try (first | apply VStop.mk | apply VCall.stop))
        (apply VRet.mk)
        refine ret2 (by first | exact .inl rfl | exact .inr rfl) rfl (by exact rv_row Try.tabOk rfl rfl rfl (by first | exact cells_blk_all (by (repeat (first | exact List.Mem.head _ | assumption | refine List.Mem.tail _ ?_))) | exact cells_row0 (by (repeat (first | exact List.Mem.head _ | assumption | refine List.Mem.tail _ ?_)))) rfl) (by exact rv_tmp rfl) ?_
        exact fun w h => ⟨rfl, h.base⟩
    · rw [if_neg hlo]
      cases hcb : canP N m with
      | false =>
        rw [hcb] at hca
        rw [if_pos rfl]
        ((try first | apply tr_v Try.tabOk | apply ot_v Try.tabOk); (conv => whnf); (repeat ((first | (apply VCall.q; kernel_rfl; (focus (intro w1 hs; first | with_reducible apply hck w1 (hs.nest hN) | with_reducible apply hca w1 (hs.nest hN)))) | (apply VLd.mk; (focus ((repeat (first | ((with_reducible apply ld_blk); exact rfl) | ((with_reducible apply ld_row); exact rfl) | ((with_reducible apply ld_row0); exact rfl) | (with_reducible assumption) | (with_reducible exact CellAt.base (by assumption)) | (with_reducible apply ld_skip))); done))) | apply VBr.t | apply VBr.f | (apply v_f; omega) | (apply VNew.mk; intro g hg) | (apply VLdN.mk; (focus ((repeat (first | (with_reducible apply ldn_blk) | (with_reducible apply ldn_row) | (with_reducible assumption) | (with_reducible apply ldn_skip))); done)); exact rfl) | (apply VSt.mk; (focus ((repeat (first | (with_reducible exact At.here) | (with_reducible apply At.there))); done)); exact rfl)); (conv => whnf))); try (first | apply VStop.mk | apply VCall.stop))
        (apply VRet.mk)
        refine ret2 (by first | exact .inl rfl | exact .inr rfl) rfl (by exact rv_row Try.tabOk rfl rfl rfl (by first | exact cells_blk_all (by (repeat (first | exact List.Mem.head _ | assumption | refine List.Mem.tail _ ?_))) | exact cells_row0 (by (repeat (first | exact List.Mem.head _ | assumption | refine List.Mem.tail _ ?_)))) rfl) (by exact rv_tmp rfl) ?_
        exact fun w h => ⟨rfl, h.base⟩
      | true =>
        rw [hcb] at hca
        rw [if_neg (by simp)]
        obtain ⟨q, rfl⟩ : ∃ q : Nat, lot = q := ⟨lot.toNat, by omega⟩
        rw [Int.toNat_natCast]
        have b1 := hB (q + 1) 0 (by omega) (by omega)
        ((try first | apply tr_v Try.tabOk | apply ot_v Try.tabOk); (conv => whnf); (repeat ((first | (apply VCall.q; kernel_rfl; (focus (intro w1 hs; first | with_reducible apply hck w1 (hs.nest hN) | with_reducible apply hca w1 (hs.nest hN)))) | (apply VLd.mk; (focus ((repeat (first | ((with_reducible apply ld_blk); exact rfl) | ((with_reducible apply ld_row); exact rfl) | ((with_reducible apply ld_row0); exact rfl) | (with_reducible assumption) | (with_reducible exact CellAt.base (by assumption)) | (with_reducible apply ld_skip))); done))) | apply VBr.f | (apply v_f; omega) | (apply VNew.mk; intro g hg) | (apply VLdN.mk; (focus ((repeat (first | (with_reducible apply ldn_blk) | (with_reducible apply ldn_row) | (with_reducible assumption) | (with_reducible apply ldn_skip))); done)); exact rfl)); (conv => whnf))); try (first | apply VStop.mk | apply VCall.stop))
        refine ot_call_j (N := N) (m := m) (by omega) (by decide) rfl rfl rfl (by kernel_rfl) (evl_of rfl) (fun w1 hs => hjo w1 (hs.nest hN)) (fun gs hgs b cap => ?_)
        dsimp only [List.cons_append, List.nil_append]
        ((try first | apply tr_v Try.tabOk | apply ot_v Try.tabOk); (conv => whnf); (repeat ((first | ((first | apply VStop.mk | apply VCall.stop); (first | refine tr_region_lex (id := 8) (by kernel_rfl) [.rd, .rd, .rd, .rd, .rd, .rd, .rd, .rd, .rd, .rd, .rd, .rd, .rd, .rd, .rd, .rd, .wr, .rd] rfl (by kernel_rfl) ?_); try first | apply ot_v Try.tabOk | apply tr_v Try.tabOk) | (apply VIx.mk (j := q + 1); omega; omega) | (apply VLd.mk; apply ld_skip; apply ld_skip; first | exact j_out hgs (by omega) | exact j_row hgs (by omega) (by omega)) | (apply VRng.mk; omega) | (apply VIx.mk (j := 0); exact rfl; omega) | (apply VSt.mk; (focus ((repeat (first | (with_reducible exact At.here) | (with_reducible apply At.there))); done)); exact rfl)); (conv => whnf))); try (first | apply VStop.mk | apply VCall.stop))
        (apply VRet.mk)
        refine ret2 (by first | exact .inl rfl | exact .inr rfl) rfl (by exact rv_row Try.tabOk rfl rfl rfl (by first | exact cells_blk_all (by (repeat (first | exact List.Mem.head _ | assumption | refine List.Mem.tail _ ?_))) | exact cells_row0 (by (repeat (first | exact List.Mem.head _ | assumption | refine List.Mem.tail _ ?_)))) rfl) (by exact rv_tmp rfl) ?_
        exact fun w h => ⟨rfl, h.base⟩
set_option maxHeartbeats 4000000 in
set_option maxRecDepth 20000 in
theorem refApart_any (one two : Int) : Calls Try.prog 33 #[bookV rlo rhi lots Al S.length c, .int .i64 one, .int .i64 two] w fun e w' => e = .returned (rangeV (apartR rlo rhi lots S one two).1 (apartR rlo rhi lots S one two).2.1 (apartR rlo rhi lots S one two).2.2) ∧ Below w.heap.size w w' := by
  have hck := fun w1 (h : NestR w1 3 Al (nestOf S)) => refCheckBook_any rlo rhi lots Al c S w1 h hF
  by_cases h0 : chkBook rlo rhi lots S = 0
  rotate_left
  · have hs : apartR rlo rhi lots S one two = (0, 0, chkBook rlo rhi lots S) := by unfold apartR; rw [if_pos h0]
    rw [hs]
    unfold bookV rangeV at *
    generalize chkBook rlo rhi lots S = e at *
    refine fn_v Try.tabOk (n := 60) (A := []) Try.func33 rfl rfl (Nat.le_of_ble_eq_true rfl) (St.nil (Below.refl _ _)) ?_
    ((try first | apply tr_v Try.tabOk | apply ot_v Try.tabOk); (conv => whnf); (repeat ((first | (apply VCall.q; kernel_rfl; (focus (intro w1 hs; first | with_reducible apply hck w1 (hs.nest hN)))) | apply VBr.t | (apply v_t; omega) | (apply VNew.mk; intro g hg) | (apply VLdN.mk; (focus ((repeat (first | (with_reducible apply ldn_blk) | (with_reducible apply ldn_row) | (with_reducible assumption) | (with_reducible apply ldn_skip))); done)); exact rfl) | (apply VSt.mk; (focus ((repeat (first | (with_reducible exact At.here) | (with_reducible apply At.there))); done)); exact rfl)); (conv => whnf))); try (first | apply VStop.mk | apply VCall.stop))
    (apply VRet.mk)
    refine ret2 (by first | exact .inl rfl | exact .inr rfl) rfl (by exact rv_row Try.tabOk rfl rfl rfl (by first | exact cells_blk_all (by (repeat (first | exact List.Mem.head _ | assumption | refine List.Mem.tail _ ?_))) | exact cells_row0 (by (repeat (first | exact List.Mem.head _ | assumption | refine List.Mem.tail _ ?_)))) rfl) (by exact rv_tmp rfl) ?_
    exact fun w h => ⟨rfl, h.base⟩
  · have hO := chk_ok.1 h0
    rw [h0] at hck
    obtain ⟨L, rfl⟩ : ∃ L : Nat, lots = L := ⟨lots.toNat, by have := hO.l; omega⟩
    have hl := hO.l
    have ht := hO.t
    have hca := fun w1 (h : NestR w1 3 Al (nestOf S)) => can_any rlo rhi L Al c S w1 h hO (-1) (1 + L + S.flatten.length) rfl
    have hjo := fun w1 (h : NestR w1 3 Al (nestOf S)) => joined_any rlo rhi L Al c S w1 h hO (-1) (1 + L + S.flatten.length) rfl
    have hB := JB hN hO (-1) (1 + L + S.flatten.length) rfl
    have hsp : apartR rlo rhi L S one two = if one < 0 ∨ (L : Int) ≤ one ∨ two < 0 ∨ (L : Int) ≤ two then (0, 0, 2) else if canB rlo rhi L S (-1) = false then (0, 0, 17) else (-(jm rlo rhi L S (-1) (one.toNat + 1) (two.toNat + 1)), jm rlo rhi L S (-1) (two.toNat + 1) (one.toNat + 1), 0) := by unfold apartR; rw [if_neg (by simpa using h0), Int.toNat_natCast]
    rw [hsp]
    unfold canB jm
    unfold bookV rangeV at *
    have hN2 : 1 + L ≤ 1 + L + S.flatten.length ∧ 1 + L + S.flatten.length ≤ 19 := by omega
    generalize 1 + L + S.flatten.length = N at *
    generalize joinP (bnd rlo rhi L S (-1)) N = m at *
    have hFe : FarC = 1099511627776 := rfl
    clear hsp hO h0
    refine fn_v Try.tabOk (n := 60) (A := []) Try.func33 rfl rfl (Nat.le_of_ble_eq_true rfl) (St.nil (Below.refl _ _)) ?_
    by_cases hlo : one < 0 ∨ (L : Int) ≤ one ∨ two < 0 ∨ (L : Int) ≤ two
    · rw [if_pos hlo]
      by_cases h1 : one < 0
      · ((try first | apply tr_v Try.tabOk | apply ot_v Try.tabOk); (conv => whnf); (repeat ((first | (apply VCall.q; kernel_rfl; (focus (intro w1 hs; first | with_reducible apply hck w1 (hs.nest hN)))) | apply VBr.t | apply VBr.f | (apply v_t; omega) | (apply v_f; omega) | (apply VNew.mk; intro g hg) | (apply VLdN.mk; (focus ((repeat (first | (with_reducible apply ldn_blk) | (with_reducible apply ldn_row) | (with_reducible assumption) | (with_reducible apply ldn_skip))); done)); exact rfl) | (apply VSt.mk; (focus ((repeat (first | (with_reducible exact At.here) | (with_reducible apply At.there))); done)); exact rfl)); (conv => whnf))); try (first | apply VStop.mk | apply VCall.stop))
        (apply VRet.mk)
        refine ret2 (by first | exact .inl rfl | exact .inr rfl) rfl (by exact rv_row Try.tabOk rfl rfl rfl (by first | exact cells_blk_all (by (repeat (first | exact List.Mem.head _ | assumption | refine List.Mem.tail _ ?_))) | exact cells_row0 (by (repeat (first | exact List.Mem.head _ | assumption | refine List.Mem.tail _ ?_)))) rfl) (by exact rv_tmp rfl) ?_
        exact fun w h => ⟨rfl, h.base⟩
      · by_cases h2 : (L : Int) ≤ one
        · ((try first | apply tr_v Try.tabOk | apply ot_v Try.tabOk); (conv => whnf); (repeat ((first | (apply VCall.q; kernel_rfl; (focus (intro w1 hs; first | with_reducible apply hck w1 (hs.nest hN)))) | (apply VLd.mk; (focus ((repeat (first | ((with_reducible apply ld_blk); exact rfl) | ((with_reducible apply ld_row); exact rfl) | ((with_reducible apply ld_row0); exact rfl) | (with_reducible assumption) | (with_reducible exact CellAt.base (by assumption)) | (with_reducible apply ld_skip))); done))) | apply VBr.t | apply VBr.f | (apply v_t; omega) | (apply v_f; omega) | (apply VNew.mk; intro g hg) | (apply VLdN.mk; (focus ((repeat (first | (with_reducible apply ldn_blk) | (with_reducible apply ldn_row) | (with_reducible assumption) | (with_reducible apply ldn_skip))); done)); exact rfl) | (apply VSt.mk; (focus ((repeat (first | (with_reducible exact At.here) | (with_reducible apply At.there))); done)); exact rfl)); (conv => whnf))); try (first | apply VStop.mk | apply VCall.stop))
          (apply VRet.mk)
          refine ret2 (by first | exact .inl rfl | exact .inr rfl) rfl (by exact rv_row Try.tabOk rfl rfl rfl (by first | exact cells_blk_all (by (repeat (first | exact List.Mem.head _ | assumption | refine List.Mem.tail _ ?_))) | exact cells_row0 (by (repeat (first | exact List.Mem.head _ | assumption | refine List.Mem.tail _ ?_)))) rfl) (by exact rv_tmp rfl) ?_
          exact fun w h => ⟨rfl, h.base⟩
        · by_cases h3 : two < 0
          · ((try first | apply tr_v Try.tabOk | apply ot_v Try.tabOk); (conv => whnf); (repeat ((first | (apply VCall.q; kernel_rfl; (focus (intro w1 hs; first | with_reducible apply hck w1 (hs.nest hN)))) | (apply VLd.mk; (focus ((repeat (first | ((with_reducible apply ld_blk); exact rfl) | ((with_reducible apply ld_row); exact rfl) | ((with_reducible apply ld_row0); exact rfl) | (with_reducible assumption) | (with_reducible exact CellAt.base (by assumption)) | (with_reducible apply ld_skip))); done))) | apply VBr.t | apply VBr.f | (apply v_t; omega) | (apply v_f; omega) | (apply VNew.mk; intro g hg) | (apply VLdN.mk; (focus ((repeat (first | (with_reducible apply ldn_blk) | (with_reducible apply ldn_row) | (with_reducible assumption) | (with_reducible apply ldn_skip))); done)); exact rfl) | (apply VSt.mk; (focus ((repeat (first | (with_reducible exact At.here) | (with_reducible apply At.there))); done)); exact rfl)); (conv => whnf))); try (first | apply VStop.mk | apply VCall.stop))
            (apply VRet.mk)
            refine ret2 (by first | exact .inl rfl | exact .inr rfl) rfl (by exact rv_row Try.tabOk rfl rfl rfl (by first | exact cells_blk_all (by (repeat (first | exact List.Mem.head _ | assumption | refine List.Mem.tail _ ?_))) | exact cells_row0 (by (repeat (first | exact List.Mem.head _ | assumption | refine List.Mem.tail _ ?_)))) rfl) (by exact rv_tmp rfl) ?_
            exact fun w h => ⟨rfl, h.base⟩
          · ((try first | apply tr_v Try.tabOk | apply ot_v Try.tabOk); (conv => whnf); (repeat ((first | (apply VCall.q; kernel_rfl; (focus (intro w1 hs; first | with_reducible apply hck w1 (hs.nest hN)))) | (apply VLd.mk; (focus ((repeat (first | ((with_reducible apply ld_blk); exact rfl) | ((with_reducible apply ld_row); exact rfl) | ((with_reducible apply ld_row0); exact rfl) | (with_reducible assumption) | (with_reducible exact CellAt.base (by assumption)) | (with_reducible apply ld_skip))); done))) | apply VBr.t | apply VBr.f | (apply v_t; omega) | (apply v_f; omega) | (apply VNew.mk; intro g hg) | (apply VLdN.mk; (focus ((repeat (first | (with_reducible apply ldn_blk) | (with_reducible apply ldn_row) | (with_reducible assumption) | (with_reducible apply ldn_skip))); done)); exact rfl) | (apply VSt.mk; (focus ((repeat (first | (with_reducible exact At.here) | (with_reducible apply At.there))); done)); exact rfl)); (conv => whnf))); try (first | apply VStop.mk | apply VCall.stop))
            (apply VRet.mk)
            refine ret2 (by first | exact .inl rfl | exact .inr rfl) rfl (by exact rv_row Try.tabOk rfl rfl rfl (by first | exact cells_blk_all (by (repeat (first | exact List.Mem.head _ | assumption | refine List.Mem.tail _ ?_))) | exact cells_row0 (by (repeat (first | exact List.Mem.head _ | assumption | refine List.Mem.tail _ ?_)))) rfl) (by exact rv_tmp rfl) ?_
            exact fun w h => ⟨rfl, h.base⟩
    · rw [if_neg hlo]
      cases hcb : canP N m with
      | false =>
        rw [hcb] at hca
        rw [if_pos rfl]
        ((try first | apply tr_v Try.tabOk | apply ot_v Try.tabOk); (conv => whnf); (repeat ((first | (apply VCall.q; kernel_rfl; (focus (intro w1 hs; first | with_reducible apply hck w1 (hs.nest hN) | with_reducible apply hca w1 (hs.nest hN)))) | (apply VLd.mk; (focus ((repeat (first | ((with_reducible apply ld_blk); exact rfl) | ((with_reducible apply ld_row); exact rfl) | ((with_reducible apply ld_row0); exact rfl) | (with_reducible assumption) | (with_reducible exact CellAt.base (by assumption)) | (with_reducible apply ld_skip))); done))) | apply VBr.t | apply VBr.f | (apply v_f; omega) | (apply VNew.mk; intro g hg) | (apply VLdN.mk; (focus ((repeat (first | (with_reducible apply ldn_blk) | (with_reducible apply ldn_row) | (with_reducible assumption) | (with_reducible apply ldn_skip))); done)); exact rfl) | (apply VSt.mk; (focus ((repeat (first | (with_reducible exact At.here) | (with_reducible apply At.there))); done)); exact rfl)); (conv => whnf))); try (first | apply VStop.mk | apply VCall.stop))
        (apply VRet.mk)
        refine ret2 (by first | exact .inl rfl | exact .inr rfl) rfl (by exact rv_row Try.tabOk rfl rfl rfl (by first | exact cells_blk_all (by (repeat (first | exact List.Mem.head _ | assumption | refine List.Mem.tail _ ?_))) | exact cells_row0 (by (repeat (first | exact List.Mem.head _ | assumption | refine List.Mem.tail _ ?_)))) rfl) (by exact rv_tmp rfl) ?_
        exact fun w h => ⟨rfl, h.base⟩
      | true =>
        rw [hcb] at hca
        rw [if_neg (by simp)]
        obtain ⟨q, rfl⟩ : ∃ q : Nat, one = q := ⟨one.toNat, by omega⟩
        obtain ⟨r, rfl⟩ : ∃ r : Nat, two = r := ⟨two.toNat, by omega⟩
        rw [Int.toNat_natCast, Int.toNat_natCast]
        have b1 := hB (q + 1) (r + 1) (by omega) (by omega)
        ((try first | apply tr_v Try.tabOk | apply ot_v Try.tabOk); (conv => whnf); (repeat ((first | (apply VCall.q; kernel_rfl; (focus (intro w1 hs; first | with_reducible apply hck w1 (hs.nest hN) | with_reducible apply hca w1 (hs.nest hN)))) | (apply VLd.mk; (focus ((repeat (first | ((with_reducible apply ld_blk); exact rfl) | ((with_reducible apply ld_row); exact rfl) | ((with_reducible apply ld_row0); exact rfl) | (with_reducible assumption) | (with_reducible exact CellAt.base (by assumption)) | (with_reducible apply ld_skip))); done))) | apply VBr.f | (apply v_f; omega) | (apply VNew.mk; intro g hg) | (apply VLdN.mk; (focus ((repeat (first | (with_reducible apply ldn_blk) | (with_reducible apply ldn_row) | (with_reducible assumption) | (with_reducible apply ldn_skip))); done)); exact rfl)); (conv => whnf))); try (first | apply VStop.mk | apply VCall.stop))
        refine ot_call_j (N := N) (m := m) (by omega) (by decide) rfl rfl rfl (by kernel_rfl) (evl_of rfl) (fun w1 hs => hjo w1 (hs.nest hN)) (fun gs hgs b cap => ?_)
        dsimp only [List.cons_append, List.nil_append]
        ((try first | apply tr_v Try.tabOk | apply ot_v Try.tabOk); (conv => whnf); (repeat ((first | ((first | apply VStop.mk | apply VCall.stop); (first | refine tr_region_lex (id := 8) (by kernel_rfl) [.rd, .rd, .rd, .rd, .rd, .rd, .rd, .rd, .rd, .rd, .rd, .rd, .rd, .rd, .rd, .rd, .rd, .rd, .rd, .rd, .wr, .rd] rfl (by kernel_rfl) ?_); try first | apply ot_v Try.tabOk | apply tr_v Try.tabOk) | (apply VIx.mk (j := q + 1); exact (Int.natCast_succ q).symm; omega) | (apply VIx.mk (j := r + 1); exact (Int.natCast_succ r).symm; omega) | (apply VLd.mk; apply ld_skip; apply ld_skip; first | exact j_out hgs (by omega) | exact j_row hgs (by omega) (by omega)) | (apply VRng.mk; omega) | (apply VSt.mk; (focus ((repeat (first | (with_reducible exact At.here) | (with_reducible apply At.there))); done)); exact rfl)); (conv => whnf))); try (first | apply VStop.mk | apply VCall.stop))
        (apply VRet.mk)
        refine ret2 (by first | exact .inl rfl | exact .inr rfl) rfl (by exact rv_row Try.tabOk rfl rfl rfl (by first | exact cells_blk_all (by (repeat (first | exact List.Mem.head _ | assumption | refine List.Mem.tail _ ?_))) | exact cells_row0 (by (repeat (first | exact List.Mem.head _ | assumption | refine List.Mem.tail _ ?_)))) rfl) (by exact rv_tmp rfl) ?_
        exact fun w h => ⟨rfl, h.base⟩
end
end Go.Proofs.Ytkbcogaodnmdoaa
