/- Span, Apart as the reference says: lemmas for the rows of this seat. No conditions. -/
import Derived.Test.YtkbcogaodnmdoaaProg
import Derived.WalkKit
import Derived.WalkSpells
import Derived.WalkLawsBesides
import Derived.Lib.Hide
import Derived.Deep.AppendLies
import Derived.Deep.Draws
import Derived.Maps.AppendAt
import Derived.RegionTactic
import Derived.OwnWalk
import Derived.Deep.QuietTactic
import Derived.BigQuiet
import Derived.Deep.DeepFit
import Derived.Deep.LoopGhost
import Derived.Deep.DeepMust
import Derived.Deep.DeepCutAuto
import Derived.StillTail
import Derived.Deep.Quiet
import Derived.Deep.RegionHeld3
import Derived.Deep.RegionWith
import Derived.Deep.RegionLaw
import Derived.Maps.OwnOps
import Derived.Maps.OwnSet
import Derived.Maps.OwnRows
import Derived.Maps.RangeWalk
import Derived.Carry
import Derived.Test.YtkbcogaodnmdoaaBase
import Derived.Test.YtkbcogaodnmdoaaMaps
import Derived.Test.YtkbcogaodnmdoaaKeys
import Derived.Test.YtkbcogaodnmdoaaS1
import Derived.Test.YtkbcogaodnmdoaaS5
import Derived.Test.YtkbcogaodnmdoaaS12
import Derived.Test.YtkbcogaodnmdoaaS14
import Derived.Test.YtkbcogaodnmdoaaV
import Derived.Test.YtkbcogaodnmdoaaV2
import Derived.Test.YtkbcogaodnmdoaaV3
import Derived.Test.YtkbcogaodnmdoaaTab
import Derived.Test.YtkbcogaodnmdoaaE1
import Derived.Test.YtkbcogaodnmdoaaE2
import Derived.Test.YtkbcogaodnmdoaaE3
import Derived.Test.YtkbcogaodnmdoaaE4
import Derived.Test.YtkbcogaodnmdoaaE5
import Derived.Test.YtkbcogaodnmdoaaE6
import Derived.Test.YtkbcogaodnmdoaaE7
import Derived.Test.YtkbcogaodnmdoaaE8
import Derived.Test.YtkbcogaodnmdoaaE9
import Derived.Test.YtkbcogaodnmdoaaE10
import Derived.Test.YtkbcogaodnmdoaaE11
import Derived.Test.YtkbcogaodnmdoaaE12
import Derived.Test.YtkbcogaodnmdoaaE13
import Derived.Test.YtkbcogaodnmdoaaE14
import Derived.Test.YtkbcogaodnmdoaaE15
import Derived.Test.YtkbcogaodnmdoaaE16
import Derived.Test.YtkbcogaodnmdoaaE17
import Derived.Test.YtkbcogaodnmdoaaE18
import Derived.Test.YtkbcogaodnmdoaaE19
import Derived.Test.YtkbcogaodnmdoaaE20
import Derived.Test.YtkbcogaodnmdoaaE21
import Derived.Test.YtkbcogaodnmdoaaE22
set_option linter.all false
namespace Go.Proofs.Ytkbcogaodnmdoaa
open Go.RowKit
/-! ## Span, Apart as the reference says -/
section
variable (rlo rhi lots : Int) (Al : Option Addr) (c : Nat) (S : List (List T3)) (w : World) (hN : NestR w 3 Al (nestOf S)) (hF : Fit S)
include hN hF
theorem open_l_no (l : List Int) (hl : l.length ≤ 1000) (h0 : openE rlo rhi lots S l ≠ 0) (w1 : World) (h : NestR w1 3 Al (nestOf S)) (Bl : Option Addr) (cl : Nat) (hr : Reads w1 w1.heap.size 1 Bl l.length (i64s l)) :
    Calls Try.prog 60 #[bookV rlo rhi lots Al S.length c, .slice Bl l.length cl] w1 fun e w' => e = .returned (.tuple #[.pointer none, .int .i64 (openE rlo rhi lots S l)]) ∧ Below w1.heap.size w1 w' :=
  (open_any rlo rhi lots Al c S w1 h hF Bl cl l hr hl).mono fun e w' h => (open_no h0).1 h
theorem open_l_yes {L : Nat} (l : List Int) (hl : l.length ≤ 1000) (h0 : openE rlo rhi L S l = 0) (w1 : World) (h : NestR w1 3 Al (nestOf S)) (Bl : Option Addr) (cl : Nat) (hr : Reads w1 w1.heap.size 1 Bl l.length (i64s l)) :
    Calls Try.prog 60 #[bookV rlo rhi L Al S.length c, .slice Bl l.length cl] w1 fun e w' => ∃ x : TongueX, e = .returned (.tuple #[.pointer (some ⟨x.gt, 0, none⟩), .int .i64 0]) ∧ St w1 (tongueCh rlo rhi L Al c S (resM (bnd rlo rhi L S (-1)) (1 + L + S.flatten.length)) x) w' := by
  have := open_any rlo rhi L Al c S w1 h hF Bl cl l hr hl
  rw [h0, Int.toNat_natCast] at this
  rw [← mapOf_eq]
  exact this.mono fun e w' h => open_yes.1 h
set_option maxHeartbeats 1000000 in
set_option maxRecDepth 20000 in
theorem span_any (lot : Int) : Calls Try.prog 30 #[bookV rlo rhi lots Al S.length c, .int .i64 lot] w fun e w' => e = .returned (rangeV (spanR rlo rhi lots S lot).1 (spanR rlo rhi lots S lot).2.1 (spanR rlo rhi lots S lot).2.2) ∧ Below w.heap.size w w' := by
  by_cases h0 : openE rlo rhi lots S [lot] = 0
  rotate_left
  · have hop : ∀ g w1 A', NestR w1 3 Al (nestOf S) → St w (.blk g 3 [.int .i64 lot] :: A') w1 → Calls Try.prog 60 #[bookV rlo rhi lots Al S.length c, .slice (some ⟨g, 0, none⟩) 1 1] w1 _ := fun g w1 A' h hs => open_l_no rlo rhi lots Al c S w hN hF [lot] (by simp) h0 w1 h (some ⟨g, 0, none⟩) 1 (hs.blk_reads (.head _) rfl)
    have hE : spanR rlo rhi lots S lot = (0, 0, openE rlo rhi lots S [lot]) := by
      unfold openE at h0 ⊢
      unfold spanR
      by_cases hc : chkBook rlo rhi lots S = 0
      · simp only [hc, ne_eq, not_true_eq_false, if_false] at h0 ⊢
        by_cases hl : lotsOk lots [lot] = true
        · rw [if_pos hl] at h0; exact absurd rfl h0
        · rw [if_neg hl, if_pos]
          simp [lotsOk] at hl
          omega
      · rw [if_pos hc, if_pos hc]
    rw [hE]
    unfold bookV at *
    generalize openE rlo rhi lots S [lot] = e at *
    refine fn_v Try.tabOk (n := 25) (A := []) Try.func30 rfl rfl (Nat.le_of_ble_eq_true rfl) (St.nil (Below.refl _ _)) ?_
    ((try first | apply tr_v Try.tabOk | apply ot_v Try.tabOk); (conv => whnf); (repeat ((first | (apply VCall.q; kernel_rfl; (focus (intro w1 hs; first | with_reducible apply hop _ w1 _ (hs.nest hN) hs))) | apply VBr.t | (apply v_t; omega) | (apply VNew.mk; intro g hg) | (apply VLdN.mk; (focus ((repeat (first | (with_reducible apply ldn_blk) | (with_reducible apply ldn_row) | (with_reducible assumption) | (with_reducible apply ldn_skip))); done)); exact rfl) | (apply VSt.mk; (focus ((repeat (first | (with_reducible exact At.here) | (with_reducible apply At.there))); done)); exact rfl)); (conv => whnf))); try (first | apply VStop.mk | apply VCall.stop))
    (apply VRet.mk)
    refine ret2 (by first | exact .inl rfl | exact .inr rfl) rfl (by exact rv_row Try.tabOk rfl rfl rfl (by first | exact cells_blk_all (by (repeat (first | exact List.Mem.head _ | assumption | refine List.Mem.tail _ ?_))) | exact cells_row0 (by (repeat (first | exact List.Mem.head _ | assumption | refine List.Mem.tail _ ?_)))) rfl) (by exact rv_tmp rfl) ?_
    exact fun w h => ⟨rfl, h.base⟩
  have hck : chkBook rlo rhi lots S = 0 := by
    unfold openE at h0
    by_cases hc : chkBook rlo rhi lots S = 0
    · exact hc
    · rw [if_pos hc] at h0; exact h0
  have hO := chk_ok.1 hck
  have hlot : 0 ≤ lot ∧ lot < lots := by
    unfold openE at h0
    rw [if_neg (by simpa using hck)] at h0
    by_cases hl : lotsOk lots [lot] = true
    · simpa [lotsOk] using hl
    · rw [if_neg hl] at h0; cases h0
  obtain ⟨L, rfl⟩ : ∃ L : Nat, lots = L := ⟨lots.toNat, by have := hO.l; omega⟩
  obtain ⟨q, rfl⟩ : ∃ q : Nat, lot = q := ⟨lot.toNat, by omega⟩
  have hop : ∀ g w1 A', NestR w1 3 Al (nestOf S) → St w (.blk g 3 [.int .i64 (q : Int)] :: A') w1 → Calls Try.prog 60 #[bookV rlo rhi L Al S.length c, .slice (some ⟨g, 0, none⟩) 1 1] w1 _ := fun g w1 A' h hs => open_l_yes rlo rhi Al c S w hN hF [(q : Int)] (by simp) h0 w1 h (some ⟨g, 0, none⟩) 1 (hs.blk_reads (.head _) rfl)
  have hb := bnd_ok hO (-1)
  have hl := hO.l
  have ht := hO.t
  have hE : spanR rlo rhi L S q = betweenP (bnd rlo rhi L S (-1)) (1 + L + S.flatten.length) 0 (q + 1) := by
    unfold spanR
    rw [if_neg (by simpa using hck), if_neg (by omega), Int.toNat_natCast, Int.toNat_natCast]
    cases hc : canB rlo rhi L S (-1) with
    | false => rw [if_pos rfl, between_no hO hc]
    | true => rw [if_neg (by decide), between_yes hO hc (by omega) (by omega)]
  rw [hE]
  unfold bookV at *
  refine fn_v Try.tabOk (n := 25) (A := []) Try.func30 rfl rfl (Nat.le_of_ble_eq_true rfl) (St.nil (Below.refl _ _)) ?_
  ((try first | apply tr_v Try.tabOk | apply ot_v Try.tabOk); (conv => whnf); (repeat ((first | (apply VNew.mk; intro g hg) | (apply VLdN.mk; (focus ((repeat (first | (with_reducible apply ldn_blk) | (with_reducible apply ldn_row) | (with_reducible assumption) | (with_reducible apply ldn_skip))); done)); exact rfl)); (conv => whnf))); try (first | apply VStop.mk | apply VCall.stop))
  refine ot_call_st (X := TongueX) (fun x => .tuple #[.pointer (some ⟨x.gt, 0, none⟩), .int .i64 0]) (fun x => tongueCh rlo rhi L Al c S (resM (bnd rlo rhi L S (-1)) (1 + L + S.flatten.length)) x) tongueCh_mut (by decide) rfl rfl rfl (by kernel_rfl) (evl_of rfl) (fun w1 hs => hop _ w1 _ (hs.nest hN) hs) (fun x => ?_)
  apply ot_v Try.tabOk
  have hbt : ∀ w1 rest, St w (tongueCh rlo rhi L Al c S (resM (bnd rlo rhi L S (-1)) (1 + L + S.flatten.length)) x ++ rest) w1 → Calls Try.prog 69 #[.pointer (some ⟨x.gt, 0, none⟩), .int .i64 0, .int .i64 ((q : Int) + 1)] w1 _ := fun w1 rest hs => between_any rlo rhi L Al c S _ _ x.gt x.gm x.B x.cap w1 (hs.tongue fun d hd => List.mem_append_left _ hd) rfl hb 0 (q + 1) (by omega) (by omega)
  generalize betweenP (bnd rlo rhi L S (-1)) (1 + L + S.flatten.length) 0 (q + 1) = r at *
  unfold rangeV at *
  dsimp only [tongueCh, List.cons_append, List.nil_append] at hbt ⊢
  ((try first | apply tr_v Try.tabOk | apply ot_v Try.tabOk); (conv => whnf); (repeat ((first | (apply VCall.q; kernel_rfl; (focus (intro w1 hs; first | with_reducible apply hbt w1 _ hs))) | (apply VRng.mk; omega) | apply VBr.f | (apply v_f; omega) | (apply VSt.mk; (focus ((repeat (first | (with_reducible exact At.here) | (with_reducible apply At.there))); done)); exact rfl)); (conv => whnf))); try (first | apply VStop.mk | apply VCall.stop))
  (apply VRet.mk)
  refine ret2 (by first | exact .inl rfl | exact .inr rfl) rfl (by exact rv_row Try.tabOk rfl rfl rfl (by first | exact cells_blk_all (by (repeat (first | exact List.Mem.head _ | assumption | refine List.Mem.tail _ ?_))) | exact cells_row0 (by (repeat (first | exact List.Mem.head _ | assumption | refine List.Mem.tail _ ?_)))) rfl) (by exact rv_tmp rfl) ?_
  exact fun w h => ⟨rfl, h.base⟩
set_option maxHeartbeats 1000000 in
set_option maxRecDepth 20000 in
theorem apart_any (one two : Int) : Calls Try.prog 32 #[bookV rlo rhi lots Al S.length c, .int .i64 one, .int .i64 two] w fun e w' => e = .returned (rangeV (apartR rlo rhi lots S one two).1 (apartR rlo rhi lots S one two).2.1 (apartR rlo rhi lots S one two).2.2) ∧ Below w.heap.size w w' := by
  by_cases h0 : openE rlo rhi lots S [one, two] = 0
  rotate_left
  · have hop : ∀ g w1 A', NestR w1 3 Al (nestOf S) → St w (.blk g 3 [.int .i64 one, .int .i64 two] :: A') w1 → Calls Try.prog 60 #[bookV rlo rhi lots Al S.length c, .slice (some ⟨g, 0, none⟩) 2 2] w1 _ := fun g w1 A' h hs => open_l_no rlo rhi lots Al c S w hN hF [one, two] (by simp) h0 w1 h (some ⟨g, 0, none⟩) 2 (hs.blk_reads (.head _) rfl)
    have hE : apartR rlo rhi lots S one two = (0, 0, openE rlo rhi lots S [one, two]) := by
      unfold openE at h0 ⊢
      unfold apartR
      by_cases hc : chkBook rlo rhi lots S = 0
      · simp only [hc, ne_eq, not_true_eq_false, if_false] at h0 ⊢
        by_cases hl : lotsOk lots [one, two] = true
        · rw [if_pos hl] at h0; exact absurd rfl h0
        · rw [if_neg hl, if_pos]
          simp [lotsOk] at hl
          omega
      · rw [if_pos hc, if_pos hc]
    rw [hE]
    unfold bookV at *
    generalize openE rlo rhi lots S [one, two] = e at *
    refine fn_v Try.tabOk (n := 30) (A := []) Try.func32 rfl rfl (Nat.le_of_ble_eq_true rfl) (St.nil (Below.refl _ _)) ?_
    ((try first | apply tr_v Try.tabOk | apply ot_v Try.tabOk); (conv => whnf); (repeat ((first | (apply VCall.q; kernel_rfl; (focus (intro w1 hs; first | with_reducible apply hop _ w1 _ (hs.nest hN) hs))) | apply VBr.t | (apply v_t; omega) | (apply VNew.mk; intro g hg) | (apply VLdN.mk; (focus ((repeat (first | (with_reducible apply ldn_blk) | (with_reducible apply ldn_row) | (with_reducible assumption) | (with_reducible apply ldn_skip))); done)); exact rfl) | (apply VSt.mk; (focus ((repeat (first | (with_reducible exact At.here) | (with_reducible apply At.there))); done)); exact rfl)); (conv => whnf))); try (first | apply VStop.mk | apply VCall.stop))
    (apply VRet.mk)
    refine ret2 (by first | exact .inl rfl | exact .inr rfl) rfl (by exact rv_row Try.tabOk rfl rfl rfl (by first | exact cells_blk_all (by (repeat (first | exact List.Mem.head _ | assumption | refine List.Mem.tail _ ?_))) | exact cells_row0 (by (repeat (first | exact List.Mem.head _ | assumption | refine List.Mem.tail _ ?_)))) rfl) (by exact rv_tmp rfl) ?_
    exact fun w h => ⟨rfl, h.base⟩
  have hck : chkBook rlo rhi lots S = 0 := by
    unfold openE at h0
    by_cases hc : chkBook rlo rhi lots S = 0
    · exact hc
    · rw [if_pos hc] at h0; exact h0
  have hO := chk_ok.1 hck
  have hlot : (0 ≤ one ∧ one < lots) ∧ 0 ≤ two ∧ two < lots := by
    unfold openE at h0
    rw [if_neg (by simpa using hck)] at h0
    by_cases hl : lotsOk lots [one, two] = true
    · simpa [lotsOk] using hl
    · rw [if_neg hl] at h0; cases h0
  obtain ⟨L, rfl⟩ : ∃ L : Nat, lots = L := ⟨lots.toNat, by have := hO.l; omega⟩
  obtain ⟨q1, rfl⟩ : ∃ q : Nat, one = q := ⟨one.toNat, by omega⟩
  obtain ⟨q2, rfl⟩ : ∃ q : Nat, two = q := ⟨two.toNat, by omega⟩
  have hop : ∀ g w1 A', NestR w1 3 Al (nestOf S) → St w (.blk g 3 [.int .i64 (q1 : Int), .int .i64 (q2 : Int)] :: A') w1 → Calls Try.prog 60 #[bookV rlo rhi L Al S.length c, .slice (some ⟨g, 0, none⟩) 2 2] w1 _ := fun g w1 A' h hs => open_l_yes rlo rhi Al c S w hN hF [(q1 : Int), (q2 : Int)] (by simp) h0 w1 h (some ⟨g, 0, none⟩) 2 (hs.blk_reads (.head _) rfl)
  have hb := bnd_ok hO (-1)
  have hl := hO.l
  have ht := hO.t
  have hE : apartR rlo rhi L S q1 q2 = betweenP (bnd rlo rhi L S (-1)) (1 + L + S.flatten.length) (q2 + 1) (q1 + 1) := by
    unfold apartR
    rw [if_neg (by simpa using hck), if_neg (by omega), Int.toNat_natCast, Int.toNat_natCast, Int.toNat_natCast]
    cases hc : canB rlo rhi L S (-1) with
    | false => rw [if_pos rfl, between_no hO hc]
    | true => rw [if_neg (by decide), between_yes hO hc (by omega) (by omega)]
  rw [hE]
  unfold bookV at *
  refine fn_v Try.tabOk (n := 30) (A := []) Try.func32 rfl rfl (Nat.le_of_ble_eq_true rfl) (St.nil (Below.refl _ _)) ?_
  ((try first | apply tr_v Try.tabOk | apply ot_v Try.tabOk); (conv => whnf); (repeat ((first | (apply VNew.mk; intro g hg) | (apply VLdN.mk; (focus ((repeat (first | (with_reducible apply ldn_blk) | (with_reducible apply ldn_row) | (with_reducible assumption) | (with_reducible apply ldn_skip))); done)); exact rfl)); (conv => whnf))); try (first | apply VStop.mk | apply VCall.stop))
  refine ot_call_st (X := TongueX) (fun x => .tuple #[.pointer (some ⟨x.gt, 0, none⟩), .int .i64 0]) (fun x => tongueCh rlo rhi L Al c S (resM (bnd rlo rhi L S (-1)) (1 + L + S.flatten.length)) x) tongueCh_mut (by decide) rfl rfl rfl (by kernel_rfl) (evl_of rfl) (fun w1 hs => hop _ w1 _ (hs.nest hN) hs) (fun x => ?_)
  apply ot_v Try.tabOk
  have hbt : ∀ w1 rest, St w (tongueCh rlo rhi L Al c S (resM (bnd rlo rhi L S (-1)) (1 + L + S.flatten.length)) x ++ rest) w1 → Calls Try.prog 69 #[.pointer (some ⟨x.gt, 0, none⟩), .int .i64 ((q2 : Int) + 1), .int .i64 ((q1 : Int) + 1)] w1 _ := fun w1 rest hs => between_any rlo rhi L Al c S _ _ x.gt x.gm x.B x.cap w1 (hs.tongue fun d hd => List.mem_append_left _ hd) rfl hb (q2 + 1) (q1 + 1) (by omega) (by omega)
  generalize betweenP (bnd rlo rhi L S (-1)) (1 + L + S.flatten.length) (q2 + 1) (q1 + 1) = r at *
  unfold rangeV at *
  dsimp only [tongueCh, List.cons_append, List.nil_append] at hbt ⊢
  ((try first | apply tr_v Try.tabOk | apply ot_v Try.tabOk); (conv => whnf); (repeat ((first | (apply VCall.q; kernel_rfl; (focus (intro w1 hs; first | with_reducible apply hbt w1 _ hs))) | (apply VRng.mk; omega) | apply VBr.f | (apply v_f; omega) | (apply VSt.mk; (focus ((repeat (first | (with_reducible exact At.here) | (with_reducible apply At.there))); done)); exact rfl)); (conv => whnf))); try (first | apply VStop.mk | apply VCall.stop))
  (apply VRet.mk)
  refine ret2 (by first | exact .inl rfl | exact .inr rfl) rfl (by exact rv_row Try.tabOk rfl rfl rfl (by first | exact cells_blk_all (by (repeat (first | exact List.Mem.head _ | assumption | refine List.Mem.tail _ ?_))) | exact cells_row0 (by (repeat (first | exact List.Mem.head _ | assumption | refine List.Mem.tail _ ?_)))) rfl) (by exact rv_tmp rfl) ?_
  exact fun w h => ⟨rfl, h.base⟩
end
end Go.Proofs.Ytkbcogaodnmdoaa
