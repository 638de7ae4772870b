/- What the program says is what the reference says: lemmas for the rows of this seat. No conditions. -/
import Derived.Test.YtkbcogaodnmdoaaProg
import Derived.WalkKit
import Derived.WalkSpells
import Derived.WalkLawsBesides
import Derived.Lib.Hide
import Derived.Deep.AppendLies
import Derived.Deep.Draws
import Derived.Maps.AppendAt
import Derived.RegionTactic
import Derived.OwnWalk
import Derived.Deep.QuietTactic
import Derived.BigQuiet
import Derived.Deep.DeepFit
import Derived.Deep.LoopGhost
import Derived.Deep.DeepMust
import Derived.Deep.DeepCutAuto
import Derived.StillTail
import Derived.Deep.Quiet
import Derived.Deep.RegionHeld3
import Derived.Deep.RegionWith
import Derived.Deep.RegionLaw
import Derived.Maps.OwnOps
import Derived.Maps.OwnSet
import Derived.Maps.OwnRows
import Derived.Maps.RangeWalk
import Derived.Carry
import Derived.Test.YtkbcogaodnmdoaaBase
import Derived.Test.YtkbcogaodnmdoaaMaps
import Derived.Test.YtkbcogaodnmdoaaKeys
import Derived.Test.YtkbcogaodnmdoaaS1
import Derived.Test.YtkbcogaodnmdoaaS5
import Derived.Test.YtkbcogaodnmdoaaS12
import Derived.Test.YtkbcogaodnmdoaaS14
import Derived.Test.YtkbcogaodnmdoaaV
import Derived.Test.YtkbcogaodnmdoaaV2
import Derived.Test.YtkbcogaodnmdoaaV3
import Derived.Test.YtkbcogaodnmdoaaTab
import Derived.Test.YtkbcogaodnmdoaaE1
import Derived.Test.YtkbcogaodnmdoaaE2
import Derived.Test.YtkbcogaodnmdoaaE3
import Derived.Test.YtkbcogaodnmdoaaE4
import Derived.Test.YtkbcogaodnmdoaaE5
import Derived.Test.YtkbcogaodnmdoaaE6
import Derived.Test.YtkbcogaodnmdoaaE7
import Derived.Test.YtkbcogaodnmdoaaE8
import Derived.Test.YtkbcogaodnmdoaaE9
import Derived.Test.YtkbcogaodnmdoaaE10
import Derived.Test.YtkbcogaodnmdoaaE11
import Derived.Test.YtkbcogaodnmdoaaE12
import Derived.Test.YtkbcogaodnmdoaaE13
import Derived.Test.YtkbcogaodnmdoaaE14
import Derived.Test.YtkbcogaodnmdoaaE15
import Derived.Test.YtkbcogaodnmdoaaE16
import Derived.Test.YtkbcogaodnmdoaaE17
import Derived.Test.YtkbcogaodnmdoaaE18
import Derived.Test.YtkbcogaodnmdoaaE19
import Derived.Test.YtkbcogaodnmdoaaE20
import Derived.Test.YtkbcogaodnmdoaaE21
set_option linter.all false
namespace Go.Proofs.Ytkbcogaodnmdoaa
open Go.RowKit
/-! ## What the program says is what the reference says -/
theorem farP_yes {bf : Nat → Nat → Option Int} {N i k : Nat} (hb : BOk bf N) (hp : HasPot bf N) (hi : i < N) (hk : k < N) (hr : ∃ l s, Walk (allE bf N N) i l k s) : farP bf N i k = some (joinP bf N i k) := by
  unfold farP
  rw [if_pos (by rw [hb.round_none hp]; rfl)]
  exact hb.far_join hp hi hk hr
theorem farP_no {bf : Nat → Nat → Option Int} {N i k : Nat} (hb : BOk bf N) (hp : ¬ HasPot bf N) : farP bf N i k = none := by
  unfold farP
  have := hb.round_len hp
  rw [if_neg (by omega)]
section
variable {rlo rhi : Int} {L : Nat} {S : List (List T3)} (hO : Okb rlo rhi L S)
include hO
theorem canB_iff (but : Int) : canB rlo rhi L S but = true ↔ HasPot (bnd rlo rhi L S but) (1 + L + S.flatten.length) := (bnd_ok hO but).can_iff
theorem canB_no (but : Int) : canB rlo rhi L S but = false ↔ ¬ HasPot (bnd rlo rhi L S but) (1 + L + S.flatten.length) := by
  rw [← canB_iff hO, Bool.not_eq_true]
theorem far_yes {but : Int} (hc : canB rlo rhi L S but = true) {i k : Nat} (hi : i < 1 + L + S.flatten.length) (hk : k < 1 + L + S.flatten.length) : farP (bnd rlo rhi L S but) (1 + L + S.flatten.length) i k = some (jm rlo rhi L S but i k) :=
  farP_yes (bnd_ok hO but) ((canB_iff hO but).1 hc) hi hk (reach2 hO but hi hk)
theorem far_no {but : Int} (hc : canB rlo rhi L S but = false) {i k : Nat} : farP (bnd rlo rhi L S but) (1 + L + S.flatten.length) i k = none :=
  farP_no (bnd_ok hO but) ((canB_no hO but).1 hc)
theorem split_end (gr : Bool) (f : Nat → Option Int) (hf : ∀ i, i < 1 + L + S.flatten.length → f i = if gr then farP (bnd rlo rhi L S (-1)) (1 + L + S.flatten.length) 0 i else (farP (bnd rlo rhi L S (-1)) (1 + L + S.flatten.length) i 0).map fun x => -x) :
    splitR f (1 + L + S.flatten.length) L = endR rlo rhi L S gr := by
  have h0 : chkBook rlo rhi L S = 0 := chk_ok.2 hO
  have hl := hO.l
  unfold endR
  rw [if_neg (by simpa using h0), Int.toNat_natCast]
  cases hc : canB rlo rhi L S (-1) with
  | false =>
    rw [if_pos rfl]
    refine splitR_no (j := 0) (by omega) ?_
    rw [hf _ (by omega), far_no hO hc, far_no hO hc]
    cases gr <;> rfl
  | true =>
    rw [if_neg (by decide)]
    have hv : ∀ i, i < 1 + L + S.flatten.length → f i = some (endVal (jm rlo rhi L S (-1)) gr i) := fun i hi => by
      rw [hf i hi, far_yes hO hc (by omega) hi, far_yes hO hc hi (by omega)]
      unfold endVal
      cases gr <;> rfl
    rw [splitR_yes (fun j hj => by rw [hv _ hj]; rfl)]
    unfold sharpL tiredL
    have e1 : 1 + L + S.flatten.length - 1 - L = S.flatten.length := by omega
    rw [e1]
    refine congr (congrArg Prod.mk (List.map_congr_left fun j hj => ?_)) (congr (congrArg Prod.mk (List.map_congr_left fun j hj => ?_)) rfl)
    · rw [List.mem_range] at hj
      rw [hv _ (by omega)]; rfl
    · rw [List.mem_range] at hj
      rw [hv _ (by omega), show L + j + 1 = L + 1 + j by omega]; rfl
theorem between_yes {but : Int} (hc : canB rlo rhi L S but = true) {i k : Nat} (hi : i < 1 + L + S.flatten.length) (hk : k < 1 + L + S.flatten.length) : betweenP (bnd rlo rhi L S but) (1 + L + S.flatten.length) i k = (-(jm rlo rhi L S but k i), jm rlo rhi L S but i k, 0) := by
  unfold betweenP
  rw [far_yes hO hc hi hk, far_yes hO hc hk hi]
theorem between_no {but : Int} (hc : canB rlo rhi L S but = false) {i k : Nat} : betweenP (bnd rlo rhi L S but) (1 + L + S.flatten.length) i k = (0, 0, 17) := by
  unfold betweenP
  rw [far_no hO hc, far_no hO hc]
end
theorem mapOf_eq (rlo rhi : Int) (L : Nat) (S : List (List T3)) : mapOf rlo rhi L S = resM (bnd rlo rhi L S (-1)) (1 + L + S.flatten.length) := by
  unfold mapOf
  rw [show S.flatten.length + L + 1 = 1 + L + S.flatten.length by omega]
section
variable (rlo rhi lots : Int) (Al : Option Addr) (c : Nat) (S : List (List T3)) (w : World) (hN : NestR w 3 Al (nestOf S)) (hF : Fit S)
include hN hF
theorem open_nil_no (h0 : chkBook rlo rhi lots S ≠ 0) (w1 : World) (h : NestR w1 3 Al (nestOf S)) : Calls Try.prog 60 #[bookV rlo rhi lots Al S.length c, .slice none 0 0] w1 fun e w' => e = .returned (.tuple #[.pointer none, .int .i64 (chkBook rlo rhi lots S)]) ∧ Below w1.heap.size w1 w' := by
  have := open_any rlo rhi lots Al c S w1 h hF none 0 [] ⟨rfl, fun h => absurd h (by simp)⟩ (by simp)
  have hE : openE rlo rhi lots S [] = chkBook rlo rhi lots S := by unfold openE; rw [if_pos h0]
  rw [hE] at this
  exact this.mono fun e w' h => (open_no h0).1 h
theorem open_nil_yes {L : Nat} (h0 : chkBook rlo rhi L S = 0) (w1 : World) (h : NestR w1 3 Al (nestOf S)) : Calls Try.prog 60 #[bookV rlo rhi L Al S.length c, .slice none 0 0] w1 fun e w' => ∃ x : TongueX, e = .returned (.tuple #[.pointer (some ⟨x.gt, 0, none⟩), .int .i64 0]) ∧ St w1 (tongueCh rlo rhi L Al c S (resM (bnd rlo rhi L S (-1)) (1 + L + S.flatten.length)) x) w' := by
  have := open_any rlo rhi L Al c S w1 h hF none 0 [] ⟨rfl, fun h => absurd h (by simp)⟩ (by simp)
  have hE : openE rlo rhi L S [] = 0 := by unfold openE; rw [if_neg (by simpa using h0), if_pos (by simp [lotsOk])]
  rw [hE, Int.toNat_natCast] at this
  rw [← mapOf_eq]
  exact this.mono fun e w' h => open_yes.1 h
set_option maxHeartbeats 1000000 in
set_option maxRecDepth 20000 in
theorem least_any : Calls Try.prog 25 #[bookV rlo rhi lots Al S.length c] w (TwoRet (endR rlo rhi lots S false) w) := by
  by_cases h0 : chkBook rlo rhi lots S = 0
  rotate_left
  · have hop := open_nil_no rlo rhi lots Al c S w hN hF h0
    have hE : endR rlo rhi lots S false = ([], [], chkBook rlo rhi lots S) := by unfold endR; rw [if_pos h0]
    rw [hE]
    unfold bookV at *
    generalize chkBook rlo rhi lots S = e at *
    refine fn_v Try.tabOk (n := 21) (A := []) Try.func25 rfl rfl (Nat.le_of_ble_eq_true rfl) (St.nil (Below.refl _ _)) ?_
    ((try first | apply tr_v Try.tabOk | apply ot_v Try.tabOk); (conv => whnf); (repeat ((first | (apply VCall.q; kernel_rfl; (focus (intro w1 hs; first | with_reducible apply hop w1 (hs.nest hN)))) | apply VBr.t | (apply v_t; omega) | (apply VNew.mk; intro g hg) | (apply VLdN.mk; (focus ((repeat (first | (with_reducible apply ldn_blk) | (with_reducible apply ldn_row) | (with_reducible assumption) | (with_reducible apply ldn_skip))); done)); exact rfl) | (apply VSt.mk; (focus ((repeat (first | (with_reducible exact At.here) | (with_reducible apply At.there))); done)); exact rfl)); (conv => whnf))); try (first | apply VStop.mk | apply VCall.stop))
    (apply VRet.mk)
    refine ret3 (by first | exact .inl rfl | exact .inr rfl) rfl (by exact rv_tmp rfl) (by exact rv_tmp rfl) (by exact rv_tmp rfl) ?_
    exact fun w h => two_nil _ h
  have hO := chk_ok.1 h0
  obtain ⟨L, rfl⟩ : ∃ L : Nat, lots = L := ⟨lots.toNat, by have := hO.l; omega⟩
  have hop := open_nil_yes rlo rhi Al c S w hN hF h0
  have hb := bnd_ok hO (-1)
  have hl := hO.l
  have ht := hO.t
  have hsp : splitR (fun i => (farP (bnd rlo rhi L S (-1)) (1 + L + S.flatten.length) i 0).map fun x => -x) (1 + L + S.flatten.length) L = endR rlo rhi L S false := split_end hO false _ (fun i _ => rfl)
  unfold bookV at *
  refine fn_v Try.tabOk (n := 21) (A := []) Try.func25 rfl rfl (Nat.le_of_ble_eq_true rfl) (St.nil (Below.refl _ _)) ?_
  ((try first | apply tr_v Try.tabOk | apply ot_v Try.tabOk); (conv => whnf); (repeat ((first | (apply VNew.mk; intro g hg) | (apply VLdN.mk; (focus ((repeat (first | (with_reducible apply ldn_blk) | (with_reducible apply ldn_row) | (with_reducible assumption) | (with_reducible apply ldn_skip))); done)); exact rfl)); (conv => whnf))); try (first | apply VStop.mk | apply VCall.stop))
  refine ot_call_st (X := TongueX) (fun x => .tuple #[.pointer (some ⟨x.gt, 0, none⟩), .int .i64 0]) (fun x => tongueCh rlo rhi L Al c S (resM (bnd rlo rhi L S (-1)) (1 + L + S.flatten.length)) x) tongueCh_mut (by decide) rfl rfl rfl (by kernel_rfl) (evl_of rfl) (fun w1 hs => hop w1 (hs.nest hN)) (fun x => ?_)
  apply ot_v Try.tabOk
  ((try first | apply tr_v Try.tabOk | apply ot_v Try.tabOk); (conv => whnf); (repeat ((first | (apply VLd.mk; (focus ((repeat (first | ((with_reducible apply ld_blk); exact rfl) | ((with_reducible apply ld_row); exact rfl) | ((with_reducible apply ld_row0); exact rfl) | (with_reducible assumption) | (with_reducible exact CellAt.base (by assumption)) | (with_reducible apply ld_skip))); done))) | apply VBr.f | (apply v_f; omega) | (apply VNew.mk; intro g hg) | (apply VSt.mk; (focus ((repeat (first | (with_reducible exact At.here) | (with_reducible apply At.there))); done)); exact rfl)); (conv => whnf))); try (first | apply VStop.mk | apply VCall.stop))
  refine ot_call_st (X := Value × Value) (fun y => .tuple #[y.1, y.2, .int .i64 (endR rlo rhi L S false).2.2]) (fun y => [.own y.1 2 1 (endR rlo rhi L S false).1.length (i64s (endR rlo rhi L S false).1), .own y.2 2 1 (endR rlo rhi L S false).2.1.length (i64s (endR rlo rhi L S false).2.1)]) (fun y c hc => by
    simp only [List.mem_cons, List.not_mem_nil, or_false] at hc
    rcases hc with rfl | rfl <;> rfl) (by decide) rfl rfl rfl (by kernel_rfl) (evl_of rfl) (fun w1 hs => ?_) (fun y => ?_)
  · have hT := hs.tongue (x := x) (rlo := rlo) (rhi := rhi) (L := L) (Al := Al) (c := c) (S := S) (m := resM (bnd rlo rhi L S (-1)) (1 + L + S.flatten.length)) (fun d hd => .tail _ (List.mem_append_left _ hd))
    have hcl : ∀ w2, Below w1.heap.size w1 w2 → w2.cell? ⟨g, 0, none⟩ = some (.pointer (some ⟨x.gt, 0, none⟩)) := fun w2 hb2 => by
      have h1 : w1.cell? ⟨g, 0, none⟩ = some (.pointer (some ⟨x.gt, 0, none⟩)) := by rw [(hs.all _ (.head _)).2.cell]; rfl
      rw [hb2.cell (p := ⟨g, 0, none⟩) (hs.all _ (.head _)).2.lt]; exact h1
    have h2 := split_any rlo rhi L Al c S (bnd rlo rhi L S (-1)) (1 + L + S.flatten.length) x.gt x.gm x.B x.cap w1 hT rfl (by omega) (by omega) 65 g (by kernel_rfl) (fun i => (farP (bnd rlo rhi L S (-1)) (1 + L + S.flatten.length) i 0).map fun x => -x) (fun w2 hb2 i h1 h2 => least1_any rlo rhi L Al c S _ _ x.gt x.gm g x.B x.cap w2 (hT.grow hb2) rfl hb (hcl w2 hb2) i h2)
    rw [hsp] at h2
    exact h2
  apply ot_v Try.tabOk
  ((try first | apply tr_v Try.tabOk | apply ot_v Try.tabOk); (conv => whnf); try (first | apply VStop.mk | apply VCall.stop))
  (apply VRet.mk)
  refine ret3 (by first | exact .inl rfl | exact .inr rfl) rfl (by exact rv_tmp rfl) (by exact rv_tmp rfl) (by exact rv_tmp rfl) ?_
  exact fun w h => ⟨y, rfl, h.sub (.cons_cons _ (.cons_cons _ (List.nil_sublist _)))⟩
set_option maxHeartbeats 1000000 in
set_option maxRecDepth 20000 in
theorem greatest_any : Calls Try.prog 27 #[bookV rlo rhi lots Al S.length c] w (TwoRet (endR rlo rhi lots S true) w) := by
  by_cases h0 : chkBook rlo rhi lots S = 0
  rotate_left
  · have hop := open_nil_no rlo rhi lots Al c S w hN hF h0
    have hE : endR rlo rhi lots S true = ([], [], chkBook rlo rhi lots S) := by unfold endR; rw [if_pos h0]
    rw [hE]
    unfold bookV at *
    generalize chkBook rlo rhi lots S = e at *
    refine fn_v Try.tabOk (n := 21) (A := []) Try.func27 rfl rfl (Nat.le_of_ble_eq_true rfl) (St.nil (Below.refl _ _)) ?_
    ((try first | apply tr_v Try.tabOk | apply ot_v Try.tabOk); (conv => whnf); (repeat ((first | (apply VCall.q; kernel_rfl; (focus (intro w1 hs; first | with_reducible apply hop w1 (hs.nest hN)))) | apply VBr.t | (apply v_t; omega) | (apply VNew.mk; intro g hg) | (apply VLdN.mk; (focus ((repeat (first | (with_reducible apply ldn_blk) | (with_reducible apply ldn_row) | (with_reducible assumption) | (with_reducible apply ldn_skip))); done)); exact rfl) | (apply VSt.mk; (focus ((repeat (first | (with_reducible exact At.here) | (with_reducible apply At.there))); done)); exact rfl)); (conv => whnf))); try (first | apply VStop.mk | apply VCall.stop))
    (apply VRet.mk)
    refine ret3 (by first | exact .inl rfl | exact .inr rfl) rfl (by exact rv_tmp rfl) (by exact rv_tmp rfl) (by exact rv_tmp rfl) ?_
    exact fun w h => two_nil _ h
  have hO := chk_ok.1 h0
  obtain ⟨L, rfl⟩ : ∃ L : Nat, lots = L := ⟨lots.toNat, by have := hO.l; omega⟩
  have hop := open_nil_yes rlo rhi Al c S w hN hF h0
  have hb := bnd_ok hO (-1)
  have hl := hO.l
  have ht := hO.t
  have hsp : splitR (fun i => farP (bnd rlo rhi L S (-1)) (1 + L + S.flatten.length) 0 i) (1 + L + S.flatten.length) L = endR rlo rhi L S true := split_end hO true _ (fun i _ => rfl)
  unfold bookV at *
  refine fn_v Try.tabOk (n := 21) (A := []) Try.func27 rfl rfl (Nat.le_of_ble_eq_true rfl) (St.nil (Below.refl _ _)) ?_
  ((try first | apply tr_v Try.tabOk | apply ot_v Try.tabOk); (conv => whnf); (repeat ((first | (apply VNew.mk; intro g hg) | (apply VLdN.mk; (focus ((repeat (first | (with_reducible apply ldn_blk) | (with_reducible apply ldn_row) | (with_reducible assumption) | (with_reducible apply ldn_skip))); done)); exact rfl)); (conv => whnf))); try (first | apply VStop.mk | apply VCall.stop))
  refine ot_call_st (X := TongueX) (fun x => .tuple #[.pointer (some ⟨x.gt, 0, none⟩), .int .i64 0]) (fun x => tongueCh rlo rhi L Al c S (resM (bnd rlo rhi L S (-1)) (1 + L + S.flatten.length)) x) tongueCh_mut (by decide) rfl rfl rfl (by kernel_rfl) (evl_of rfl) (fun w1 hs => hop w1 (hs.nest hN)) (fun x => ?_)
  apply ot_v Try.tabOk
  ((try first | apply tr_v Try.tabOk | apply ot_v Try.tabOk); (conv => whnf); (repeat ((first | (apply VLd.mk; (focus ((repeat (first | ((with_reducible apply ld_blk); exact rfl) | ((with_reducible apply ld_row); exact rfl) | ((with_reducible apply ld_row0); exact rfl) | (with_reducible assumption) | (with_reducible exact CellAt.base (by assumption)) | (with_reducible apply ld_skip))); done))) | apply VBr.f | (apply v_f; omega) | (apply VNew.mk; intro g hg) | (apply VSt.mk; (focus ((repeat (first | (with_reducible exact At.here) | (with_reducible apply At.there))); done)); exact rfl)); (conv => whnf))); try (first | apply VStop.mk | apply VCall.stop))
  refine ot_call_st (X := Value × Value) (fun y => .tuple #[y.1, y.2, .int .i64 (endR rlo rhi L S true).2.2]) (fun y => [.own y.1 2 1 (endR rlo rhi L S true).1.length (i64s (endR rlo rhi L S true).1), .own y.2 2 1 (endR rlo rhi L S true).2.1.length (i64s (endR rlo rhi L S true).2.1)]) (fun y c hc => by
    simp only [List.mem_cons, List.not_mem_nil, or_false] at hc
    rcases hc with rfl | rfl <;> rfl) (by decide) rfl rfl rfl (by kernel_rfl) (evl_of rfl) (fun w1 hs => ?_) (fun y => ?_)
  · have hT := hs.tongue (x := x) (rlo := rlo) (rhi := rhi) (L := L) (Al := Al) (c := c) (S := S) (m := resM (bnd rlo rhi L S (-1)) (1 + L + S.flatten.length)) (fun d hd => .tail _ (List.mem_append_left _ hd))
    have hcl : ∀ w2, Below w1.heap.size w1 w2 → w2.cell? ⟨g, 0, none⟩ = some (.pointer (some ⟨x.gt, 0, none⟩)) := fun w2 hb2 => by
      have h1 : w1.cell? ⟨g, 0, none⟩ = some (.pointer (some ⟨x.gt, 0, none⟩)) := by rw [(hs.all _ (.head _)).2.cell]; rfl
      rw [hb2.cell (p := ⟨g, 0, none⟩) (hs.all _ (.head _)).2.lt]; exact h1
    have h2 := split_any rlo rhi L Al c S (bnd rlo rhi L S (-1)) (1 + L + S.flatten.length) x.gt x.gm x.B x.cap w1 hT rfl (by omega) (by omega) 68 g (by kernel_rfl) (fun i => farP (bnd rlo rhi L S (-1)) (1 + L + S.flatten.length) 0 i) (fun w2 hb2 i h1 h2 => greatest1_any rlo rhi L Al c S _ _ x.gt x.gm g x.B x.cap w2 (hT.grow hb2) rfl hb (hcl w2 hb2) i h2)
    rw [hsp] at h2
    exact h2
  apply ot_v Try.tabOk
  ((try first | apply tr_v Try.tabOk | apply ot_v Try.tabOk); (conv => whnf); try (first | apply VStop.mk | apply VCall.stop))
  (apply VRet.mk)
  refine ret3 (by first | exact .inl rfl | exact .inr rfl) rfl (by exact rv_tmp rfl) (by exact rv_tmp rfl) (by exact rv_tmp rfl) ?_
  exact fun w h => ⟨y, rfl, h.sub (.cons_cons _ (.cons_cons _ (List.nil_sublist _)))⟩
end
end Go.Proofs.Ytkbcogaodnmdoaa
