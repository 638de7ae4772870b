/- open: lemmas for the rows of this seat. No conditions. -/
import Derived.Test.YtkbcogaodnmdoaaProg
import Derived.WalkKit
import Derived.WalkSpells
import Derived.WalkLawsBesides
import Derived.Lib.Hide
import Derived.Deep.AppendLies
import Derived.Deep.Draws
import Derived.Maps.AppendAt
import Derived.RegionTactic
import Derived.OwnWalk
import Derived.Deep.QuietTactic
import Derived.BigQuiet
import Derived.Deep.DeepFit
import Derived.Deep.LoopGhost
import Derived.Deep.DeepMust
import Derived.Deep.DeepCutAuto
import Derived.StillTail
import Derived.Deep.Quiet
import Derived.Deep.RegionHeld3
import Derived.Deep.RegionWith
import Derived.Deep.RegionLaw
import Derived.Maps.OwnOps
import Derived.Maps.OwnSet
import Derived.Maps.OwnRows
import Derived.Maps.RangeWalk
import Derived.Carry
import Derived.Test.YtkbcogaodnmdoaaBase
import Derived.Test.YtkbcogaodnmdoaaMaps
import Derived.Test.YtkbcogaodnmdoaaKeys
import Derived.Test.YtkbcogaodnmdoaaS1
import Derived.Test.YtkbcogaodnmdoaaS5
import Derived.Test.YtkbcogaodnmdoaaS12
import Derived.Test.YtkbcogaodnmdoaaS14
import Derived.Test.YtkbcogaodnmdoaaV
import Derived.Test.YtkbcogaodnmdoaaV2
import Derived.Test.YtkbcogaodnmdoaaV3
import Derived.Test.YtkbcogaodnmdoaaTab
import Derived.Test.YtkbcogaodnmdoaaE1
import Derived.Test.YtkbcogaodnmdoaaE2
import Derived.Test.YtkbcogaodnmdoaaE3
import Derived.Test.YtkbcogaodnmdoaaE4
import Derived.Test.YtkbcogaodnmdoaaE5
import Derived.Test.YtkbcogaodnmdoaaE6
import Derived.Test.YtkbcogaodnmdoaaE7
import Derived.Test.YtkbcogaodnmdoaaE8
import Derived.Test.YtkbcogaodnmdoaaE9
import Derived.Test.YtkbcogaodnmdoaaE10
import Derived.Test.YtkbcogaodnmdoaaE11
import Derived.Test.YtkbcogaodnmdoaaE12
import Derived.Test.YtkbcogaodnmdoaaE13
import Derived.Test.YtkbcogaodnmdoaaE14
import Derived.Test.YtkbcogaodnmdoaaE15
import Derived.Test.YtkbcogaodnmdoaaE16
import Derived.Test.YtkbcogaodnmdoaaE17
import Derived.Test.YtkbcogaodnmdoaaE18
import Derived.Test.YtkbcogaodnmdoaaE19
import Derived.Test.YtkbcogaodnmdoaaE20
set_option linter.all false
namespace Go.Proofs.Ytkbcogaodnmdoaa
open Go.RowKit
/-! ## open -/
def lotsOk (L : Int) (l : List Int) : Bool := l.all fun i => decide (0 ≤ i ∧ i < L)
def openE (rlo rhi lots : Int) (S : List (List T3)) (l : List Int) : Int := if chkBook rlo rhi lots S ≠ 0 then chkBook rlo rhi lots S else if lotsOk lots l = true then 0 else 2
/-- The map of a whole book. -/
abbrev mapOf (rlo rhi : Int) (L : Nat) (S : List (List T3)) : Int × Int → Option Value := resM (bnd rlo rhi L S (-1)) (S.flatten.length + L + 1)
def OpenRet (E : Int) (rlo rhi : Int) (L : Nat) (Al : Option Addr) (c : Nat) (S : List (List T3)) (w : World) (e : Ending) (w' : World) : Prop :=
  if E ≠ 0 then e = .returned (.tuple #[.pointer none, .int .i64 E]) ∧ Below w.heap.size w w'
  else ∃ x : TongueX, e = .returned (.tuple #[.pointer (some ⟨x.gt, 0, none⟩), .int .i64 0]) ∧ St w (tongueCh rlo rhi L Al c S (mapOf rlo rhi L S) x) w'
theorem open_no {E rlo rhi : Int} {L : Nat} {Al : Option Addr} {c : Nat} {S : List (List T3)} {w w' : World} {e : Ending} (hE : E ≠ 0) : OpenRet E rlo rhi L Al c S w e w' ↔ (e = .returned (.tuple #[.pointer none, .int .i64 E]) ∧ Below w.heap.size w w') := by
  unfold OpenRet; rw [if_pos hE]
theorem open_yes {rlo rhi : Int} {L : Nat} {Al : Option Addr} {c : Nat} {S : List (List T3)} {w w' : World} {e : Ending} : OpenRet 0 rlo rhi L Al c S w e w' ↔ ∃ x : TongueX, e = .returned (.tuple #[.pointer (some ⟨x.gt, 0, none⟩), .int .i64 0]) ∧ St w (tongueCh rlo rhi L Al c S (mapOf rlo rhi L S) x) w' := by
  unfold OpenRet; rw [if_neg (by decide)]
theorem tongueCh_mut {rlo rhi : Int} {L : Nat} {Al : Option Addr} {c : Nat} {S : List (List T3)} {m : Int × Int → Option Value} (x : TongueX) : ∀ d ∈ tongueCh rlo rhi L Al c S m x, d.mut = true := fun d hd => by
  unfold tongueCh at hd
  simp only [List.mem_cons, List.not_mem_nil, or_false] at hd
  rcases hd with rfl | rfl | rfl <;> rfl
section
variable (rlo rhi lots : Int) (Al : Option Addr) (c : Nat) (S : List (List T3)) (w : World) (hN : NestR w 3 Al (nestOf S)) (hF : Fit S)
include hN hF
set_option maxHeartbeats 1000000 in
set_option maxRecDepth 20000 in
theorem open_any (Bl : Option Addr) (cl : Nat) (l : List Int) (hl0 : Reads w w.heap.size 1 Bl l.length (i64s l)) (hll : l.length ≤ 1000) :
    Calls Try.prog 60 #[bookV rlo rhi lots Al S.length c, .slice Bl l.length cl] w (OpenRet (openE rlo rhi lots S l) rlo rhi lots.toNat Al c S w) := by
  have hck := fun w1 (h : NestR w1 3 Al (nestOf S)) => checkBook_any rlo rhi lots Al c S w1 h hF
  by_cases h0 : chkBook rlo rhi lots S = 0
  rotate_left
  · have hE : openE rlo rhi lots S l = chkBook rlo rhi lots S := by unfold openE; rw [if_pos h0]
    rw [hE]
    unfold bookV at *
    generalize chkBook rlo rhi lots S = e at *
    refine fn_v Try.tabOk (n := 30) (A := []) Try.func60 rfl rfl (Nat.le_of_ble_eq_true rfl) (St.nil (Below.refl _ _)) ?_
    ((try first | apply tr_v Try.tabOk | apply ot_v Try.tabOk); (conv => whnf); (repeat ((first | (apply VCall.q; kernel_rfl; (focus (intro w1 hs; first | with_reducible apply hck w1 (hs.nest hN)))) | apply VBr.t | (apply v_t; omega) | (apply VNew.mk; intro g hg) | (apply VLdN.mk; (focus ((repeat (first | (with_reducible apply ldn_blk) | (with_reducible apply ldn_row) | (with_reducible assumption) | (with_reducible apply ldn_skip))); done)); exact rfl)); (conv => whnf))); try (first | apply VStop.mk | apply VCall.stop))
    (apply VRet.mk)
    refine ret2 (by first | exact .inl rfl | exact .inr rfl) rfl (by exact rv_tmp rfl) (by exact rv_tmp rfl) ?_
    exact fun w h => (open_no h0).2 ⟨rfl, h.base⟩
  have hO := chk_ok.1 h0
  obtain ⟨L, rfl⟩ : ∃ L : Nat, lots = L := ⟨lots.toNat, by have := hO.l; omega⟩
  have hE : openE rlo rhi L S l = if lotsOk L l = true then 0 else 2 := by unfold openE; rw [if_neg (by simpa using h0)]
  rw [hE]
  rw [h0] at hck
  have hl := hO.l
  have hnt := fun w1 (h : NestR w1 3 Al (nestOf S)) => newTongue_any rlo rhi L Al c S w1 h hO
  rw [Int.toNat_natCast]
  clear hO h0 hE
  unfold bookV at *
  refine fn_v Try.tabOk (n := 30) (A := []) Try.func60 rfl rfl (Nat.le_of_ble_eq_true rfl) (St.nil (Below.refl _ _)) ?_
  ((try first | apply tr_v Try.tabOk | apply ot_v Try.tabOk); (conv => whnf); (repeat ((first | (apply VCall.q; kernel_rfl; (focus (intro w1 hs; first | with_reducible apply hck w1 (hs.nest hN)))) | apply VBr.f | (apply v_f; omega) | (apply VNew.mk; intro g hg) | (apply VLdN.mk; (focus ((repeat (first | (with_reducible apply ldn_blk) | (with_reducible apply ldn_row) | (with_reducible assumption) | (with_reducible apply ldn_skip))); done)); exact rfl)); (conv => whnf))); try (first | apply VStop.mk | apply VCall.stop))
  refine v_loop (fun gm' ds ts A => ds = [] ∧ ∃ k : Nat, k + gm' = l.length ∧ (∀ j, j < k → 0 ≤ iAt l j ∧ iAt l j < L) ∧ A = [.blk g 26 [.int .i64 rlo, .int .i64 rhi, .int .i64 L, .slice Al S.length c]] ∧ ts = [(2, .pointer (some ⟨g, 0, none⟩)), (14, .slice Bl l.length cl), (15, .int .i64 (l.length : Int)), (16, .int .i64 (k : Int))]) l.length
    (l := [(2, _), (14, _), (15, _), (16, _)]) (B := _) ?_ (List.Sublist.refl _) ⟨rfl, 0, by omega, fun j hj => by omega, rfl, rfl⟩ ?_
  · exact ⟨rfl, rfl, rfl, rfl, trivial⟩
  rintro gm' ds ts A ⟨rfl, k, hk, hall, rfl, rfl⟩
  by_cases hlt : k < l.length
  · obtain ⟨b, o, rfl, _⟩ := hl0.2 (by omega)
    have hc := iAt_cell hl0 hlt
    have hno : ¬ (0 ≤ iAt l k ∧ iAt l k < L) → lotsOk L l = false := fun h => by
      unfold lotsOk
      rw [List.all_eq_false]
      refine ⟨iAt l k, ?_, by simpa using h⟩
      unfold iAt
      rw [List.getElem?_eq_getElem hlt]
      exact List.getElem_mem hlt
    have hw : ∀ (g : Nat) (w1 : World) (A' : List Chunk), St w (.blk g 2 [.int .i64 (iAt l k)] :: A') w1 → Calls Try.prog 55 #[.int .i64 0, .int .i64 ((L : Int) - 1), .slice (some ⟨g, 0, none⟩) 1 1] w1 fun e w' => e = .returned (.bool (decide (0 ≤ iAt l k ∧ iAt l k ≤ (L : Int) - 1))) ∧ Below w1.heap.size w1 w' := fun g w1 A' hs => by
      have := within_any (some ⟨g, 0, none⟩) 1 [iAt l k] 0 ((L : Int) - 1) w1 (hs.blk_reads (.head _) rfl) (by simp [maxLen])
      rw [within_one] at this
      exact this
    generalize hxk : iAt l k = x at *
    by_cases hx : 0 ≤ x ∧ x < L
    · rw [decide_eq_true (show 0 ≤ x ∧ x ≤ (L : Int) - 1 by omega)] at hw
      ((try first | apply tr_v Try.tabOk | apply ot_v Try.tabOk); (conv => whnf); (repeat ((first | (apply VLd.mk; exact hc _) | (apply VCall.q; kernel_rfl; (focus (intro w1 hs; first | with_reducible apply hw _ w1 _ hs))) | (apply VLd.mk; (focus ((repeat (first | ((with_reducible apply ld_blk); exact rfl) | ((with_reducible apply ld_row); exact rfl) | ((with_reducible apply ld_row0); exact rfl) | (with_reducible assumption) | (with_reducible exact CellAt.base (by assumption)) | (with_reducible apply ld_skip))); done))) | (apply VRng.mk; omega) | apply VBr.t | apply VBr.f | (apply v_t; omega) | (apply VNew.mk; intro g hg) | (apply VIx.mk; exact rfl; omega)); (conv => whnf))); try (first | apply VStop.mk | apply VCall.stop))
      exact v_rnd (gm' - 1) (by omega) (l := [(2, _), (14, _), (15, _), (16, _)]) (B := [_]) ⟨rfl, rfl, rfl, rfl, trivial⟩ (.cons _ (List.Sublist.refl _)) ⟨rfl, k + 1, by omega, fun j hj => by
        rcases Nat.lt_or_ge j k with h | h
        · exact hall j h
        · obtain rfl : j = k := by omega
          rw [hxk]; exact hx, rfl, rfl⟩
    · rw [decide_eq_false (show ¬ (0 ≤ x ∧ x ≤ (L : Int) - 1) by omega)] at hw
      rw [hno hx, if_neg (by decide)]
      ((try first | apply tr_v Try.tabOk | apply ot_v Try.tabOk); (conv => whnf); (repeat ((first | (apply VLd.mk; exact hc _) | (apply VCall.q; kernel_rfl; (focus (intro w1 hs; first | with_reducible apply hw _ w1 _ hs))) | (apply VLd.mk; (focus ((repeat (first | ((with_reducible apply ld_blk); exact rfl) | ((with_reducible apply ld_row); exact rfl) | ((with_reducible apply ld_row0); exact rfl) | (with_reducible assumption) | (with_reducible exact CellAt.base (by assumption)) | (with_reducible apply ld_skip))); done))) | (apply VRng.mk; omega) | apply VBr.t | (apply v_t; omega) | (apply VNew.mk; intro g hg) | (apply VIx.mk; exact rfl; omega)); (conv => whnf))); try (first | apply VStop.mk | apply VCall.stop))
      (apply VRet.mk)
      refine ret2 (by first | exact .inl rfl | exact .inr rfl) rfl (by exact rv_tmp rfl) (by exact rv_tmp rfl) ?_
      exact fun w h => (open_no (by decide)).2 ⟨rfl, h.base⟩
  · have hyes : lotsOk L l = true := by
      unfold lotsOk
      rw [List.all_eq_true]
      intro x hx
      obtain ⟨j, hj, rfl⟩ := List.getElem_of_mem hx
      have := hall j (by omega)
      unfold iAt at this
      rw [List.getElem?_eq_getElem hj] at this
      simpa using this
    rw [hyes, if_pos rfl]
    ((try first | apply tr_v Try.tabOk | apply ot_v Try.tabOk); (conv => whnf); (repeat ((first | apply VBr.f | (apply v_f; omega) | (apply VLdN.mk; (focus ((repeat (first | (with_reducible apply ldn_blk) | (with_reducible apply ldn_row) | (with_reducible assumption) | (with_reducible apply ldn_skip))); done)); exact rfl)); (conv => whnf))); try (first | apply VStop.mk | apply VCall.stop))
    refine ot_call_st (X := TongueX) (fun x => .pointer (some ⟨x.gt, 0, none⟩)) (fun x => tongueCh rlo rhi L Al c S (mapOf rlo rhi L S) x) tongueCh_mut (by decide) rfl rfl rfl (by kernel_rfl) (evl_of rfl) (fun w1 hs => hnt w1 (hs.nest hN)) (fun x => ?_)
    apply ot_v Try.tabOk
    ((try first | apply tr_v Try.tabOk | apply ot_v Try.tabOk); (conv => whnf); try (first | apply VStop.mk | apply VCall.stop))
    (apply VRet.mk)
    refine ret2 (by first | exact .inl rfl | exact .inr rfl) rfl (by exact rv_tmp rfl) (by exact rv_tmp rfl) ?_
    exact fun w h => open_yes.2 ⟨x, rfl, h.sub (List.sublist_append_left _ _)⟩
end
end Go.Proofs.Ytkbcogaodnmdoaa
