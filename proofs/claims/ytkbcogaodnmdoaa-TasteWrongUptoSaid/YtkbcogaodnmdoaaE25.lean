/- CheckTruth: lemmas for the rows of this seat. No conditions. -/
import Derived.Test.YtkbcogaodnmdoaaProg
import Derived.WalkKit
import Derived.WalkSpells
import Derived.WalkLawsBesides
import Derived.Lib.Hide
import Derived.Deep.AppendLies
import Derived.Deep.Draws
import Derived.Maps.AppendAt
import Derived.RegionTactic
import Derived.OwnWalk
import Derived.Deep.QuietTactic
import Derived.BigQuiet
import Derived.Deep.DeepFit
import Derived.Deep.LoopGhost
import Derived.Deep.DeepMust
import Derived.Deep.DeepCutAuto
import Derived.StillTail
import Derived.Deep.Quiet
import Derived.Deep.RegionHeld3
import Derived.Deep.RegionWith
import Derived.Deep.RegionLaw
import Derived.Maps.OwnOps
import Derived.Maps.OwnSet
import Derived.Maps.OwnRows
import Derived.Maps.RangeWalk
import Derived.Carry
import Derived.Test.YtkbcogaodnmdoaaBase
import Derived.Test.YtkbcogaodnmdoaaMaps
import Derived.Test.YtkbcogaodnmdoaaKeys
import Derived.Test.YtkbcogaodnmdoaaS1
import Derived.Test.YtkbcogaodnmdoaaS5
import Derived.Test.YtkbcogaodnmdoaaS12
import Derived.Test.YtkbcogaodnmdoaaS14
import Derived.Test.YtkbcogaodnmdoaaV
import Derived.Test.YtkbcogaodnmdoaaV2
import Derived.Test.YtkbcogaodnmdoaaV3
import Derived.Test.YtkbcogaodnmdoaaTab
import Derived.Test.YtkbcogaodnmdoaaE1
import Derived.Test.YtkbcogaodnmdoaaE2
import Derived.Test.YtkbcogaodnmdoaaE3
import Derived.Test.YtkbcogaodnmdoaaE4
import Derived.Test.YtkbcogaodnmdoaaE5
import Derived.Test.YtkbcogaodnmdoaaE6
import Derived.Test.YtkbcogaodnmdoaaE7
import Derived.Test.YtkbcogaodnmdoaaE8
import Derived.Test.YtkbcogaodnmdoaaE9
import Derived.Test.YtkbcogaodnmdoaaE10
import Derived.Test.YtkbcogaodnmdoaaE11
import Derived.Test.YtkbcogaodnmdoaaE12
import Derived.Test.YtkbcogaodnmdoaaE13
import Derived.Test.YtkbcogaodnmdoaaE14
import Derived.Test.YtkbcogaodnmdoaaE15
import Derived.Test.YtkbcogaodnmdoaaE16
import Derived.Test.YtkbcogaodnmdoaaE17
import Derived.Test.YtkbcogaodnmdoaaE18
import Derived.Test.YtkbcogaodnmdoaaE19
import Derived.Test.YtkbcogaodnmdoaaE20
import Derived.Test.YtkbcogaodnmdoaaE21
import Derived.Test.YtkbcogaodnmdoaaE22
import Derived.Test.YtkbcogaodnmdoaaE23
import Derived.Test.YtkbcogaodnmdoaaE24
set_option linter.all false
namespace Go.Proofs.Ytkbcogaodnmdoaa
open Go.RowKit
/-! ## CheckTruth -/
/-- All numbers, by names. -/
def allN (sharp tired : List Int) : List Int := 0 :: (sharp ++ tired)
theorem iAt_append (a b : List Int) (k : Nat) : iAt (a ++ b) k = if k < a.length then iAt a k else iAt b (k - a.length) := by
  unfold iAt
  split
  · rename_i h; rw [List.getElem?_append_left h]
  · rename_i h; rw [List.getElem?_append_right (by omega)]
theorem iAt_allN {sharp tired : List Int} {L : Nat} (h : sharp.length = L) (i : Nat) : iAt (allN sharp tired) i = pOf L (iAt sharp) (iAt tired) i := by
  unfold allN pOf
  cases i with
  | zero => rfl
  | succ i =>
    rw [if_neg (by omega)]
    have : iAt (0 :: (sharp ++ tired)) (i + 1) = iAt (sharp ++ tired) i := by unfold iAt; rw [List.getElem?_cons_succ]
    rw [this, iAt_append, h]
    by_cases hi : i < L
    · rw [if_pos hi, if_pos (by omega)]; rfl
    · rw [if_neg hi, if_neg (by omega), show i - L = i + 1 - L - 1 by omega]
theorem within_iff {lo hi : Int} {l : List Int} : within lo hi l = true ↔ ∀ k, k < l.length → lo ≤ iAt l k ∧ iAt l k ≤ hi := by
  unfold within badIn
  rw [Bool.not_eq_true', List.any_eq_false]
  constructor
  · intro h k hk
    have := h (iAt l k) (by unfold iAt; rw [List.getElem?_eq_getElem hk]; exact List.getElem_mem hk)
    simp at this
    omega
  · intro h x hx
    obtain ⟨k, hk, rfl⟩ := List.getElem_of_mem hx
    have := h k hk
    unfold iAt at this
    rw [List.getElem?_eq_getElem hk, Option.getD_some] at this
    simp
    omega
theorem truth_within {rlo rhi : Int} {L : Nat} {S : List (List T3)} (hO : Okb rlo rhi L S) {sharp tired : List Int} (h1 : sharp.length = L) (h2 : tired.length = S.flatten.length) :
    truthP rlo rhi S sharp tired = true ↔ within 0 1000 sharp = true ∧ within 0 600 tired = true ∧ Pot (allE (bnd rlo rhi L S (-1)) (1 + L + S.flatten.length) (1 + L + S.flatten.length)) (iAt (allN sharp tired)) := by
  rw [truth_iff hO h1 h2]
  have hp : iAt (allN sharp tired) = pOf L (iAt sharp) (iAt tired) := funext fun i => iAt_allN h1 i
  constructor
  · intro h
    refine ⟨within_iff.2 fun k hk => h.sharp k (by omega), within_iff.2 fun k hk => ?_, by rw [hp]; exact truth_pot hO h⟩
    have := h.tired hO k (by omega)
    have := hO.t
    omega
  · rintro ⟨a, b, hq⟩
    rw [hp] at hq
    have h := pot_truth hO hq
    have hx := fun k (hk : k < S.flatten.length) => hO.x _ (tasteAt_mem hk)
    have e0 : pOf L (iAt sharp) (iAt tired) 0 = 0 := rfl
    have e1 : ∀ i, i < L → pOf L (iAt sharp) (iAt tired) (i + 1) = iAt sharp i := fun i hi => by unfold pOf; rw [if_neg (by omega), if_pos (by omega)]; rfl
    have e2 : ∀ k, pOf L (iAt sharp) (iAt tired) (L + 1 + k) = iAt tired k := fun k => by unfold pOf; rw [if_neg (by omega), if_neg (by omega), show L + 1 + k - L - 1 = k by omega]
    refine ⟨fun i hi => ?_, fun k hk hf => ?_, fun k hk hf => ?_, fun k hk hn => ?_⟩
    · have := h.sharp i hi
      rw [e0, e1 i hi] at this; omega
    · have := h.first k hk hf
      rw [e0, e2] at this; omega
    · have := h.next k hk hf
      rw [e0, e2, e2] at this; omega
    · have h3 := h.said k hk hn
      have := hx k hk
      rw [e0, e2, e1 _ (by omega)] at h3; omega
section
variable (rlo rhi lots : Int) (Al : Option Addr) (c : Nat) (S : List (List T3)) (w : World) (hN : NestR w 3 Al (nestOf S)) (hF : Fit S)
include hN hF
set_option maxHeartbeats 2000000 in
set_option maxRecDepth 20000 in
theorem checkTruth_any (Bs Bt : Option Addr) (cs ct : Nat) (sharp tired : List Int) (hs0 : Reads w w.heap.size 1 Bs sharp.length (i64s sharp)) (ht0 : Reads w w.heap.size 1 Bt tired.length (i64s tired)) (hls : sharp.length ≤ 30) (hlt : tired.length ≤ 30) :
    Calls Try.prog 23 #[bookV rlo rhi lots Al S.length c, .slice Bs sharp.length cs, .slice Bt tired.length ct] w fun e w' => e = .returned (.int .i64 (truthR rlo rhi lots S sharp tired)) ∧ Below w.heap.size w w' := by
  by_cases h0 : chkBook rlo rhi lots S = 0
  rotate_left
  · have hop := open_nil_no rlo rhi lots Al c S w hN hF h0
    have hE : truthR rlo rhi lots S sharp tired = chkBook rlo rhi lots S := by unfold truthR; rw [if_pos h0]
    rw [hE]
    unfold bookV at *
    generalize chkBook rlo rhi lots S = e at *
    refine fn_v Try.tabOk (n := 68) (A := []) Try.func23 rfl rfl (Nat.le_of_ble_eq_true rfl) (St.nil (Below.refl _ _)) ?_
    ((try first | apply tr_v Try.tabOk | apply ot_v Try.tabOk); (conv => whnf); (repeat ((first | (apply VCall.q; kernel_rfl; (focus (intro w1 hs; first | with_reducible apply hop w1 (hs.nest hN)))) | apply VBr.t | (apply v_t; omega) | (apply VNew.mk; intro g hg) | (apply VLdN.mk; (focus ((repeat (first | (with_reducible apply ldn_blk) | (with_reducible apply ldn_row) | (with_reducible assumption) | (with_reducible apply ldn_skip))); done)); exact rfl) | (apply VSt.mk; (focus ((repeat (first | (with_reducible exact At.here) | (with_reducible apply At.there))); done)); exact rfl)); (conv => whnf))); try (first | apply VStop.mk | apply VCall.stop))
    (apply VRet.mk)
    refine ret1 (by first | exact .inl rfl | exact .inr rfl) rfl (by exact rv_sc Try.tabOk rfl rfl rfl (by first | exact cell_blk (by (repeat (first | exact List.Mem.head _ | assumption | refine List.Mem.tail _ ?_))) (by rfl) | exact cell_row (by (repeat (first | exact List.Mem.head _ | assumption | refine List.Mem.tail _ ?_))) (by rfl) | exact cell_own (by (repeat (first | exact List.Mem.head _ | assumption | refine List.Mem.tail _ ?_))) (by rfl) | exact cell_row0 (by (repeat (first | exact List.Mem.head _ | assumption | refine List.Mem.tail _ ?_))) (by rfl) | assumption | exact CellAt.base (by assumption))) ?_
    exact fun w h => ⟨rfl, h.base⟩
  have hO := chk_ok.1 h0
  obtain ⟨L, rfl⟩ : ∃ L : Nat, lots = L := ⟨lots.toNat, by have := hO.l; omega⟩
  have hop := open_nil_yes rlo rhi Al c S w hN hF h0
  have hb := bnd_ok hO (-1)
  have hl := hO.l
  have ht := hO.t
  have hE : truthR rlo rhi L S sharp tired = if (sharp.length : Int) ≠ L ∨ tired.length ≠ S.flatten.length then 15 else if truthP rlo rhi S sharp tired = false then 17 else 0 := by
    unfold truthR; rw [if_neg (by simpa using h0)]
  have htw := truth_within hO (sharp := sharp) (tired := tired)
  have hwi1 := fun w1 (h : Below w.heap.size w w1) => within_any Bs cs sharp 0 1000 w1 ((hs0.below h).more h.size) (by unfold maxLen; omega)
  have hwi2 := fun w1 (h : Below w.heap.size w w1) => within_any Bt ct tired 0 600 w1 ((ht0.below h).more h.size) (by unfold maxLen; omega)
  rw [hE]
  clear hE
  unfold bookV at *
  refine fn_v Try.tabOk (n := 68) (A := []) Try.func23 rfl rfl (Nat.le_of_ble_eq_true rfl) (St.nil (Below.refl _ _)) ?_
  ((try first | apply tr_v Try.tabOk | apply ot_v Try.tabOk); (conv => whnf); (repeat ((first | (apply VNew.mk; intro g hg) | (apply VLdN.mk; (focus ((repeat (first | (with_reducible apply ldn_blk) | (with_reducible apply ldn_row) | (with_reducible assumption) | (with_reducible apply ldn_skip))); done)); exact rfl)); (conv => whnf))); try (first | apply VStop.mk | apply VCall.stop))
  refine ot_call_st (X := TongueX) (fun x => .tuple #[.pointer (some ⟨x.gt, 0, none⟩), .int .i64 0]) (fun x => tongueCh rlo rhi L Al c S (resM (bnd rlo rhi L S (-1)) (1 + L + S.flatten.length)) x) tongueCh_mut (by decide) rfl rfl rfl (by kernel_rfl) (evl_of rfl) (fun w1 hs => hop w1 (hs.nest hN)) (fun x => ?_)
  apply ot_v Try.tabOk
  dsimp only [tongueCh, List.cons_append, List.nil_append]
  by_cases hlen : (sharp.length : Int) ≠ L ∨ tired.length ≠ S.flatten.length
  · rw [if_pos hlen]
    by_cases hl1 : (sharp.length : Int) = L
    · have hl2 : tired.length ≠ S.flatten.length := by omega
      ((try first | apply tr_v Try.tabOk | apply ot_v Try.tabOk); (conv => whnf); (repeat ((first | (apply VLd.mk; (focus ((repeat (first | ((with_reducible apply ld_blk); exact rfl) | ((with_reducible apply ld_row); exact rfl) | ((with_reducible apply ld_row0); exact rfl) | (with_reducible assumption) | (with_reducible exact CellAt.base (by assumption)) | (with_reducible apply ld_skip))); done))) | apply VBr.t | apply VBr.f | (apply v_t; omega) | (apply v_f; omega) | (apply VSt.mk; (focus ((repeat (first | (with_reducible exact At.here) | (with_reducible apply At.there))); done)); exact rfl)); (conv => whnf))); try (first | apply VStop.mk | apply VCall.stop))
      (apply VRet.mk)
      refine ret1 (by first | exact .inl rfl | exact .inr rfl) rfl (by exact rv_sc Try.tabOk rfl rfl rfl (by first | exact cell_blk (by (repeat (first | exact List.Mem.head _ | assumption | refine List.Mem.tail _ ?_))) (by rfl) | exact cell_row (by (repeat (first | exact List.Mem.head _ | assumption | refine List.Mem.tail _ ?_))) (by rfl) | exact cell_own (by (repeat (first | exact List.Mem.head _ | assumption | refine List.Mem.tail _ ?_))) (by rfl) | exact cell_row0 (by (repeat (first | exact List.Mem.head _ | assumption | refine List.Mem.tail _ ?_))) (by rfl) | assumption | exact CellAt.base (by assumption))) ?_
      exact fun w h => ⟨rfl, h.base⟩
    · ((try first | apply tr_v Try.tabOk | apply ot_v Try.tabOk); (conv => whnf); (repeat ((first | (apply VLd.mk; (focus ((repeat (first | ((with_reducible apply ld_blk); exact rfl) | ((with_reducible apply ld_row); exact rfl) | ((with_reducible apply ld_row0); exact rfl) | (with_reducible assumption) | (with_reducible exact CellAt.base (by assumption)) | (with_reducible apply ld_skip))); done))) | apply VBr.t | apply VBr.f | (apply v_t; omega) | (apply v_f; omega) | (apply VSt.mk; (focus ((repeat (first | (with_reducible exact At.here) | (with_reducible apply At.there))); done)); exact rfl)); (conv => whnf))); try (first | apply VStop.mk | apply VCall.stop))
      (apply VRet.mk)
      refine ret1 (by first | exact .inl rfl | exact .inr rfl) rfl (by exact rv_sc Try.tabOk rfl rfl rfl (by first | exact cell_blk (by (repeat (first | exact List.Mem.head _ | assumption | refine List.Mem.tail _ ?_))) (by rfl) | exact cell_row (by (repeat (first | exact List.Mem.head _ | assumption | refine List.Mem.tail _ ?_))) (by rfl) | exact cell_own (by (repeat (first | exact List.Mem.head _ | assumption | refine List.Mem.tail _ ?_))) (by rfl) | exact cell_row0 (by (repeat (first | exact List.Mem.head _ | assumption | refine List.Mem.tail _ ?_))) (by rfl) | assumption | exact CellAt.base (by assumption))) ?_
      exact fun w h => ⟨rfl, h.base⟩
  rw [if_neg hlen]
  have hl1 : sharp.length = L := by omega
  have hl2 : tired.length = S.flatten.length := by omega
  have htw := htw hl1 hl2
  cases hc1 : within 0 1000 sharp with
  | false =>
    have hf : truthP rlo rhi S sharp tired = false := by
      rw [hc1] at htw
      simpa using htw
    rw [hc1] at hwi1
    rw [if_pos hf]
    ((try first | apply tr_v Try.tabOk | apply ot_v Try.tabOk); (conv => whnf); (repeat ((first | (apply VCall.q; kernel_rfl; (focus (intro w1 hs; first | with_reducible apply hwi1 w1 hs.base))) | (apply VLd.mk; (focus ((repeat (first | ((with_reducible apply ld_blk); exact rfl) | ((with_reducible apply ld_row); exact rfl) | ((with_reducible apply ld_row0); exact rfl) | (with_reducible assumption) | (with_reducible exact CellAt.base (by assumption)) | (with_reducible apply ld_skip))); done))) | apply VBr.t | apply VBr.f | (apply v_f; omega) | (apply VSt.mk; (focus ((repeat (first | (with_reducible exact At.here) | (with_reducible apply At.there))); done)); exact rfl)); (conv => whnf))); try (first | apply VStop.mk | apply VCall.stop))
    (apply VRet.mk)
    refine ret1 (by first | exact .inl rfl | exact .inr rfl) rfl (by exact rv_sc Try.tabOk rfl rfl rfl (by first | exact cell_blk (by (repeat (first | exact List.Mem.head _ | assumption | refine List.Mem.tail _ ?_))) (by rfl) | exact cell_row (by (repeat (first | exact List.Mem.head _ | assumption | refine List.Mem.tail _ ?_))) (by rfl) | exact cell_own (by (repeat (first | exact List.Mem.head _ | assumption | refine List.Mem.tail _ ?_))) (by rfl) | exact cell_row0 (by (repeat (first | exact List.Mem.head _ | assumption | refine List.Mem.tail _ ?_))) (by rfl) | assumption | exact CellAt.base (by assumption))) ?_
    exact fun w h => ⟨rfl, h.base⟩
  | true =>
    rw [hc1] at hwi1
    cases hc2 : within 0 600 tired with
    | false =>
      have hf : truthP rlo rhi S sharp tired = false := by
        rw [hc2] at htw
        simpa using htw
      rw [hc2] at hwi2
      rw [if_pos hf]
      ((try first | apply tr_v Try.tabOk | apply ot_v Try.tabOk); (conv => whnf); (repeat ((first | (apply VCall.q; kernel_rfl; (focus (intro w1 hs; first | with_reducible apply hwi1 w1 hs.base | with_reducible apply hwi2 w1 hs.base))) | (apply VLd.mk; (focus ((repeat (first | ((with_reducible apply ld_blk); exact rfl) | ((with_reducible apply ld_row); exact rfl) | ((with_reducible apply ld_row0); exact rfl) | (with_reducible assumption) | (with_reducible exact CellAt.base (by assumption)) | (with_reducible apply ld_skip))); done))) | apply VBr.t | apply VBr.f | (apply v_f; omega) | (apply VSt.mk; (focus ((repeat (first | (with_reducible exact At.here) | (with_reducible apply At.there))); done)); exact rfl)); (conv => whnf))); try (first | apply VStop.mk | apply VCall.stop))
      (apply VRet.mk)
      refine ret1 (by first | exact .inl rfl | exact .inr rfl) rfl (by exact rv_sc Try.tabOk rfl rfl rfl (by first | exact cell_blk (by (repeat (first | exact List.Mem.head _ | assumption | refine List.Mem.tail _ ?_))) (by rfl) | exact cell_row (by (repeat (first | exact List.Mem.head _ | assumption | refine List.Mem.tail _ ?_))) (by rfl) | exact cell_own (by (repeat (first | exact List.Mem.head _ | assumption | refine List.Mem.tail _ ?_))) (by rfl) | exact cell_row0 (by (repeat (first | exact List.Mem.head _ | assumption | refine List.Mem.tail _ ?_))) (by rfl) | assumption | exact CellAt.base (by assumption))) ?_
      exact fun w h => ⟨rfl, h.base⟩
    | true =>
      rw [hc2] at hwi2
      ((try first | apply tr_v Try.tabOk | apply ot_v Try.tabOk); (conv => whnf); (repeat ((first | (apply VCall.q; kernel_rfl; (focus (intro w1 hs; first | with_reducible apply hwi1 w1 hs.base | with_reducible apply hwi2 w1 hs.base))) | (apply VLd.mk; (focus ((repeat (first | ((with_reducible apply ld_blk); exact rfl) | ((with_reducible apply ld_row); exact rfl) | ((with_reducible apply ld_row0); exact rfl) | (with_reducible assumption) | (with_reducible exact CellAt.base (by assumption)) | (with_reducible apply ld_skip))); done))) | apply VBr.f | (apply v_f; omega) | (apply VNew.mk; intro g hg)); (conv => whnf))); try (first | apply VStop.mk | apply VCall.stop))
      have hM : (allN sharp tired).length = 1 + L + S.flatten.length := by unfold allN; rw [List.length_cons, List.length_append]; omega
      have hcc : ∀ g g1 w1 rest, St w (.blk g 27 [.slice (some ⟨g1, 0, none⟩) 1 1, .slice Bs sharp.length cs, .slice Bt tired.length ct] :: .blk g1 2 [.int .i64 0] :: rest) w1 → Calls Try.prog 61 #[.slice (some ⟨g, 0, none⟩) 3 3] w1 (OwnRet 2 1 (1 + L + S.flatten.length) (i64s (allN sharp tired)) w1) := fun g g1 w1 rest hs => by
        have h1 : NestR w1 1 (some ⟨g, 0, none⟩) [(1, [.int .i64 0]), (sharp.length, i64s sharp), (tired.length, i64s tired)] := by
          refine ⟨[.slice (some ⟨g1, 0, none⟩) 1 1, .slice Bs sharp.length cs, .slice Bt tired.length ct], hs.blk_reads (.head _) rfl, fun i hi => ?_⟩
          match i, hi with
          | 0, _ => exact ⟨_, _, rfl, hs.blk_reads (.tail _ (.head _)) rfl⟩
          | 1, _ => exact ⟨_, _, rfl, hs.reads hs0⟩
          | 2, _ => exact ⟨_, _, rfl, hs.reads ht0⟩
        have h2 := concat61_any (some ⟨g, 0, none⟩) 3 _ w1 h1 (by simp) (by simp only [sumN]; omega) (fun p hp u hu => by
          have hi : ∀ l : List Int, ∀ u ∈ i64s l, u.oneCell' = true := fun l u hu => by
            unfold i64s at hu
            obtain ⟨x, _, rfl⟩ := List.mem_map.1 hu
            rfl
          simp only [List.mem_cons, List.not_mem_nil, or_false] at hp
          rcases hp with rfl | rfl | rfl
          · exact hi [0] u hu
          · exact hi _ u hu
          · exact hi _ u hu)
        have e1 : sumN [(1, [Value.int .i64 0]), (sharp.length, i64s sharp), (tired.length, i64s tired)] = 1 + L + S.flatten.length := by
          show 1 + (sharp.length + (tired.length + 0)) = _
          omega
        have e2 : catN [(1, [Value.int .i64 0]), (sharp.length, i64s sharp), (tired.length, i64s tired)] = i64s (allN sharp tired) := by simp [catN, allN, i64s]
        rw [e1, e2] at h2
        exact h2
      refine ot_call_ownS (by decide) rfl rfl rfl (by kernel_rfl) (evl_of rfl) (fun w1 hs => hcc _ _ w1 _ hs) (fun Ba ca hBa => ?_)
      obtain ⟨ba, rfl⟩ := hBa (by omega)
      apply ot_v Try.tabOk
      rename_i gz hgz gy hgy
      ((try first | apply tr_v Try.tabOk | apply ot_v Try.tabOk); (conv => whnf); (repeat ((first | (apply VNew.mk; intro g hg) | (apply VSt.mk; (focus ((repeat (first | (with_reducible exact At.here) | (with_reducible apply At.there))); done)); exact rfl)); (conv => whnf))); try (first | apply VStop.mk | apply VCall.stop))
      have hbd := fun w1 => bounds_any x.gt w1
      refine ot_call_st (X := Nat) (fun Bs => .func (.func 86) #[] #[.pointer (some ⟨Bs, 0, none⟩)]) (fun Bs => [.blk Bs 81 [.pointer (some ⟨x.gt, 0, none⟩)]]) (fun Bs c hc => by simp at hc; subst hc; rfl) (by decide) rfl rfl rfl (by kernel_rfl) (evl_of rfl) (fun w1 hs => hbd w1) (fun Bs => ?_)
      ((try first | apply tr_v Try.tabOk | apply ot_v Try.tabOk); (conv => whnf); try (first | apply VStop.mk | apply VCall.stop))
      have hab : ∀ i, i < 1 + L + S.flatten.length → 0 ≤ iAt (allN sharp tired) i ∧ iAt (allN sharp tired) i ≤ 1000 := fun i hi => by
        rw [iAt_allN hl1]
        unfold pOf
        split
        · omega
        · split
          · exact within_iff.1 hc1 _ (by omega)
          · have := within_iff.1 hc2 (i - L - 1) (by omega)
            omega
      have hE2 := hb.hE2
      have hE3 := hb.hE3
      have hNN : 1 + L + S.flatten.length ≤ 19 := hb.n1
      have hit := bounds_it rlo rhi L Al c S (bnd rlo rhi L S (-1)) (1 + L + S.flatten.length) x.gt x.gm x.B x.cap Bs rfl (by omega)
      generalize hEE : allE (bnd rlo rhi L S (-1)) (1 + L + S.flatten.length) (1 + L + S.flatten.length) = EE at *
      have htw1 : truthP rlo rhi S sharp tired = true ↔ ∀ e ∈ EE, iAt (allN sharp tired) e.2.1 - iAt (allN sharp tired) e.1 ≤ e.2.2 := by
        rw [htw]
        unfold Pot
        constructor
        · rintro ⟨_, _, h⟩ e he
          have := h e he
          omega
        · exact fun h => ⟨hc1, hc2, fun e he => by have := h e he; omega⟩
      generalize hAL : allN sharp tired = AL at *
      generalize hmm : resM (bnd rlo rhi L S (-1)) (1 + L + S.flatten.length) = RM at *
      generalize hNe : 1 + L + S.flatten.length = N at *
      refine tr_weak (l := [(6, _), (9, _), (52, _)]) (B := [.blk Bs 81 [.pointer (some ⟨x.gt, 0, none⟩)], .blk g 27 [.slice (some ⟨ba, 0, none⟩) N ca], .own (.slice (some ⟨ba, 0, none⟩) N ca) 2 1 N (i64s AL), .blk x.gt 86 (tongueC rlo rhi L Al S.length c (.slice x.B S.flatten.length x.cap) x.gm), .prd x.gm (MapP pairE RM x.st), .own (.slice x.B S.flatten.length x.cap) 67 3 S.flatten.length (saidCells S.flatten), .blk gz 30 [.int .i64 0]]) ⟨rfl, rfl, rfl, trivial⟩ (.cons_cons _ (.cons_cons _ (.cons_cons _ (.cons _ (.cons _ (.cons_cons _ (.cons_cons _ (.cons_cons _ (.cons_cons _ (List.nil_sublist _)))))))))) ?_
      refine tr_rangeFunc rfl (by kernel_rfl) hit (fun _ => rfl) (by decide)
        (fun pre R => R = [.blk Bs 81 [.pointer (some ⟨x.gt, 0, none⟩)], .blk g 27 [.slice (some ⟨ba, 0, none⟩) N ca], .own (.slice (some ⟨ba, 0, none⟩) N ca) 2 1 N (i64s AL), .blk x.gt 86 (tongueC rlo rhi L Al S.length c (.slice x.B S.flatten.length x.cap) x.gm), .prd x.gm (MapP pairE RM x.st), .own (.slice x.B S.flatten.length x.cap) 67 3 S.flatten.length (saidCells S.flatten), .blk gz 30 [.int .i64 0]] ∧ ∀ e ∈ pre, iAt AL e.2.1 - iAt AL e.1 ≤ e.2.2)
        (fun c' pre R => c' = .ret ∧ R = [.blk Bs 81 [.pointer (some ⟨x.gt, 0, none⟩)], .blk g 27 [.slice (some ⟨ba, 0, none⟩) N ca], .own (.slice (some ⟨ba, 0, none⟩) N ca) 2 1 N (i64s AL), .blk x.gt 86 (tongueC rlo rhi L Al S.length c (.slice x.B S.flatten.length x.cap) x.gm), .prd x.gm (MapP pairE RM x.st), .own (.slice x.B S.flatten.length x.cap) 67 3 S.flatten.length (saidCells S.flatten), .blk gz 30 [.int .i64 17]] ∧ truthP rlo rhi S sharp tired = false) ?_ ⟨rfl, fun e he => by cases he⟩ ?_ ?_ ?_
      · rintro pre R ⟨rfl, _⟩ F W hS
        rw [hmm]
        refine ⟨by rw [(hS.all _ (.head _)).2.cell]; rfl, hS.tongue (x := x) fun d hd => ?_⟩
        simp only [tongueCh, List.mem_cons, List.not_mem_nil, or_false] at hd
        rcases hd with rfl | rfl | rfl
        · exact .tail _ (.tail _ (.tail _ (.head _)))
        · exact .tail _ (.tail _ (.tail _ (.tail _ (.head _))))
        · exact .tail _ (.tail _ (.tail _ (.tail _ (.tail _ (.head _)))))
      · rintro l pre ⟨x1, x2, x3⟩ R Fr ⟨rest, hpre⟩ ⟨rfl, hall⟩
        have hm : (x1, x2, x3) ∈ EE := by rw [← hpre]; simp
        have hx := hE2 _ hm
        have hx3 := hE3 _ hm
        dsimp only at hx hx3
        have a1 := hab x1 hx.1
        have a2 := hab x2 hx.2
        have o1 : ∀ {A'}, Chunk.own (.slice (some ⟨ba, 0, none⟩) N ca) 2 1 N (i64s AL) ∈ A' → CellAt w A' ba (0 + x1 * 1) (.int .i64 (iAt AL x1)) := fun h => by
          rw [Nat.zero_add, Nat.mul_one]; exact cell_own h (iAt_get (by omega))
        have o2 : ∀ {A'}, Chunk.own (.slice (some ⟨ba, 0, none⟩) N ca) 2 1 N (i64s AL) ∈ A' → CellAt w A' ba (0 + x2 * 1) (.int .i64 (iAt AL x2)) := fun h => by
          rw [Nat.zero_add, Nat.mul_one]; exact cell_own h (iAt_get (by omega))
        change Tr _ _ _ _ _ _ _ (_ :: _ :: _ :: _ :: _ :: _ :: _ :: Fr) _
        have hno : ¬ (iAt AL x2 - iAt AL x1 ≤ x3) → truthP rlo rhi S sharp tired = false := fun h => by
          rw [Bool.eq_false_iff]
          intro ht
          exact h (htw1.1 ht _ hm)
        generalize hv1 : iAt AL x1 = v1 at *
        generalize hv2 : iAt AL x2 = v2 at *
        revert g hg
        intro gl hgl
        ((try first | apply tr_v Try.tabOk | apply ot_v Try.tabOk); (conv => whnf); (repeat ((first | (apply VNew.mk; intro g hg) | (apply VSt.mk; (focus ((repeat (first | (with_reducible exact At.here) | (with_reducible apply At.there))); done)); exact rfl)); (conv => whnf))); try (first | apply VStop.mk | apply VCall.stop))
        refine ⟨rfl, rfl, [.blk g 92 [.int .i64 (x1 : Int), .int .i64 (x2 : Int)], .blk Bs 81 [.pointer (some ⟨x.gt, 0, none⟩)], .blk gl 27 [.slice (some ⟨ba, 0, none⟩) N ca], .own (.slice (some ⟨ba, 0, none⟩) N ca) 2 1 N (i64s AL), .blk x.gt 86 (tongueC rlo rhi L Al S.length c (.slice x.B S.flatten.length x.cap) x.gm), .prd x.gm (MapP pairE RM x.st), .own (.slice x.B S.flatten.length x.cap) 67 3 S.flatten.length (saidCells S.flatten), .blk gz 30 [.int .i64 0]], List.Sublist.refl _, fun Fr' => ?_⟩
        change Tr _ _ _ _ _ _ _ (_ :: _ :: _ :: _ :: _ :: _ :: _ :: _ :: Fr') _
        dsimp only
        by_cases hv : v2 - v1 ≤ x3
        · ((try first | apply tr_v Try.tabOk | apply ot_v Try.tabOk); (conv => whnf); (repeat ((first | ((first | apply VStop.mk | apply VCall.stop); (first | refine tr_region_lex (id := 12) (by kernel_rfl) [.rd, .rd, .rd, .rd, .rd, .rd, .rd, .rd, .rd, .rd, .rd, .rd, .rd] rfl (by kernel_rfl) ?_); try first | apply ot_v Try.tabOk | apply tr_v Try.tabOk) | (apply VIx.mk (j := x1); exact rfl; omega) | (apply VIx.mk (j := x2); exact rfl; omega) | (apply VLd.mk; first | exact o1 (by (repeat (first | with_unfolding_all exact List.Mem.head _ | assumption | with_unfolding_all refine List.Mem.tail _ ?_))) | exact o2 (by (repeat (first | with_unfolding_all exact List.Mem.head _ | assumption | with_unfolding_all refine List.Mem.tail _ ?_)))) | (apply VLd.mk; (focus ((repeat (first | ((with_reducible apply ld_blk); exact rfl) | ((with_reducible apply ld_row); exact rfl) | ((with_reducible apply ld_row0); exact rfl) | (with_reducible assumption) | (with_reducible exact CellAt.base (by assumption)) | (with_reducible apply ld_skip))); done))) | (apply VRng.mk; omega) | apply VBr.f | (apply v_f; omega)); (conv => whnf))); try (first | apply VStop.mk | apply VCall.stop))
          exact ⟨rfl, [.blk Bs 81 [.pointer (some ⟨x.gt, 0, none⟩)], .blk gl 27 [.slice (some ⟨ba, 0, none⟩) N ca], .own (.slice (some ⟨ba, 0, none⟩) N ca) 2 1 N (i64s AL), .blk x.gt 86 (tongueC rlo rhi L Al S.length c (.slice x.B S.flatten.length x.cap) x.gm), .prd x.gm (MapP pairE RM x.st), .own (.slice x.B S.flatten.length x.cap) 67 3 S.flatten.length (saidCells S.flatten), .blk gz 30 [.int .i64 0]], List.sublist_cons_self _ _, rfl, fun e he => by
            rcases List.mem_append.1 he with he | he
            · exact hall e he
            · rw [List.mem_singleton] at he
              subst he
              show iAt AL x2 - iAt AL x1 ≤ x3
              rw [hv1, hv2]; exact hv⟩
        · ((try first | apply tr_v Try.tabOk | apply ot_v Try.tabOk); (conv => whnf); (repeat ((first | ((first | apply VStop.mk | apply VCall.stop); (first | refine tr_region_lex (id := 12) (by kernel_rfl) [.rd, .rd, .rd, .rd, .rd, .rd, .rd, .rd, .rd, .rd, .rd, .rd, .rd] rfl (by kernel_rfl) ?_); try first | apply ot_v Try.tabOk | apply tr_v Try.tabOk) | (apply VIx.mk (j := x1); exact rfl; omega) | (apply VIx.mk (j := x2); exact rfl; omega) | (apply VLd.mk; first | exact o1 (by (repeat (first | with_unfolding_all exact List.Mem.head _ | assumption | with_unfolding_all refine List.Mem.tail _ ?_))) | exact o2 (by (repeat (first | with_unfolding_all exact List.Mem.head _ | assumption | with_unfolding_all refine List.Mem.tail _ ?_)))) | (apply VLd.mk; (focus ((repeat (first | ((with_reducible apply ld_blk); exact rfl) | ((with_reducible apply ld_row); exact rfl) | ((with_reducible apply ld_row0); exact rfl) | (with_reducible assumption) | (with_reducible exact CellAt.base (by assumption)) | (with_reducible apply ld_skip))); done))) | (apply VRng.mk; omega) | apply VBr.t | (apply v_t; omega) | (apply VSt.mk; (focus ((repeat (first | (with_reducible exact At.here) | (with_reducible apply At.there))); done)); exact rfl)); (conv => whnf))); try (first | apply VStop.mk | apply VCall.stop))
          exact ⟨rfl, [.blk Bs 81 [.pointer (some ⟨x.gt, 0, none⟩)], .blk gl 27 [.slice (some ⟨ba, 0, none⟩) N ca], .own (.slice (some ⟨ba, 0, none⟩) N ca) 2 1 N (i64s AL), .blk x.gt 86 (tongueC rlo rhi L Al S.length c (.slice x.B S.flatten.length x.cap) x.gm), .prd x.gm (MapP pairE RM x.st), .own (.slice x.B S.flatten.length x.cap) 67 3 S.flatten.length (saidCells S.flatten), .blk gz 30 [.int .i64 17]], List.sublist_cons_self _ _, rfl, rfl, hno hv⟩
      · rintro D R ⟨rfl, hall⟩
        rw [if_neg (by rw [htw1.2 hall]; decide)]
        ((try first | apply tr_v Try.tabOk | apply ot_v Try.tabOk); (conv => whnf); (repeat ((first | (apply VSt.mk; (focus ((repeat (first | (with_reducible exact At.here) | (with_reducible apply At.there))); done)); exact rfl)); (conv => whnf))); try (first | apply VStop.mk | apply VCall.stop))
        (apply VRet.mk)
        exact ⟨.inr rfl, D, _, rfl, .here, (ret1 (.inr rfl) rfl (by exact rv_sc Try.tabOk rfl rfl rfl (by first | exact cell_blk (by (repeat (first | exact List.Mem.head _ | assumption | refine List.Mem.tail _ ?_))) (by rfl) | exact cell_row (by (repeat (first | exact List.Mem.head _ | assumption | refine List.Mem.tail _ ?_))) (by rfl) | exact cell_own (by (repeat (first | exact List.Mem.head _ | assumption | refine List.Mem.tail _ ?_))) (by rfl) | exact cell_row0 (by (repeat (first | exact List.Mem.head _ | assumption | refine List.Mem.tail _ ?_))) (by rfl) | assumption | exact CellAt.base (by assumption))) fun w h => ⟨rfl, h.base⟩).2⟩
      · rintro D c' pre R ⟨rfl, rfl, hf⟩
        rw [if_pos hf]
        ((try first | apply tr_v Try.tabOk | apply ot_v Try.tabOk); (conv => whnf); try (first | apply VStop.mk | apply VCall.stop))
        (apply VRet.mk)
        exact ⟨.inr rfl, D, _, rfl, .here, (ret1 (.inr rfl) rfl (by exact rv_sc Try.tabOk rfl rfl rfl (by first | exact cell_blk (by (repeat (first | exact List.Mem.head _ | assumption | refine List.Mem.tail _ ?_))) (by rfl) | exact cell_row (by (repeat (first | exact List.Mem.head _ | assumption | refine List.Mem.tail _ ?_))) (by rfl) | exact cell_own (by (repeat (first | exact List.Mem.head _ | assumption | refine List.Mem.tail _ ?_))) (by rfl) | exact cell_row0 (by (repeat (first | exact List.Mem.head _ | assumption | refine List.Mem.tail _ ?_))) (by rfl) | assumption | exact CellAt.base (by assumption))) fun w h => ⟨rfl, h.base⟩).2⟩
end
end Go.Proofs.Ytkbcogaodnmdoaa
