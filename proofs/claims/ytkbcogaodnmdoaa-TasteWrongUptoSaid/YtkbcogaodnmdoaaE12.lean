/- The reference: CheckTruth, CheckRound: lemmas for the rows of this seat. No conditions. -/
import Derived.Test.YtkbcogaodnmdoaaProg
import Derived.WalkKit
import Derived.WalkSpells
import Derived.WalkLawsBesides
import Derived.Lib.Hide
import Derived.Deep.AppendLies
import Derived.Deep.Draws
import Derived.Maps.AppendAt
import Derived.RegionTactic
import Derived.OwnWalk
import Derived.Deep.QuietTactic
import Derived.BigQuiet
import Derived.Deep.DeepFit
import Derived.Deep.LoopGhost
import Derived.Deep.DeepMust
import Derived.Deep.DeepCutAuto
import Derived.StillTail
import Derived.Deep.Quiet
import Derived.Deep.RegionHeld3
import Derived.Deep.RegionWith
import Derived.Deep.RegionLaw
import Derived.Maps.OwnOps
import Derived.Maps.OwnSet
import Derived.Maps.OwnRows
import Derived.Maps.RangeWalk
import Derived.Carry
import Derived.Test.YtkbcogaodnmdoaaBase
import Derived.Test.YtkbcogaodnmdoaaMaps
import Derived.Test.YtkbcogaodnmdoaaKeys
import Derived.Test.YtkbcogaodnmdoaaS1
import Derived.Test.YtkbcogaodnmdoaaS5
import Derived.Test.YtkbcogaodnmdoaaS14
import Derived.Test.YtkbcogaodnmdoaaV
import Derived.Test.YtkbcogaodnmdoaaTab
import Derived.Test.YtkbcogaodnmdoaaE1
import Derived.Test.YtkbcogaodnmdoaaE2
import Derived.Test.YtkbcogaodnmdoaaE3
import Derived.Test.YtkbcogaodnmdoaaE4
import Derived.Test.YtkbcogaodnmdoaaE5
import Derived.Test.YtkbcogaodnmdoaaE6
import Derived.Test.YtkbcogaodnmdoaaE7
import Derived.Test.YtkbcogaodnmdoaaE8
import Derived.Test.YtkbcogaodnmdoaaE9
import Derived.Test.YtkbcogaodnmdoaaE10
import Derived.Test.YtkbcogaodnmdoaaE11
set_option linter.all false
namespace Go.Proofs.Ytkbcogaodnmdoaa
open Go.RowKit
/-! ## The reference: CheckTruth, CheckRound -/
def truthR (rlo rhi lots : Int) (S : List (List T3)) (sharp tired : List Int) : Int :=
  if chkBook rlo rhi lots S ≠ 0 then chkBook rlo rhi lots S else if (sharp.length : Int) ≠ lots ∨ tired.length ≠ S.flatten.length then 15 else if truthP rlo rhi S sharp tired = false then 17 else 0
section
variable (rlo rhi lots : Int) (Al : Option Addr) (c : Nat) (S : List (List T3)) (w : World) (hN : NestR w 3 Al (nestOf S)) (hF : Fit S)
include hN hF
set_option maxHeartbeats 4000000 in
set_option maxRecDepth 20000 in
theorem refCheckTruth_any (Bs Bt : Option Addr) (cs ct : Nat) (sharp tired : List Int) (hs0 : Reads w w.heap.size 1 Bs sharp.length (i64s sharp)) (ht0 : Reads w w.heap.size 1 Bt tired.length (i64s tired)) (hls : sharp.length ≤ 30) (hlt : tired.length ≤ 30) :
    Calls Try.prog 24 #[bookV rlo rhi lots Al S.length c, .slice Bs sharp.length cs, .slice Bt tired.length ct] w fun e w' => e = .returned (.int .i64 (truthR rlo rhi lots S sharp tired)) ∧ Below w.heap.size w w' := by
  have hck := fun w1 (h : NestR w1 3 Al (nestOf S)) => refCheckBook_any rlo rhi lots Al c S w1 h hF
  have htot := hF.total
  by_cases h0 : chkBook rlo rhi lots S = 0
  rotate_left
  · have hs : truthR rlo rhi lots S sharp tired = chkBook rlo rhi lots S := by unfold truthR; rw [if_pos h0]
    rw [hs]
    unfold bookV at *
    generalize chkBook rlo rhi lots S = e at *
    refine fn_v Try.tabOk (n := 30) (A := []) Try.func24 rfl rfl (Nat.le_of_ble_eq_true rfl) (St.nil (Below.refl _ _)) ?_
    ((try first | apply tr_v Try.tabOk | apply ot_v Try.tabOk); (conv => whnf); (repeat ((first | (apply VCall.q; kernel_rfl; (focus (intro w1 hs; first | with_reducible apply hck w1 (hs.nest hN)))) | apply VBr.t | (apply v_t; omega) | (apply VNew.mk; intro g hg) | (apply VLdN.mk; (focus ((repeat (first | (with_reducible apply ldn_blk) | (with_reducible apply ldn_row) | (with_reducible assumption) | (with_reducible apply ldn_skip))); done)); exact rfl)); (conv => whnf))); try (first | apply VStop.mk | apply VCall.stop))
    ((apply VRet.mk); refine ret1 (by first | exact .inl rfl | exact .inr rfl) rfl (by exact rv_tmp rfl) ?_; exact fun w h => ⟨rfl, h.base⟩)
  · have hO := chk_ok.1 h0
    rw [h0] at hck
    obtain ⟨L, rfl⟩ : ∃ L : Nat, lots = L := ⟨lots.toNat, by have := hO.l; omega⟩
    have hta := fun w1 (h : NestR w1 3 Al (nestOf S)) => tastes_any rlo rhi L Al c S w1 h hF
    have hre : truthR rlo rhi L S sharp tired = if (sharp.length : Int) ≠ L ∨ tired.length ≠ S.flatten.length then 15 else if truthP rlo rhi S sharp tired = false then 17 else 0 := by unfold truthR; rw [if_neg (by simpa using h0)]
    have htr := fun w1 (h : NestR w1 3 Al (nestOf S)) r1 r2 l1 l2 => isTruth_any rlo rhi L Al c S w1 h hO Bs Bt cs ct sharp tired r1 r2 l1 l2
    rw [hre]
    unfold bookV at *
    clear hO hre
    refine fn_v Try.tabOk (n := 30) (A := []) Try.func24 rfl rfl (Nat.le_of_ble_eq_true rfl) (St.nil (Below.refl _ _)) ?_
    by_cases h1 : sharp.length = L
    rotate_left
    · rw [if_pos (.inl (by omega))]
      ((try first | apply tr_v Try.tabOk | apply ot_v Try.tabOk); (conv => whnf); (repeat ((first | (apply VCall.q; kernel_rfl; (focus (intro w1 hs; first | with_reducible apply hck w1 (hs.nest hN)))) | (apply VLd.mk; (focus ((repeat (first | ((with_reducible apply ld_blk); exact rfl) | ((with_reducible apply ld_row); exact rfl) | ((with_reducible apply ld_row0); exact rfl) | (with_reducible assumption) | (with_reducible exact CellAt.base (by assumption)) | (with_reducible apply ld_skip))); done))) | apply VBr.t | apply VBr.f | (apply v_t; omega) | (apply v_f; omega) | (apply VNew.mk; intro g hg) | (apply VLdN.mk; (focus ((repeat (first | (with_reducible apply ldn_blk) | (with_reducible apply ldn_row) | (with_reducible assumption) | (with_reducible apply ldn_skip))); done)); exact rfl)); (conv => whnf))); try (first | apply VStop.mk | apply VCall.stop))
      ((apply VRet.mk); refine ret1 (by first | exact .inl rfl | exact .inr rfl) rfl (by exact rv_tmp rfl) ?_; exact fun w h => ⟨rfl, h.base⟩)
    by_cases h2 : tired.length = S.flatten.length
    rotate_left
    · rw [if_pos (.inr h2)]
      ((try first | apply tr_v Try.tabOk | apply ot_v Try.tabOk); (conv => whnf); (repeat ((first | (apply VCall.q; kernel_rfl; (focus (intro w1 hs; first | with_reducible apply hck w1 (hs.nest hN)))) | (apply VLd.mk; (focus ((repeat (first | ((with_reducible apply ld_blk); exact rfl) | ((with_reducible apply ld_row); exact rfl) | ((with_reducible apply ld_row0); exact rfl) | (with_reducible assumption) | (with_reducible exact CellAt.base (by assumption)) | (with_reducible apply ld_skip))); done))) | apply VBr.f | (apply v_f; omega) | (apply VNew.mk; intro g hg) | (apply VLdN.mk; (focus ((repeat (first | (with_reducible apply ldn_blk) | (with_reducible apply ldn_row) | (with_reducible assumption) | (with_reducible apply ldn_skip))); done)); exact rfl)); (conv => whnf))); try (first | apply VStop.mk | apply VCall.stop))
      refine ot_call_ownS (t := 67) (sz := 3) (m := S.flatten.length) (xs := saidCells S.flatten) (by decide) rfl rfl rfl (by kernel_rfl) (evl_of rfl) (fun w1 hs => hta w1 (hs.nest hN)) (fun B cap hB => ?_)
      ((try first | apply tr_v Try.tabOk | apply ot_v Try.tabOk); (conv => whnf); (repeat ((first | apply VBr.t | apply VBr.f | (apply v_t; omega)); (conv => whnf))); try (first | apply VStop.mk | apply VCall.stop))
      ((apply VRet.mk); refine ret1 (by first | exact .inl rfl | exact .inr rfl) rfl (by exact rv_tmp rfl) ?_; exact fun w h => ⟨rfl, h.base⟩)
    rw [if_neg (by omega)]
    cases hv : truthP rlo rhi S sharp tired
    · rw [if_pos rfl]
      rw [hv] at htr
      ((try first | apply tr_v Try.tabOk | apply ot_v Try.tabOk); (conv => whnf); (repeat ((first | (apply VCall.q; kernel_rfl; (focus (intro w1 hs; first | with_reducible apply hck w1 (hs.nest hN)))) | (apply VLd.mk; (focus ((repeat (first | ((with_reducible apply ld_blk); exact rfl) | ((with_reducible apply ld_row); exact rfl) | ((with_reducible apply ld_row0); exact rfl) | (with_reducible assumption) | (with_reducible exact CellAt.base (by assumption)) | (with_reducible apply ld_skip))); done))) | apply VBr.f | (apply v_f; omega) | (apply VNew.mk; intro g hg) | (apply VLdN.mk; (focus ((repeat (first | (with_reducible apply ldn_blk) | (with_reducible apply ldn_row) | (with_reducible assumption) | (with_reducible apply ldn_skip))); done)); exact rfl)); (conv => whnf))); try (first | apply VStop.mk | apply VCall.stop))
      refine ot_call_ownS (t := 67) (sz := 3) (m := S.flatten.length) (xs := saidCells S.flatten) (by decide) rfl rfl rfl (by kernel_rfl) (evl_of rfl) (fun w1 hs => hta w1 (hs.nest hN)) (fun B cap hB => ?_)
      ((try first | apply tr_v Try.tabOk | apply ot_v Try.tabOk); (conv => whnf); (repeat ((first | (apply VCall.q; kernel_rfl; (focus (intro w1 hs; first | with_reducible apply htr w1 (hs.nest hN) (hs.reads hs0) (hs.reads ht0) h1 h2))) | apply VBr.t | apply VBr.f | (apply v_f; omega) | (apply VLdN.mk; (focus ((repeat (first | (with_reducible apply ldn_blk) | (with_reducible apply ldn_row) | (with_reducible assumption) | (with_reducible apply ldn_skip))); done)); exact rfl)); (conv => whnf))); try (first | apply VStop.mk | apply VCall.stop))
      ((apply VRet.mk); refine ret1 (by first | exact .inl rfl | exact .inr rfl) rfl (by exact rv_tmp rfl) ?_; exact fun w h => ⟨rfl, h.base⟩)
    · rw [if_neg (by simp)]
      rw [hv] at htr
      ((try first | apply tr_v Try.tabOk | apply ot_v Try.tabOk); (conv => whnf); (repeat ((first | (apply VCall.q; kernel_rfl; (focus (intro w1 hs; first | with_reducible apply hck w1 (hs.nest hN)))) | (apply VLd.mk; (focus ((repeat (first | ((with_reducible apply ld_blk); exact rfl) | ((with_reducible apply ld_row); exact rfl) | ((with_reducible apply ld_row0); exact rfl) | (with_reducible assumption) | (with_reducible exact CellAt.base (by assumption)) | (with_reducible apply ld_skip))); done))) | apply VBr.f | (apply v_f; omega) | (apply VNew.mk; intro g hg) | (apply VLdN.mk; (focus ((repeat (first | (with_reducible apply ldn_blk) | (with_reducible apply ldn_row) | (with_reducible assumption) | (with_reducible apply ldn_skip))); done)); exact rfl)); (conv => whnf))); try (first | apply VStop.mk | apply VCall.stop))
      refine ot_call_ownS (t := 67) (sz := 3) (m := S.flatten.length) (xs := saidCells S.flatten) (by decide) rfl rfl rfl (by kernel_rfl) (evl_of rfl) (fun w1 hs => hta w1 (hs.nest hN)) (fun B cap hB => ?_)
      ((try first | apply tr_v Try.tabOk | apply ot_v Try.tabOk); (conv => whnf); (repeat ((first | (apply VCall.q; kernel_rfl; (focus (intro w1 hs; first | with_reducible apply htr w1 (hs.nest hN) (hs.reads hs0) (hs.reads ht0) h1 h2))) | apply VBr.f | (apply v_f; omega) | (apply VLdN.mk; (focus ((repeat (first | (with_reducible apply ldn_blk) | (with_reducible apply ldn_row) | (with_reducible assumption) | (with_reducible apply ldn_skip))); done)); exact rfl)); (conv => whnf))); try (first | apply VStop.mk | apply VCall.stop))
      ((apply VRet.mk); refine ret1 (by first | exact .inl rfl | exact .inr rfl) rfl (by exact rv_tmp rfl) ?_; exact fun w h => ⟨rfl, h.base⟩)
end
/-! ## The reference: CheckRound -/
/-- Whether the names of a round are names, each of them once. -/
def argB (N : Nat) (l : List Int) (i : Nat) : Bool := decide (0 ≤ iAt l i ∧ iAt l i < N) && truthUpto (fun k => decide (iAt l k ≠ iAt l i)) i
def edgeAt (bd : Nat → Nat → Option Int) (l : List Int) (k : Nat) : Option Int := bd (iAt l k).toNat (iAt l ((k + 1) % l.length)).toNat
/-- The sum of the bounds of a round, so far. -/
def sumUpto (f : Nat → Option Int) : Nat → Option Int
  | 0 => some 0
  | k + 1 => match sumUpto f k, f k with
    | some a, some b => some (a + b)
    | _, _ => none
theorem sumUpto_some {f : Nat → Option Int} {k : Nat} {a b : Int} (h : sumUpto f k = some a) (hb : f k = some b) : sumUpto f (k + 1) = some (a + b) := by
  rw [sumUpto, h, hb]
theorem sumUpto_none {f : Nat → Option Int} {k : Nat} (h : f k = none) : ∀ n, k < n → sumUpto f n = none
  | 0, hn => by omega
  | n + 1, hn => by
    rw [sumUpto]
    rcases Nat.lt_or_ge k n with h1 | h1
    · rw [sumUpto_none h n h1]
    · have e : k = n := by omega
      subst e
      rw [h]
      cases sumUpto f k <;> rfl
theorem sumUpto_le {f : Nat → Option Int} (hf : ∀ k x, f k = some x → -1000 ≤ x ∧ x ≤ 1000) : ∀ n a, sumUpto f n = some a → -(1000 * (n : Int)) ≤ a ∧ a ≤ 1000 * (n : Int)
  | 0, a, h => by cases h; simp
  | n + 1, a, h => by
    rw [sumUpto] at h
    cases h1 : sumUpto f n with
    | none => rw [h1] at h; cases h
    | some x =>
      cases h2 : f n with
      | none => rw [h1, h2] at h; cases h
      | some y =>
        rw [h1, h2] at h
        cases h
        have := sumUpto_le hf n x h1
        have := hf n y h2
        push_cast
        omega
/-- CheckRound, plainly, for a valid book. -/
def roundOf (N : Nat) (bd : Nat → Nat → Option Int) (l : List Int) : Int × Int :=
  if l.length = 0 then (0, 6) else if truthUpto (argB N l) l.length = false then (0, 2) else
    match sumUpto (edgeAt bd l) l.length with
    | none => (0, 16)
    | some s => if 0 ≤ s then (0, 14) else (-s, 0)
def roundR (rlo rhi lots : Int) (S : List (List T3)) (l : List Int) : Int × Int :=
  if chkBook rlo rhi lots S ≠ 0 then (0, chkBook rlo rhi lots S) else roundOf (1 + lots.toNat + S.flatten.length) (bnd rlo rhi lots.toNat S (-1)) l
theorem tmod_step {k n : Nat} (h : k < n) : Int.tmod ((k : Int) + 1) n = (((k + 1) % n : Nat) : Int) := by
  rw [show (k : Int) + 1 = ((k + 1 : Nat) : Int) by push_cast; rfl]
  exact (Int.ofNat_tmod (k + 1) n).symm
section
variable (rlo rhi lots : Int) (Al : Option Addr) (c : Nat) (S : List (List T3)) (w : World) (hN : NestR w 3 Al (nestOf S)) (hF : Fit S)
include hN hF
set_option maxHeartbeats 4000000 in
set_option maxRecDepth 20000 in
theorem refCheckRound_any (Bs : Option Addr) (cs : Nat) (l : List Int) (hs0 : Reads w w.heap.size 1 Bs l.length (i64s l)) (hls : l.length ≤ 30) :
    Calls Try.prog 35 #[bookV rlo rhi lots Al S.length c, .slice Bs l.length cs] w fun e w' => e = .returned (.tuple #[.int .i64 (roundR rlo rhi lots S l).1, .int .i64 (roundR rlo rhi lots S l).2]) ∧ Below w.heap.size w w' := by
  have hck := fun w1 (h : NestR w1 3 Al (nestOf S)) => refCheckBook_any rlo rhi lots Al c S w1 h hF
  have htot := hF.total
  by_cases h0 : chkBook rlo rhi lots S = 0
  rotate_left
  · have hs : roundR rlo rhi lots S l = (0, chkBook rlo rhi lots S) := by unfold roundR; rw [if_pos h0]
    rw [hs]
    unfold bookV at *
    generalize chkBook rlo rhi lots S = e at *
    refine fn_v Try.tabOk (n := 85) (A := []) Try.func35 rfl rfl (Nat.le_of_ble_eq_true rfl) (St.nil (Below.refl _ _)) ?_
    ((try first | apply tr_v Try.tabOk | apply ot_v Try.tabOk); (conv => whnf); (repeat ((first | (apply VCall.q; kernel_rfl; (focus (intro w1 hs; first | with_reducible apply hck w1 (hs.nest hN)))) | apply VBr.t | (apply v_t; omega) | (apply VNew.mk; intro g hg) | (apply VLdN.mk; (focus ((repeat (first | (with_reducible apply ldn_blk) | (with_reducible apply ldn_row) | (with_reducible assumption) | (with_reducible apply ldn_skip))); done)); exact rfl)); (conv => whnf))); try (first | apply VStop.mk | apply VCall.stop))
    (apply VRet.mk)
    refine ret2 (by first | exact .inl rfl | exact .inr rfl) rfl (by exact rv_tmp rfl) (by exact rv_tmp rfl) ?_
    exact fun w h => ⟨rfl, h.base⟩
  · have hO := chk_ok.1 h0
    rw [h0] at hck
    obtain ⟨L, rfl⟩ : ∃ L : Nat, lots = L := ⟨lots.toNat, by have := hO.l; omega⟩
    have hl := hO.l
    have ht := hO.t
    have hnm := fun w1 (h : NestR w1 3 Al (nestOf S)) => names_any rlo rhi L Al c S w1 h hF (by omega)
    have hbn := fun i k hi hk w1 (h : NestR w1 3 Al (nestOf S)) => bound_any rlo rhi L Al c S w1 h hO (-1) i k hi hk
    have hsm := fun i k hi hk => bnd_small rlo rhi L Al S w hN hO (-1) i k hi hk
    have hre : roundR rlo rhi L S l = roundOf (1 + L + S.flatten.length) (bnd rlo rhi L S (-1)) l := by unfold roundR; rw [if_neg (by simpa using h0), Int.toNat_natCast]
    rw [hre]
    unfold bookV at *
    generalize hNn : 1 + L + S.flatten.length = N at *
    rw [show (1 : Int) + L + S.flatten.length = (N : Int) by omega] at hnm
    have hN20 : N ≤ 19 := by omega
    clear hO hre
    generalize bnd rlo rhi L S (-1) = bf at *
    by_cases hl0 : l.length = 0
    · rw [show roundOf N bf l = (0, 6) by unfold roundOf; rw [if_pos hl0]]
      refine fn_v Try.tabOk (n := 85) (A := []) Try.func35 rfl rfl (Nat.le_of_ble_eq_true rfl) (St.nil (Below.refl _ _)) ?_
      ((try first | apply tr_v Try.tabOk | apply ot_v Try.tabOk); (conv => whnf); (repeat ((first | (apply VCall.q; kernel_rfl; (focus (intro w1 hs; first | with_reducible apply hck w1 (hs.nest hN)))) | apply VBr.t | apply VBr.f | (apply v_t; omega) | (apply v_f; omega) | (apply VNew.mk; intro g hg) | (apply VLdN.mk; (focus ((repeat (first | (with_reducible apply ldn_blk) | (with_reducible apply ldn_row) | (with_reducible assumption) | (with_reducible apply ldn_skip))); done)); exact rfl)); (conv => whnf))); try (first | apply VStop.mk | apply VCall.stop))
      (apply VRet.mk)
      refine ret2 (by first | exact .inl rfl | exact .inr rfl) rfl (by exact rv_tmp rfl) (by exact rv_tmp rfl) ?_
      exact fun w h => ⟨rfl, h.base⟩
    obtain ⟨bs, os, rfl, _⟩ := hs0.2 (by omega)
    have hsc := fun k (h : k < l.length) => iAt_cell hs0 h
    refine fn_v Try.tabOk (n := 85) (A := []) Try.func35 rfl rfl (Nat.le_of_ble_eq_true rfl) (St.nil (Below.refl _ _)) ?_
    ((try first | apply tr_v Try.tabOk | apply ot_v Try.tabOk); (conv => whnf); (repeat ((first | (apply VCall.q; kernel_rfl; (focus (intro w1 hs; first | with_reducible apply hck w1 (hs.nest hN)))) | apply VBr.f | (apply v_f; omega) | (apply VNew.mk; intro g hg) | (apply VLdN.mk; (focus ((repeat (first | (with_reducible apply ldn_blk) | (with_reducible apply ldn_row) | (with_reducible assumption) | (with_reducible apply ldn_skip))); done)); exact rfl)); (conv => whnf))); try (first | apply VStop.mk | apply VCall.stop))
    refine v_loop (fun gm ds ts A => ds = [] ∧ ∃ i, i + gm = l.length ∧ (∀ j, j < i → argB N l j = true) ∧ A = [.blk g 26 [.int .i64 rlo, .int .i64 rhi, .int .i64 L, .slice Al S.length c]] ∧ ts = [(1, .slice (some ⟨bs, os, none⟩) l.length cs), (2, .pointer (some ⟨g, 0, none⟩)), (6, .int .i64 (l.length : Int)), (7, .int .i64 (i : Int))]) l.length
      (l := [(1, _), (2, _), (6, _), (7, _)]) (B := _) ?_ (List.Sublist.refl _) ⟨rfl, 0, by omega, fun j hj => by omega, rfl, rfl⟩ ?_
    · exact ⟨rfl, rfl, rfl, rfl, trivial⟩
    rintro gm ds ts A ⟨rfl, i, hi, hall, rfl, rfl⟩
    by_cases hlti : i < l.length
    · have hci := hsc i hlti
      have hno : argB N l i = false → roundOf N bf l = (0, 2) := fun h => by unfold roundOf; rw [if_neg hl0, truthUpto_no hlti h, if_pos rfl]
      by_cases hneg : iAt l i < 0
      · rw [hno (by unfold argB; rw [decide_eq_false (by omega), Bool.false_and])]
        ((try first | apply tr_v Try.tabOk | apply ot_v Try.tabOk); (conv => whnf); (repeat ((first | ((first | apply VStop.mk | apply VCall.stop); (first | refine tr_region_lex (id := 9) (by kernel_rfl) [.rd, .rd, .rd, .rd, .rd, .rd, .rd, .rd, .rd, .rd, .rd, .cr, .rd, .rd] rfl (by kernel_rfl) ?_); try first | apply ot_v Try.tabOk | apply tr_v Try.tabOk) | (apply VLd.mk; exact hci _) | apply VBr.t | (apply v_t; omega) | (apply VIx.mk; exact rfl; omega)); (conv => whnf))); try (first | apply VStop.mk | apply VCall.stop))
        (apply VRet.mk)
        refine ret2 (by first | exact .inl rfl | exact .inr rfl) rfl (by exact rv_tmp rfl) (by exact rv_tmp rfl) ?_
        exact fun w h => ⟨rfl, h.base⟩
      by_cases hbig : (N : Int) ≤ iAt l i
      · rw [hno (by unfold argB; rw [decide_eq_false (by omega), Bool.false_and])]
        ((try first | apply tr_v Try.tabOk | apply ot_v Try.tabOk); (conv => whnf); (repeat ((first | ((first | apply VStop.mk | apply VCall.stop); (first | refine tr_region_lex (id := 9) (by kernel_rfl) [.rd, .rd, .rd, .rd, .rd, .rd, .rd, .rd, .rd, .rd, .rd, .cr, .rd, .rd] rfl (by kernel_rfl) ?_); try first | apply ot_v Try.tabOk | apply tr_v Try.tabOk) | (apply VLd.mk; exact hci _) | (apply VCall.q; kernel_rfl; (focus (intro w1 hs; first | with_reducible apply hnm w1 (hs.nest hN)))) | apply VBr.t | apply VBr.f | (apply v_t; omega) | (apply v_f; omega) | (apply VIx.mk; exact rfl; omega) | (apply VLdN.mk; (focus ((repeat (first | (with_reducible apply ldn_blk) | (with_reducible apply ldn_row) | (with_reducible assumption) | (with_reducible apply ldn_skip))); done)); exact rfl)); (conv => whnf))); try (first | apply VStop.mk | apply VCall.stop))
        (apply VRet.mk)
        refine ret2 (by first | exact .inl rfl | exact .inr rfl) rfl (by exact rv_tmp rfl) (by exact rv_tmp rfl) ?_
        exact fun w h => ⟨rfl, h.base⟩
      ((try first | apply tr_v Try.tabOk | apply ot_v Try.tabOk); (conv => whnf); (repeat ((first | ((first | apply VStop.mk | apply VCall.stop); (first | refine tr_region_lex (id := 9) (by kernel_rfl) [.rd, .rd, .rd, .rd, .rd, .rd, .rd, .rd, .rd, .rd, .rd, .cr, .rd, .rd] rfl (by kernel_rfl) ?_); try first | apply ot_v Try.tabOk | apply tr_v Try.tabOk) | (apply VLd.mk; exact hci _) | (apply VCall.q; kernel_rfl; (focus (intro w1 hs; first | with_reducible apply hnm w1 (hs.nest hN)))) | apply VBr.t | apply VBr.f | (apply v_t; omega) | (apply v_f; omega) | (apply VIx.mk; exact rfl; omega) | (apply VLdN.mk; (focus ((repeat (first | (with_reducible apply ldn_blk) | (with_reducible apply ldn_row) | (with_reducible assumption) | (with_reducible apply ldn_skip))); done)); exact rfl)); (conv => whnf))); try (first | apply VStop.mk | apply VCall.stop))
      refine v_loop (fun gm' ds ts A => ds = [] ∧ ∃ k, k + gm' = i ∧ (∀ j, j < k → decide (iAt l j ≠ iAt l i) = true) ∧ A = [.blk g 26 [.int .i64 rlo, .int .i64 rhi, .int .i64 L, .slice Al S.length c]] ∧ ts = [(1, .slice (some ⟨bs, os, none⟩) l.length cs), (2, .pointer (some ⟨g, 0, none⟩)), (6, .int .i64 (l.length : Int)), (7, .int .i64 (i : Int)), (8, .int .i64 (k : Int))]) i
        (l := [(1, _), (2, _), (6, _), (7, _), (8, _)]) (B := _) ?_ (List.Sublist.refl _) ⟨rfl, 0, by omega, fun j hj => by omega, rfl, rfl⟩ ?_
      · exact ⟨rfl, rfl, rfl, rfl, rfl, trivial⟩
      rintro gm' ds ts A ⟨rfl, k, hk, hallk, rfl, rfl⟩
      by_cases hltk : k < i
      · have hck' := hsc k (by omega)
        by_cases heq : iAt l k = iAt l i
        · rw [hno (by unfold argB; rw [truthUpto_no hltk (decide_eq_false (by simpa using heq)), Bool.and_false])]
          ((try first | apply tr_v Try.tabOk | apply ot_v Try.tabOk); (conv => whnf); (repeat ((first | ((first | apply VStop.mk | apply VCall.stop); (first | refine tr_region_lex (id := 14) (by kernel_rfl) [.rd, .rd, .rd, .rd, .rd, .rd, .rd, .rd, .rd] rfl (by kernel_rfl) ?_); try first | apply ot_v Try.tabOk | apply tr_v Try.tabOk) | (apply VLd.mk; first | exact hck' _ | exact hci _) | apply VBr.t | (apply v_t; omega) | (apply VIx.mk; exact rfl; omega)); (conv => whnf))); try (first | apply VStop.mk | apply VCall.stop))
          (apply VRet.mk)
          refine ret2 (by first | exact .inl rfl | exact .inr rfl) rfl (by exact rv_tmp rfl) (by exact rv_tmp rfl) ?_
          exact fun w h => ⟨rfl, h.base⟩
        · ((try first | apply tr_v Try.tabOk | apply ot_v Try.tabOk); (conv => whnf); (repeat ((first | ((first | apply VStop.mk | apply VCall.stop); (first | refine tr_region_lex (id := 14) (by kernel_rfl) [.rd, .rd, .rd, .rd, .rd, .rd, .rd, .rd, .rd] rfl (by kernel_rfl) ?_); try first | apply ot_v Try.tabOk | apply tr_v Try.tabOk) | (apply VLd.mk; first | exact hck' _ | exact hci _) | (apply VRng.mk; omega) | apply VBr.t | apply VBr.f | (apply v_t; omega) | (apply v_f; omega) | (apply VIx.mk; exact rfl; omega)); (conv => whnf))); try (first | apply VStop.mk | apply VCall.stop))
          exact v_rnd (gm' - 1) (by omega) (l := [(1, _), (2, _), (6, _), (7, _), (8, _)]) (B := _) ⟨rfl, rfl, rfl, rfl, rfl, trivial⟩ (List.Sublist.refl _) ⟨rfl, k + 1, by omega, fun j hj => by
            rcases Nat.lt_or_ge j k with h | h
            · exact hallk j h
            · obtain rfl : j = k := by omega
              exact decide_eq_true heq, rfl, rfl⟩
      · obtain rfl : k = i := by omega
        have hok : argB N l k = true := by unfold argB; rw [decide_eq_true (by omega), (truthUpto_all _).2 hallk]; rfl
        ((try first | apply tr_v Try.tabOk | apply ot_v Try.tabOk); (conv => whnf); (repeat ((first | (apply VRng.mk; omega) | apply VBr.f | (apply v_f; omega)); (conv => whnf))); try (first | apply VStop.mk | apply VCall.stop))
        exact v_rnd (gm - 1) (by omega) (l := [(1, _), (2, _), (6, _), (7, _)]) (B := _) ⟨rfl, rfl, rfl, rfl, trivial⟩ (List.Sublist.refl _) ⟨rfl, k + 1, by omega, fun j hj => by
          rcases Nat.lt_or_ge j k with h | h
          · exact hall j h
          · obtain rfl : j = k := by omega
            exact hok, rfl, rfl⟩
    · have hin : ∀ j, j < l.length → 0 ≤ iAt l j ∧ iAt l j < N := fun j hj => by
        have := hall j (by omega)
        unfold argB at this
        rw [Bool.and_eq_true] at this
        exact of_decide_eq_true this.1
      have hro : roundOf N bf l = match sumUpto (edgeAt bf l) l.length with
          | none => (0, 16)
          | some s => if 0 ≤ s then (0, 14) else (-s, 0) := by unfold roundOf; rw [if_neg hl0, (truthUpto_all _).2 (fun j hj => hall j (by omega)), if_neg (by simp)]
      rw [hro]
      have hsm' : ∀ k x, k < l.length → edgeAt bf l k = some x → -1000 ≤ x ∧ x ≤ 1000 := fun k x hk h => by
        have h1 := hin k hk
        have h2 := hin ((k + 1) % l.length) (Nat.mod_lt _ (by omega))
        have := hsm (iAt l k).toNat (iAt l ((k + 1) % l.length)).toNat (by omega) (by omega)
        unfold edgeAt at h
        rw [h] at this
        exact this
      clear hall
      ((try first | apply tr_v Try.tabOk | apply ot_v Try.tabOk); (conv => whnf); (repeat ((first | apply VBr.f | (apply v_f; omega)); (conv => whnf))); try (first | apply VStop.mk | apply VCall.stop))
      refine v_loop (fun gm' ds ts A => ds = [] ∧ ∃ (k : Nat) (s : Int), k + gm' = l.length ∧ sumUpto (edgeAt bf l) k = some s ∧ -(1000 * (k : Int)) ≤ s ∧ s ≤ 1000 * (k : Int) ∧ A = [.blk g 26 [.int .i64 rlo, .int .i64 rhi, .int .i64 L, .slice Al S.length c]] ∧ ts = [(1, .slice (some ⟨bs, os, none⟩) l.length cs), (2, .pointer (some ⟨g, 0, none⟩)), (6, .int .i64 (l.length : Int)), (9, .int .i64 s), (10, .int .i64 (k : Int))]) l.length
        (l := [(1, _), (2, _), (6, _), (9, _), (10, _)]) (B := _) ?_ (List.Sublist.refl _) ⟨rfl, 0, 0, by omega, rfl, by omega, by omega, rfl, rfl⟩ ?_
      · exact ⟨rfl, rfl, rfl, rfl, rfl, trivial⟩
      rintro gm' ds ts A ⟨rfl, k, s, hk, hsum, hs1, hs2, rfl, rfl⟩
      by_cases hltk : k < l.length
      · have hm := Nat.mod_lt (k + 1) (show l.length > 0 by omega)
        have ht1 := tmod_step hltk
        have hc1 := hsc k hltk
        have hc2 := hsc _ hm
        have hb1 := hin k hltk
        have hb2 := hin _ hm
        have hed : edgeAt bf l k = bf (iAt l k).toNat (iAt l ((k + 1) % l.length)).toNat := rfl
        have hsk := hsm' k
        generalize (k + 1) % l.length = k' at *
        obtain ⟨x1, hx1⟩ : ∃ x1 : Nat, iAt l k = x1 := ⟨(iAt l k).toNat, by omega⟩
        obtain ⟨x2, hx2⟩ : ∃ x2 : Nat, iAt l k' = x2 := ⟨(iAt l k').toNat, by omega⟩
        rw [hx1, hx2, Int.toNat_natCast, Int.toNat_natCast] at hed
        rw [hx1] at hc1 hb1
        rw [hx2] at hc2 hb2
        have hbc := hbn x1 x2 (by omega) (by omega)
        rw [← hed] at hbc
        cases hv : edgeAt bf l k with
        | none =>
          rw [hv, Option.getD_none, Option.isSome_none] at hbc
          rw [sumUpto_none hv _ hltk]
          ((try first | apply tr_v Try.tabOk | apply ot_v Try.tabOk); (conv => whnf); (repeat ((first | ((first | apply VStop.mk | apply VCall.stop); (first | refine tr_region_lex (id := 20) (by kernel_rfl) [.rd, .rd, .rd, .rd, .rd, .rd, .rd, .rd, .rd, .rd, .rd, .rd, .cr, .rd, .rd, .rd, .rd, .rd] rfl (by kernel_rfl) ?_); try first | apply ot_v Try.tabOk | apply tr_v Try.tabOk) | (apply VIx.mk (j := k'); (first | exact ht1 | fail); omega) | (apply VLd.mk; first | exact hc1 _ | exact hc2 _) | (apply VCall.q; kernel_rfl; (focus (intro w1 hs; first | with_reducible apply hbc w1 (hs.nest hN)))) | (apply VRng.mk; omega) | apply VBr.t | (apply v_t; omega) | (apply VIx.mk; exact rfl; omega) | (apply VLdN.mk; (focus ((repeat (first | (with_reducible apply ldn_blk) | (with_reducible apply ldn_row) | (with_reducible assumption) | (with_reducible apply ldn_skip))); done)); exact rfl) | (apply VNz.mk; omega)); (conv => whnf))); try (first | apply VStop.mk | apply VCall.stop))
          (apply VRet.mk)
          refine ret2 (by first | exact .inl rfl | exact .inr rfl) rfl (by exact rv_tmp rfl) (by exact rv_tmp rfl) ?_
          exact fun w h => ⟨rfl, h.base⟩
        | some x =>
          rw [hv, Option.getD_some, Option.isSome_some] at hbc
          have hx := hsk x hltk hv
          ((try first | apply tr_v Try.tabOk | apply ot_v Try.tabOk); (conv => whnf); (repeat ((first | ((first | apply VStop.mk | apply VCall.stop); (first | refine tr_region_lex (id := 20) (by kernel_rfl) [.rd, .rd, .rd, .rd, .rd, .rd, .rd, .rd, .rd, .rd, .rd, .rd, .cr, .rd, .rd, .rd, .rd, .rd] rfl (by kernel_rfl) ?_); try first | apply ot_v Try.tabOk | apply tr_v Try.tabOk) | (apply VIx.mk (j := k'); (first | exact ht1 | fail); omega) | (apply VLd.mk; first | exact hc1 _ | exact hc2 _) | (apply VCall.q; kernel_rfl; (focus (intro w1 hs; first | with_reducible apply hbc w1 (hs.nest hN)))) | (apply VRng.mk; omega) | apply VBr.t | apply VBr.f | (apply v_t; omega) | (apply VIx.mk; exact rfl; omega) | (apply VLdN.mk; (focus ((repeat (first | (with_reducible apply ldn_blk) | (with_reducible apply ldn_row) | (with_reducible assumption) | (with_reducible apply ldn_skip))); done)); exact rfl) | (apply VNz.mk; omega)); (conv => whnf))); try (first | apply VStop.mk | apply VCall.stop))
          exact v_rnd (gm' - 1) (by omega) (l := [(1, _), (2, _), (6, _), (9, _), (10, _)]) (B := _) ⟨rfl, rfl, rfl, rfl, rfl, trivial⟩ (List.Sublist.refl _) ⟨rfl, k + 1, s + x, by omega, sumUpto_some hsum hv, by omega, by omega, rfl, rfl⟩
      · obtain rfl : k = l.length := by omega
        rw [hsum]
        dsimp only
        by_cases hge : 0 ≤ s
        · rw [if_pos hge]
          ((try first | apply tr_v Try.tabOk | apply ot_v Try.tabOk); (conv => whnf); (repeat ((first | apply VBr.t | apply VBr.f | (apply v_t; omega) | (apply v_f; omega)); (conv => whnf))); try (first | apply VStop.mk | apply VCall.stop))
          (apply VRet.mk)
          refine ret2 (by first | exact .inl rfl | exact .inr rfl) rfl (by exact rv_tmp rfl) (by exact rv_tmp rfl) ?_
          exact fun w h => ⟨rfl, h.base⟩
        · rw [if_neg hge]
          ((try first | apply tr_v Try.tabOk | apply ot_v Try.tabOk); (conv => whnf); (repeat ((first | (apply VRng.mk; omega) | apply VBr.f | (apply v_f; omega)); (conv => whnf))); try (first | apply VStop.mk | apply VCall.stop))
          (apply VRet.mk)
          refine ret2 (by first | exact .inl rfl | exact .inr rfl) rfl (by exact rv_tmp rfl) (by exact rv_tmp rfl) ?_
          exact fun w h => ⟨rfl, h.base⟩
end
end Go.Proofs.Ytkbcogaodnmdoaa
