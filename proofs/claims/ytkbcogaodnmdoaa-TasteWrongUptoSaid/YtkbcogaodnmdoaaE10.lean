/- The reference: what rests on it: lemmas for the rows of this seat. No conditions. -/
import Derived.Test.YtkbcogaodnmdoaaProg
import Derived.WalkKit
import Derived.WalkSpells
import Derived.WalkLawsBesides
import Derived.Lib.Hide
import Derived.Deep.AppendLies
import Derived.Deep.Draws
import Derived.Maps.AppendAt
import Derived.RegionTactic
import Derived.OwnWalk
import Derived.Deep.QuietTactic
import Derived.BigQuiet
import Derived.Deep.DeepFit
import Derived.Deep.LoopGhost
import Derived.Deep.DeepMust
import Derived.Deep.DeepCutAuto
import Derived.StillTail
import Derived.Deep.Quiet
import Derived.Deep.RegionHeld3
import Derived.Deep.RegionWith
import Derived.Deep.RegionLaw
import Derived.Maps.OwnOps
import Derived.Maps.OwnSet
import Derived.Maps.OwnRows
import Derived.Maps.RangeWalk
import Derived.Carry
import Derived.Test.YtkbcogaodnmdoaaBase
import Derived.Test.YtkbcogaodnmdoaaMaps
import Derived.Test.YtkbcogaodnmdoaaKeys
import Derived.Test.YtkbcogaodnmdoaaS1
import Derived.Test.YtkbcogaodnmdoaaS5
import Derived.Test.YtkbcogaodnmdoaaS14
import Derived.Test.YtkbcogaodnmdoaaV
import Derived.Test.YtkbcogaodnmdoaaTab
import Derived.Test.YtkbcogaodnmdoaaE1
import Derived.Test.YtkbcogaodnmdoaaE2
import Derived.Test.YtkbcogaodnmdoaaE3
import Derived.Test.YtkbcogaodnmdoaaE4
import Derived.Test.YtkbcogaodnmdoaaE5
import Derived.Test.YtkbcogaodnmdoaaE6
import Derived.Test.YtkbcogaodnmdoaaE7
import Derived.Test.YtkbcogaodnmdoaaE8
import Derived.Test.YtkbcogaodnmdoaaE9
set_option linter.all false
namespace Go.Proofs.Ytkbcogaodnmdoaa
open Go.RowKit
/-! ## The reference: what rests on it -/
/-- Wrong, plainly. -/
def wrongUpto (f : Nat → Bool) : Nat → List Int
  | 0 => []
  | k + 1 => if f k then wrongUpto f k ++ [(k : Int)] else wrongUpto f k
def wrongR (rlo rhi lots : Int) (S : List (List T3)) : List Int × Int := if chkBook rlo rhi lots S ≠ 0 then ([], chkBook rlo rhi lots S) else (wrongUpto (fun k => canB rlo rhi lots.toNat S k) S.flatten.length, 0)
def OneRet (r : List Int × Int) (w : World) (e : Ending) (w' : World) : Prop := ∃ x : Value, e = .returned (.tuple #[x, .int .i64 r.2]) ∧ St w [.own x 3 1 r.1.length (i64s r.1)] w'
theorem one_nil (q : Int) {w w' : World} {A : List Chunk} (h : St w A w') : OneRet ([], q) w (.returned (.tuple #[.slice none 0 0, .int .i64 q])) w' :=
  ⟨.slice none 0 0, rfl, h.base, fun c hc => by rw [List.mem_singleton] at hc; subst hc; exact World.ownsRow_nil _ _ _ _, .cons (fun d hd => by cases hd) .nil⟩
theorem wrongUpto_le (f : Nat → Bool) : ∀ k, (wrongUpto f k).length ≤ k
  | 0 => by simp [wrongUpto]
  | k + 1 => by
    have := wrongUpto_le f k
    unfold wrongUpto
    split
    · simp; omega
    · omega
section
variable (rlo rhi lots : Int) (Al : Option Addr) (c : Nat) (S : List (List T3)) (w : World) (hN : NestR w 3 Al (nestOf S)) (hF : Fit S)
include hN hF
set_option maxRecDepth 20000 in
theorem refLeast_any : Calls Try.prog 26 #[bookV rlo rhi lots Al S.length c] w (TwoRet (endR rlo rhi lots S false) w) := by
  have he := fun w1 (h : NestR w1 3 Al (nestOf S)) => refEnd_any rlo rhi lots Al c S w1 h hF false
  unfold bookV at *
  generalize endR rlo rhi lots S false = r at *
  refine fn_v Try.tabOk (n := 10) (A := []) Try.func26 rfl rfl (Nat.le_of_ble_eq_true rfl) (St.nil (Below.refl _ _)) ?_
  ((try first | apply tr_v Try.tabOk | apply ot_v Try.tabOk); (conv => whnf); (repeat ((first | (apply VNew.mk; intro g hg) | (apply VLdN.mk; (focus ((repeat (first | (with_reducible apply ldn_blk) | (with_reducible apply ldn_row) | (with_reducible assumption) | (with_reducible apply ldn_skip))); done)); exact rfl)); (conv => whnf))); try (first | apply VStop.mk | apply VCall.stop))
  refine ot_call_st (X := Value × Value) (fun x => .tuple #[x.1, x.2, .int .i64 r.2.2]) (fun x => [.own x.1 2 1 r.1.length (i64s r.1), .own x.2 2 1 r.2.1.length (i64s r.2.1)]) (fun x c hc => by simp at hc; rcases hc with rfl | rfl <;> rfl) (by decide) rfl rfl rfl (by kernel_rfl) (evl_of rfl) (fun w1 hs => he w1 (hs.nest hN)) (fun x => ?_)
  ((try first | apply tr_v Try.tabOk | apply ot_v Try.tabOk); (conv => whnf); try (first | apply VStop.mk | apply VCall.stop))
  (apply VRet.mk)
  refine ret3 (by first | exact .inl rfl | exact .inr rfl) rfl (by exact rv_tmp rfl) (by exact rv_tmp rfl) (by exact rv_tmp rfl) ?_
  exact fun w1 hs => ⟨x, rfl, hs.sub (.cons_cons _ (.cons_cons _ (List.nil_sublist _)))⟩
set_option maxRecDepth 20000 in
theorem refGreatest_any : Calls Try.prog 28 #[bookV rlo rhi lots Al S.length c] w (TwoRet (endR rlo rhi lots S true) w) := by
  have he := fun w1 (h : NestR w1 3 Al (nestOf S)) => refEnd_any rlo rhi lots Al c S w1 h hF true
  unfold bookV at *
  generalize endR rlo rhi lots S true = r at *
  refine fn_v Try.tabOk (n := 10) (A := []) Try.func28 rfl rfl (Nat.le_of_ble_eq_true rfl) (St.nil (Below.refl _ _)) ?_
  ((try first | apply tr_v Try.tabOk | apply ot_v Try.tabOk); (conv => whnf); (repeat ((first | (apply VNew.mk; intro g hg) | (apply VLdN.mk; (focus ((repeat (first | (with_reducible apply ldn_blk) | (with_reducible apply ldn_row) | (with_reducible assumption) | (with_reducible apply ldn_skip))); done)); exact rfl)); (conv => whnf))); try (first | apply VStop.mk | apply VCall.stop))
  refine ot_call_st (X := Value × Value) (fun x => .tuple #[x.1, x.2, .int .i64 r.2.2]) (fun x => [.own x.1 2 1 r.1.length (i64s r.1), .own x.2 2 1 r.2.1.length (i64s r.2.1)]) (fun x c hc => by simp at hc; rcases hc with rfl | rfl <;> rfl) (by decide) rfl rfl rfl (by kernel_rfl) (evl_of rfl) (fun w1 hs => he w1 (hs.nest hN)) (fun x => ?_)
  ((try first | apply tr_v Try.tabOk | apply ot_v Try.tabOk); (conv => whnf); try (first | apply VStop.mk | apply VCall.stop))
  (apply VRet.mk)
  refine ret3 (by first | exact .inl rfl | exact .inr rfl) rfl (by exact rv_tmp rfl) (by exact rv_tmp rfl) (by exact rv_tmp rfl) ?_
  exact fun w1 hs => ⟨x, rfl, hs.sub (.cons_cons _ (.cons_cons _ (List.nil_sublist _)))⟩
/-- RoundError, plainly. -/
def roundErr (rlo rhi lots : Int) (S : List (List T3)) : Int := if chkBook rlo rhi lots S ≠ 0 then chkBook rlo rhi lots S else if canB rlo rhi lots.toNat S (-1) = true then 5 else 0
set_option maxRecDepth 20000 in
theorem roundErr_any : Calls Try.prog 37 #[bookV rlo rhi lots Al S.length c] w fun e w' => e = .returned (.int .i64 (roundErr rlo rhi lots S)) ∧ Below w.heap.size w w' := by
  have hck := fun w1 (h : NestR w1 3 Al (nestOf S)) => refCheckBook_any rlo rhi lots Al c S w1 h hF
  by_cases h0 : chkBook rlo rhi lots S = 0
  rotate_left
  · have hs : roundErr rlo rhi lots S = chkBook rlo rhi lots S := by unfold roundErr; rw [if_pos h0]
    rw [hs]
    unfold bookV at *
    generalize chkBook rlo rhi lots S = e at *
    refine fn_v Try.tabOk (n := 10) (A := []) Try.func37 rfl rfl (Nat.le_of_ble_eq_true rfl) (St.nil (Below.refl _ _)) ?_
    ((try first | apply tr_v Try.tabOk | apply ot_v Try.tabOk); (conv => whnf); (repeat ((first | (apply VCall.q; kernel_rfl; (focus (intro w1 hs; first | with_reducible apply hck w1 (hs.nest hN)))) | apply VBr.t | (apply v_t; omega) | (apply VNew.mk; intro g hg) | (apply VLdN.mk; (focus ((repeat (first | (with_reducible apply ldn_blk) | (with_reducible apply ldn_row) | (with_reducible assumption) | (with_reducible apply ldn_skip))); done)); exact rfl)); (conv => whnf))); try (first | apply VStop.mk | apply VCall.stop))
    ((apply VRet.mk); refine ret1 (by first | exact .inl rfl | exact .inr rfl) rfl (by exact rv_tmp rfl) ?_; exact fun w h => ⟨rfl, h.base⟩)
  · have hO := chk_ok.1 h0
    rw [h0] at hck
    obtain ⟨L, rfl⟩ : ∃ L : Nat, lots = L := ⟨lots.toNat, by have := hO.l; omega⟩
    have hca := fun w1 (h : NestR w1 3 Al (nestOf S)) => can_any rlo rhi L Al c S w1 h hO (-1) (1 + L + S.flatten.length) rfl
    have hre : roundErr rlo rhi L S = if canB rlo rhi L S (-1) = true then 5 else 0 := by unfold roundErr; rw [if_neg (by simpa using h0), Int.toNat_natCast]
    rw [hre]
    change ∀ w1, _ → Calls _ _ _ w1 fun e w' => e = .returned (.bool (canB rlo rhi L S (-1))) ∧ _ at hca
    generalize canB rlo rhi L S (-1) = cb at *
    unfold bookV at *
    refine fn_v Try.tabOk (n := 10) (A := []) Try.func37 rfl rfl (Nat.le_of_ble_eq_true rfl) (St.nil (Below.refl _ _)) ?_
    cases cb
    · ((try first | apply tr_v Try.tabOk | apply ot_v Try.tabOk); (conv => whnf); (repeat ((first | (apply VCall.q; kernel_rfl; (focus (intro w1 hs; first | with_reducible apply hck w1 (hs.nest hN) | with_reducible apply hca w1 (hs.nest hN)))) | apply VBr.f | (apply v_f; omega) | (apply VNew.mk; intro g hg) | (apply VLdN.mk; (focus ((repeat (first | (with_reducible apply ldn_blk) | (with_reducible apply ldn_row) | (with_reducible assumption) | (with_reducible apply ldn_skip))); done)); exact rfl)); (conv => whnf))); try (first | apply VStop.mk | apply VCall.stop))
      ((apply VRet.mk); refine ret1 (by first | exact .inl rfl | exact .inr rfl) rfl (by exact rv_tmp rfl) ?_; exact fun w h => ⟨rfl, h.base⟩)
    · ((try first | apply tr_v Try.tabOk | apply ot_v Try.tabOk); (conv => whnf); (repeat ((first | (apply VCall.q; kernel_rfl; (focus (intro w1 hs; first | with_reducible apply hck w1 (hs.nest hN) | with_reducible apply hca w1 (hs.nest hN)))) | apply VBr.t | apply VBr.f | (apply v_f; omega) | (apply VNew.mk; intro g hg) | (apply VLdN.mk; (focus ((repeat (first | (with_reducible apply ldn_blk) | (with_reducible apply ldn_row) | (with_reducible assumption) | (with_reducible apply ldn_skip))); done)); exact rfl)); (conv => whnf))); try (first | apply VStop.mk | apply VCall.stop))
      ((apply VRet.mk); refine ret1 (by first | exact .inl rfl | exact .inr rfl) rfl (by exact rv_tmp rfl) ?_; exact fun w h => ⟨rfl, h.base⟩)
set_option maxHeartbeats 1000000 in
set_option maxRecDepth 20000 in
theorem refWrong_any : Calls Try.prog 39 #[bookV rlo rhi lots Al S.length c] w (OneRet (wrongR rlo rhi lots S) w) := by
  have hck := fun w1 (h : NestR w1 3 Al (nestOf S)) => refCheckBook_any rlo rhi lots Al c S w1 h hF
  by_cases h0 : chkBook rlo rhi lots S = 0
  rotate_left
  · have hs : wrongR rlo rhi lots S = ([], chkBook rlo rhi lots S) := by unfold wrongR; rw [if_pos h0]
    rw [hs]
    unfold bookV at *
    generalize chkBook rlo rhi lots S = e at *
    refine fn_v Try.tabOk (n := 26) (A := []) Try.func39 rfl rfl (Nat.le_of_ble_eq_true rfl) (St.nil (Below.refl _ _)) ?_
    ((try first | apply tr_v Try.tabOk | apply ot_v Try.tabOk); (conv => whnf); (repeat ((first | (apply VCall.q; kernel_rfl; (focus (intro w1 hs; first | with_reducible apply hck w1 (hs.nest hN)))) | apply VBr.t | (apply v_t; omega) | (apply VNew.mk; intro g hg) | (apply VLdN.mk; (focus ((repeat (first | (with_reducible apply ldn_blk) | (with_reducible apply ldn_row) | (with_reducible assumption) | (with_reducible apply ldn_skip))); done)); exact rfl)); (conv => whnf))); try (first | apply VStop.mk | apply VCall.stop))
    (apply VRet.mk)
    refine ret2 (by first | exact .inl rfl | exact .inr rfl) rfl (by exact rv_tmp rfl) (by exact rv_tmp rfl) ?_
    exact fun w h => one_nil _ h
  · have hO := chk_ok.1 h0
    rw [h0] at hck
    obtain ⟨L, rfl⟩ : ∃ L : Nat, lots = L := ⟨lots.toNat, by have := hO.l; omega⟩
    have ht := hO.t
    have hta := fun w1 (h : NestR w1 3 Al (nestOf S)) => tastes_any rlo rhi L Al c S w1 h hF
    have hca := fun but w1 (h : NestR w1 3 Al (nestOf S)) => can_any rlo rhi L Al c S w1 h hO but (1 + L + S.flatten.length) rfl
    have hre : wrongR rlo rhi L S = (wrongUpto (fun k => canB rlo rhi L S k) S.flatten.length, 0) := by unfold wrongR; rw [if_neg (by simpa using h0), Int.toNat_natCast]
    rw [hre]
    change ∀ but w1, _ → Calls _ _ _ w1 fun e w' => e = .returned (.bool (canB rlo rhi L S but)) ∧ _ at hca
    obtain ⟨cb, hcb⟩ : ∃ cb : Nat → Bool, cb = fun k : Nat => canB rlo rhi L S (k : Int) := ⟨_, rfl⟩
    have hca : ∀ (k : Nat) w1, NestR w1 3 Al (nestOf S) → Calls Try.prog 70 #[bookV rlo rhi L Al S.length c, .int .i64 (k : Int)] w1 fun e w' => e = .returned (.bool (cb k)) ∧ Below w1.heap.size w1 w' := fun k w1 h => by rw [hcb]; exact hca k w1 h
    rw [← hcb]
    unfold bookV at *
    clear hO h0 hre hcb
    refine fn_v Try.tabOk (n := 26) (A := []) Try.func39 rfl rfl (Nat.le_of_ble_eq_true rfl) (St.nil (Below.refl _ _)) ?_
    ((try first | apply tr_v Try.tabOk | apply ot_v Try.tabOk); (conv => whnf); (repeat ((first | (apply VCall.q; kernel_rfl; (focus (intro w1 hs; first | with_reducible apply hck w1 (hs.nest hN)))) | apply VBr.f | (apply v_f; omega) | (apply VNew.mk; intro g hg) | (apply VLdN.mk; (focus ((repeat (first | (with_reducible apply ldn_blk) | (with_reducible apply ldn_row) | (with_reducible assumption) | (with_reducible apply ldn_skip))); done)); exact rfl)); (conv => whnf))); try (first | apply VStop.mk | apply VCall.stop))
    refine tr_own_nil 3 1 ?_
    refine v_loop (fun gm ds ts A => ds = [] ∧ ∃ k v, k + gm = S.flatten.length ∧ A = [.own v 3 1 (wrongUpto cb k).length (i64s (wrongUpto cb k)), .blk g 26 [.int .i64 rlo, .int .i64 rhi, .int .i64 L, .slice Al S.length c]] ∧ ts = [(1, .pointer (some ⟨g, 0, none⟩)), (4, v), (5, .int .i64 (k : Int))]) S.flatten.length
      (l := [(1, _), (4, _), (5, _)]) (B := _) ?_ (List.Sublist.refl _) ⟨rfl, 0, .slice none 0 0, by omega, rfl, rfl⟩ ?_
    · exact ⟨rfl, rfl, rfl, trivial⟩
    rintro gm ds ts A ⟨rfl, k, v, hk, rfl, rfl⟩
    have hle := wrongUpto_le cb k
    ((try first | apply tr_v Try.tabOk | apply ot_v Try.tabOk); (conv => whnf); (repeat ((first | (apply VLdN.mk; (focus ((repeat (first | (with_reducible apply ldn_blk) | (with_reducible apply ldn_row) | (with_reducible assumption) | (with_reducible apply ldn_skip))); done)); exact rfl)); (conv => whnf))); try (first | apply VStop.mk | apply VCall.stop))
    refine ot_call_ownS (t := 67) (sz := 3) (m := S.flatten.length) (xs := saidCells S.flatten) (by decide) rfl rfl rfl (by kernel_rfl) (evl_of rfl) (fun w1 hs => hta w1 (hs.nest hN)) (fun B cap hB => ?_)
    by_cases hlt : k < S.flatten.length
    · have hc := hca k
      have hst : wrongUpto cb (k + 1) = if cb k then wrongUpto cb k ++ [(k : Int)] else wrongUpto cb k := rfl
      cases hcv : cb k with
      | false =>
        rw [hcv] at hc hst
        rw [if_neg (by simp)] at hst
        ((try first | apply tr_v Try.tabOk | apply ot_v Try.tabOk); (conv => whnf); (repeat ((first | (apply VCall.q; kernel_rfl; (focus (intro w1 hs; first | with_reducible apply hc w1 (hs.nest hN)))) | (apply VRng.mk; omega) | apply VBr.t | apply VBr.f | (apply v_t; omega) | (apply VLdN.mk; (focus ((repeat (first | (with_reducible apply ldn_blk) | (with_reducible apply ldn_row) | (with_reducible assumption) | (with_reducible apply ldn_skip))); done)); exact rfl)); (conv => whnf))); try (first | apply VStop.mk | apply VCall.stop))
        exact v_rnd (gm - 1) (by omega) (l := [(1, _), (4, _), (5, _)]) (B := [_, _]) ⟨rfl, rfl, rfl, trivial⟩ (.cons _ (List.Sublist.refl _)) ⟨rfl, k + 1, v, by omega, by rw [hst], rfl⟩
      | true =>
        rw [hcv] at hc hst
        rw [if_pos rfl] at hst
        ((try first | apply tr_v Try.tabOk | apply ot_v Try.tabOk); (conv => whnf); (repeat ((first | (apply VCall.q; kernel_rfl; (focus (intro w1 hs; first | with_reducible apply hc w1 (hs.nest hN)))) | apply VBr.t | (apply v_t; omega) | (apply VNew.mk; intro g hg) | (apply VLdN.mk; (focus ((repeat (first | (with_reducible apply ldn_blk) | (with_reducible apply ldn_row) | (with_reducible assumption) | (with_reducible apply ldn_skip))); done)); exact rfl)); (conv => whnf))); try (first | apply VStop.mk | apply VCall.stop))
        refine ot_append (sz := 1) (sl := (wrongUpto cb k).length) (xs := i64s (wrongUpto cb k)) (A'v := fun v' => _ :: _ :: .own v' 3 1 ((wrongUpto cb k).length + 1) _ :: _) Try.tabOk rfl rfl rfl rfl rfl rfl rfl rfl rfl rfl (by decide) rfl (cells_blk_all (.head _)) rfl rfl (fun v' => .there (.there .here)) (by omega) (by decide) (fun v' => ?_)
        ((try first | apply tr_v Try.tabOk | apply ot_v Try.tabOk); (conv => whnf); (repeat ((first | (apply VRng.mk; omega)); (conv => whnf))); try (first | apply VStop.mk | apply VCall.stop))
        exact v_rnd (gm - 1) (by omega) (l := [(1, _), (4, _), (5, _)]) (B := [_, _]) ⟨rfl, rfl, rfl, trivial⟩ (.cons _ (.cons _ (List.Sublist.refl _))) ⟨rfl, k + 1, v', by omega, by rw [hst, i64s_append]; simp [i64s], rfl⟩
    · obtain rfl : k = S.flatten.length := by omega
      ((try first | apply tr_v Try.tabOk | apply ot_v Try.tabOk); (conv => whnf); (repeat ((first | apply VBr.f | (apply v_f; omega)); (conv => whnf))); try (first | apply VStop.mk | apply VCall.stop))
      (apply VRet.mk)
      refine ret2 (by first | exact .inl rfl | exact .inr rfl) rfl (by exact rv_tmp rfl) (by exact rv_tmp rfl) ?_
      exact fun w1 hs => ⟨v, rfl, hs.sub (.cons _ (.cons_cons _ (List.nil_sublist _)))⟩
end
end Go.Proofs.Ytkbcogaodnmdoaa
