/- TasteWrong: lemmas for the rows of this seat. No conditions. -/
import Derived.Test.YtkbcogaodnmdoaaProg
import Derived.WalkKit
import Derived.WalkSpells
import Derived.WalkLawsBesides
import Derived.Lib.Hide
import Derived.Deep.AppendLies
import Derived.Deep.Draws
import Derived.Maps.AppendAt
import Derived.RegionTactic
import Derived.OwnWalk
import Derived.Deep.QuietTactic
import Derived.BigQuiet
import Derived.Deep.DeepFit
import Derived.Deep.LoopGhost
import Derived.Deep.DeepMust
import Derived.Deep.DeepCutAuto
import Derived.StillTail
import Derived.Deep.Quiet
import Derived.Deep.RegionHeld3
import Derived.Deep.RegionWith
import Derived.Deep.RegionLaw
import Derived.Maps.OwnOps
import Derived.Maps.OwnSet
import Derived.Maps.OwnRows
import Derived.Maps.RangeWalk
import Derived.Carry
import Derived.Test.YtkbcogaodnmdoaaBase
import Derived.Test.YtkbcogaodnmdoaaMaps
import Derived.Test.YtkbcogaodnmdoaaKeys
import Derived.Test.YtkbcogaodnmdoaaS1
import Derived.Test.YtkbcogaodnmdoaaS5
import Derived.Test.YtkbcogaodnmdoaaS12
import Derived.Test.YtkbcogaodnmdoaaS14
import Derived.Test.YtkbcogaodnmdoaaV
import Derived.Test.YtkbcogaodnmdoaaV2
import Derived.Test.YtkbcogaodnmdoaaV3
import Derived.Test.YtkbcogaodnmdoaaV4
import Derived.Test.YtkbcogaodnmdoaaV5
import Derived.Test.YtkbcogaodnmdoaaV6
import Derived.Test.YtkbcogaodnmdoaaTab
import Derived.Test.YtkbcogaodnmdoaaE1
import Derived.Test.YtkbcogaodnmdoaaE2
import Derived.Test.YtkbcogaodnmdoaaE3
import Derived.Test.YtkbcogaodnmdoaaE4
import Derived.Test.YtkbcogaodnmdoaaE5
import Derived.Test.YtkbcogaodnmdoaaE6
import Derived.Test.YtkbcogaodnmdoaaE7
import Derived.Test.YtkbcogaodnmdoaaE8
import Derived.Test.YtkbcogaodnmdoaaE9
import Derived.Test.YtkbcogaodnmdoaaE10
import Derived.Test.YtkbcogaodnmdoaaE11
import Derived.Test.YtkbcogaodnmdoaaE12
import Derived.Test.YtkbcogaodnmdoaaE13
import Derived.Test.YtkbcogaodnmdoaaE14
import Derived.Test.YtkbcogaodnmdoaaE15
import Derived.Test.YtkbcogaodnmdoaaE16
import Derived.Test.YtkbcogaodnmdoaaE17
import Derived.Test.YtkbcogaodnmdoaaE18
import Derived.Test.YtkbcogaodnmdoaaE19
import Derived.Test.YtkbcogaodnmdoaaE20
import Derived.Test.YtkbcogaodnmdoaaE21
import Derived.Test.YtkbcogaodnmdoaaE22
import Derived.Test.YtkbcogaodnmdoaaE23
import Derived.Test.YtkbcogaodnmdoaaE24
import Derived.Test.YtkbcogaodnmdoaaE25
import Derived.Test.YtkbcogaodnmdoaaE26
import Derived.Test.YtkbcogaodnmdoaaE27
import Derived.Test.YtkbcogaodnmdoaaE28
import Derived.Test.YtkbcogaodnmdoaaE29
import Derived.Test.YtkbcogaodnmdoaaE30
import Derived.Test.YtkbcogaodnmdoaaE31
import Derived.Test.YtkbcogaodnmdoaaE32
import Derived.Test.YtkbcogaodnmdoaaE33
import Derived.Test.YtkbcogaodnmdoaaE34
import Derived.Test.YtkbcogaodnmdoaaE35
import Derived.Test.YtkbcogaodnmdoaaE36
import Derived.Test.YtkbcogaodnmdoaaE37
import Derived.Test.YtkbcogaodnmdoaaE39
set_option linter.all false
namespace Go.Proofs.Ytkbcogaodnmdoaa
open Go.RowKit
/-! ## TasteWrong -/
section
variable (rlo rhi lots : Int) (Al : Option Addr) (c : Nat) (S : List (List T3)) (w : World) (hN : NestR w 3 Al (nestOf S)) (hlen : S.length ≤ 2000000) (htot : S.flatten.length ≤ 1000000)
include hN hlen htot
set_option maxHeartbeats 1000000 in
set_option maxRecDepth 20000 in
theorem tastesG_any : Calls Try.prog 44 #[bookV rlo rhi lots Al S.length c] w (OwnRet 67 3 S.flatten.length (saidCells S.flatten) w) := by
  unfold bookV
  refine fn_v Try.tabOk (n := 20) (A := []) Try.func44 rfl rfl (Nat.le_of_ble_eq_true rfl) (St.nil (Below.refl _ _)) ?_
  ((try first | apply tr_v Try.tabOk | apply ot_v Try.tabOk); (conv => whnf); (repeat ((first | (apply VNew.mk; intro g hg)); (conv => whnf))); try (first | apply VStop.mk | apply VCall.stop))
  refine tr_own_nil 67 3 ?_
  refine v_loop (fun gm ds ts A => ds = [] ∧ ∃ j v, j + gm = S.length ∧ A = [.own v 67 3 (S.take j).flatten.length (saidCells (S.take j).flatten), .blk g 26 [.int .i64 rlo, .int .i64 rhi, .int .i64 lots, .slice Al S.length c]] ∧ ts = [(1, .pointer (some ⟨g, 0, none⟩)), (3, v), (4, .int .i64 (j : Int))]) S.length
    (l := [(1, _), (3, _), (4, _)]) (B := [_, _]) ?_ (by (repeat (first | exact List.nil_sublist _ | exact List.Sublist.refl _ | refine List.Sublist.cons_cons _ ?_ | refine List.Sublist.cons _ ?_))) ⟨rfl, 0, .slice none 0 0, by omega, rfl, rfl⟩ ?_
  · exact ⟨rfl, rfl, rfl, trivial⟩
  rintro gm ds ts A ⟨rfl, j, v, hj, rfl, rfl⟩
  by_cases hlt : j < S.length
  · obtain ⟨b, o, rfl, B, c', hce, hrd⟩ := nest_at hN hlt
    have hst := flat_step S j hlt
    have hle : (S.take (j + 1)).flatten.length ≤ 1000000 := Nat.le_trans (by have := sumN_take (nestOf S) (j + 1) (by rw [nestOf_length]; omega); rw [sumN_nest, show (nestOf S).take (j + 1) = nestOf (S.take (j + 1)) by simp [nestOf, List.map_take], sumN_nest] at this; exact this) htot
    rw [hst, List.length_append] at hle
    ((try first | apply tr_v Try.tabOk | apply ot_v Try.tabOk); (conv => whnf); (repeat ((first | (apply VLd.mk; exact hce _) | (apply VLd.mk; (focus ((repeat (first | ((with_reducible apply ld_blk); exact rfl) | ((with_reducible apply ld_row); exact rfl) | ((with_reducible apply ld_row0); exact rfl) | (with_reducible assumption) | (with_reducible exact CellAt.base (by assumption)) | (with_reducible apply ld_skip))); done))) | apply VBr.t | (apply v_t; omega) | (apply VIx.mk; exact rfl; omega)); (conv => whnf))); try (first | apply VStop.mk | apply VCall.stop))
    refine ot_appendR (sz := 3) (A'v := fun v' => [.own v' 67 3 _ _, _]) Try.tabOk rfl rfl rfl rfl rfl rfl rfl rfl rfl rfl (by decide) rfl (fun w1 hs => hs.reads hrd) (saidCells_one _) (fun v' => by (repeat (first | exact Upd.here | apply Upd.there))) (by omega) (by decide) (fun v' => ?_)
    ((try first | apply tr_v Try.tabOk | apply ot_v Try.tabOk); (conv => whnf); (repeat ((first | (apply VRng.mk; omega)); (conv => whnf))); try (first | apply VStop.mk | apply VCall.stop))
    exact v_rnd (gm - 1) (by omega) (l := [(1, _), (3, _), (4, _)]) (B := [_, _]) ⟨rfl, rfl, rfl, trivial⟩ (by (repeat (first | exact List.nil_sublist _ | exact List.Sublist.refl _ | refine List.Sublist.cons_cons _ ?_ | refine List.Sublist.cons _ ?_))) ⟨rfl, j + 1, v', by omega, by rw [hst, List.length_append, saidCells_append], rfl⟩
  · obtain rfl : j = S.length := by omega
    rw [List.take_length]
    ((try first | apply tr_v Try.tabOk | apply ot_v Try.tabOk); (conv => whnf); (repeat ((first | (apply VLd.mk; (focus ((repeat (first | ((with_reducible apply ld_blk); exact rfl) | ((with_reducible apply ld_row); exact rfl) | ((with_reducible apply ld_row0); exact rfl) | (with_reducible assumption) | (with_reducible exact CellAt.base (by assumption)) | (with_reducible apply ld_skip))); done))) | apply VBr.f | (apply v_f; omega)); (conv => whnf))); try (first | apply VStop.mk | apply VCall.stop))
    (apply VRet.mk)
    refine ret1 (by first | exact .inl rfl | exact .inr rfl) rfl (by exact rv_tmp rfl) ?_
    exact fun w1 hs => own_ret hs (.head _)
end
theorem sit_upd {ys : List SitX} {M : List (List T3)} {j b2 c2 : Nat} (h : ys.length = M.length) (hj : j < M.length) (hy : ys[j]'(by omega) = (some ⟨b2, 0, none⟩, c2)) {s' : List T3} (hs : s'.length = M[j].length) {cells : List Value} (hc : cells = saidCells s') {R : List Chunk} :
    Upd (.own (.slice (some ⟨b2, 0, none⟩) M[j].length c2) 67 3 M[j].length (saidCells M[j])) (.own (.slice (some ⟨b2, 0, none⟩) M[j].length c2) 67 3 M[j].length cells) (sitCh ys M ++ R) (sitCh ys (M.set j s') ++ R) := by
  have := sitCh_upd (R := R) h hj hs
  unfold sitC at this
  rw [hy, hs] at this
  subst hc
  exact this
/-- Whether it is told, so far. -/
def toldB (W : List Int) (a : Nat) : Nat → Bool
  | 0 => false
  | i + 1 => toldB W a i || decide (iAt W i = (a : Int))
theorem toldB_iff (W : List Int) (a : Nat) : ∀ n, toldB W a n = true ↔ ∃ i, i < n ∧ iAt W i = a
  | 0 => ⟨fun h => (by cases h), fun ⟨i, h, _⟩ => absurd h (by omega)⟩
  | n + 1 => by
    rw [toldB, Bool.or_eq_true, toldB_iff W a n, decide_eq_true_eq]
    constructor
    · rintro (⟨i, h1, h2⟩ | h)
      · exact ⟨i, by omega, h2⟩
      · exact ⟨n, by omega, h⟩
    · rintro ⟨i, h1, h2⟩
      by_cases e : i = n
      · subst e; exact .inr h2
      · exact .inl ⟨i, by omega, h2⟩
theorem told_wrong (f : Nat → Bool) (T a : Nat) (ha : a < T) : toldB (wrongUpto f T) a (wrongUpto f T).length = f a := by
  rw [Bool.eq_iff_iff, toldB_iff]
  constructor
  · rintro ⟨i, h1, h2⟩
    obtain ⟨x, h3, _, h5⟩ := wrong_at f T i h1
    have : x = a := by omega
    rw [← this]; exact h5
  · intro h
    obtain ⟨i, h1, h2⟩ := wrong_has f T a ha h
    exact ⟨i, h1, h2⟩
section
variable (rlo rhi lots : Int) (Al : Option Addr) (c : Nat) (S : List (List T3)) (w : World) (hN : NestR w 3 Al (nestOf S)) (hm : ∀ s ∈ S, s.length ≤ maxLen) (hlen : S.length ≤ 2000000) (htot : S.flatten.length ≤ 1000000)
include hN hm hlen htot
set_option maxHeartbeats 4000000 in
set_option maxRecDepth 20000 in
theorem tasteWrong_any (which : Int) (h1 : 0 ≤ which ∧ which ≤ 255) : Calls Try.prog 17 #[bookV rlo rhi lots Al S.length c, .int .u8 which] w fun e w' => e = .returned (.bool true) ∧ Below w.heap.size w w' := by
  have hfn := fun w1 (h : NestR w1 3 Al (nestOf S)) => fineG_any rlo rhi lots Al c S w1 h hm
  have hta := fun w1 (h : NestR w1 3 Al (nestOf S)) => tastesG_any rlo rhi lots Al c S w1 h hlen htot
  have hwk := fun w1 => works_any w1
  by_cases h0 : chkBook rlo rhi lots S = 0
  rotate_left
  · rw [decide_eq_false h0] at hfn
    unfold bookV at *
    refine fn_v Try.tabOk (n := 169) (A := []) Try.func17 rfl rfl (Nat.le_of_ble_eq_true rfl) (St.nil (Below.refl _ _)) ?_
    ((try first | apply tr_v Try.tabOk | apply ot_v Try.tabOk); (conv => whnf); (repeat ((first | (apply VNew.mk; intro g hg) | (apply VLdN.mk; (focus ((repeat (first | (with_reducible apply ldn_blk) | (with_reducible apply ldn_row) | (with_reducible assumption) | (with_reducible apply ldn_skip))); done)); exact rfl)); (conv => whnf))); try (first | apply VStop.mk | apply VCall.stop))
    refine ot_call_ownS (t := 67) (sz := 3) (m := S.flatten.length) (xs := saidCells S.flatten) (by decide) rfl rfl rfl (by kernel_rfl) (evl_of rfl) (fun w1 hs => hta w1 (hs.nest hN)) (fun B cT _ => ?_)
    apply ot_v Try.tabOk
    ((try first | apply tr_v Try.tabOk | apply ot_v Try.tabOk); (conv => whnf); (repeat ((first | (apply VCall.q; kernel_rfl; (focus (intro w1 hs; first | with_reducible apply hfn w1 (hs.nest hN) | with_reducible apply hwk w1))) | apply VBr.t | (apply VLdN.mk; (focus ((repeat (first | (with_reducible apply ldn_blk) | (with_reducible apply ldn_row) | (with_reducible assumption) | (with_reducible apply ldn_skip))); done)); exact rfl)); (conv => whnf))); try (first | apply VStop.mk | apply VCall.stop))
    ((apply VRet.mk); refine ret1 (by first | exact .inl rfl | exact .inr rfl) rfl (by exact rv_tmp rfl) ?_; exact fun w h => ⟨rfl, h.base⟩)
  rw [decide_eq_true h0] at hfn
  by_cases hT0 : S.flatten.length = 0
  · unfold bookV at *
    refine fn_v Try.tabOk (n := 169) (A := []) Try.func17 rfl rfl (Nat.le_of_ble_eq_true rfl) (St.nil (Below.refl _ _)) ?_
    ((try first | apply tr_v Try.tabOk | apply ot_v Try.tabOk); (conv => whnf); (repeat ((first | (apply VNew.mk; intro g hg) | (apply VLdN.mk; (focus ((repeat (first | (with_reducible apply ldn_blk) | (with_reducible apply ldn_row) | (with_reducible assumption) | (with_reducible apply ldn_skip))); done)); exact rfl)); (conv => whnf))); try (first | apply VStop.mk | apply VCall.stop))
    refine ot_call_ownS (t := 67) (sz := 3) (m := S.flatten.length) (xs := saidCells S.flatten) (by decide) rfl rfl rfl (by kernel_rfl) (evl_of rfl) (fun w1 hs => hta w1 (hs.nest hN)) (fun B cT _ => ?_)
    apply ot_v Try.tabOk
    ((try first | apply tr_v Try.tabOk | apply ot_v Try.tabOk); (conv => whnf); (repeat ((first | (apply VCall.q; kernel_rfl; (focus (intro w1 hs; first | with_reducible apply hfn w1 (hs.nest hN) | with_reducible apply hwk w1))) | apply VBr.t | apply VBr.f | (apply v_t; omega) | (apply VLdN.mk; (focus ((repeat (first | (with_reducible apply ldn_blk) | (with_reducible apply ldn_row) | (with_reducible assumption) | (with_reducible apply ldn_skip))); done)); exact rfl)); (conv => whnf))); try (first | apply VStop.mk | apply VCall.stop))
    ((apply VRet.mk); refine ret1 (by first | exact .inl rfl | exact .inr rfl) rfl (by exact rv_tmp rfl) ?_; exact fun w h => ⟨rfl, h.base⟩)
  have hO := chk_ok.1 h0
  obtain ⟨L, rfl⟩ : ∃ L : Nat, lots = L := ⟨lots.toNat, by have := hO.l; omega⟩
  have hl := hO.l
  have ht := hO.t
  have hn4 := hO.n
  have hsp := fun w1 (h : NestR w1 3 Al (nestOf S)) => spans_any rlo rhi L Al c S w1 h hO
  have hwr := fun w1 (h : NestR w1 3 Al (nestOf S)) => (wrong_any rlo rhi L Al c S w1 h hO.fit).mono fun e w' h => h.slices
  have hwe : wrongR rlo rhi L S = (wrongUpto (fun k => canB rlo rhi L S k) S.flatten.length, 0) := by unfold wrongR; rw [if_neg (by simpa using h0), Int.toNat_natCast]
  rw [hwe] at hwr
  have hsm := fun w1 (h : NestR w1 3 Al (nestOf S)) => same_any rlo rhi L Al c S w1 h hO.fit
  have wle := wrongUpto_le (fun k => canB rlo rhi L S k) S.flatten.length
  have wat := wrong_at (fun k => canB rlo rhi L S k) S.flatten.length
  have winc := wrong_inc (fun k => canB rlo rhi L S k) S.flatten.length
  have wfull : canB rlo rhi L S (-1) = true → (wrongUpto (fun k => canB rlo rhi L S k) S.flatten.length).length = S.flatten.length := fun hc => wrong_full _ _ fun x _ => can_all hO hc
  obtain ⟨a, ha⟩ : ∃ a, a = which.toNat % S.flatten.length := ⟨_, rfl⟩
  have haT : a < S.flatten.length := by rw [ha]; exact Nat.mod_lt _ (by omega)
  have ea : Int.tmod which (S.flatten.length : Int) = a := by rw [tmod_nat which _ h1.1, ha]
  clear ha
  have wt := told_wrong (fun k => canB rlo rhi L S k) S.flatten.length a haT
  obtain ⟨j0, hj0, k0, hk0, hak⟩ := off_find (S := S) S.length a (Nat.le_refl _) (by rw [offT_all]; exact haT)
  have hOw : Okb rlo rhi L (wideS S j0 k0) := by rw [wideS_eq hj0 hk0]; exact hO.setSaid hj0 hk0 (by omega) (by omega) (by omega)
  have hcw := can_wide hO hj0 hk0 hOw
  rw [← hak] at hcw
  have hspw := fun w1 A c (h : NestR w1 3 A (nestOf (wideS S j0 k0))) => spans_any rlo rhi L A c _ w1 h hOw
  rw [hcw] at hspw
  have hlw : (wideS S j0 k0).length = S.length := by rw [wideS_eq hj0 hk0, List.length_set]
  rw [hlw] at hspw
  have l12 := fun j hj => len12 hO (j := j) hj
  have hne := fun j (hj : j < S.length) => hO.ne _ (List.getElem_mem hj)
  clear hO hcw hwe
  unfold bookV at hfn hta hsp hwr hsm hspw
  generalize canB rlo rhi L S (a : Int) = ca at *
  generalize hW : wrongUpto (fun k => canB rlo rhi L S k) S.flatten.length = W at *
  generalize canB rlo rhi L S (-1) = cb at *
  generalize spansP rlo rhi L S = sp at *
  generalize spansP rlo rhi L (wideS S j0 k0) = sw at *
  unfold bookV
  refine fn_v Try.tabOk (n := 169) (A := []) Try.func17 rfl rfl (Nat.le_of_ble_eq_true rfl) (St.nil (Below.refl _ _)) ?_
  ((try first | apply tr_v Try.tabOk | apply ot_v Try.tabOk); (conv => whnf); (repeat ((first | (apply VNew.mk; intro g hg) | (apply VLdN.mk; (focus ((repeat (first | (with_reducible apply ldn_blk) | (with_reducible apply ldn_row) | (with_reducible assumption) | (with_reducible apply ldn_skip))); done)); exact rfl)); (conv => whnf))); try (first | apply VStop.mk | apply VCall.stop))
  refine ot_call_ownS (t := 67) (sz := 3) (m := S.flatten.length) (xs := saidCells S.flatten) (by decide) rfl rfl rfl (by kernel_rfl) (evl_of rfl) (fun w1 hs => hta w1 (hs.nest hN)) (fun B cT _ => ?_)
  apply ot_v Try.tabOk
  ((try first | apply tr_v Try.tabOk | apply ot_v Try.tabOk); (conv => whnf); (repeat ((first | (apply VCall.q; kernel_rfl; (focus (intro w1 hs; first | with_reducible apply hfn w1 (hs.nest hN)))) | apply VBr.f | (apply v_f; omega) | (apply VLdN.mk; (focus ((repeat (first | (with_reducible apply ldn_blk) | (with_reducible apply ldn_row) | (with_reducible assumption) | (with_reducible apply ldn_skip))); done)); exact rfl)); (conv => whnf))); try (first | apply VStop.mk | apply VCall.stop))
  refine ot_call_st (X := Option Addr × Nat) (fun x => .tuple #[.slice x.1 sp.length x.2, .bool cb, .bool true]) (fun x => [.own (.slice x.1 sp.length x.2) 23 2 sp.length (rngCells sp)]) (fun x => mut_one rfl) (by decide) rfl rfl rfl (by kernel_rfl) (evl_of rfl) (fun w1 hs => hsp w1 (hs.nest hN)) (fun y => ?_)
  simp only [List.cons_append, List.nil_append]
  apply ot_v Try.tabOk
  ((try first | apply tr_v Try.tabOk | apply ot_v Try.tabOk); (conv => whnf); (repeat ((first | (apply VLdN.mk; (focus ((repeat (first | (with_reducible apply ldn_blk) | (with_reducible apply ldn_row) | (with_reducible assumption) | (with_reducible apply ldn_skip))); done)); exact rfl)); (conv => whnf))); try (first | apply VStop.mk | apply VCall.stop))
  refine ot_call_st (X := Option Addr × Nat) (fun x => .tuple #[.slice x.1 W.length x.2, .int .i64 0]) (fun x => [.own (.slice x.1 W.length x.2) 3 1 W.length (i64s W)]) (fun x => mut_one rfl) (by decide) rfl rfl rfl (by kernel_rfl) (evl_of rfl) (fun w1 hs => hwr w1 (hs.nest hN)) (fun y2 => ?_)
  obtain ⟨Bl, cl⟩ := y2
  simp only [List.cons_append, List.nil_append]
  apply ot_v Try.tabOk
  have hgo : cb = false ∨ (cb = true ∧ W.length = S.flatten.length) := by
    cases cb with
    | false => exact .inl rfl
    | true => exact .inr ⟨rfl, wfull rfl⟩
  obtain ⟨g2, rfl⟩ : ∃ x, x = g := ⟨g, rfl⟩
  rcases hgo with rfl | ⟨rfl, hfl⟩
  all_goals
    ((try first | apply tr_v Try.tabOk | apply ot_v Try.tabOk); (conv => whnf); (repeat ((first | apply VBr.t | apply VBr.f | (apply v_f; omega)); (conv => whnf))); try (first | apply VStop.mk | apply VCall.stop))
    refine tr_fact (p := 0 < W.length → ∃ b, Bl = some ⟨b, 0, none⟩) (fun w' hs hn => own_some hs (n := W.length) (cap := cl) (sz := 1) (t := 3) (xs := i64s W) (by (repeat (first | with_unfolding_all exact List.Mem.head _ | assumption | with_unfolding_all refine List.Mem.tail _ ?_))) hn) fun hBl => ?_
    refine tr_nameA ?_
    intro A0 hA0
    have fW : ∀ b, Bl = some ⟨b, 0, none⟩ → ∀ i, i < W.length → CellAt w A0 b (0 + i * 1) (.int .i64 (iAt W i)) := fun b hb i hi => by
      subst hA0
      subst hb
      exact own_int (n := W.length) (cap := cl) (t := 3) (by (repeat (first | with_unfolding_all exact List.Mem.head _ | assumption | with_unfolding_all refine List.Mem.tail _ ?_))) hi
    have f2 : CellsAt w A0 g2 0 [.int .i64 rlo, .int .i64 rhi, .int .i64 L, .slice Al S.length c] := by subst hA0; exact cells_blk_all (by (repeat (first | with_unfolding_all exact List.Mem.head _ | assumption | with_unfolding_all refine List.Mem.tail _ ?_)))
    clear hA0
    refine v_loop (fun gm ds ts A => ds = [] ∧ A = A0 ∧ ∃ i : Nat, i + gm = W.length ∧ ts = [(1, .int .u8 which), (2, .pointer (some ⟨g2, 0, none⟩)), (5, .int .i64 (S.flatten.length : Int)), (9, .slice Bl W.length cl), (11, .int .i64 (i : Int))]) W.length
      (l := [(1, _), (2, _), (5, _), (9, _), (11, _)]) (B := _) ?_ (List.Sublist.refl _) ⟨rfl, rfl, 0, by omega, rfl⟩ ?_
    · exact ⟨rfl, rfl, rfl, rfl, rfl, trivial⟩
    rintro gm ds ts A ⟨rfl, rfl, i, hi, rfl⟩
    by_cases hlt : i < W.length
    · obtain ⟨b, rfl⟩ := hBl (by omega)
      have ci := fW b rfl i hlt
      obtain ⟨x, hx1, hx2, _⟩ := wat i hlt
      by_cases hi0 : i = 0
      · subst hi0
        generalize iAt W 0 = xi at *
        ((try first | apply tr_v Try.tabOk | apply ot_v Try.tabOk); (conv => whnf); (repeat ((first | ((first | apply VStop.mk | apply VCall.stop); (first | refine tr_region_lex (id := 11) (by kernel_rfl) [.rd, .rd, .rd, .rd, .rd, .rd, .rd, .rd, .rd, .rd, .rd, .rd, .rd, .rd, .rd, .rd, .rd, .rd, .rd, .rd, .rd, .rd, .rd, .rd, .rd, .rd, .rd, .rd, .rd] rfl (by kernel_rfl) ?_); try first | apply ot_v Try.tabOk | apply tr_v Try.tabOk) | (apply VIx.mk (j := 0); exact rfl; omega) | (apply VLd.mk; exact ci) | (apply VRng.mk; omega) | apply VBr.t | apply VBr.f | (apply v_t; omega) | (apply v_f; omega)); (conv => whnf))); try (first | apply VStop.mk | apply VCall.stop))
        exact v_rnd (gm - 1) (by omega) (l := [(1, _), (2, _), (5, _), (9, _), (11, _)]) (B := _) ⟨rfl, rfl, rfl, rfl, rfl, trivial⟩ (List.Sublist.refl _) ⟨rfl, rfl, 0 + 1, by omega, rfl⟩
      · have cp := fW b rfl (i - 1) (by omega)
        have hinc := winc (i - 1) (by omega)
        rw [show i - 1 + 1 = i by omega] at hinc
        generalize iAt W i = xi at *
        generalize iAt W (i - 1) = xp at *
        ((try first | apply tr_v Try.tabOk | apply ot_v Try.tabOk); (conv => whnf); (repeat ((first | ((first | apply VStop.mk | apply VCall.stop); (first | refine tr_region_lex (id := 11) (by kernel_rfl) [.rd, .rd, .rd, .rd, .rd, .rd, .rd, .rd, .rd, .rd, .rd, .rd, .rd, .rd, .rd, .rd, .rd, .rd, .rd, .rd, .rd, .rd, .rd, .rd, .rd, .rd, .rd, .rd, .rd] rfl (by kernel_rfl) ?_); try first | apply ot_v Try.tabOk | apply tr_v Try.tabOk) | (apply VIx.mk (j := i); exact rfl; omega) | (apply VIx.mk (j := i - 1); omega; omega) | (apply VLd.mk; first | exact ci | exact cp) | (apply VRng.mk; omega) | apply VBr.t | apply VBr.f | (apply v_t; omega) | (apply v_f; omega)); (conv => whnf))); try (first | apply VStop.mk | apply VCall.stop))
        exact v_rnd (gm - 1) (by omega) (l := [(1, _), (2, _), (5, _), (9, _), (11, _)]) (B := _) ⟨rfl, rfl, rfl, rfl, rfl, trivial⟩ (List.Sublist.refl _) ⟨rfl, rfl, i + 1, by omega, rfl⟩
    obtain rfl : W.length = i := by omega
    ((try first | apply tr_v Try.tabOk | apply ot_v Try.tabOk); (conv => whnf); (repeat ((first | apply VBr.f | (apply v_f; omega) | (apply v_wr64; omega) | (apply VNz.mk; omega)); (conv => whnf))); try (first | apply VStop.mk | apply VCall.stop))
    rw [ea]
    refine v_loop (fun gm ds ts A' => ds = [] ∧ A' = A ∧ ∃ i : Nat, i + gm = W.length ∧ ts = [(2, .pointer (some ⟨g2, 0, none⟩)), (9, .slice Bl W.length cl), (12, .int .i64 (a : Int)), (13, .bool (toldB W a i)), (14, .int .i64 (i : Int))]) W.length
      (l := [(2, _), (9, _), (12, _), (13, _), (14, _)]) (B := _) ?_ (List.Sublist.refl _) ⟨rfl, rfl, 0, by omega, rfl⟩ ?_
    · exact ⟨rfl, rfl, rfl, rfl, rfl, trivial⟩
    rintro gm' ds ts A' ⟨rfl, rfl, i, hi', rfl⟩
    by_cases hlt : i < W.length
    · obtain ⟨b, rfl⟩ := hBl (by omega)
      have ci := fW b rfl i hlt
      have hts : toldB W a (i + 1) = (toldB W a i || decide (iAt W i = (a : Int))) := rfl
      generalize iAt W i = xi at *
      cases htb : toldB W a i with
      | true =>
        rw [htb, Bool.true_or] at hts
        ((try first | apply tr_v Try.tabOk | apply ot_v Try.tabOk); (conv => whnf); (repeat ((first | (apply VIx.mk (j := i); exact rfl; omega) | (apply VLd.mk; exact ci) | (apply VRng.mk; omega) | apply VBr.t | (apply v_t; omega)); (conv => whnf))); try (first | apply VStop.mk | apply VCall.stop))
        exact v_rnd (gm' - 1) (by omega) (l := [(2, _), (9, _), (12, _), (13, _), (14, _)]) (B := _) ⟨rfl, rfl, rfl, rfl, rfl, trivial⟩ (List.Sublist.refl _) ⟨rfl, rfl, i + 1, by omega, by rw [hts]; rfl⟩
      | false =>
        rw [htb, Bool.false_or] at hts
        by_cases hq : xi = (a : Int)
        · rw [decide_eq_true hq] at hts
          ((try first | apply tr_v Try.tabOk | apply ot_v Try.tabOk); (conv => whnf); (repeat ((first | (apply VIx.mk (j := i); exact rfl; omega) | (apply VLd.mk; exact ci) | (apply VRng.mk; omega) | apply VBr.t | apply VBr.f | (apply v_t; omega)); (conv => whnf))); try (first | apply VStop.mk | apply VCall.stop))
          exact v_rnd (gm' - 1) (by omega) (l := [(2, _), (9, _), (12, _), (13, _), (14, _)]) (B := _) ⟨rfl, rfl, rfl, rfl, rfl, trivial⟩ (List.Sublist.refl _) ⟨rfl, rfl, i + 1, by omega, by rw [hts]; rfl⟩
        · rw [decide_eq_false hq] at hts
          ((try first | apply tr_v Try.tabOk | apply ot_v Try.tabOk); (conv => whnf); (repeat ((first | (apply VIx.mk (j := i); exact rfl; omega) | (apply VLd.mk; exact ci) | (apply VRng.mk; omega) | apply VBr.t | apply VBr.f | (apply v_t; omega) | (apply v_f; omega)); (conv => whnf))); try (first | apply VStop.mk | apply VCall.stop))
          exact v_rnd (gm' - 1) (by omega) (l := [(2, _), (9, _), (12, _), (13, _), (14, _)]) (B := _) ⟨rfl, rfl, rfl, rfl, rfl, trivial⟩ (List.Sublist.refl _) ⟨rfl, rfl, i + 1, by omega, by rw [hts]; rfl⟩
    obtain rfl : W.length = i := by omega
    rw [wt]
    ((try first | apply tr_v Try.tabOk | apply ot_v Try.tabOk); (conv => whnf); (repeat ((first | (apply VLdN.mk; exact f2; exact rfl) | apply VBr.f | (apply v_f; omega)); (conv => whnf))); try (first | apply VStop.mk | apply VCall.stop))
    refine ot_call_st (X := NestX S.length) (fun x => .agg #[.int .i64 rlo, .int .i64 rhi, .int .i64 L, .slice x.1.1 S.length x.1.2]) (fun x => nestCh S x) (nestCh_mut S) (by decide) rfl rfl rfl (by kernel_rfl) (evl_of rfl) (fun w1 hs => hsm w1 (hs.nest hN)) (fun x => ?_)
    obtain ⟨⟨Bq, cq⟩, ⟨ys, hys⟩⟩ := x
    simp only [nestCh, List.cons_append]
    apply ot_v Try.tabOk
    ((try first | apply tr_v Try.tabOk | apply ot_v Try.tabOk); (conv => whnf); (repeat ((first | (apply VNew.mk; intro g hg) | (apply VSt.mk; (focus ((repeat (first | (with_reducible exact At.here) | (with_reducible apply At.there))); done)); exact rfl)); (conv => whnf))); try (first | apply VStop.mk | apply VCall.stop))
    obtain ⟨g15, rfl⟩ : ∃ x, x = g := ⟨g, rfl⟩
    refine tr_st (B := .blk g15 26 [.int .i64 rlo, .int .i64 rhi, .int .i64 L, .slice Bq S.length cq] :: .own (.slice Bq S.length cq) 55 1 S.length (sitVs ys S) :: (sitCh ys S ++ [])) (fun w hs => hs.sub (.cons_cons _ (.cons_cons _ (List.Sublist.append_left (List.nil_sublist _) _)))) ?_
    have hw0 := wideS_eq hj0 hk0
    refine v_loop (fun gm ds ts A => ds = [] ∧ ∃ (j : Nat) (M : List (List T3)), j + gm = S.length ∧ M = (if j ≤ j0 then S else wideS S j0 k0) ∧ A = .blk g15 26 [.int .i64 rlo, .int .i64 rhi, .int .i64 L, .slice Bq S.length cq] :: .own (.slice Bq S.length cq) 55 1 S.length (sitVs ys S) :: (sitCh ys M ++ []) ∧ ts = [(12, .int .i64 ((a : Int) - (offT S j : Nat))), (13, .bool ca), (15, .pointer (some ⟨g15, 0, none⟩)), (16, .int .i64 (j : Int))]) S.length
      (l := [(12, _), (13, _), (15, _), (16, _)]) (B := _) ?_ (List.Sublist.refl _) ⟨rfl, 0, S, by omega, by rw [if_pos (Nat.zero_le _)], rfl, by rw [show offT S 0 = 0 from rfl, show (a : Int) - ((0 : Nat) : Int) = a by omega]⟩ ?_
    · exact ⟨rfl, rfl, rfl, rfl, trivial⟩
    rintro gm'' ds ts A'' ⟨rfl, j, M, hj, hM, rfl, rfl⟩
    by_cases hltj : j < S.length
    · have hMl : M.length = S.length := by rw [hM]; split <;> omega
      have hjM : j < M.length := by omega
      have hyM : ys.length = M.length := by omega
      have hlj : M[j].length = S[j].length := by
        simp only [hM]
        by_cases q : j ≤ j0
        · simp only [if_pos q]
        · simp only [if_neg q, hw0]
          rw [List.getElem_set_ne (by omega)]
      have hn1 : 0 < S[j].length := Nat.pos_of_ne_zero (hne j hltj)
      have hl12 := l12 j hltj
      have hst := offT_step hltj
      have hoT := off_mono (S := S) (show j + 1 ≤ S.length by omega) (Nat.le_refl _)
      rw [offT_all] at hoT
      refine tr_fact (p := (∃ bq, Bq = some ⟨bq, 0, none⟩) ∧ ∃ b2, (ys[j]'(by omega)).1 = some ⟨b2, 0, none⟩) (fun w' hs => ?_) fun hp => ?_
      · refine ⟨own_some hs (n := S.length) (cap := cq) (sz := 1) (t := 55) (xs := sitVs ys S) (by (repeat (first | with_unfolding_all exact List.Mem.head _ | assumption | with_unfolding_all refine List.Mem.tail _ ?_))) (by omega), ?_⟩
        have h4 := sitCh_mem hyM hjM
        unfold sitC at h4
        exact own_some hs (.tail _ (.tail _ (List.mem_append_left _ h4))) (by omega)
      obtain ⟨⟨bq, rfl⟩, ⟨b2, hb2⟩⟩ := hp
      obtain ⟨c2, hy2⟩ : ∃ c2, ys[j]'(by omega) = (some ⟨b2, 0, none⟩, c2) := ⟨(ys[j]'(by omega)).2, by rw [← hb2]⟩
      have hcx : ∀ {Ch : List Chunk}, .own (.slice (some ⟨bq, 0, none⟩) S.length cq) 55 1 S.length (sitVs ys S) ∈ Ch → CellAt w Ch bq (0 + j * 1) (.slice (some ⟨b2, 0, none⟩) S[j].length c2) := fun h => by
        rw [Nat.zero_add, Nat.mul_one]
        exact cell_own h (by rw [sitVs_get (by omega) hltj, hy2]; rfl)
      have hto := fun a b w1 => to_any a b w1
      rcases Nat.lt_trichotomy j j0 with hlt0 | heq | hgt0
      · have hmo := off_mono (S := S) (show j + 1 ≤ j0 by omega) (by omega)
        ((try first | apply tr_v Try.tabOk | apply ot_v Try.tabOk); (conv => whnf); (repeat ((first | (apply VIx.mk (j := j); exact rfl; omega) | (apply VLd.mk; exact hcx (by (repeat (first | with_unfolding_all exact List.Mem.head _ | assumption | with_unfolding_all refine List.Mem.tail _ ?_)))) | (apply VLd.mk; (focus ((repeat (first | ((with_reducible apply ld_blk); exact rfl) | ((with_reducible apply ld_row); exact rfl) | ((with_reducible apply ld_row0); exact rfl) | (with_reducible assumption) | (with_reducible exact CellAt.base (by assumption)) | (with_reducible apply ld_skip))); done))) | (apply VRng.mk; omega) | apply VBr.t | apply VBr.f | (apply v_t; omega) | (apply v_f; omega)); (conv => whnf))); try (first | apply VStop.mk | apply VCall.stop))
        exact v_rnd (gm'' - 1) (by omega) (l := [(12, _), (13, _), (15, _), (16, _)]) (B := _) ⟨rfl, rfl, rfl, rfl, trivial⟩ (List.Sublist.refl _) ⟨rfl, j + 1, M, by omega, by rw [hM, if_pos (by omega), if_pos (by omega)], rfl, by rw [show (a : Int) - ((offT S (j + 1) : Nat) : Int) = a - (offT S j : Nat) - (S[j].length : Nat) by omega]; rfl⟩
      · subst heq
        obtain rfl : M = S := by rw [hM, if_pos (Nat.le_refl _)]
        have hcells : setMany (saidCells M[j]) (0 + k0 * 3 + 1) [.int .i64 (-1000), .int .i64 1000] = saidCells (M[j].set k0 (M[j][k0].1, -1000, 1000)) := by rw [Nat.zero_add]; exact said_set _ _ hk0 _ _
        ((try first | apply tr_v Try.tabOk | apply ot_v Try.tabOk); (conv => whnf); (repeat ((first | ((first | apply VStop.mk | apply VCall.stop); (first | refine tr_region_lex (id := 24) (by kernel_rfl) [.rd, .rd, .rd, .rd, .rd, .rd, .cr, .rd, .rd, .wr] rfl (by kernel_rfl) ?_); try first | apply ot_v Try.tabOk | apply tr_v Try.tabOk) | (apply VIx.mk (j := j); exact rfl; omega) | (apply VIx.mk (j := k0); omega; omega) | (apply VLd.mk; exact hcx (by (repeat (first | with_unfolding_all exact List.Mem.head _ | assumption | with_unfolding_all refine List.Mem.tail _ ?_)))) | (apply VSt.stop; refine ot_storeN_own (xs := saidCells M[j]) (vs := [_, _]) Try.tabOk rfl rfl rfl rfl rfl rfl rfl rfl rfl rfl (.there (.there (sit_upd hyM hjM hy2 (List.length_set) hcells))) (by simp only [List.length_cons, List.length_nil]; omega) (Nat.succ_pos _) ?_; apply ot_v Try.tabOk) | (apply VCall.q; kernel_rfl; (focus (intro w1 hs; first | with_reducible apply hto _ _ w1))) | (apply VLd.mk; (focus ((repeat (first | ((with_reducible apply ld_blk); exact rfl) | ((with_reducible apply ld_row); exact rfl) | ((with_reducible apply ld_row0); exact rfl) | (with_reducible assumption) | (with_reducible exact CellAt.base (by assumption)) | (with_reducible apply ld_skip))); done))) | (apply VRng.mk; omega) | apply VBr.t | (apply v_t; omega)); (conv => whnf))); try (first | apply VStop.mk | apply VCall.stop))
        exact v_rnd (gm'' - 1) (by omega) (l := [(12, _), (13, _), (15, _), (16, _)]) (B := _) ⟨rfl, rfl, rfl, rfl, trivial⟩ (List.Sublist.refl _) ⟨rfl, j + 1, wideS M j k0, by omega, by rw [if_neg (by omega)], by rw [hw0], by rw [show (a : Int) - ((offT M (j + 1) : Nat) : Int) = a - (offT M j : Nat) - (M[j].length : Nat) by omega]; rfl⟩
      · have hmo := off_mono (S := S) (show j0 + 1 ≤ j by omega) (by omega)
        have hs0 := offT_step hj0
        ((try first | apply tr_v Try.tabOk | apply ot_v Try.tabOk); (conv => whnf); (repeat ((first | (apply VIx.mk (j := j); exact rfl; omega) | (apply VLd.mk; exact hcx (by (repeat (first | with_unfolding_all exact List.Mem.head _ | assumption | with_unfolding_all refine List.Mem.tail _ ?_)))) | (apply VLd.mk; (focus ((repeat (first | ((with_reducible apply ld_blk); exact rfl) | ((with_reducible apply ld_row); exact rfl) | ((with_reducible apply ld_row0); exact rfl) | (with_reducible assumption) | (with_reducible exact CellAt.base (by assumption)) | (with_reducible apply ld_skip))); done))) | (apply VRng.mk; omega) | apply VBr.t | apply VBr.f | (apply v_t; omega) | (apply v_f; omega)); (conv => whnf))); try (first | apply VStop.mk | apply VCall.stop))
        exact v_rnd (gm'' - 1) (by omega) (l := [(12, _), (13, _), (15, _), (16, _)]) (B := _) ⟨rfl, rfl, rfl, rfl, trivial⟩ (List.Sublist.refl _) ⟨rfl, j + 1, M, by omega, by rw [hM, if_neg (by omega), if_neg (by omega)], rfl, by rw [show (a : Int) - ((offT S (j + 1) : Nat) : Int) = a - (offT S j : Nat) - (S[j].length : Nat) by omega]; rfl⟩
    · obtain rfl : S.length = j := by omega
      obtain rfl : M = wideS S j0 k0 := by rw [hM, if_neg (by omega)]
      ((try first | apply tr_v Try.tabOk | apply ot_v Try.tabOk); (conv => whnf); (repeat ((first | (apply VLd.mk; (focus ((repeat (first | ((with_reducible apply ld_blk); exact rfl) | ((with_reducible apply ld_row); exact rfl) | ((with_reducible apply ld_row0); exact rfl) | (with_reducible assumption) | (with_reducible exact CellAt.base (by assumption)) | (with_reducible apply ld_skip))); done))) | apply VBr.f | (apply v_f; omega) | (apply VLdN.mk; (focus ((repeat (first | (with_reducible apply ldn_blk) | (with_reducible apply ldn_row) | (with_reducible assumption) | (with_reducible apply ldn_skip))); done)); exact rfl)); (conv => whnf))); try (first | apply VStop.mk | apply VCall.stop))
      refine ot_call_st (X := Option Addr × Nat) (fun x => .tuple #[.slice x.1 sw.length x.2, .bool ca, .bool true]) (fun x => [.own (.slice x.1 sw.length x.2) 23 2 sw.length (rngCells sw)]) (fun x => mut_one rfl) (by decide) rfl rfl rfl (by kernel_rfl) (evl_of rfl) (fun w1 hs => hspw w1 _ _ (hs.nestO (xs := ys) (c := cq) (by omega) (by rw [hlw, hw0, sitVs_set hj0 (List.length_set)]; exact (by (repeat (first | with_unfolding_all exact List.Mem.head _ | assumption | with_unfolding_all refine List.Mem.tail _ ?_)))) fun d hd => by simp only [List.mem_cons, List.mem_append, hd, true_or, or_true])) (fun y => ?_)
      simp only [List.cons_append, List.nil_append]
      apply ot_v Try.tabOk
      cases ca <;> (((try first | apply tr_v Try.tabOk | apply ot_v Try.tabOk); (conv => whnf); (repeat ((first | ((first | apply VStop.mk | apply VCall.stop); (first | refine ot_eqb Try.underlying4 rfl rfl rfl rfl rfl ?_); try first | apply ot_v Try.tabOk | apply tr_v Try.tabOk) | (apply VCall.q; kernel_rfl; (focus (intro w1 hs; first | with_reducible apply hwk w1))) | apply VBr.t); (conv => whnf))); try (first | apply VStop.mk | apply VCall.stop)); ((apply VRet.mk); refine ret1 (by first | exact .inl rfl | exact .inr rfl) rfl (by exact rv_tmp rfl) ?_; exact fun w h => ⟨rfl, h.base⟩))
end
end Go.Proofs.Ytkbcogaodnmdoaa
