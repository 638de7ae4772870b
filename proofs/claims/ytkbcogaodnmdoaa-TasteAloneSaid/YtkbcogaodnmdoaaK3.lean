/- TasteAlone: plain: lemmas for the rows of this seat. No conditions. -/
import Derived.Test.YtkbcogaodnmdoaaProg
import Derived.WalkKit
import Derived.WalkSpells
import Derived.WalkLawsBesides
import Derived.Lib.Hide
import Derived.Deep.AppendLies
import Derived.Deep.Draws
import Derived.Maps.AppendAt
import Derived.RegionTactic
import Derived.OwnWalk
import Derived.Deep.QuietTactic
import Derived.BigQuiet
import Derived.Deep.DeepFit
import Derived.Deep.LoopGhost
import Derived.Deep.DeepMust
import Derived.Deep.DeepCutAuto
import Derived.StillTail
import Derived.Deep.Quiet
import Derived.Deep.RegionHeld3
import Derived.Deep.RegionWith
import Derived.Deep.RegionLaw
import Derived.Maps.OwnOps
import Derived.Maps.OwnSet
import Derived.Maps.OwnRows
import Derived.Maps.RangeWalk
import Derived.Carry
import Derived.Test.YtkbcogaodnmdoaaBase
import Derived.Test.YtkbcogaodnmdoaaMaps
import Derived.Test.YtkbcogaodnmdoaaKeys
import Derived.Test.YtkbcogaodnmdoaaS1
import Derived.Test.YtkbcogaodnmdoaaS5
import Derived.Test.YtkbcogaodnmdoaaS12
import Derived.Test.YtkbcogaodnmdoaaS14
import Derived.Test.YtkbcogaodnmdoaaV
import Derived.Test.YtkbcogaodnmdoaaV2
import Derived.Test.YtkbcogaodnmdoaaV3
import Derived.Test.YtkbcogaodnmdoaaV4
import Derived.Test.YtkbcogaodnmdoaaTab
import Derived.Test.YtkbcogaodnmdoaaE1
import Derived.Test.YtkbcogaodnmdoaaE2
import Derived.Test.YtkbcogaodnmdoaaE3
import Derived.Test.YtkbcogaodnmdoaaE4
import Derived.Test.YtkbcogaodnmdoaaE5
import Derived.Test.YtkbcogaodnmdoaaE6
import Derived.Test.YtkbcogaodnmdoaaE7
import Derived.Test.YtkbcogaodnmdoaaE8
import Derived.Test.YtkbcogaodnmdoaaE9
import Derived.Test.YtkbcogaodnmdoaaE10
import Derived.Test.YtkbcogaodnmdoaaE11
import Derived.Test.YtkbcogaodnmdoaaE12
import Derived.Test.YtkbcogaodnmdoaaE13
import Derived.Test.YtkbcogaodnmdoaaE14
import Derived.Test.YtkbcogaodnmdoaaE15
import Derived.Test.YtkbcogaodnmdoaaE16
import Derived.Test.YtkbcogaodnmdoaaE17
import Derived.Test.YtkbcogaodnmdoaaE18
import Derived.Test.YtkbcogaodnmdoaaE19
import Derived.Test.YtkbcogaodnmdoaaE20
import Derived.Test.YtkbcogaodnmdoaaE21
import Derived.Test.YtkbcogaodnmdoaaE22
import Derived.Test.YtkbcogaodnmdoaaE23
import Derived.Test.YtkbcogaodnmdoaaE24
import Derived.Test.YtkbcogaodnmdoaaE25
import Derived.Test.YtkbcogaodnmdoaaE26
import Derived.Test.YtkbcogaodnmdoaaE27
import Derived.Test.YtkbcogaodnmdoaaE28
import Derived.Test.YtkbcogaodnmdoaaE29
import Derived.Test.YtkbcogaodnmdoaaE30
import Derived.Test.YtkbcogaodnmdoaaE31
set_option linter.all false
namespace Go.Proofs.Ytkbcogaodnmdoaa
open Go.RowKit
/-! ## TasteAlone: plain -/
section
variable {rlo rhi : Int} {L : Nat} {S : List (List T3)} (hO : Okb rlo rhi L S)
include hO
theorem okb_lot {j k : Nat} (hj : j < S.length) (hk : k < S[j].length) : 0 ≤ S[j][k].1 ∧ S[j][k].1 < L ∧ -1000 ≤ S[j][k].2.1 ∧ S[j][k].2.1 ≤ S[j][k].2.2 ∧ S[j][k].2.2 ≤ 1000 :=
  hO.x _ (List.mem_flatten.2 ⟨S[j], List.getElem_mem hj, List.getElem_mem hk⟩)
theorem alone_first (hc : canB rlo rhi L S (-1) = true) {j : Nat} (hj : j < S.length) (h0 : 0 < S[j].length) : S[j][0].2.1 ≤ loS rlo rhi L S S[j][0].1.toNat ∧ hiS rlo rhi L S S[j][0].1.toNat ≤ S[j][0].2.2 := by
  have hx := okb_lot hO hj h0
  have hi : S[j][0].1.toNat < L := by omega
  have hb := span_bounds hO hc hi
  obtain ⟨s1, t1, g1, e1⟩ := span_had hO hc hi (Int.le_refl _) hb.2.1
  obtain ⟨s2, t2, g2, e2⟩ := span_had hO hc hi hb.2.1 (Int.le_refl _)
  have a1 := g1.said j hj 0 h0 id
  have a2 := g2.said j hj 0 h0 id
  rw [g1.first j hj] at a1
  rw [g2.first j hj] at a2
  omega
theorem alone_none (hc : canB rlo rhi L S (-1) = true) {i : Nat} (hi : i < L) (hno : ∀ j (hj : j < S.length) k (hk : k < S[j].length), S[j][k].1 ≠ i) : loS rlo rhi L S i = 0 ∧ hiS rlo rhi L S i = 1000 := by
  have hb := span_bounds hO hc hi
  obtain ⟨sh, ti, h⟩ := (can_truth hO).1 hc
  have key : ∀ n : Int, 0 ≤ n → n ≤ 1000 → TruthA rlo rhi L S (fun k => if k = i then n else sh k) ti := fun n n0 n1 => by
    refine ⟨fun k hk => ?_, h.first, h.next, fun j hj k hk hs => ?_⟩
    · show 0 ≤ (if k = i then n else sh k) ∧ (if k = i then n else sh k) ≤ 1000
      split
      · exact ⟨n0, n1⟩
      · exact h.sharp k hk
    · have hx := okb_lot hO hj hk
      have := hno j hj k hk
      rw [if_neg (by omega)]
      exact h.said j hj k hk hs
  have h1 := span_holds hO (key 0 (by omega) (by omega)) hi
  have h2 := span_holds hO (key 1000 (by omega) (by omega)) hi
  rw [if_pos rfl] at h1 h2
  omega
end
/-- How many tastes each lot has had, up to taste T. -/
def Tal (S : List (List T3)) (L : Nat) (M : List Int) (T : Nat) : Prop := M.length = L ∧ ∀ i : Nat, i < L → 0 ≤ iAt M i ∧ iAt M i ≤ T ∧ (iAt M i = 0 → ∀ t, t < T → (tasteAt S t).1 ≠ i)
theorem tal_zero (S : List (List T3)) (L : Nat) : Tal S L (List.replicate L 0) 0 := ⟨by simp, fun i hi => by
  rw [iAt_zeros]
  exact ⟨by omega, by omega, fun _ t ht => by omega⟩⟩
theorem tal_step {S : List (List T3)} {L : Nat} {M : List Int} {T q : Nat} (h : Tal S L M T) (hq : q < L) (e : (tasteAt S T).1 = q) : Tal S L (M.set q (iAt M q + 1)) (T + 1) := by
  refine ⟨by rw [List.length_set]; exact h.1, fun i hi => ?_⟩
  obtain ⟨h1, h2, h3⟩ := h.2 i hi
  rw [iAt_set (by rw [h.1]; exact hq)]
  by_cases hiq : i = q
  · subst hiq
    rw [if_pos rfl]
    exact ⟨by omega, by omega, fun hz => by omega⟩
  · rw [if_neg hiq]
    refine ⟨h1, by omega, fun hz t ht => ?_⟩
    rcases Nat.lt_or_ge t T with c | c
    · exact h3 hz t c
    · obtain rfl : t = T := by omega
      rw [e]; omega
section
variable (rlo rhi lots : Int) (Al : Option Addr) (c : Nat) (S : List (List T3)) (w : World) (hN : NestR w 3 Al (nestOf S)) (hm : ∀ s ∈ S, s.length ≤ maxLen)
include hN hm
set_option maxHeartbeats 4000000 in
set_option maxRecDepth 20000 in
theorem tasteAlone_any : Calls Try.prog 14 #[bookV rlo rhi lots Al S.length c] w fun e w' => e = .returned (.bool true) ∧ Below w.heap.size w w' := by
  have hfn := fun w1 (h : NestR w1 3 Al (nestOf S)) => fineG_any rlo rhi lots Al c S w1 h hm
  have hwk := fun w1 => works_any w1
  by_cases h0 : chkBook rlo rhi lots S = 0
  rotate_left
  · rw [decide_eq_false h0] at hfn
    unfold bookV at *
    refine fn_v Try.tabOk (n := 112) (A := []) Try.func14 rfl rfl (Nat.le_of_ble_eq_true rfl) (St.nil (Below.refl _ _)) ?_
    ((try first | apply tr_v Try.tabOk | apply ot_v Try.tabOk); (conv => whnf); (repeat ((first | (apply VCall.q; kernel_rfl; (focus (intro w1 hs; first | with_reducible apply hfn w1 (hs.nest hN) | with_reducible apply hwk w1))) | (apply VLd.mk; (focus ((repeat (first | ((with_reducible apply ld_blk); exact rfl) | ((with_reducible apply ld_row); exact rfl) | ((with_reducible apply ld_row0); exact rfl) | (with_reducible assumption) | (with_reducible exact CellAt.base (by assumption)) | (with_reducible apply ld_skip))); done))) | (apply VRng.mk; omega) | apply VBr.t | apply VBr.f | (apply v_t; omega) | (apply v_f; omega) | apply v_d | (apply VNew.mk; intro g hg) | (apply VIx.mk; exact rfl; omega) | (apply VIx.mk (j := 0); exact rfl; omega) | (apply VLdN.mk; (focus ((repeat (first | (with_reducible apply ldn_blk) | (with_reducible apply ldn_row) | (with_reducible assumption) | (with_reducible apply ldn_skip))); done)); exact rfl) | (apply VLdN.sub; (focus ((repeat (first | (with_reducible apply ldn_blk) | (with_reducible apply ldn_row) | (with_reducible assumption) | (with_reducible apply ldn_skip))); done)); exact rfl) | (apply VSt.mk; (focus ((repeat (first | (with_reducible exact At.here) | (with_reducible apply At.there))); done)); exact rfl) | (apply VSt.old; (focus ((repeat (first | (with_reducible exact Upd.here) | (with_reducible apply Upd.there))); done)); (first | exact rfl | (simp; omega)); exact rfl) | (apply v_wr64; omega) | (apply VWr.mk; assumption) | (apply VNz.mk; omega) | (refine slist_and (by (repeat (first | exact List.nil_sublist _ | exact List.Sublist.refl _ | refine List.Sublist.cons_cons _ ?_ | refine List.Sublist.cons _ ?_))) ?_; first | refine otl_nil ?_ | (refine otl_cons ?_; apply ot_v Try.tabOk) | skip) | (apply v_ixn; omega) | (apply VK.mk; first | (refine otl_cons ?_; apply ot_v Try.tabOk) | apply ot_v Try.tabOk)); (conv => whnf))); try (first | apply VStop.mk | apply VCall.stop))
    ((apply VRet.mk); refine ret1 (by first | exact .inl rfl | exact .inr rfl) rfl (by first | exact rv_tmp rfl | exact rv_row Try.tabOk rfl rfl rfl (by first | exact cells_blk_all (by (repeat (first | exact List.Mem.head _ | assumption | refine List.Mem.tail _ ?_))) | exact cells_row0 (by (repeat (first | exact List.Mem.head _ | assumption | refine List.Mem.tail _ ?_)))) rfl | exact rv_sc Try.tabOk rfl rfl rfl (by first | exact cell_blk (by (repeat (first | exact List.Mem.head _ | assumption | refine List.Mem.tail _ ?_))) (by rfl) | exact cell_row (by (repeat (first | exact List.Mem.head _ | assumption | refine List.Mem.tail _ ?_))) (by rfl) | exact cell_own (by (repeat (first | exact List.Mem.head _ | assumption | refine List.Mem.tail _ ?_))) (by rfl) | exact cell_row0 (by (repeat (first | exact List.Mem.head _ | assumption | refine List.Mem.tail _ ?_))) (by rfl) | assumption | exact CellAt.base (by assumption))) ?_; exact fun w h => ⟨rfl, h.base⟩)
  rw [decide_eq_true h0] at hfn
  have hO := chk_ok.1 h0
  obtain ⟨L, rfl⟩ : ∃ L : Nat, lots = L := ⟨lots.toNat, by have := hO.l; omega⟩
  have hl := hO.l
  have hF := hO.fit
  have ht := fun a b w1 => to_any a b w1
  have hsp := fun w1 (h : NestR w1 3 Al (nestOf S)) => spans_any rlo rhi L Al c S w1 h hO
  cases hc : canB rlo rhi L S (-1) with
  | false =>
    rw [hc] at hsp
    have hn := spansP_len rlo rhi L S
    clear h0 hO
    unfold bookV at *
    generalize spansP rlo rhi L S = sp at *
    refine fn_v Try.tabOk (n := 112) (A := []) Try.func14 rfl rfl (Nat.le_of_ble_eq_true rfl) (St.nil (Below.refl _ _)) ?_
    ((try first | apply tr_v Try.tabOk | apply ot_v Try.tabOk); (conv => whnf); (repeat ((first | (apply VCall.q; kernel_rfl; (focus (intro w1 hs; first | with_reducible apply hfn w1 (hs.nest hN) | with_reducible apply hwk w1))) | (apply VLd.mk; (focus ((repeat (first | ((with_reducible apply ld_blk); exact rfl) | ((with_reducible apply ld_row); exact rfl) | ((with_reducible apply ld_row0); exact rfl) | (with_reducible assumption) | (with_reducible exact CellAt.base (by assumption)) | (with_reducible apply ld_skip))); done))) | (apply VRng.mk; omega) | apply VBr.t | apply VBr.f | (apply v_t; omega) | (apply v_f; omega) | apply v_d | (apply VNew.mk; intro g hg) | (apply VIx.mk; exact rfl; omega) | (apply VIx.mk (j := 0); exact rfl; omega) | (apply VLdN.mk; (focus ((repeat (first | (with_reducible apply ldn_blk) | (with_reducible apply ldn_row) | (with_reducible assumption) | (with_reducible apply ldn_skip))); done)); exact rfl) | (apply VLdN.sub; (focus ((repeat (first | (with_reducible apply ldn_blk) | (with_reducible apply ldn_row) | (with_reducible assumption) | (with_reducible apply ldn_skip))); done)); exact rfl) | (apply VSt.mk; (focus ((repeat (first | (with_reducible exact At.here) | (with_reducible apply At.there))); done)); exact rfl) | (apply VSt.old; (focus ((repeat (first | (with_reducible exact Upd.here) | (with_reducible apply Upd.there))); done)); (first | exact rfl | (simp; omega)); exact rfl) | (apply v_wr64; omega) | (apply VWr.mk; assumption) | (apply VNz.mk; omega) | (refine slist_and (by (repeat (first | exact List.nil_sublist _ | exact List.Sublist.refl _ | refine List.Sublist.cons_cons _ ?_ | refine List.Sublist.cons _ ?_))) ?_; first | refine otl_nil ?_ | (refine otl_cons ?_; apply ot_v Try.tabOk) | skip) | (apply v_ixn; omega) | (apply VK.mk; first | (refine otl_cons ?_; apply ot_v Try.tabOk) | apply ot_v Try.tabOk)); (conv => whnf))); try (first | apply VStop.mk | apply VCall.stop))
    refine ot_call_st (X := Option Addr × Nat) (fun x => .tuple #[.slice x.1 sp.length x.2, .bool false, .bool true]) (fun x => [.own (.slice x.1 sp.length x.2) 23 2 sp.length (rngCells sp)]) (fun x => mut_one rfl) (by decide) rfl rfl rfl (by kernel_rfl) (evl_of rfl) (fun w1 hs => hsp w1 (hs.nest hN)) (fun y => ?_)
    dsimp only [List.cons_append, List.nil_append]
    apply ot_v Try.tabOk
    ((try first | apply tr_v Try.tabOk | apply ot_v Try.tabOk); (conv => whnf); (repeat ((first | (apply VCall.q; kernel_rfl; (focus (intro w1 hs; first | with_reducible apply hwk w1))) | (apply VLd.mk; (focus ((repeat (first | ((with_reducible apply ld_blk); exact rfl) | ((with_reducible apply ld_row); exact rfl) | ((with_reducible apply ld_row0); exact rfl) | (with_reducible assumption) | (with_reducible exact CellAt.base (by assumption)) | (with_reducible apply ld_skip))); done))) | (apply VRng.mk; omega) | apply VBr.t | apply VBr.f | (apply v_t; omega) | (apply v_f; omega) | apply v_d | (apply VNew.mk; intro g hg) | (apply VIx.mk; exact rfl; omega) | (apply VIx.mk (j := 0); exact rfl; omega) | (apply VLdN.mk; (focus ((repeat (first | (with_reducible apply ldn_blk) | (with_reducible apply ldn_row) | (with_reducible assumption) | (with_reducible apply ldn_skip))); done)); exact rfl) | (apply VLdN.sub; (focus ((repeat (first | (with_reducible apply ldn_blk) | (with_reducible apply ldn_row) | (with_reducible assumption) | (with_reducible apply ldn_skip))); done)); exact rfl) | (apply VSt.mk; (focus ((repeat (first | (with_reducible exact At.here) | (with_reducible apply At.there))); done)); exact rfl) | (apply VSt.old; (focus ((repeat (first | (with_reducible exact Upd.here) | (with_reducible apply Upd.there))); done)); (first | exact rfl | (simp; omega)); exact rfl) | (apply v_wr64; omega) | (apply VWr.mk; assumption) | (apply VNz.mk; omega) | (refine slist_and (by (repeat (first | exact List.nil_sublist _ | exact List.Sublist.refl _ | refine List.Sublist.cons_cons _ ?_ | refine List.Sublist.cons _ ?_))) ?_; first | refine otl_nil ?_ | (refine otl_cons ?_; apply ot_v Try.tabOk) | skip) | (apply v_ixn; omega) | (apply VK.mk; first | (refine otl_cons ?_; apply ot_v Try.tabOk) | apply ot_v Try.tabOk)); (conv => whnf))); try (first | apply VStop.mk | apply VCall.stop))
    ((apply VRet.mk); refine ret1 (by first | exact .inl rfl | exact .inr rfl) rfl (by first | exact rv_tmp rfl | exact rv_row Try.tabOk rfl rfl rfl (by first | exact cells_blk_all (by (repeat (first | exact List.Mem.head _ | assumption | refine List.Mem.tail _ ?_))) | exact cells_row0 (by (repeat (first | exact List.Mem.head _ | assumption | refine List.Mem.tail _ ?_)))) rfl | exact rv_sc Try.tabOk rfl rfl rfl (by first | exact cell_blk (by (repeat (first | exact List.Mem.head _ | assumption | refine List.Mem.tail _ ?_))) (by rfl) | exact cell_row (by (repeat (first | exact List.Mem.head _ | assumption | refine List.Mem.tail _ ?_))) (by rfl) | exact cell_own (by (repeat (first | exact List.Mem.head _ | assumption | refine List.Mem.tail _ ?_))) (by rfl) | exact cell_row0 (by (repeat (first | exact List.Mem.head _ | assumption | refine List.Mem.tail _ ?_))) (by rfl) | assumption | exact CellAt.base (by assumption))) ?_; exact fun w h => ⟨rfl, h.base⟩)
  | true =>
    rw [hc] at hsp
    have hn := spansP_yes hO hc
    have hat := fun i (hi : i < L) => spansP_at hO hc hi
    have hbd := fun i (hi : i < L) => span_bounds hO hc hi
    have hfst := fun j (hj : j < S.length) (h : 0 < S[j].length) => alone_first hO hc hj h
    have hnon := fun i (hi : i < L) hno => alone_none hO hc (i := i) hi hno
    have hx := fun j (hj : j < S.length) k (hk : k < S[j].length) => okb_lot hO hj hk
    have hne := hO.ne
    have ht12 := hO.t
    have hn4 := hO.n
    clear h0 hO
    unfold bookV at *
    generalize spansP rlo rhi L S = sp at *
    refine fn_v Try.tabOk (n := 112) (A := []) Try.func14 rfl rfl (Nat.le_of_ble_eq_true rfl) (St.nil (Below.refl _ _)) ?_
    ((try first | apply tr_v Try.tabOk | apply ot_v Try.tabOk); (conv => whnf); (repeat ((first | (apply VCall.q; kernel_rfl; (focus (intro w1 hs; first | with_reducible apply hfn w1 (hs.nest hN) | with_reducible apply hwk w1))) | (apply VLd.mk; (focus ((repeat (first | ((with_reducible apply ld_blk); exact rfl) | ((with_reducible apply ld_row); exact rfl) | ((with_reducible apply ld_row0); exact rfl) | (with_reducible assumption) | (with_reducible exact CellAt.base (by assumption)) | (with_reducible apply ld_skip))); done))) | (apply VRng.mk; omega) | apply VBr.t | apply VBr.f | (apply v_t; omega) | (apply v_f; omega) | apply v_d | (apply VNew.mk; intro g hg) | (apply VIx.mk; exact rfl; omega) | (apply VIx.mk (j := 0); exact rfl; omega) | (apply VLdN.mk; (focus ((repeat (first | (with_reducible apply ldn_blk) | (with_reducible apply ldn_row) | (with_reducible assumption) | (with_reducible apply ldn_skip))); done)); exact rfl) | (apply VLdN.sub; (focus ((repeat (first | (with_reducible apply ldn_blk) | (with_reducible apply ldn_row) | (with_reducible assumption) | (with_reducible apply ldn_skip))); done)); exact rfl) | (apply VSt.mk; (focus ((repeat (first | (with_reducible exact At.here) | (with_reducible apply At.there))); done)); exact rfl) | (apply VSt.old; (focus ((repeat (first | (with_reducible exact Upd.here) | (with_reducible apply Upd.there))); done)); (first | exact rfl | (simp; omega)); exact rfl) | (apply v_wr64; omega) | (apply VWr.mk; assumption) | (apply VNz.mk; omega) | (refine slist_and (by (repeat (first | exact List.nil_sublist _ | exact List.Sublist.refl _ | refine List.Sublist.cons_cons _ ?_ | refine List.Sublist.cons _ ?_))) ?_; first | refine otl_nil ?_ | (refine otl_cons ?_; apply ot_v Try.tabOk) | skip) | (apply v_ixn; omega) | (apply VK.mk; first | (refine otl_cons ?_; apply ot_v Try.tabOk) | apply ot_v Try.tabOk)); (conv => whnf))); try (first | apply VStop.mk | apply VCall.stop))
    refine ot_call_st (X := Option Addr × Nat) (fun x => .tuple #[.slice x.1 sp.length x.2, .bool true, .bool true]) (fun x => [.own (.slice x.1 sp.length x.2) 23 2 sp.length (rngCells sp)]) (fun x => mut_one rfl) (by decide) rfl rfl rfl (by kernel_rfl) (evl_of rfl) (fun w1 hs => hsp w1 (hs.nest hN)) (fun y => ?_)
    obtain ⟨yB, yc⟩ := y
    dsimp only [List.cons_append, List.nil_append]
    refine ot_fact (p := ∃ b, yB = some ⟨b, 0, none⟩) rfl (fun w' hs => ?_) fun hy => ?_
    · obtain ⟨B, cp, e, hB⟩ := own_form (hs.all _ (.head _))
      cases e
      exact hB (by omega)
    obtain ⟨yb, rfl⟩ := hy
    have ow : ∀ {A : List Chunk}, Chunk.own (.slice (some ⟨yb, 0, none⟩) sp.length yc) 23 2 sp.length (rngCells sp) ∈ A → ∀ i, i < L → CellAt w A yb (0 + i * 2 + 0) (.int .i64 (loS rlo rhi L S i)) ∧ CellAt w A yb (0 + i * 2 + 1) (.int .i64 (hiS rlo rhi L S i)) := fun h i hi => by
      have := own_rng (w0 := w) h (show i < sp.length by omega)
      rw [hat i hi] at this
      exact this
    apply ot_v Try.tabOk
    ((try first | apply tr_v Try.tabOk | apply ot_v Try.tabOk); (conv => whnf); (repeat ((first | ((first | apply VStop.mk | apply VCall.stop); (first | (refine ot_makeSlice Try.tabOk (by decide) rfl rfl rfl rfl rfl rfl rfl rfl rfl rfl rfl rfl (by omega) (by decide) ?_; intro g1 hg1)); try first | apply ot_v Try.tabOk | apply tr_v Try.tabOk) | (apply VLd.mk; (focus ((repeat (first | ((with_reducible apply ld_blk); exact rfl) | ((with_reducible apply ld_row); exact rfl) | ((with_reducible apply ld_row0); exact rfl) | (with_reducible assumption) | (with_reducible exact CellAt.base (by assumption)) | (with_reducible apply ld_skip))); done))) | (apply VRng.mk; omega) | apply VBr.t | apply VBr.f | (apply v_t; omega) | (apply v_f; omega) | apply v_d | (apply VNew.mk; intro g hg) | (apply VIx.mk; exact rfl; omega) | (apply VIx.mk (j := 0); exact rfl; omega) | (apply VLdN.mk; (focus ((repeat (first | (with_reducible apply ldn_blk) | (with_reducible apply ldn_row) | (with_reducible assumption) | (with_reducible apply ldn_skip))); done)); exact rfl) | (apply VLdN.sub; (focus ((repeat (first | (with_reducible apply ldn_blk) | (with_reducible apply ldn_row) | (with_reducible assumption) | (with_reducible apply ldn_skip))); done)); exact rfl) | (apply VSt.mk; (focus ((repeat (first | (with_reducible exact At.here) | (with_reducible apply At.there))); done)); exact rfl) | (apply VSt.old; (focus ((repeat (first | (with_reducible exact Upd.here) | (with_reducible apply Upd.there))); done)); (first | exact rfl | (simp; omega)); exact rfl) | (apply v_wr64; omega) | (apply VWr.mk; assumption) | (apply VNz.mk; omega) | (refine slist_and (by (repeat (first | exact List.nil_sublist _ | exact List.Sublist.refl _ | refine List.Sublist.cons_cons _ ?_ | refine List.Sublist.cons _ ?_))) ?_; first | refine otl_nil ?_ | (refine otl_cons ?_; apply ot_v Try.tabOk) | skip) | (apply v_ixn; omega) | (apply VK.mk; first | (refine otl_cons ?_; apply ot_v Try.tabOk) | apply ot_v Try.tabOk)); (conv => whnf))); try (first | apply VStop.mk | apply VCall.stop))
    rw [show List.replicate L (Value.int .i64 0) = i64s (List.replicate L 0) by simp [i64s]]
    refine v_loop (fun gm' ds ts A => ds = [] ∧ ∃ (j : Nat) (M : List Int), j + gm' = S.length ∧ Tal S L M (offT S j) ∧ A = [.blk g1 3 (i64s M), .own (.slice (some ⟨yb, 0, none⟩) sp.length yc) 23 2 sp.length (rngCells sp), .blk g 26 [.int .i64 rlo, .int .i64 rhi, .int .i64 L, .slice Al S.length c]] ∧ ts = [(1, .pointer (some ⟨g, 0, none⟩)), (3, .slice (some ⟨yb, 0, none⟩) sp.length yc), (6, .slice (some ⟨g1, 0, none⟩) L L), (7, .int .i64 (j : Int))]) S.length
      (l := [(1, _), (3, _), (6, _), (7, _)]) (B := .blk g1 3 (i64s (List.replicate L 0)) :: _) ?_ (List.Sublist.refl _) ⟨rfl, 0, List.replicate L 0, by omega, tal_zero S L, rfl, rfl⟩ ?_
    · exact ⟨rfl, rfl, rfl, rfl, trivial⟩
    rintro gm' ds ts A ⟨rfl, j, M, hj, hM, rfl, rfl⟩
    by_cases hltj : j < S.length
    rotate_left
    · obtain rfl : j = S.length := by omega
      ((try first | apply tr_v Try.tabOk | apply ot_v Try.tabOk); (conv => whnf); (repeat ((first | (apply VLd.mk; (focus ((repeat (first | ((with_reducible apply ld_blk); exact rfl) | ((with_reducible apply ld_row); exact rfl) | ((with_reducible apply ld_row0); exact rfl) | (with_reducible assumption) | (with_reducible exact CellAt.base (by assumption)) | (with_reducible apply ld_skip))); done))) | (apply VRng.mk; omega) | apply VBr.t | apply VBr.f | (apply v_t; omega) | (apply v_f; omega) | apply v_d | (apply VNew.mk; intro g hg) | (apply VIx.mk; exact rfl; omega) | (apply VIx.mk (j := 0); exact rfl; omega) | (apply VLdN.mk; (focus ((repeat (first | (with_reducible apply ldn_blk) | (with_reducible apply ldn_row) | (with_reducible assumption) | (with_reducible apply ldn_skip))); done)); exact rfl) | (apply VLdN.sub; (focus ((repeat (first | (with_reducible apply ldn_blk) | (with_reducible apply ldn_row) | (with_reducible assumption) | (with_reducible apply ldn_skip))); done)); exact rfl) | (apply VSt.mk; (focus ((repeat (first | (with_reducible exact At.here) | (with_reducible apply At.there))); done)); exact rfl) | (apply VSt.old; (focus ((repeat (first | (with_reducible exact Upd.here) | (with_reducible apply Upd.there))); done)); (first | exact rfl | (simp; omega)); exact rfl) | (apply v_wr64; omega) | (apply VWr.mk; assumption) | (apply VNz.mk; omega) | (refine slist_and (by (repeat (first | exact List.nil_sublist _ | exact List.Sublist.refl _ | refine List.Sublist.cons_cons _ ?_ | refine List.Sublist.cons _ ?_))) ?_; first | refine otl_nil ?_ | (refine otl_cons ?_; apply ot_v Try.tabOk) | skip) | (apply v_ixn; omega) | (apply VK.mk; first | (refine otl_cons ?_; apply ot_v Try.tabOk) | apply ot_v Try.tabOk)); (conv => whnf))); try (first | apply VStop.mk | apply VCall.stop))
      refine v_loop (fun gm'' ds ts A => ds = [] ∧ ∃ (i : Nat), i + gm'' = L ∧ A = [.blk g1 3 (i64s M), .own (.slice (some ⟨yb, 0, none⟩) sp.length yc) 23 2 sp.length (rngCells sp), .blk g 26 [.int .i64 rlo, .int .i64 rhi, .int .i64 L, .slice Al S.length c]] ∧ ts = [(1, .pointer (some ⟨g, 0, none⟩)), (3, .slice (some ⟨yb, 0, none⟩) sp.length yc), (6, .slice (some ⟨g1, 0, none⟩) L L), (10, .int .i64 (i : Int))]) L
        (l := [(1, _), (3, _), (6, _), (10, _)]) (B := .blk g1 3 (i64s M) :: _) ?_ (List.Sublist.refl _) ⟨rfl, 0, by omega, rfl, rfl⟩ ?_
      · exact ⟨rfl, rfl, rfl, rfl, trivial⟩
      rintro gm'' ds ts A ⟨rfl, i, hi, rfl, rfl⟩
      by_cases hlti : i < L
      rotate_left
      · obtain rfl : i = L := by omega
        ((try first | apply tr_v Try.tabOk | apply ot_v Try.tabOk); (conv => whnf); (repeat ((first | (apply VCall.q; kernel_rfl; (focus (intro w1 hs; first | with_reducible apply hwk w1))) | (apply VLd.mk; (focus ((repeat (first | ((with_reducible apply ld_blk); exact rfl) | ((with_reducible apply ld_row); exact rfl) | ((with_reducible apply ld_row0); exact rfl) | (with_reducible assumption) | (with_reducible exact CellAt.base (by assumption)) | (with_reducible apply ld_skip))); done))) | (apply VRng.mk; omega) | apply VBr.t | apply VBr.f | (apply v_t; omega) | (apply v_f; omega) | apply v_d | (apply VNew.mk; intro g hg) | (apply VIx.mk; exact rfl; omega) | (apply VIx.mk (j := 0); exact rfl; omega) | (apply VLdN.mk; (focus ((repeat (first | (with_reducible apply ldn_blk) | (with_reducible apply ldn_row) | (with_reducible assumption) | (with_reducible apply ldn_skip))); done)); exact rfl) | (apply VLdN.sub; (focus ((repeat (first | (with_reducible apply ldn_blk) | (with_reducible apply ldn_row) | (with_reducible assumption) | (with_reducible apply ldn_skip))); done)); exact rfl) | (apply VSt.mk; (focus ((repeat (first | (with_reducible exact At.here) | (with_reducible apply At.there))); done)); exact rfl) | (apply VSt.old; (focus ((repeat (first | (with_reducible exact Upd.here) | (with_reducible apply Upd.there))); done)); (first | exact rfl | (simp; omega)); exact rfl) | (apply v_wr64; omega) | (apply VWr.mk; assumption) | (apply VNz.mk; omega) | (refine slist_and (by (repeat (first | exact List.nil_sublist _ | exact List.Sublist.refl _ | refine List.Sublist.cons_cons _ ?_ | refine List.Sublist.cons _ ?_))) ?_; first | refine otl_nil ?_ | (refine otl_cons ?_; apply ot_v Try.tabOk) | skip) | (apply v_ixn; omega) | (apply VK.mk; first | (refine otl_cons ?_; apply ot_v Try.tabOk) | apply ot_v Try.tabOk)); (conv => whnf))); try (first | apply VStop.mk | apply VCall.stop))
        ((apply VRet.mk); refine ret1 (by first | exact .inl rfl | exact .inr rfl) rfl (by first | exact rv_tmp rfl | exact rv_row Try.tabOk rfl rfl rfl (by first | exact cells_blk_all (by (repeat (first | exact List.Mem.head _ | assumption | refine List.Mem.tail _ ?_))) | exact cells_row0 (by (repeat (first | exact List.Mem.head _ | assumption | refine List.Mem.tail _ ?_)))) rfl | exact rv_sc Try.tabOk rfl rfl rfl (by first | exact cell_blk (by (repeat (first | exact List.Mem.head _ | assumption | refine List.Mem.tail _ ?_))) (by rfl) | exact cell_row (by (repeat (first | exact List.Mem.head _ | assumption | refine List.Mem.tail _ ?_))) (by rfl) | exact cell_own (by (repeat (first | exact List.Mem.head _ | assumption | refine List.Mem.tail _ ?_))) (by rfl) | exact cell_row0 (by (repeat (first | exact List.Mem.head _ | assumption | refine List.Mem.tail _ ?_))) (by rfl) | assumption | exact CellAt.base (by assumption))) ?_; exact fun w h => ⟨rfl, h.base⟩)
      have hci : CellAt w [.blk g1 3 (i64s M), .own (.slice (some ⟨yb, 0, none⟩) sp.length yc) 23 2 sp.length (rngCells sp), .blk g 26 [.int .i64 rlo, .int .i64 rhi, .int .i64 L, .slice Al S.length c]] g1 (0 + i * 1) (.int .i64 (iAt M i)) := by
        rw [Nat.zero_add, Nat.mul_one]; exact cell_blk (.head _) (iAt_get (by rw [hM.1]; exact hlti))
      have hMi := hM.2 i hlti
      have o1 := fun {A} h => ow (A := A) h i hlti
      have hbi := hbd i hlti
      have hnoi := hnon i hlti
      rw [offT_all] at hMi
      generalize iAt M i = mi at *
      by_cases hz : mi = 0
      · obtain ⟨z1, z2⟩ := hnoi (fun j hj k hk e => by
          have := hMi.2.2 hz (offT S j + k) (flat_lt hj hk)
          rw [show offT S j + k = (S.take j).flatten.length + k from rfl, taste_at hj hk] at this
          exact this e)
        subst hz
        rw [z1, z2] at o1
        clear hMi hnoi
        ((try first | apply tr_v Try.tabOk | apply ot_v Try.tabOk); (conv => whnf); (repeat ((first | ((first | apply VStop.mk | apply VCall.stop); (first | refine tr_region_lex (id := 20) (by kernel_rfl) [.rd, .rd, .rd, .rd, .rd, .rd, .rd, .rd, .rd, .rd, .cr, .rd, .rd] rfl (by kernel_rfl) ?_); try first | apply ot_v Try.tabOk | apply tr_v Try.tabOk) | (apply VLdN.mk; exact cells_two (o1 (by (repeat (first | with_unfolding_all exact List.Mem.head _ | assumption | with_unfolding_all refine List.Mem.tail _ ?_)))).1 (o1 (by (repeat (first | with_unfolding_all exact List.Mem.head _ | assumption | with_unfolding_all refine List.Mem.tail _ ?_)))).2; exact rfl) | (apply VEq.mk true; kernel_rfl; exact rng_same 0 1000) | (apply VIx.mk (j := i); exact rfl; omega) | (apply VLd.mk; first | exact hci | exact (o1 (by (repeat (first | with_unfolding_all exact List.Mem.head _ | assumption | with_unfolding_all refine List.Mem.tail _ ?_)))).1 | exact (o1 (by (repeat (first | with_unfolding_all exact List.Mem.head _ | assumption | with_unfolding_all refine List.Mem.tail _ ?_)))).2) | (apply VCall.q; kernel_rfl; (focus (intro w1 hs; first | with_reducible apply ht _ _ w1))) | (apply VLd.mk; (focus ((repeat (first | ((with_reducible apply ld_blk); exact rfl) | ((with_reducible apply ld_row); exact rfl) | ((with_reducible apply ld_row0); exact rfl) | (with_reducible assumption) | (with_reducible exact CellAt.base (by assumption)) | (with_reducible apply ld_skip))); done))) | (apply VRng.mk; omega) | apply VBr.t | apply VBr.f | (apply v_t; omega) | (apply v_f; omega) | apply v_d | (apply VNew.mk; intro g hg) | (apply VIx.mk; exact rfl; omega) | (apply VIx.mk (j := 0); exact rfl; omega) | (apply VLdN.mk; (focus ((repeat (first | (with_reducible apply ldn_blk) | (with_reducible apply ldn_row) | (with_reducible assumption) | (with_reducible apply ldn_skip))); done)); exact rfl) | (apply VLdN.sub; (focus ((repeat (first | (with_reducible apply ldn_blk) | (with_reducible apply ldn_row) | (with_reducible assumption) | (with_reducible apply ldn_skip))); done)); exact rfl) | (apply VSt.mk; (focus ((repeat (first | (with_reducible exact At.here) | (with_reducible apply At.there))); done)); exact rfl) | (apply VSt.old; (focus ((repeat (first | (with_reducible exact Upd.here) | (with_reducible apply Upd.there))); done)); (first | exact rfl | (simp; omega)); exact rfl) | (apply v_wr64; omega) | (apply VWr.mk; assumption) | (apply VNz.mk; omega) | (refine slist_and (by (repeat (first | exact List.nil_sublist _ | exact List.Sublist.refl _ | refine List.Sublist.cons_cons _ ?_ | refine List.Sublist.cons _ ?_))) ?_; first | refine otl_nil ?_ | (refine otl_cons ?_; apply ot_v Try.tabOk) | skip) | (apply v_ixn; omega) | (apply VK.mk; first | (refine otl_cons ?_; apply ot_v Try.tabOk) | apply ot_v Try.tabOk)); (conv => whnf))); try (first | apply VStop.mk | apply VCall.stop))
        exact v_rnd (gm'' - 1) (by omega) (l := [(1, _), (3, _), (6, _), (10, _)]) (B := _) ⟨rfl, rfl, rfl, rfl, trivial⟩ (List.Sublist.refl _) ⟨rfl, i + 1, by omega, rfl, rfl⟩
      · clear hMi hnoi
        ((try first | apply tr_v Try.tabOk | apply ot_v Try.tabOk); (conv => whnf); (repeat ((first | ((first | apply VStop.mk | apply VCall.stop); (first | refine tr_region_lex (id := 20) (by kernel_rfl) [.rd, .rd, .rd, .rd, .rd, .rd, .rd, .rd, .rd, .rd, .cr, .rd, .rd] rfl (by kernel_rfl) ?_); try first | apply ot_v Try.tabOk | apply tr_v Try.tabOk) | (apply VIx.mk (j := i); exact rfl; omega) | (apply VLd.mk; first | exact hci | exact (o1 (by (repeat (first | with_unfolding_all exact List.Mem.head _ | assumption | with_unfolding_all refine List.Mem.tail _ ?_)))).1 | exact (o1 (by (repeat (first | with_unfolding_all exact List.Mem.head _ | assumption | with_unfolding_all refine List.Mem.tail _ ?_)))).2) | (apply VCall.q; kernel_rfl; (focus (intro w1 hs; first | with_reducible apply ht _ _ w1))) | (apply VLd.mk; (focus ((repeat (first | ((with_reducible apply ld_blk); exact rfl) | ((with_reducible apply ld_row); exact rfl) | ((with_reducible apply ld_row0); exact rfl) | (with_reducible assumption) | (with_reducible exact CellAt.base (by assumption)) | (with_reducible apply ld_skip))); done))) | (apply VRng.mk; omega) | apply VBr.t | apply VBr.f | (apply v_t; omega) | (apply v_f; omega) | apply v_d | (apply VNew.mk; intro g hg) | (apply VIx.mk; exact rfl; omega) | (apply VIx.mk (j := 0); exact rfl; omega) | (apply VLdN.mk; (focus ((repeat (first | (with_reducible apply ldn_blk) | (with_reducible apply ldn_row) | (with_reducible assumption) | (with_reducible apply ldn_skip))); done)); exact rfl) | (apply VLdN.sub; (focus ((repeat (first | (with_reducible apply ldn_blk) | (with_reducible apply ldn_row) | (with_reducible assumption) | (with_reducible apply ldn_skip))); done)); exact rfl) | (apply VSt.mk; (focus ((repeat (first | (with_reducible exact At.here) | (with_reducible apply At.there))); done)); exact rfl) | (apply VSt.old; (focus ((repeat (first | (with_reducible exact Upd.here) | (with_reducible apply Upd.there))); done)); (first | exact rfl | (simp; omega)); exact rfl) | (apply v_wr64; omega) | (apply VWr.mk; assumption) | (apply VNz.mk; omega) | (refine slist_and (by (repeat (first | exact List.nil_sublist _ | exact List.Sublist.refl _ | refine List.Sublist.cons_cons _ ?_ | refine List.Sublist.cons _ ?_))) ?_; first | refine otl_nil ?_ | (refine otl_cons ?_; apply ot_v Try.tabOk) | skip) | (apply v_ixn; omega) | (apply VK.mk; first | (refine otl_cons ?_; apply ot_v Try.tabOk) | apply ot_v Try.tabOk)); (conv => whnf))); try (first | apply VStop.mk | apply VCall.stop))
        exact v_rnd (gm'' - 1) (by omega) (l := [(1, _), (3, _), (6, _), (10, _)]) (B := _) ⟨rfl, rfl, rfl, rfl, trivial⟩ (List.Sublist.refl _) ⟨rfl, i + 1, by omega, rfl, rfl⟩
    obtain ⟨b, o, rfl, B', c', hce, hrd⟩ := nest_at hN hltj
    have hl0 := hne _ (List.getElem_mem hltj)
    obtain ⟨b', o', rfl, _⟩ := hrd.2 (by omega)
    ((try first | apply tr_v Try.tabOk | apply ot_v Try.tabOk); (conv => whnf); (repeat ((first | (apply VLd.mk; exact hce _) | (apply VLd.mk; (focus ((repeat (first | ((with_reducible apply ld_blk); exact rfl) | ((with_reducible apply ld_row); exact rfl) | ((with_reducible apply ld_row0); exact rfl) | (with_reducible assumption) | (with_reducible exact CellAt.base (by assumption)) | (with_reducible apply ld_skip))); done))) | (apply VRng.mk; omega) | apply VBr.t | apply VBr.f | (apply v_t; omega) | (apply v_f; omega) | apply v_d | (apply VNew.mk; intro g hg) | (apply VIx.mk; exact rfl; omega) | (apply VIx.mk (j := 0); exact rfl; omega) | (apply VLdN.mk; (focus ((repeat (first | (with_reducible apply ldn_blk) | (with_reducible apply ldn_row) | (with_reducible assumption) | (with_reducible apply ldn_skip))); done)); exact rfl) | (apply VLdN.sub; (focus ((repeat (first | (with_reducible apply ldn_blk) | (with_reducible apply ldn_row) | (with_reducible assumption) | (with_reducible apply ldn_skip))); done)); exact rfl) | (apply VSt.mk; (focus ((repeat (first | (with_reducible exact At.here) | (with_reducible apply At.there))); done)); exact rfl) | (apply VSt.old; (focus ((repeat (first | (with_reducible exact Upd.here) | (with_reducible apply Upd.there))); done)); (first | exact rfl | (simp; omega)); exact rfl) | (apply v_wr64; omega) | (apply VWr.mk; assumption) | (apply VNz.mk; omega) | (refine slist_and (by (repeat (first | exact List.nil_sublist _ | exact List.Sublist.refl _ | refine List.Sublist.cons_cons _ ?_ | refine List.Sublist.cons _ ?_))) ?_; first | refine otl_nil ?_ | (refine otl_cons ?_; apply ot_v Try.tabOk) | skip) | (apply v_ixn; omega) | (apply VK.mk; first | (refine otl_cons ?_; apply ot_v Try.tabOk) | apply ot_v Try.tabOk)); (conv => whnf))); try (first | apply VStop.mk | apply VCall.stop))
    refine v_loop (fun gm'' ds ts A => ds = [] ∧ ∃ (k : Nat) (M : List Int), k + gm'' = S[j].length ∧ Tal S L M (offT S j + k) ∧ A = [.blk g1 3 (i64s M), .own (.slice (some ⟨yb, 0, none⟩) sp.length yc) 23 2 sp.length (rngCells sp), .blk g 26 [.int .i64 rlo, .int .i64 rhi, .int .i64 L, .slice (some ⟨b, o, none⟩) S.length c]] ∧ ts = [(1, .pointer (some ⟨g, 0, none⟩)), (3, .slice (some ⟨yb, 0, none⟩) sp.length yc), (6, .slice (some ⟨g1, 0, none⟩) L L), (7, .int .i64 (j : Int)), (8, .int .i64 (k : Int))]) S[j].length
      (l := [(1, _), (3, _), (6, _), (7, _), (8, _)]) (B := _) ?_ (List.Sublist.refl _) ⟨rfl, 0, M, by omega, by rw [Nat.add_zero]; exact hM, rfl, rfl⟩ ?_
    · exact ⟨rfl, rfl, rfl, rfl, rfl, trivial⟩
    clear hM M
    rintro gm'' ds ts A ⟨rfl, k, M, hk, hM, rfl, rfl⟩
    by_cases hltk : k < S[j].length
    rotate_left
    · obtain rfl : k = S[j].length := by omega
      ((try first | apply tr_v Try.tabOk | apply ot_v Try.tabOk); (conv => whnf); (repeat ((first | (apply VLd.mk; exact hce _) | (apply VIx.mk (j := j); exact rfl; omega) | (apply VLd.mk; (focus ((repeat (first | ((with_reducible apply ld_blk); exact rfl) | ((with_reducible apply ld_row); exact rfl) | ((with_reducible apply ld_row0); exact rfl) | (with_reducible assumption) | (with_reducible exact CellAt.base (by assumption)) | (with_reducible apply ld_skip))); done))) | (apply VRng.mk; omega) | apply VBr.t | apply VBr.f | (apply v_t; omega) | (apply v_f; omega) | apply v_d | (apply VNew.mk; intro g hg) | (apply VIx.mk; exact rfl; omega) | (apply VIx.mk (j := 0); exact rfl; omega) | (apply VLdN.mk; (focus ((repeat (first | (with_reducible apply ldn_blk) | (with_reducible apply ldn_row) | (with_reducible assumption) | (with_reducible apply ldn_skip))); done)); exact rfl) | (apply VLdN.sub; (focus ((repeat (first | (with_reducible apply ldn_blk) | (with_reducible apply ldn_row) | (with_reducible assumption) | (with_reducible apply ldn_skip))); done)); exact rfl) | (apply VSt.mk; (focus ((repeat (first | (with_reducible exact At.here) | (with_reducible apply At.there))); done)); exact rfl) | (apply VSt.old; (focus ((repeat (first | (with_reducible exact Upd.here) | (with_reducible apply Upd.there))); done)); (first | exact rfl | (simp; omega)); exact rfl) | (apply v_wr64; omega) | (apply VWr.mk; assumption) | (apply VNz.mk; omega) | (refine slist_and (by (repeat (first | exact List.nil_sublist _ | exact List.Sublist.refl _ | refine List.Sublist.cons_cons _ ?_ | refine List.Sublist.cons _ ?_))) ?_; first | refine otl_nil ?_ | (refine otl_cons ?_; apply ot_v Try.tabOk) | skip) | (apply v_ixn; omega) | (apply VK.mk; first | (refine otl_cons ?_; apply ot_v Try.tabOk) | apply ot_v Try.tabOk)); (conv => whnf))); try (first | apply VStop.mk | apply VCall.stop))
      exact v_rnd (gm' - 1) (by omega) (l := [(1, _), (3, _), (6, _), (7, _)]) (B := _) ⟨rfl, rfl, rfl, rfl, trivial⟩ (List.Sublist.refl _) ⟨rfl, j + 1, M, by omega, by rw [offT_step hltj]; exact hM, rfl, rfl⟩
    have hsd : ∀ Ch, CellsAt w Ch b' (o' + k * 3) (saidL S[j][k]) := fun Ch => by
      have := said_cells hrd hltk (by omega) Ch
      rwa [List.getElem?_eq_getElem hltk, Option.getD_some] at this
    have hxk := hx j hltj k hltk
    have hta : tasteAt S (offT S j + k) = S[j][k] := taste_at hltj hltk
    have hfj := hfst j hltj (by omega)
    have hfk : k = 0 → S[j][k] = S[j][0] := fun e => by subst e; rfl
    have hlt := flat_lt hltj hltk
    generalize S[j][k] = tx at *
    obtain ⟨t1, t2, t3⟩ := tx
    dsimp only at hxk
    obtain ⟨q, rfl⟩ : ∃ q : Nat, t1 = q := ⟨t1.toNat, by omega⟩
    have hsd : ∀ Ch, CellsAt w Ch b' (o' + k * 3) [.int .i64 (q : Int), .int .i64 t2, .int .i64 t3] := hsd
    have hqL : q < L := by omega
    have hstep := tal_step hM hqL (by rw [hta])
    have hMq := hM.2 q hqL
    have hci : ∀ {A : List Chunk}, Chunk.blk g1 3 (i64s M) ∈ A → CellAt w A g1 (0 + q * 1) (.int .i64 (iAt M q)) := fun h => by
      rw [Nat.zero_add, Nat.mul_one]; exact cell_blk h (iAt_get (by rw [hM.1]; exact hqL))
    have o1 := fun {A} h => ow (A := A) h q hqL
    have hof : offT S j + k ≤ 12 := by
      have : offT S j + k < S.flatten.length := hlt
      omega
    have hMl := hM.1
    generalize iAt M q = mq at *
    by_cases hk0 : k = 0
    · have e0 := hfk hk0
      rw [← e0] at hfj
      dsimp only [Int.toNat_natCast] at hfj
      subst hk0
      ((try first | apply tr_v Try.tabOk | apply ot_v Try.tabOk); (conv => whnf); (repeat ((first | ((first | apply VStop.mk | apply VCall.stop); (first | refine tr_region_lex (id := 15) (by kernel_rfl) [.rd, .rd, .rd, .rd, .rd, .rd, .rd, .rd, .rd, .rd, .rd, .rd, .rd, .rd, .rd, .rd, .rd, .rd, .rd, .rd, .rd, .rd, .rd, .rd, .rd, .rd] rfl (by kernel_rfl) ?_); try first | apply ot_v Try.tabOk | apply tr_v Try.tabOk) | (apply VLd.mk; exact hce _) | (apply VLdN.mk; exact hsd _; exact rfl) | (apply VIx.mk (j := j); exact rfl; omega) | (apply VIx.mk (j := q); exact rfl; omega) | (apply VLd.mk; first | exact hci (by (repeat (first | with_unfolding_all exact List.Mem.head _ | assumption | with_unfolding_all refine List.Mem.tail _ ?_))) | exact (o1 (by (repeat (first | with_unfolding_all exact List.Mem.head _ | assumption | with_unfolding_all refine List.Mem.tail _ ?_)))).1 | exact (o1 (by (repeat (first | with_unfolding_all exact List.Mem.head _ | assumption | with_unfolding_all refine List.Mem.tail _ ?_)))).2) | (apply VSt.old; (focus (repeat (first | (with_reducible exact Upd.here) | (with_reducible apply Upd.there))); done); exact ble_one _ (by omega); exact setMany_one _ (by omega)) | (apply VLd.mk; (focus ((repeat (first | ((with_reducible apply ld_blk); exact rfl) | ((with_reducible apply ld_row); exact rfl) | ((with_reducible apply ld_row0); exact rfl) | (with_reducible assumption) | (with_reducible exact CellAt.base (by assumption)) | (with_reducible apply ld_skip))); done))) | (apply VRng.mk; omega) | apply VBr.t | apply VBr.f | (apply v_t; omega) | (apply v_f; omega) | apply v_d | (apply VNew.mk; intro g hg) | (apply VIx.mk; exact rfl; omega) | (apply VIx.mk (j := 0); exact rfl; omega) | (apply VLdN.mk; (focus ((repeat (first | (with_reducible apply ldn_blk) | (with_reducible apply ldn_row) | (with_reducible assumption) | (with_reducible apply ldn_skip))); done)); exact rfl) | (apply VLdN.sub; (focus ((repeat (first | (with_reducible apply ldn_blk) | (with_reducible apply ldn_row) | (with_reducible assumption) | (with_reducible apply ldn_skip))); done)); exact rfl) | (apply VSt.mk; (focus ((repeat (first | (with_reducible exact At.here) | (with_reducible apply At.there))); done)); exact rfl) | (apply VSt.old; (focus ((repeat (first | (with_reducible exact Upd.here) | (with_reducible apply Upd.there))); done)); (first | exact rfl | (simp; omega)); exact rfl) | (apply v_wr64; omega) | (apply VWr.mk; assumption) | (apply VNz.mk; omega) | (refine slist_and (by (repeat (first | exact List.nil_sublist _ | exact List.Sublist.refl _ | refine List.Sublist.cons_cons _ ?_ | refine List.Sublist.cons _ ?_))) ?_; first | refine otl_nil ?_ | (refine otl_cons ?_; apply ot_v Try.tabOk) | skip) | (apply v_ixn; omega) | (apply VK.mk; first | (refine otl_cons ?_; apply ot_v Try.tabOk) | apply ot_v Try.tabOk)); (conv => whnf))); try (first | apply VStop.mk | apply VCall.stop))
      exact v_rnd (gm'' - 1) (by omega) (l := [(1, _), (3, _), (6, _), (7, _), (8, _)]) (B := [_, _, _]) ⟨rfl, rfl, rfl, rfl, rfl, trivial⟩ (.cons _ (List.Sublist.refl _)) ⟨rfl, 0 + 1, M.set q (mq + 1), by omega, by first | exact hstep | (rw [← Nat.add_assoc]; exact hstep), rfl, rfl⟩
    · ((try first | apply tr_v Try.tabOk | apply ot_v Try.tabOk); (conv => whnf); (repeat ((first | ((first | apply VStop.mk | apply VCall.stop); (first | refine tr_region_lex (id := 15) (by kernel_rfl) [.rd, .rd, .rd, .rd, .rd, .rd, .rd, .rd, .rd, .rd, .rd, .rd, .rd, .rd, .rd, .rd, .rd, .rd, .rd, .rd, .rd, .rd, .rd, .rd, .rd, .rd] rfl (by kernel_rfl) ?_); try first | apply ot_v Try.tabOk | apply tr_v Try.tabOk) | (apply VLd.mk; exact hce _) | (apply VLdN.mk; exact hsd _; exact rfl) | (apply VIx.mk (j := j); exact rfl; omega) | (apply VIx.mk (j := q); exact rfl; omega) | (apply VLd.mk; first | exact hci (by (repeat (first | with_unfolding_all exact List.Mem.head _ | assumption | with_unfolding_all refine List.Mem.tail _ ?_))) | exact (o1 (by (repeat (first | with_unfolding_all exact List.Mem.head _ | assumption | with_unfolding_all refine List.Mem.tail _ ?_)))).1 | exact (o1 (by (repeat (first | with_unfolding_all exact List.Mem.head _ | assumption | with_unfolding_all refine List.Mem.tail _ ?_)))).2) | (apply VSt.old; (focus (repeat (first | (with_reducible exact Upd.here) | (with_reducible apply Upd.there))); done); exact ble_one _ (by omega); exact setMany_one _ (by omega)) | (apply VLd.mk; (focus ((repeat (first | ((with_reducible apply ld_blk); exact rfl) | ((with_reducible apply ld_row); exact rfl) | ((with_reducible apply ld_row0); exact rfl) | (with_reducible assumption) | (with_reducible exact CellAt.base (by assumption)) | (with_reducible apply ld_skip))); done))) | (apply VRng.mk; omega) | apply VBr.t | apply VBr.f | (apply v_t; omega) | (apply v_f; omega) | apply v_d | (apply VNew.mk; intro g hg) | (apply VIx.mk; exact rfl; omega) | (apply VIx.mk (j := 0); exact rfl; omega) | (apply VLdN.mk; (focus ((repeat (first | (with_reducible apply ldn_blk) | (with_reducible apply ldn_row) | (with_reducible assumption) | (with_reducible apply ldn_skip))); done)); exact rfl) | (apply VLdN.sub; (focus ((repeat (first | (with_reducible apply ldn_blk) | (with_reducible apply ldn_row) | (with_reducible assumption) | (with_reducible apply ldn_skip))); done)); exact rfl) | (apply VSt.mk; (focus ((repeat (first | (with_reducible exact At.here) | (with_reducible apply At.there))); done)); exact rfl) | (apply VSt.old; (focus ((repeat (first | (with_reducible exact Upd.here) | (with_reducible apply Upd.there))); done)); (first | exact rfl | (simp; omega)); exact rfl) | (apply v_wr64; omega) | (apply VWr.mk; assumption) | (apply VNz.mk; omega) | (refine slist_and (by (repeat (first | exact List.nil_sublist _ | exact List.Sublist.refl _ | refine List.Sublist.cons_cons _ ?_ | refine List.Sublist.cons _ ?_))) ?_; first | refine otl_nil ?_ | (refine otl_cons ?_; apply ot_v Try.tabOk) | skip) | (apply v_ixn; omega) | (apply VK.mk; first | (refine otl_cons ?_; apply ot_v Try.tabOk) | apply ot_v Try.tabOk)); (conv => whnf))); try (first | apply VStop.mk | apply VCall.stop))
      exact v_rnd (gm'' - 1) (by omega) (l := [(1, _), (3, _), (6, _), (7, _), (8, _)]) (B := [_, _, _]) ⟨rfl, rfl, rfl, rfl, rfl, trivial⟩ (.cons _ (List.Sublist.refl _)) ⟨rfl, k + 1, M.set q (mq + 1), by omega, by first | exact hstep | (rw [← Nat.add_assoc]; exact hstep), rfl, rfl⟩
end
end Go.Proofs.Ytkbcogaodnmdoaa
