/- A valid book.: lemmas for the rows of this seat. No conditions. -/
import Derived.Test.YtkbcogaodnmdoaaProg
import Derived.WalkKit
import Derived.WalkSpells
import Derived.WalkLawsBesides
import Derived.Lib.Hide
import Derived.Deep.AppendLies
import Derived.Deep.Draws
import Derived.Maps.AppendAt
import Derived.RegionTactic
import Derived.OwnWalk
import Derived.Deep.QuietTactic
import Derived.BigQuiet
import Derived.Deep.DeepFit
import Derived.Deep.LoopGhost
import Derived.Deep.DeepMust
import Derived.Deep.DeepCutAuto
import Derived.StillTail
import Derived.Deep.Quiet
import Derived.Deep.RegionHeld3
import Derived.Deep.RegionWith
import Derived.Deep.RegionLaw
import Derived.Maps.OwnOps
import Derived.Maps.OwnSet
import Derived.Maps.OwnRows
import Derived.Maps.RangeWalk
import Derived.Carry
import Derived.Test.YtkbcogaodnmdoaaBase
import Derived.Test.YtkbcogaodnmdoaaMaps
import Derived.Test.YtkbcogaodnmdoaaKeys
import Derived.Test.YtkbcogaodnmdoaaS1
import Derived.Test.YtkbcogaodnmdoaaS5
import Derived.Test.YtkbcogaodnmdoaaS14
import Derived.Test.YtkbcogaodnmdoaaV
import Derived.Test.YtkbcogaodnmdoaaTab
import Derived.Test.YtkbcogaodnmdoaaE1
import Derived.Test.YtkbcogaodnmdoaaE2
import Derived.Test.YtkbcogaodnmdoaaE3
import Derived.Test.YtkbcogaodnmdoaaE4
set_option linter.all false
namespace Go.Proofs.Ytkbcogaodnmdoaa
open Go.RowKit
/-- A valid book. -/
structure Okb (rlo rhi lots : Int) (S : List (List T3)) : Prop where
  r : 0 ≤ rlo ∧ rlo ≤ rhi ∧ rhi ≤ 50
  l : 1 ≤ lots ∧ lots ≤ 6
  n : S.length ≤ 4
  t : S.flatten.length ≤ 12
  ne : ∀ s ∈ S, s.length ≠ 0
  x : ∀ x ∈ S.flatten, 0 ≤ x.1 ∧ x.1 < lots ∧ -1000 ≤ x.2.1 ∧ x.2.1 ≤ x.2.2 ∧ x.2.2 ≤ 1000
theorem stray_iff (lots : Int) (x : T3) : strayB lots x = false ↔ 0 ≤ x.1 ∧ x.1 < lots ∧ -1000 ≤ x.2.1 ∧ x.2.1 ≤ x.2.2 ∧ x.2.2 ≤ 1000 := by
  unfold strayB rangeB
  simp only [Bool.or_eq_false_iff, Bool.not_eq_false', decide_eq_true_eq]
  constructor
  · rintro ⟨⟨a, b⟩, c, d, e⟩; exact ⟨a, b, c, d, e⟩
  · rintro ⟨a, b, c, d, e⟩; exact ⟨⟨a, b⟩, c, d, e⟩
theorem chk_ok {rlo rhi lots : Int} {S : List (List T3)} : chkBook rlo rhi lots S = 0 ↔ Okb rlo rhi lots S := by
  constructor
  · intro h
    unfold chkBook at h
    split at h
    · cases h
    · rename_i h1
      split at h
      · cases h
      · rename_i h2
        split at h
        · cases h
        · rename_i h3
          split at h
          · cases h
          · rename_i h4
            have h1 : rangeB 0 50 rlo rhi = true := by simpa using h1
            unfold rangeB at h1
            have h1 := of_decide_eq_true h1
            unfold manyB at h3
            simp only [Bool.or_eq_true, decide_eq_true_eq, not_or, List.any_eq_true, not_exists, not_and] at h3
            refine ⟨h1, by omega, by omega, by omega, h3.1, fun x hx => (stray_iff lots x).1 ?_⟩
            have h4 : S.flatten.any (strayB lots) = false := by simpa using h4
            have := List.any_eq_false.1 h4 x hx
            simpa using this
  · intro h
    unfold chkBook
    rw [if_neg, if_neg, if_neg, if_neg]
    · have : S.flatten.any (strayB lots) = false := List.any_eq_false.2 fun x hx => by rw [(stray_iff lots x).2 (h.x x hx)]; simp
      rw [this]; simp
    · unfold manyB
      simp only [Bool.or_eq_true, decide_eq_true_eq, not_or, List.any_eq_true, not_exists, not_and]
      exact ⟨h.ne, by have := h.t; omega⟩
    · have := h.l; have := h.n; omega
    · unfold rangeB
      rw [decide_eq_true h.r]; simp
theorem Okb.fit {rlo rhi lots : Int} {S : List (List T3)} (h : Okb rlo rhi lots S) : Fit S := chk_great rlo rhi lots (chk_ok.2 h)
theorem tasteAt_mem {S : List (List T3)} {k : Nat} (h : k < S.flatten.length) : tasteAt S k ∈ S.flatten := by
  unfold tasteAt
  rw [List.getElem?_eq_getElem h, Option.getD_some]
  exact List.getElem_mem h
theorem own_said {w0 : World} {b cap : Nat} {l : List T3} {k : Nat} (hk : k < l.length) {Ch : List Chunk} (hm : Chunk.own (.slice (some ⟨b, 0, none⟩) l.length cap) 67 3 l.length (saidCells l) ∈ Ch) : CellsAt w0 Ch b (0 + k * 3) (saidL (l[k]?.getD (0, 0, 0))) := fun w1 hs i u hu => by
  have hi : i < 3 := by
    have := (List.getElem?_eq_some_iff.1 hu).1
    simpa [saidL] using this
  rw [Nat.zero_add]
  exact cell_own hm (by rw [saidCells_get l k hk i hi]; exact hu) w1 hs
section
variable (rlo rhi : Int) (L : Nat) (Al : Option Addr) (c : Nat) (S : List (List T3)) (w : World) (hN : NestR w 3 Al (nestOf S)) (hO : Okb rlo rhi L S)
include hN hO
set_option maxHeartbeats 8000000 in
set_option maxRecDepth 20000 in
theorem bound_any (but : Int) (i k : Nat) (hi : i < 1 + L + S.flatten.length) (hk : k < 1 + L + S.flatten.length) : Calls Try.prog 75 #[bookV rlo rhi L Al S.length c, .int .i64 i, .int .i64 k, .int .i64 but] w fun e w' =>
    e = .returned (.tuple #[.int .i64 ((bnd rlo rhi L S but i k).getD 0), .bool (bnd rlo rhi L S but i k).isSome]) ∧ Below w.heap.size w w' := by
  have hF := hO.fit
  have hta := fun w1 (h : NestR w1 3 Al (nestOf S)) => tastes_any rlo rhi L Al c S w1 h hF
  have hfi := fun q w1 (h : NestR w1 3 Al (nestOf S)) => isFirst_any rlo rhi L Al c S w1 h hF q
  have htx := fun x (h : x < S.flatten.length) => hO.x _ (tasteAt_mem h)
  obtain ⟨r1, r2, r3⟩ := hO.r
  obtain ⟨l1, l2⟩ := hO.l
  have ht := hO.t
  unfold bookV at *
  clear hO
  refine fn_v Try.tabOk (n := 170) (A := []) Try.func75 rfl rfl (Nat.le_of_ble_eq_true rfl) (St.nil (Below.refl _ _)) ?_
  ((try first | apply tr_v Try.tabOk | apply ot_v Try.tabOk); (conv => whnf); (repeat ((first | (apply VNew.mk; intro g hg) | (apply VLdN.mk; (focus ((repeat (first | (with_reducible apply ldn_blk) | (with_reducible apply ldn_row) | (with_reducible assumption) | (with_reducible apply ldn_skip))); done)); exact rfl)); (conv => whnf))); try (first | apply VStop.mk | apply VCall.stop))
  refine ot_call_ownS (t := 67) (sz := 3) (m := S.flatten.length) (xs := saidCells S.flatten) (by decide) rfl rfl rfl (by kernel_rfl) (evl_of rfl) (fun w1 hs => hta w1 (hs.nest hN)) (fun B cap hB => ?_)
  have hsd : ∀ x, x < S.flatten.length → ∀ b, B = some ⟨b, 0, none⟩ → ∀ Ch, Chunk.own (.slice B S.flatten.length cap) 67 3 S.flatten.length (saidCells S.flatten) ∈ Ch → CellsAt w Ch b (0 + x * 3) (saidL (tasteAt S x)) := fun x hx b hb Ch hm => by subst hb; exact own_said hx hm
  clear hta
  rcases Nat.lt_or_ge 0 i with hi0 | hi0
  rotate_left
  · obtain rfl : i = 0 := by omega
    rcases Nat.lt_or_ge 0 k with hk0 | hk0
    rotate_left
    · obtain rfl : k = 0 := by omega
      have hb : bnd rlo rhi L S but 0 0 = none := by unfold bnd; rw [if_pos rfl, if_pos rfl]
      ((try first | apply tr_v Try.tabOk | apply ot_v Try.tabOk); (conv => whnf); (repeat ((first | ((first | apply VStop.mk | apply VCall.stop); (first | refine tr_region_lex (id := 6) (by kernel_rfl) [.rd, .rd, .rd, .rd, .rd, .rd, .rd, .rd, .rd, .rd, .rd, .rd] rfl (by kernel_rfl) ?_); try first | apply ot_v Try.tabOk | apply tr_v Try.tabOk) | (apply VLd.mk; (focus ((repeat (first | ((with_reducible apply ld_blk); exact rfl) | ((with_reducible apply ld_row); exact rfl) | ((with_reducible apply ld_row0); exact rfl) | (with_reducible assumption) | (with_reducible exact CellAt.base (by assumption)) | (with_reducible apply ld_skip))); done))) | (apply VRng.mk; omega) | apply VBr.t | apply VBr.f | (apply v_t; omega) | (apply v_f; omega)); (conv => whnf))); try (first | apply VStop.mk | apply VCall.stop))
      (apply VRet.mk)
      refine ret2 (by first | exact .inl rfl | exact .inr rfl) rfl (by exact rv_tmp rfl) (by exact rv_tmp rfl) ?_
      exact fun w h => ⟨by rw [hb]; rfl, h.base⟩
    rcases Nat.lt_or_ge L k with hkL | hkL
    rotate_left
    · have hb : bnd rlo rhi L S but 0 k = some 1000 := by unfold bnd; rw [if_pos rfl, if_neg (by omega), if_pos hkL]
      ((try first | apply tr_v Try.tabOk | apply ot_v Try.tabOk); (conv => whnf); (repeat ((first | ((first | apply VStop.mk | apply VCall.stop); (first | refine tr_region_lex (id := 6) (by kernel_rfl) [.rd, .rd, .rd, .rd, .rd, .rd, .rd, .rd, .rd, .rd, .rd, .rd] rfl (by kernel_rfl) ?_); try first | apply ot_v Try.tabOk | apply tr_v Try.tabOk) | (apply VLd.mk; (focus ((repeat (first | ((with_reducible apply ld_blk); exact rfl) | ((with_reducible apply ld_row); exact rfl) | ((with_reducible apply ld_row0); exact rfl) | (with_reducible assumption) | (with_reducible exact CellAt.base (by assumption)) | (with_reducible apply ld_skip))); done))) | apply VBr.t | (apply v_t; omega)); (conv => whnf))); try (first | apply VStop.mk | apply VCall.stop))
      (apply VRet.mk)
      refine ret2 (by first | exact .inl rfl | exact .inr rfl) rfl (by exact rv_tmp rfl) (by exact rv_tmp rfl) ?_
      exact fun w h => ⟨by rw [hb]; rfl, h.base⟩
    · obtain ⟨y, rfl⟩ : ∃ y, k = y + L + 1 := ⟨k - L - 1, by omega⟩
      have hb : bnd rlo rhi L S but 0 (y + L + 1) = if firstB S (y : Int) = true then some 0 else none := by unfold bnd; rw [if_pos rfl, if_neg (by omega), if_neg (by omega), show y + L + 1 - L - 1 = y by omega]
      have hf := fun w1 h => hfi y w1 h
      have hmx : (if ((y + L + 1 : Nat) : Int) - L - 1 > ((0 : Nat) : Int) - L - 1 then ((y + L + 1 : Nat) : Int) - L - 1 else ((0 : Nat) : Int) - L - 1) = y := by split <;> omega
      cases hfy : firstB S (y : Int) with
      | true =>
        rw [hfy, if_pos rfl] at hb
        rw [hfy] at hf
        ((try first | apply tr_v Try.tabOk | apply ot_v Try.tabOk); (conv => whnf); (repeat ((first | ((first | apply VStop.mk | apply VCall.stop); (first | refine tr_region_lex (id := 6) (by kernel_rfl) [.rd, .rd, .rd, .rd, .rd, .rd, .rd, .rd, .rd, .rd, .rd, .rd] rfl (by kernel_rfl) ?_); try first | apply ot_v Try.tabOk | apply tr_v Try.tabOk) | (apply VLd.mk; (focus ((repeat (first | ((with_reducible apply ld_blk); exact rfl) | ((with_reducible apply ld_row); exact rfl) | ((with_reducible apply ld_row0); exact rfl) | (with_reducible assumption) | (with_reducible exact CellAt.base (by assumption)) | (with_reducible apply ld_skip))); done))) | (apply VRng.mk; omega) | apply VBr.t | apply VBr.f | (apply v_t; omega) | (apply v_f; omega) | (apply VLdN.mk; (focus ((repeat (first | (with_reducible apply ldn_blk) | (with_reducible apply ldn_row) | (with_reducible assumption) | (with_reducible apply ldn_skip))); done)); exact rfl)); (conv => whnf))); try (first | apply VStop.mk | apply VCall.stop))
        rw [hmx]
        ((try first | apply tr_v Try.tabOk | apply ot_v Try.tabOk); (conv => whnf); (repeat ((first | (apply VCall.q; kernel_rfl; (focus (intro w1 hs; first | with_reducible apply hf w1 (hs.nest hN))))); (conv => whnf))); try (first | apply VStop.mk | apply VCall.stop))
        (apply VRet.mk)
        refine ret2 (by first | exact .inl rfl | exact .inr rfl) rfl (by exact rv_tmp rfl) (by exact rv_tmp rfl) ?_
        exact fun w h => ⟨by rw [hb]; rfl, h.base⟩
      | false =>
        rw [hfy, if_neg (by simp)] at hb
        rw [hfy] at hf
        ((try first | apply tr_v Try.tabOk | apply ot_v Try.tabOk); (conv => whnf); (repeat ((first | ((first | apply VStop.mk | apply VCall.stop); (first | refine tr_region_lex (id := 6) (by kernel_rfl) [.rd, .rd, .rd, .rd, .rd, .rd, .rd, .rd, .rd, .rd, .rd, .rd] rfl (by kernel_rfl) ?_); try first | apply ot_v Try.tabOk | apply tr_v Try.tabOk) | (apply VLd.mk; (focus ((repeat (first | ((with_reducible apply ld_blk); exact rfl) | ((with_reducible apply ld_row); exact rfl) | ((with_reducible apply ld_row0); exact rfl) | (with_reducible assumption) | (with_reducible exact CellAt.base (by assumption)) | (with_reducible apply ld_skip))); done))) | (apply VRng.mk; omega) | apply VBr.t | apply VBr.f | (apply v_t; omega) | (apply v_f; omega) | (apply VLdN.mk; (focus ((repeat (first | (with_reducible apply ldn_blk) | (with_reducible apply ldn_row) | (with_reducible assumption) | (with_reducible apply ldn_skip))); done)); exact rfl)); (conv => whnf))); try (first | apply VStop.mk | apply VCall.stop))
        rw [hmx]
        ((try first | apply tr_v Try.tabOk | apply ot_v Try.tabOk); (conv => whnf); (repeat ((first | (apply VCall.q; kernel_rfl; (focus (intro w1 hs; first | with_reducible apply hf w1 (hs.nest hN))))); (conv => whnf))); try (first | apply VStop.mk | apply VCall.stop))
        (apply VRet.mk)
        refine ret2 (by first | exact .inl rfl | exact .inr rfl) rfl (by exact rv_tmp rfl) (by exact rv_tmp rfl) ?_
        exact fun w h => ⟨by rw [hb]; rfl, h.base⟩
  rcases Nat.lt_or_ge L i with hiL | hiL
  rotate_left
  · rcases Nat.lt_or_ge 0 k with hk0 | hk0
    rotate_left
    · obtain rfl : k = 0 := by omega
      have hb : bnd rlo rhi L S but i 0 = some 0 := by unfold bnd; rw [if_neg (by omega), if_pos hiL, if_pos rfl]
      ((try first | apply tr_v Try.tabOk | apply ot_v Try.tabOk); (conv => whnf); (repeat ((first | ((first | apply VStop.mk | apply VCall.stop); (first | refine tr_region_lex (id := 6) (by kernel_rfl) [.rd, .rd, .rd, .rd, .rd, .rd, .rd, .rd, .rd, .rd, .rd, .rd] rfl (by kernel_rfl) ?_); try first | apply ot_v Try.tabOk | apply tr_v Try.tabOk) | (apply VLd.mk; (focus ((repeat (first | ((with_reducible apply ld_blk); exact rfl) | ((with_reducible apply ld_row); exact rfl) | ((with_reducible apply ld_row0); exact rfl) | (with_reducible assumption) | (with_reducible exact CellAt.base (by assumption)) | (with_reducible apply ld_skip))); done))) | apply VBr.t | apply VBr.f | (apply v_t; omega) | (apply v_f; omega)); (conv => whnf))); try (first | apply VStop.mk | apply VCall.stop))
      (apply VRet.mk)
      refine ret2 (by first | exact .inl rfl | exact .inr rfl) rfl (by exact rv_tmp rfl) (by exact rv_tmp rfl) ?_
      exact fun w h => ⟨by rw [hb]; rfl, h.base⟩
    rcases Nat.lt_or_ge L k with hkL | hkL
    rotate_left
    · have hb : bnd rlo rhi L S but i k = none := by unfold bnd; rw [if_neg (by omega), if_pos hiL, if_neg (by omega), if_pos hkL]
      ((try first | apply tr_v Try.tabOk | apply ot_v Try.tabOk); (conv => whnf); (repeat ((first | ((first | apply VStop.mk | apply VCall.stop); (first | refine tr_region_lex (id := 6) (by kernel_rfl) [.rd, .rd, .rd, .rd, .rd, .rd, .rd, .rd, .rd, .rd, .rd, .rd] rfl (by kernel_rfl) ?_); try first | apply ot_v Try.tabOk | apply tr_v Try.tabOk) | (apply VLd.mk; (focus ((repeat (first | ((with_reducible apply ld_blk); exact rfl) | ((with_reducible apply ld_row); exact rfl) | ((with_reducible apply ld_row0); exact rfl) | (with_reducible assumption) | (with_reducible exact CellAt.base (by assumption)) | (with_reducible apply ld_skip))); done))) | (apply VRng.mk; omega) | apply VBr.f | (apply v_f; omega)); (conv => whnf))); try (first | apply VStop.mk | apply VCall.stop))
      (apply VRet.mk)
      refine ret2 (by first | exact .inl rfl | exact .inr rfl) rfl (by exact rv_tmp rfl) (by exact rv_tmp rfl) ?_
      exact fun w h => ⟨by rw [hb]; rfl, h.base⟩
    · obtain ⟨y, rfl⟩ : ∃ y, k = y + L + 1 := ⟨k - L - 1, by omega⟩
      have hb0 : bnd rlo rhi L S but i (y + L + 1) = if (y : Int) ≠ but ∧ (tasteAt S y).1 = (i : Int) - 1 then some (-(tasteAt S y).2.1) else none := by unfold bnd; rw [if_neg (by omega), if_pos hiL, if_neg (by omega), if_neg (by omega), show y + L + 1 - L - 1 = y by omega]
      obtain ⟨b, rfl⟩ := hB (by omega)
      have hx0 : ∀ Ch, _ → CellAt w Ch b (0 + y * 3 + 0) (.int .i64 (tasteAt S y).1) := fun Ch h => (hsd y (by omega) b rfl Ch h).cell rfl
      have hx1 : ∀ Ch, _ → CellAt w Ch b (0 + y * 3 + 1 + 0) (.int .i64 (tasteAt S y).2.1) := fun Ch h => (hsd y (by omega) b rfl Ch h).cell (j := 1) rfl
      have hx2 : ∀ Ch, _ → CellAt w Ch b (0 + y * 3 + 1 + 1) (.int .i64 (tasteAt S y).2.2) := fun Ch h => (hsd y (by omega) b rfl Ch h).cell (j := 2) rfl
      have htx := htx y (by omega)
      generalize tasteAt S y = tx at *
      obtain ⟨t1, t2, t3⟩ := tx
      dsimp only at hx0 hx1 hx2 htx hb0
      by_cases e1 : (y : Int) = but
      · have hb := hb0.trans (if_neg (by omega))
        ((try first | apply tr_v Try.tabOk | apply ot_v Try.tabOk); (conv => whnf); (repeat ((first | ((first | apply VStop.mk | apply VCall.stop); (first | refine tr_region_lex (id := 6) (by kernel_rfl) [.rd, .rd, .rd, .rd, .rd, .rd, .rd, .rd, .rd, .rd, .rd, .rd] rfl (by kernel_rfl) ?_); try first | apply ot_v Try.tabOk | apply tr_v Try.tabOk) | (apply VIx.mk (j := y); omega; omega) | (apply VLd.mk; exact hx0 _ (by (repeat (first | with_unfolding_all exact List.Mem.head _ | assumption | with_unfolding_all refine List.Mem.tail _ ?_)))) | (apply VLd.mk; exact hx1 _ (by (repeat (first | with_unfolding_all exact List.Mem.head _ | assumption | with_unfolding_all refine List.Mem.tail _ ?_)))) | (apply VLd.mk; exact hx2 _ (by (repeat (first | with_unfolding_all exact List.Mem.head _ | assumption | with_unfolding_all refine List.Mem.tail _ ?_)))) | (apply VLd.mk; (focus ((repeat (first | ((with_reducible apply ld_blk); exact rfl) | ((with_reducible apply ld_row); exact rfl) | ((with_reducible apply ld_row0); exact rfl) | (with_reducible assumption) | (with_reducible exact CellAt.base (by assumption)) | (with_reducible apply ld_skip))); done))) | (apply VRng.mk; omega) | apply VBr.t | apply VBr.f | (apply v_t; omega) | (apply v_f; omega)); (conv => whnf))); try (first | apply VStop.mk | apply VCall.stop))
        (apply VRet.mk)
        refine ret2 (by first | exact .inl rfl | exact .inr rfl) rfl (by exact rv_tmp rfl) (by exact rv_tmp rfl) ?_
        exact fun w h => ⟨by rw [hb]; rfl, h.base⟩
      · by_cases e2 : t1 = (i : Int) - 1
        · have hb := hb0.trans (if_pos ⟨e1, e2⟩)
          ((try first | apply tr_v Try.tabOk | apply ot_v Try.tabOk); (conv => whnf); (repeat ((first | ((first | apply VStop.mk | apply VCall.stop); (first | refine tr_region_lex (id := 6) (by kernel_rfl) [.rd, .rd, .rd, .rd, .rd, .rd, .rd, .rd, .rd, .rd, .rd, .rd] rfl (by kernel_rfl) ?_); try first | apply ot_v Try.tabOk | apply tr_v Try.tabOk) | (apply VIx.mk (j := y); omega; omega) | (apply VLd.mk; exact hx0 _ (by (repeat (first | with_unfolding_all exact List.Mem.head _ | assumption | with_unfolding_all refine List.Mem.tail _ ?_)))) | (apply VLd.mk; exact hx1 _ (by (repeat (first | with_unfolding_all exact List.Mem.head _ | assumption | with_unfolding_all refine List.Mem.tail _ ?_)))) | (apply VLd.mk; exact hx2 _ (by (repeat (first | with_unfolding_all exact List.Mem.head _ | assumption | with_unfolding_all refine List.Mem.tail _ ?_)))) | (apply VLd.mk; (focus ((repeat (first | ((with_reducible apply ld_blk); exact rfl) | ((with_reducible apply ld_row); exact rfl) | ((with_reducible apply ld_row0); exact rfl) | (with_reducible assumption) | (with_reducible exact CellAt.base (by assumption)) | (with_reducible apply ld_skip))); done))) | (apply VRng.mk; omega) | apply VBr.t | apply VBr.f | (apply v_t; omega) | (apply v_f; omega)); (conv => whnf))); try (first | apply VStop.mk | apply VCall.stop))
          (apply VRet.mk)
          refine ret2 (by first | exact .inl rfl | exact .inr rfl) rfl (by exact rv_tmp rfl) (by exact rv_tmp rfl) ?_
          exact fun w h => ⟨by rw [hb]; rfl, h.base⟩
        · have hb := hb0.trans (if_neg (by omega))
          ((try first | apply tr_v Try.tabOk | apply ot_v Try.tabOk); (conv => whnf); (repeat ((first | ((first | apply VStop.mk | apply VCall.stop); (first | refine tr_region_lex (id := 6) (by kernel_rfl) [.rd, .rd, .rd, .rd, .rd, .rd, .rd, .rd, .rd, .rd, .rd, .rd] rfl (by kernel_rfl) ?_); try first | apply ot_v Try.tabOk | apply tr_v Try.tabOk) | (apply VIx.mk (j := y); omega; omega) | (apply VLd.mk; exact hx0 _ (by (repeat (first | with_unfolding_all exact List.Mem.head _ | assumption | with_unfolding_all refine List.Mem.tail _ ?_)))) | (apply VLd.mk; exact hx1 _ (by (repeat (first | with_unfolding_all exact List.Mem.head _ | assumption | with_unfolding_all refine List.Mem.tail _ ?_)))) | (apply VLd.mk; exact hx2 _ (by (repeat (first | with_unfolding_all exact List.Mem.head _ | assumption | with_unfolding_all refine List.Mem.tail _ ?_)))) | (apply VLd.mk; (focus ((repeat (first | ((with_reducible apply ld_blk); exact rfl) | ((with_reducible apply ld_row); exact rfl) | ((with_reducible apply ld_row0); exact rfl) | (with_reducible assumption) | (with_reducible exact CellAt.base (by assumption)) | (with_reducible apply ld_skip))); done))) | (apply VRng.mk; omega) | apply VBr.t | apply VBr.f | (apply v_t; omega) | (apply v_f; omega)); (conv => whnf))); try (first | apply VStop.mk | apply VCall.stop))
          (apply VRet.mk)
          refine ret2 (by first | exact .inl rfl | exact .inr rfl) rfl (by exact rv_tmp rfl) (by exact rv_tmp rfl) ?_
          exact fun w h => ⟨by rw [hb]; rfl, h.base⟩
  · obtain ⟨x, rfl⟩ : ∃ x, i = x + L + 1 := ⟨i - L - 1, by omega⟩
    rcases Nat.lt_or_ge 0 k with hk0 | hk0
    rotate_left
    · obtain rfl : k = 0 := by omega
      have hb : bnd rlo rhi L S but (x + L + 1) 0 = if firstB S (x : Int) = true then some 0 else none := by unfold bnd; rw [if_neg (by omega), if_neg (by omega), if_pos rfl, show x + L + 1 - L - 1 = x by omega]
      have hf := fun w1 h => hfi x w1 h
      have hmx : (if ((0 : Nat) : Int) - L - 1 > ((x + L + 1 : Nat) : Int) - L - 1 then ((0 : Nat) : Int) - L - 1 else ((x + L + 1 : Nat) : Int) - L - 1) = x := by split <;> omega
      cases hfy : firstB S (x : Int) with
      | true =>
        rw [hfy, if_pos rfl] at hb
        rw [hfy] at hf
        ((try first | apply tr_v Try.tabOk | apply ot_v Try.tabOk); (conv => whnf); (repeat ((first | ((first | apply VStop.mk | apply VCall.stop); (first | refine tr_region_lex (id := 6) (by kernel_rfl) [.rd, .rd, .rd, .rd, .rd, .rd, .rd, .rd, .rd, .rd, .rd, .rd] rfl (by kernel_rfl) ?_); try first | apply ot_v Try.tabOk | apply tr_v Try.tabOk) | (apply VLd.mk; (focus ((repeat (first | ((with_reducible apply ld_blk); exact rfl) | ((with_reducible apply ld_row); exact rfl) | ((with_reducible apply ld_row0); exact rfl) | (with_reducible assumption) | (with_reducible exact CellAt.base (by assumption)) | (with_reducible apply ld_skip))); done))) | (apply VRng.mk; omega) | apply VBr.t | apply VBr.f | (apply v_t; omega) | (apply v_f; omega) | (apply VLdN.mk; (focus ((repeat (first | (with_reducible apply ldn_blk) | (with_reducible apply ldn_row) | (with_reducible assumption) | (with_reducible apply ldn_skip))); done)); exact rfl)); (conv => whnf))); try (first | apply VStop.mk | apply VCall.stop))
        rw [hmx]
        ((try first | apply tr_v Try.tabOk | apply ot_v Try.tabOk); (conv => whnf); (repeat ((first | (apply VCall.q; kernel_rfl; (focus (intro w1 hs; first | with_reducible apply hf w1 (hs.nest hN))))); (conv => whnf))); try (first | apply VStop.mk | apply VCall.stop))
        (apply VRet.mk)
        refine ret2 (by first | exact .inl rfl | exact .inr rfl) rfl (by exact rv_tmp rfl) (by exact rv_tmp rfl) ?_
        exact fun w h => ⟨by rw [hb]; rfl, h.base⟩
      | false =>
        rw [hfy, if_neg (by simp)] at hb
        rw [hfy] at hf
        ((try first | apply tr_v Try.tabOk | apply ot_v Try.tabOk); (conv => whnf); (repeat ((first | ((first | apply VStop.mk | apply VCall.stop); (first | refine tr_region_lex (id := 6) (by kernel_rfl) [.rd, .rd, .rd, .rd, .rd, .rd, .rd, .rd, .rd, .rd, .rd, .rd] rfl (by kernel_rfl) ?_); try first | apply ot_v Try.tabOk | apply tr_v Try.tabOk) | (apply VLd.mk; (focus ((repeat (first | ((with_reducible apply ld_blk); exact rfl) | ((with_reducible apply ld_row); exact rfl) | ((with_reducible apply ld_row0); exact rfl) | (with_reducible assumption) | (with_reducible exact CellAt.base (by assumption)) | (with_reducible apply ld_skip))); done))) | (apply VRng.mk; omega) | apply VBr.t | apply VBr.f | (apply v_t; omega) | (apply v_f; omega) | (apply VLdN.mk; (focus ((repeat (first | (with_reducible apply ldn_blk) | (with_reducible apply ldn_row) | (with_reducible assumption) | (with_reducible apply ldn_skip))); done)); exact rfl)); (conv => whnf))); try (first | apply VStop.mk | apply VCall.stop))
        rw [hmx]
        ((try first | apply tr_v Try.tabOk | apply ot_v Try.tabOk); (conv => whnf); (repeat ((first | (apply VCall.q; kernel_rfl; (focus (intro w1 hs; first | with_reducible apply hf w1 (hs.nest hN))))); (conv => whnf))); try (first | apply VStop.mk | apply VCall.stop))
        (apply VRet.mk)
        refine ret2 (by first | exact .inl rfl | exact .inr rfl) rfl (by exact rv_tmp rfl) (by exact rv_tmp rfl) ?_
        exact fun w h => ⟨by rw [hb]; rfl, h.base⟩
    rcases Nat.lt_or_ge L k with hkL | hkL
    rotate_left
    · have hb0 : bnd rlo rhi L S but (x + L + 1) k = if (x : Int) ≠ but ∧ (tasteAt S x).1 = (k : Int) - 1 then some (tasteAt S x).2.2 else none := by unfold bnd; rw [if_neg (by omega), if_neg (by omega), if_neg (by omega), if_pos hkL, show x + L + 1 - L - 1 = x by omega]
      obtain ⟨b, rfl⟩ := hB (by omega)
      have hx0 : ∀ Ch, _ → CellAt w Ch b (0 + x * 3 + 0) (.int .i64 (tasteAt S x).1) := fun Ch h => (hsd x (by omega) b rfl Ch h).cell rfl
      have hx1 : ∀ Ch, _ → CellAt w Ch b (0 + x * 3 + 1 + 0) (.int .i64 (tasteAt S x).2.1) := fun Ch h => (hsd x (by omega) b rfl Ch h).cell (j := 1) rfl
      have hx2 : ∀ Ch, _ → CellAt w Ch b (0 + x * 3 + 1 + 1) (.int .i64 (tasteAt S x).2.2) := fun Ch h => (hsd x (by omega) b rfl Ch h).cell (j := 2) rfl
      have htx := htx x (by omega)
      generalize tasteAt S x = tx at *
      obtain ⟨t1, t2, t3⟩ := tx
      dsimp only at hx0 hx1 hx2 htx hb0
      by_cases e1 : (x : Int) = but
      · have hb := hb0.trans (if_neg (by omega))
        ((try first | apply tr_v Try.tabOk | apply ot_v Try.tabOk); (conv => whnf); (repeat ((first | ((first | apply VStop.mk | apply VCall.stop); (first | refine tr_region_lex (id := 6) (by kernel_rfl) [.rd, .rd, .rd, .rd, .rd, .rd, .rd, .rd, .rd, .rd, .rd, .rd] rfl (by kernel_rfl) ?_); try first | apply ot_v Try.tabOk | apply tr_v Try.tabOk) | (apply VIx.mk (j := x); omega; omega) | (apply VLd.mk; exact hx0 _ (by (repeat (first | with_unfolding_all exact List.Mem.head _ | assumption | with_unfolding_all refine List.Mem.tail _ ?_)))) | (apply VLd.mk; exact hx1 _ (by (repeat (first | with_unfolding_all exact List.Mem.head _ | assumption | with_unfolding_all refine List.Mem.tail _ ?_)))) | (apply VLd.mk; exact hx2 _ (by (repeat (first | with_unfolding_all exact List.Mem.head _ | assumption | with_unfolding_all refine List.Mem.tail _ ?_)))) | (apply VLd.mk; (focus ((repeat (first | ((with_reducible apply ld_blk); exact rfl) | ((with_reducible apply ld_row); exact rfl) | ((with_reducible apply ld_row0); exact rfl) | (with_reducible assumption) | (with_reducible exact CellAt.base (by assumption)) | (with_reducible apply ld_skip))); done))) | (apply VRng.mk; omega) | apply VBr.t | apply VBr.f | (apply v_t; omega) | (apply v_f; omega)); (conv => whnf))); try (first | apply VStop.mk | apply VCall.stop))
        (apply VRet.mk)
        refine ret2 (by first | exact .inl rfl | exact .inr rfl) rfl (by exact rv_tmp rfl) (by exact rv_tmp rfl) ?_
        exact fun w h => ⟨by rw [hb]; rfl, h.base⟩
      · by_cases e2 : t1 = (k : Int) - 1
        · have hb := hb0.trans (if_pos ⟨e1, e2⟩)
          ((try first | apply tr_v Try.tabOk | apply ot_v Try.tabOk); (conv => whnf); (repeat ((first | ((first | apply VStop.mk | apply VCall.stop); (first | refine tr_region_lex (id := 6) (by kernel_rfl) [.rd, .rd, .rd, .rd, .rd, .rd, .rd, .rd, .rd, .rd, .rd, .rd] rfl (by kernel_rfl) ?_); try first | apply ot_v Try.tabOk | apply tr_v Try.tabOk) | (apply VIx.mk (j := x); omega; omega) | (apply VLd.mk; exact hx0 _ (by (repeat (first | with_unfolding_all exact List.Mem.head _ | assumption | with_unfolding_all refine List.Mem.tail _ ?_)))) | (apply VLd.mk; exact hx1 _ (by (repeat (first | with_unfolding_all exact List.Mem.head _ | assumption | with_unfolding_all refine List.Mem.tail _ ?_)))) | (apply VLd.mk; exact hx2 _ (by (repeat (first | with_unfolding_all exact List.Mem.head _ | assumption | with_unfolding_all refine List.Mem.tail _ ?_)))) | (apply VLd.mk; (focus ((repeat (first | ((with_reducible apply ld_blk); exact rfl) | ((with_reducible apply ld_row); exact rfl) | ((with_reducible apply ld_row0); exact rfl) | (with_reducible assumption) | (with_reducible exact CellAt.base (by assumption)) | (with_reducible apply ld_skip))); done))) | (apply VRng.mk; omega) | apply VBr.t | apply VBr.f | (apply v_t; omega) | (apply v_f; omega)); (conv => whnf))); try (first | apply VStop.mk | apply VCall.stop))
          (apply VRet.mk)
          refine ret2 (by first | exact .inl rfl | exact .inr rfl) rfl (by exact rv_tmp rfl) (by exact rv_tmp rfl) ?_
          exact fun w h => ⟨by rw [hb]; rfl, h.base⟩
        · have hb := hb0.trans (if_neg (by omega))
          ((try first | apply tr_v Try.tabOk | apply ot_v Try.tabOk); (conv => whnf); (repeat ((first | ((first | apply VStop.mk | apply VCall.stop); (first | refine tr_region_lex (id := 6) (by kernel_rfl) [.rd, .rd, .rd, .rd, .rd, .rd, .rd, .rd, .rd, .rd, .rd, .rd] rfl (by kernel_rfl) ?_); try first | apply ot_v Try.tabOk | apply tr_v Try.tabOk) | (apply VIx.mk (j := x); omega; omega) | (apply VLd.mk; exact hx0 _ (by (repeat (first | with_unfolding_all exact List.Mem.head _ | assumption | with_unfolding_all refine List.Mem.tail _ ?_)))) | (apply VLd.mk; exact hx1 _ (by (repeat (first | with_unfolding_all exact List.Mem.head _ | assumption | with_unfolding_all refine List.Mem.tail _ ?_)))) | (apply VLd.mk; exact hx2 _ (by (repeat (first | with_unfolding_all exact List.Mem.head _ | assumption | with_unfolding_all refine List.Mem.tail _ ?_)))) | (apply VLd.mk; (focus ((repeat (first | ((with_reducible apply ld_blk); exact rfl) | ((with_reducible apply ld_row); exact rfl) | ((with_reducible apply ld_row0); exact rfl) | (with_reducible assumption) | (with_reducible exact CellAt.base (by assumption)) | (with_reducible apply ld_skip))); done))) | (apply VRng.mk; omega) | apply VBr.t | apply VBr.f | (apply v_t; omega) | (apply v_f; omega)); (conv => whnf))); try (first | apply VStop.mk | apply VCall.stop))
          (apply VRet.mk)
          refine ret2 (by first | exact .inl rfl | exact .inr rfl) rfl (by exact rv_tmp rfl) (by exact rv_tmp rfl) ?_
          exact fun w h => ⟨by rw [hb]; rfl, h.base⟩
    · obtain ⟨y, rfl⟩ : ∃ y, k = y + L + 1 := ⟨k - L - 1, by omega⟩
      have hb0 : bnd rlo rhi L S but (x + L + 1) (y + L + 1) = if y = x + 1 ∧ firstB S (y : Int) = false then some rhi else if x = y + 1 ∧ firstB S (x : Int) = false then some (-rlo) else none := by unfold bnd; rw [if_neg (by omega), if_neg (by omega), if_neg (by omega), if_neg (by omega), show x + L + 1 - L - 1 = x by omega, show y + L + 1 - L - 1 = y by omega]
      have hfx := fun w1 h => hfi (((x + L + 1 : Nat) : Int) - L - 1) w1 h
      have hfy := fun w1 h => hfi (((y + L + 1 : Nat) : Int) - L - 1) w1 h
      rw [show ((x + L + 1 : Nat) : Int) - L - 1 = (x : Int) by omega] at hfx
      rw [show ((y + L + 1 : Nat) : Int) - L - 1 = (y : Int) by omega] at hfy
      have ex : ((x + L + 1 : Nat) : Int) - L - 1 = (x : Int) := by omega
      have ey : ((y + L + 1 : Nat) : Int) - L - 1 = (y : Int) := by omega
      generalize firstB S (x : Int) = fx at *
      generalize firstB S (y : Int) = fy at *
      by_cases e1 : y = x + 1
      · cases fy
        · have hb := hb0.trans (if_pos ⟨e1, rfl⟩)
          ((try first | apply tr_v Try.tabOk | apply ot_v Try.tabOk); (conv => whnf); (repeat ((first | ((first | apply VStop.mk | apply VCall.stop); (first | refine tr_region_lex (id := 6) (by kernel_rfl) [.rd, .rd, .rd, .rd, .rd, .rd, .rd, .rd, .rd, .rd, .rd, .rd] rfl (by kernel_rfl) ?_); try first | apply ot_v Try.tabOk | apply tr_v Try.tabOk) | (apply VLd.mk; (focus ((repeat (first | ((with_reducible apply ld_blk); exact rfl) | ((with_reducible apply ld_row); exact rfl) | ((with_reducible apply ld_row0); exact rfl) | (with_reducible assumption) | (with_reducible exact CellAt.base (by assumption)) | (with_reducible apply ld_skip))); done))) | (apply VRng.mk; omega) | apply VBr.t | apply VBr.f | (apply v_t; omega) | (apply v_f; omega) | (apply VLdN.mk; (focus ((repeat (first | (with_reducible apply ldn_blk) | (with_reducible apply ldn_row) | (with_reducible assumption) | (with_reducible apply ldn_skip))); done)); exact rfl)); (conv => whnf))); try (first | apply VStop.mk | apply VCall.stop))
          rw [ey]
          ((try first | apply tr_v Try.tabOk | apply ot_v Try.tabOk); (conv => whnf); (repeat ((first | (apply VCall.q; kernel_rfl; (focus (intro w1 hs; first | with_reducible apply hfy w1 (hs.nest hN)))) | (apply VLd.mk; (focus ((repeat (first | ((with_reducible apply ld_blk); exact rfl) | ((with_reducible apply ld_row); exact rfl) | ((with_reducible apply ld_row0); exact rfl) | (with_reducible assumption) | (with_reducible exact CellAt.base (by assumption)) | (with_reducible apply ld_skip))); done))) | apply VBr.t); (conv => whnf))); try (first | apply VStop.mk | apply VCall.stop))
          (apply VRet.mk)
          refine ret2 (by first | exact .inl rfl | exact .inr rfl) rfl (by exact rv_tmp rfl) (by exact rv_tmp rfl) ?_
          exact fun w h => ⟨by rw [hb]; rfl, h.base⟩
        · have hb := hb0.trans ((if_neg (by simp)).trans (if_neg (by omega)))
          by_cases eb1 : (x : Int) = but <;> by_cases eb2 : (y : Int) = but <;> try (exfalso; omega)
          all_goals
            ((try first | apply tr_v Try.tabOk | apply ot_v Try.tabOk); (conv => whnf); (repeat ((first | ((first | apply VStop.mk | apply VCall.stop); (first | refine tr_region_lex (id := 6) (by kernel_rfl) [.rd, .rd, .rd, .rd, .rd, .rd, .rd, .rd, .rd, .rd, .rd, .rd] rfl (by kernel_rfl) ?_); try first | apply ot_v Try.tabOk | apply tr_v Try.tabOk) | (apply VLd.mk; (focus ((repeat (first | ((with_reducible apply ld_blk); exact rfl) | ((with_reducible apply ld_row); exact rfl) | ((with_reducible apply ld_row0); exact rfl) | (with_reducible assumption) | (with_reducible exact CellAt.base (by assumption)) | (with_reducible apply ld_skip))); done))) | (apply VRng.mk; omega) | apply VBr.t | apply VBr.f | (apply v_t; omega) | (apply v_f; omega) | (apply VLdN.mk; (focus ((repeat (first | (with_reducible apply ldn_blk) | (with_reducible apply ldn_row) | (with_reducible assumption) | (with_reducible apply ldn_skip))); done)); exact rfl)); (conv => whnf))); try (first | apply VStop.mk | apply VCall.stop))
            rw [ey]
            ((try first | apply tr_v Try.tabOk | apply ot_v Try.tabOk); (conv => whnf); (repeat ((first | (apply VCall.q; kernel_rfl; (focus (intro w1 hs; first | with_reducible apply hfy w1 (hs.nest hN)))) | (apply VLd.mk; (focus ((repeat (first | ((with_reducible apply ld_blk); exact rfl) | ((with_reducible apply ld_row); exact rfl) | ((with_reducible apply ld_row0); exact rfl) | (with_reducible assumption) | (with_reducible exact CellAt.base (by assumption)) | (with_reducible apply ld_skip))); done))) | (apply VRng.mk; omega) | apply VBr.t | apply VBr.f | (apply v_t; omega) | (apply v_f; omega)); (conv => whnf))); try (first | apply VStop.mk | apply VCall.stop))
            (apply VRet.mk)
            refine ret2 (by first | exact .inl rfl | exact .inr rfl) rfl (by exact rv_tmp rfl) (by exact rv_tmp rfl) ?_
            exact fun w h => ⟨by rw [hb]; rfl, h.base⟩
      · by_cases e2 : x = y + 1
        · cases fx
          · have hb := hb0.trans ((if_neg (by omega)).trans (if_pos ⟨e2, rfl⟩))
            ((try first | apply tr_v Try.tabOk | apply ot_v Try.tabOk); (conv => whnf); (repeat ((first | ((first | apply VStop.mk | apply VCall.stop); (first | refine tr_region_lex (id := 6) (by kernel_rfl) [.rd, .rd, .rd, .rd, .rd, .rd, .rd, .rd, .rd, .rd, .rd, .rd] rfl (by kernel_rfl) ?_); try first | apply ot_v Try.tabOk | apply tr_v Try.tabOk) | (apply VLd.mk; (focus ((repeat (first | ((with_reducible apply ld_blk); exact rfl) | ((with_reducible apply ld_row); exact rfl) | ((with_reducible apply ld_row0); exact rfl) | (with_reducible assumption) | (with_reducible exact CellAt.base (by assumption)) | (with_reducible apply ld_skip))); done))) | (apply VRng.mk; omega) | apply VBr.t | apply VBr.f | (apply v_t; omega) | (apply v_f; omega) | (apply VLdN.mk; (focus ((repeat (first | (with_reducible apply ldn_blk) | (with_reducible apply ldn_row) | (with_reducible assumption) | (with_reducible apply ldn_skip))); done)); exact rfl)); (conv => whnf))); try (first | apply VStop.mk | apply VCall.stop))
            rw [ex]
            ((try first | apply tr_v Try.tabOk | apply ot_v Try.tabOk); (conv => whnf); (repeat ((first | (apply VCall.q; kernel_rfl; (focus (intro w1 hs; first | with_reducible apply hfx w1 (hs.nest hN)))) | (apply VLd.mk; (focus ((repeat (first | ((with_reducible apply ld_blk); exact rfl) | ((with_reducible apply ld_row); exact rfl) | ((with_reducible apply ld_row0); exact rfl) | (with_reducible assumption) | (with_reducible exact CellAt.base (by assumption)) | (with_reducible apply ld_skip))); done))) | (apply VRng.mk; omega) | apply VBr.t); (conv => whnf))); try (first | apply VStop.mk | apply VCall.stop))
            (apply VRet.mk)
            refine ret2 (by first | exact .inl rfl | exact .inr rfl) rfl (by exact rv_tmp rfl) (by exact rv_tmp rfl) ?_
            exact fun w h => ⟨by rw [hb]; rfl, h.base⟩
          · have hb := hb0.trans ((if_neg (by omega)).trans (if_neg (by simp)))
            by_cases eb1 : (x : Int) = but <;> by_cases eb2 : (y : Int) = but <;> try (exfalso; omega)
            all_goals
              ((try first | apply tr_v Try.tabOk | apply ot_v Try.tabOk); (conv => whnf); (repeat ((first | ((first | apply VStop.mk | apply VCall.stop); (first | refine tr_region_lex (id := 6) (by kernel_rfl) [.rd, .rd, .rd, .rd, .rd, .rd, .rd, .rd, .rd, .rd, .rd, .rd] rfl (by kernel_rfl) ?_); try first | apply ot_v Try.tabOk | apply tr_v Try.tabOk) | (apply VLd.mk; (focus ((repeat (first | ((with_reducible apply ld_blk); exact rfl) | ((with_reducible apply ld_row); exact rfl) | ((with_reducible apply ld_row0); exact rfl) | (with_reducible assumption) | (with_reducible exact CellAt.base (by assumption)) | (with_reducible apply ld_skip))); done))) | (apply VRng.mk; omega) | apply VBr.t | apply VBr.f | (apply v_t; omega) | (apply v_f; omega) | (apply VLdN.mk; (focus ((repeat (first | (with_reducible apply ldn_blk) | (with_reducible apply ldn_row) | (with_reducible assumption) | (with_reducible apply ldn_skip))); done)); exact rfl)); (conv => whnf))); try (first | apply VStop.mk | apply VCall.stop))
              rw [ex]
              ((try first | apply tr_v Try.tabOk | apply ot_v Try.tabOk); (conv => whnf); (repeat ((first | (apply VCall.q; kernel_rfl; (focus (intro w1 hs; first | with_reducible apply hfx w1 (hs.nest hN)))) | (apply VLd.mk; (focus ((repeat (first | ((with_reducible apply ld_blk); exact rfl) | ((with_reducible apply ld_row); exact rfl) | ((with_reducible apply ld_row0); exact rfl) | (with_reducible assumption) | (with_reducible exact CellAt.base (by assumption)) | (with_reducible apply ld_skip))); done))) | apply VBr.t | apply VBr.f | (apply v_t; omega) | (apply v_f; omega)); (conv => whnf))); try (first | apply VStop.mk | apply VCall.stop))
              (apply VRet.mk)
              refine ret2 (by first | exact .inl rfl | exact .inr rfl) rfl (by exact rv_tmp rfl) (by exact rv_tmp rfl) ?_
              exact fun w h => ⟨by rw [hb]; rfl, h.base⟩
        · have hb := hb0.trans ((if_neg (by omega)).trans (if_neg (by omega)))
          by_cases eb1 : (x : Int) = but <;> by_cases eb2 : (y : Int) = but <;> try (exfalso; omega)
          all_goals
            ((try first | apply tr_v Try.tabOk | apply ot_v Try.tabOk); (conv => whnf); (repeat ((first | ((first | apply VStop.mk | apply VCall.stop); (first | refine tr_region_lex (id := 6) (by kernel_rfl) [.rd, .rd, .rd, .rd, .rd, .rd, .rd, .rd, .rd, .rd, .rd, .rd] rfl (by kernel_rfl) ?_); try first | apply ot_v Try.tabOk | apply tr_v Try.tabOk) | (apply VLd.mk; (focus ((repeat (first | ((with_reducible apply ld_blk); exact rfl) | ((with_reducible apply ld_row); exact rfl) | ((with_reducible apply ld_row0); exact rfl) | (with_reducible assumption) | (with_reducible exact CellAt.base (by assumption)) | (with_reducible apply ld_skip))); done))) | (apply VRng.mk; omega) | apply VBr.t | apply VBr.f | (apply v_t; omega) | (apply v_f; omega)); (conv => whnf))); try (first | apply VStop.mk | apply VCall.stop))
            (apply VRet.mk)
            refine ret2 (by first | exact .inl rfl | exact .inr rfl) rfl (by exact rv_tmp rfl) (by exact rv_tmp rfl) ?_
            exact fun w h => ⟨by rw [hb]; rfl, h.base⟩
end
end Go.Proofs.Ytkbcogaodnmdoaa
