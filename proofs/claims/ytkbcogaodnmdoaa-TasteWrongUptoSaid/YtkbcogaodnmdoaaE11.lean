/- The reference: CheckTruth: lemmas for the rows of this seat. No conditions. -/
import Derived.Test.YtkbcogaodnmdoaaProg
import Derived.WalkKit
import Derived.WalkSpells
import Derived.WalkLawsBesides
import Derived.Lib.Hide
import Derived.Deep.AppendLies
import Derived.Deep.Draws
import Derived.Maps.AppendAt
import Derived.RegionTactic
import Derived.OwnWalk
import Derived.Deep.QuietTactic
import Derived.BigQuiet
import Derived.Deep.DeepFit
import Derived.Deep.LoopGhost
import Derived.Deep.DeepMust
import Derived.Deep.DeepCutAuto
import Derived.StillTail
import Derived.Deep.Quiet
import Derived.Deep.RegionHeld3
import Derived.Deep.RegionWith
import Derived.Deep.RegionLaw
import Derived.Maps.OwnOps
import Derived.Maps.OwnSet
import Derived.Maps.OwnRows
import Derived.Maps.RangeWalk
import Derived.Carry
import Derived.Test.YtkbcogaodnmdoaaBase
import Derived.Test.YtkbcogaodnmdoaaMaps
import Derived.Test.YtkbcogaodnmdoaaKeys
import Derived.Test.YtkbcogaodnmdoaaS1
import Derived.Test.YtkbcogaodnmdoaaS5
import Derived.Test.YtkbcogaodnmdoaaS14
import Derived.Test.YtkbcogaodnmdoaaV
import Derived.Test.YtkbcogaodnmdoaaTab
import Derived.Test.YtkbcogaodnmdoaaE1
import Derived.Test.YtkbcogaodnmdoaaE2
import Derived.Test.YtkbcogaodnmdoaaE3
import Derived.Test.YtkbcogaodnmdoaaE4
import Derived.Test.YtkbcogaodnmdoaaE5
import Derived.Test.YtkbcogaodnmdoaaE6
import Derived.Test.YtkbcogaodnmdoaaE7
import Derived.Test.YtkbcogaodnmdoaaE8
import Derived.Test.YtkbcogaodnmdoaaE9
import Derived.Test.YtkbcogaodnmdoaaE10
set_option linter.all false
namespace Go.Proofs.Ytkbcogaodnmdoaa
open Go.RowKit
/-! ## The reference: CheckTruth -/
def iAt (l : List Int) (k : Nat) : Int := l[k]?.getD 0
/-- Whether the numbers of one taste are as they have to be. -/
def okTaste (rlo rhi : Int) (S : List (List T3)) (sharp tired : List Int) (k : Nat) : Bool :=
  decide (0 ≤ iAt tired k ∧ iAt tired k ≤ 600) && (if firstB S (k : Int) = true then decide (iAt tired k = 0) else decide (rlo ≤ iAt tired k - iAt tired (k - 1) ∧ iAt tired k - iAt tired (k - 1) ≤ rhi)) &&
    decide ((tasteAt S k).2.1 ≤ iAt sharp (tasteAt S k).1.toNat - iAt tired k ∧ iAt sharp (tasteAt S k).1.toNat - iAt tired k ≤ (tasteAt S k).2.2)
def truthUpto (f : Nat → Bool) : Nat → Bool
  | 0 => true
  | k + 1 => truthUpto f k && f k
theorem truthUpto_all {f : Nat → Bool} : ∀ n, truthUpto f n = true ↔ ∀ k, k < n → f k = true
  | 0 => by simp [truthUpto]
  | n + 1 => by
    rw [truthUpto, Bool.and_eq_true, truthUpto_all n]
    constructor
    · rintro ⟨a, b⟩ k hk
      rcases Nat.lt_or_ge k n with h | h
      · exact a k h
      · obtain rfl : k = n := by omega
        exact b
    · exact fun h => ⟨fun k hk => h k (by omega), h n (by omega)⟩
theorem truthUpto_no {f : Nat → Bool} {n k : Nat} (hk : k < n) (h : f k = false) : truthUpto f n = false := by
  cases hb : truthUpto f n with
  | false => rfl
  | true => rw [(truthUpto_all n).1 hb k hk] at h; cases h
def okSharp (sharp : List Int) (k : Nat) : Bool := decide (0 ≤ iAt sharp k ∧ iAt sharp k ≤ 1000)
def truthP (rlo rhi : Int) (S : List (List T3)) (sharp tired : List Int) : Bool := truthUpto (okSharp sharp) sharp.length && truthUpto (okTaste rlo rhi S sharp tired) S.flatten.length
theorem first_zero {rlo rhi lots : Int} {S : List (List T3)} (hO : Okb rlo rhi lots S) (hT : 0 < S.flatten.length) : firstB S 0 = true := by
  cases S with
  | nil => simp at hT
  | cons s S => simp [firstB, firstFrom]
theorem iAt_cell {w : World} {n : Nat} {b o : Nat} {l : List Int} (h : Reads w w.heap.size 1 (some ⟨b, o, none⟩) n (i64s l)) {k : Nat} (hk : k < n) (A : List Chunk) : CellAt w A b (o + k * 1) (.int .i64 (iAt l k)) := int_cell h hk A
section
variable (rlo rhi : Int) (L : Nat) (Al : Option Addr) (c : Nat) (S : List (List T3)) (w : World) (hN : NestR w 3 Al (nestOf S)) (hO : Okb rlo rhi L S)
include hN hO
set_option maxHeartbeats 4000000 in
set_option maxRecDepth 20000 in
theorem isTruth_any (Bs Bt : Option Addr) (cs ct : Nat) (sharp tired : List Int) (hs0 : Reads w w.heap.size 1 Bs sharp.length (i64s sharp)) (ht0 : Reads w w.heap.size 1 Bt tired.length (i64s tired)) (hls : sharp.length = L) (hlt : tired.length = S.flatten.length) :
    Calls Try.prog 63 #[bookV rlo rhi L Al S.length c, .slice Bs sharp.length cs, .slice Bt tired.length ct] w fun e w' => e = .returned (.bool (truthP rlo rhi S sharp tired)) ∧ Below w.heap.size w w' := by
  have hF := hO.fit
  have hta := fun w1 (h : NestR w1 3 Al (nestOf S)) => tastes_any rlo rhi L Al c S w1 h hF
  have hfi := fun q w1 (h : NestR w1 3 Al (nestOf S)) => isFirst_any rlo rhi L Al c S w1 h hF q
  have htx := fun x (h : x < S.flatten.length) => hO.x _ (tasteAt_mem h)
  have hf0 := first_zero hO
  obtain ⟨r1, r2, r3⟩ := hO.r
  obtain ⟨l1, l2⟩ := hO.l
  have ht := hO.t
  unfold bookV at *
  clear hO
  have htp : truthP rlo rhi S sharp tired = (truthUpto (okSharp sharp) sharp.length && truthUpto (okTaste rlo rhi S sharp tired) S.flatten.length) := rfl
  obtain ⟨bs, os, rfl, _⟩ := hs0.2 (by omega)
  have hsc := fun k (h : k < sharp.length) => iAt_cell hs0 h
  refine fn_v Try.tabOk (n := 126) (A := []) Try.func63 rfl rfl (Nat.le_of_ble_eq_true rfl) (St.nil (Below.refl _ _)) ?_
  ((try first | apply tr_v Try.tabOk | apply ot_v Try.tabOk); (conv => whnf); (repeat ((first | (apply VNew.mk; intro g hg) | (apply VLdN.mk; (focus ((repeat (first | (with_reducible apply ldn_blk) | (with_reducible apply ldn_row) | (with_reducible assumption) | (with_reducible apply ldn_skip))); done)); exact rfl)); (conv => whnf))); try (first | apply VStop.mk | apply VCall.stop))
  refine ot_call_ownS (t := 67) (sz := 3) (m := S.flatten.length) (xs := saidCells S.flatten) (by decide) rfl rfl rfl (by kernel_rfl) (evl_of rfl) (fun w1 hs => hta w1 (hs.nest hN)) (fun B cap hB => ?_)
  have hsd : ∀ x, x < S.flatten.length → ∀ b, B = some ⟨b, 0, none⟩ → ∀ Ch, Chunk.own (.slice B S.flatten.length cap) 67 3 S.flatten.length (saidCells S.flatten) ∈ Ch → CellsAt w Ch b (0 + x * 3) (saidL (tasteAt S x)) := fun x hx b hb Ch hm => by subst hb; exact own_said hx hm
  clear hta
  ((try first | apply tr_v Try.tabOk | apply ot_v Try.tabOk); (conv => whnf); try (first | apply VStop.mk | apply VCall.stop))
  refine v_loop (fun gm ds ts A => ds = [] ∧ ∃ i, i + gm = sharp.length ∧ (∀ j, j < i → okSharp sharp j = true) ∧ A = [.own (.slice B S.flatten.length cap) 67 3 S.flatten.length (saidCells S.flatten), .blk g 26 [.int .i64 rlo, .int .i64 rhi, .int .i64 L, .slice Al S.length c]] ∧ ts = [(1, .slice (some ⟨bs, os, none⟩) sharp.length cs), (2, .slice Bt tired.length ct), (3, .pointer (some ⟨g, 0, none⟩)), (7, .slice B S.flatten.length cap), (8, .int .i64 (i : Int))]) sharp.length
    (l := [(1, _), (2, _), (3, _), (7, _), (8, _)]) (B := _) ?_ (List.Sublist.refl _) ⟨rfl, 0, by omega, fun j hj => by omega, rfl, rfl⟩ ?_
  · exact ⟨rfl, rfl, rfl, rfl, rfl, trivial⟩
  rintro gm ds ts A ⟨rfl, i, hi, hall, rfl, rfl⟩
  by_cases hlti : i < sharp.length
  · have hci := hsc i hlti
    cases hok : okSharp sharp i with
    | false =>
      rw [truthUpto_no hlti hok, Bool.false_and] at htp
      have hnb : ¬ (0 ≤ iAt sharp i ∧ iAt sharp i ≤ 1000) := of_decide_eq_false hok
      rw [htp]
      by_cases hneg : iAt sharp i < 0
      · ((try first | apply tr_v Try.tabOk | apply ot_v Try.tabOk); (conv => whnf); (repeat ((first | (apply VLd.mk; exact hci _) | apply VBr.t | (apply v_t; omega) | (apply VIx.mk; exact rfl; omega)); (conv => whnf))); try (first | apply VStop.mk | apply VCall.stop))
        ((apply VRet.mk); refine ret1 (by first | exact .inl rfl | exact .inr rfl) rfl (by exact rv_tmp rfl) ?_; exact fun w h => ⟨rfl, h.base⟩)
      · ((try first | apply tr_v Try.tabOk | apply ot_v Try.tabOk); (conv => whnf); (repeat ((first | (apply VLd.mk; exact hci _) | apply VBr.t | apply VBr.f | (apply v_t; omega) | (apply v_f; omega) | (apply VIx.mk; exact rfl; omega)); (conv => whnf))); try (first | apply VStop.mk | apply VCall.stop))
        ((apply VRet.mk); refine ret1 (by first | exact .inl rfl | exact .inr rfl) rfl (by exact rv_tmp rfl) ?_; exact fun w h => ⟨rfl, h.base⟩)
    | true =>
      have hnb : 0 ≤ iAt sharp i ∧ iAt sharp i ≤ 1000 := of_decide_eq_true hok
      ((try first | apply tr_v Try.tabOk | apply ot_v Try.tabOk); (conv => whnf); (repeat ((first | (apply VLd.mk; exact hci _) | (apply VRng.mk; omega) | apply VBr.t | apply VBr.f | (apply v_t; omega) | (apply v_f; omega) | (apply VIx.mk; exact rfl; omega)); (conv => whnf))); try (first | apply VStop.mk | apply VCall.stop))
      exact v_rnd (gm - 1) (by omega) (l := [(1, _), (2, _), (3, _), (7, _), (8, _)]) (B := _) ⟨rfl, rfl, rfl, rfl, rfl, trivial⟩ (List.Sublist.refl _) ⟨rfl, i + 1, by omega, fun j hj => by
        rcases Nat.lt_or_ge j i with h | h
        · exact hall j h
        · obtain rfl : j = i := by omega
          exact hok, rfl, rfl⟩
  obtain rfl : i = sharp.length := by omega
  rw [(truthUpto_all _).2 hall, Bool.true_and] at htp
  have hsb : ∀ j, j < sharp.length → 0 ≤ iAt sharp j ∧ iAt sharp j ≤ 1000 := fun j hj => of_decide_eq_true (hall j hj)
  clear hall
  ((try first | apply tr_v Try.tabOk | apply ot_v Try.tabOk); (conv => whnf); (repeat ((first | apply VBr.f | (apply v_f; omega)); (conv => whnf))); try (first | apply VStop.mk | apply VCall.stop))
  refine v_loop (fun gm ds ts A => ds = [] ∧ ∃ i, i + gm = S.flatten.length ∧ (∀ j, j < i → okTaste rlo rhi S sharp tired j = true) ∧ A = [.own (.slice B S.flatten.length cap) 67 3 S.flatten.length (saidCells S.flatten), .blk g 26 [.int .i64 rlo, .int .i64 rhi, .int .i64 L, .slice Al S.length c]] ∧ ts = [(1, .slice (some ⟨bs, os, none⟩) sharp.length cs), (2, .slice Bt tired.length ct), (3, .pointer (some ⟨g, 0, none⟩)), (7, .slice B S.flatten.length cap), (9, .int .i64 (i : Int))]) S.flatten.length
    (l := [(1, _), (2, _), (3, _), (7, _), (9, _)]) (B := _) ?_ (List.Sublist.refl _) ⟨rfl, 0, by omega, fun j hj => by omega, rfl, rfl⟩ ?_
  · exact ⟨rfl, rfl, rfl, rfl, rfl, trivial⟩
  rintro gm ds ts A ⟨rfl, i, hi, hall, rfl, rfl⟩
  by_cases hlti : i < S.flatten.length
  rotate_left
  · obtain rfl : i = S.flatten.length := by omega
    rw [(truthUpto_all _).2 hall] at htp
    rw [htp]
    ((try first | apply tr_v Try.tabOk | apply ot_v Try.tabOk); (conv => whnf); (repeat ((first | apply VBr.f | (apply v_f; omega)); (conv => whnf))); try (first | apply VStop.mk | apply VCall.stop))
    ((apply VRet.mk); refine ret1 (by first | exact .inl rfl | exact .inr rfl) rfl (by exact rv_tmp rfl) ?_; exact fun w h => ⟨rfl, h.base⟩)
  obtain ⟨bt, ot, rfl, _⟩ := ht0.2 (by omega)
  obtain ⟨b, rfl⟩ := hB (by omega)
  have hti := iAt_cell ht0 (show i < tired.length by omega)
  have hdef : okTaste rlo rhi S sharp tired i = (decide (0 ≤ iAt tired i ∧ iAt tired i ≤ 600) && (if firstB S (i : Int) = true then decide (iAt tired i = 0) else decide (rlo ≤ iAt tired i - iAt tired (i - 1) ∧ iAt tired i - iAt tired (i - 1) ≤ rhi)) &&
    decide ((tasteAt S i).2.1 ≤ iAt sharp (tasteAt S i).1.toNat - iAt tired i ∧ iAt sharp (tasteAt S i).1.toNat - iAt tired i ≤ (tasteAt S i).2.2)) := rfl
  have hfin : okTaste rlo rhi S sharp tired i = false → truthP rlo rhi S sharp tired = false := fun h => by rw [htp]; exact truthUpto_no hlti h
  have hprev : 0 < i → 0 ≤ iAt tired (i - 1) ∧ iAt tired (i - 1) ≤ 600 := fun h => by
    have := hall (i - 1) (by omega)
    unfold okTaste at this
    rw [Bool.and_eq_true, Bool.and_eq_true] at this
    exact of_decide_eq_true this.1.1
  have hx := htx i hlti
  have hx0 : ∀ Ch, _ → CellAt w Ch b (0 + i * 3 + 0) (.int .i64 (tasteAt S i).1) := fun Ch h => (hsd i hlti b rfl Ch h).cell rfl
  have hx1 : ∀ Ch, _ → CellAt w Ch b (0 + i * 3 + 1 + 0) (.int .i64 (tasteAt S i).2.1) := fun Ch h => (hsd i hlti b rfl Ch h).cell (j := 1) rfl
  have hx2 : ∀ Ch, _ → CellAt w Ch b (0 + i * 3 + 1 + 1) (.int .i64 (tasteAt S i).2.2) := fun Ch h => (hsd i hlti b rfl Ch h).cell (j := 2) rfl
  generalize tasteAt S i = tx at *
  obtain ⟨t1, t2, t3⟩ := tx
  dsimp only at hx0 hx1 hx2 hx hdef
  obtain ⟨q, rfl⟩ : ∃ q : Nat, t1 = q := ⟨t1.toNat, by omega⟩
  rw [Int.toNat_natCast] at hdef
  have hsq := hsc q (by omega)
  have hsqb := hsb q (by omega)
  have hfi := fun w1 h => hfi i w1 h
  by_cases h1 : 0 ≤ iAt tired i ∧ iAt tired i ≤ 600
  rotate_left
  · rw [decide_eq_false h1, Bool.false_and, Bool.false_and] at hdef
    rw [hfin hdef]
    by_cases hneg : iAt tired i < 0
    · ((try first | apply tr_v Try.tabOk | apply ot_v Try.tabOk); (conv => whnf); (repeat ((first | (apply VLd.mk; exact hti _) | apply VBr.t | (apply v_t; omega) | (apply VIx.mk; exact rfl; omega)); (conv => whnf))); try (first | apply VStop.mk | apply VCall.stop))
      ((apply VRet.mk); refine ret1 (by first | exact .inl rfl | exact .inr rfl) rfl (by exact rv_tmp rfl) ?_; exact fun w h => ⟨rfl, h.base⟩)
    · ((try first | apply tr_v Try.tabOk | apply ot_v Try.tabOk); (conv => whnf); (repeat ((first | (apply VLd.mk; exact hti _) | apply VBr.t | apply VBr.f | (apply v_t; omega) | (apply v_f; omega) | (apply VIx.mk; exact rfl; omega)); (conv => whnf))); try (first | apply VStop.mk | apply VCall.stop))
      ((apply VRet.mk); refine ret1 (by first | exact .inl rfl | exact .inr rfl) rfl (by exact rv_tmp rfl) ?_; exact fun w h => ⟨rfl, h.base⟩)
  rw [decide_eq_true h1, Bool.true_and] at hdef
  have hgo : ∀ (m2 : Bool), (if firstB S (i : Int) = true then decide (iAt tired i = 0) else decide (rlo ≤ iAt tired i - iAt tired (i - 1) ∧ iAt tired i - iAt tired (i - 1) ≤ rhi)) = m2 → okTaste rlo rhi S sharp tired i = (m2 && decide (t2 ≤ iAt sharp q - iAt tired i ∧ iAt sharp q - iAt tired i ≤ t3)) := fun m2 h => by rw [hdef, h]
  cases hfb : firstB S (i : Int) with
  | true =>
    rw [hfb] at hfi hgo
    simp only [if_true] at hgo
    by_cases h2 : iAt tired i = 0
    rotate_left
    · have hgo := hgo false (decide_eq_false h2)
      rw [Bool.false_and] at hgo
      rw [hfin hgo]
      ((try first | apply tr_v Try.tabOk | apply ot_v Try.tabOk); (conv => whnf); (repeat ((first | (apply VLd.mk; exact hti _) | (apply VCall.q; kernel_rfl; (focus (intro w1 hs; first | with_reducible apply hfi w1 (hs.nest hN)))) | apply VBr.t | apply VBr.f | (apply v_t; omega) | (apply v_f; omega) | (apply VIx.mk; exact rfl; omega) | (apply VLdN.mk; (focus ((repeat (first | (with_reducible apply ldn_blk) | (with_reducible apply ldn_row) | (with_reducible assumption) | (with_reducible apply ldn_skip))); done)); exact rfl)); (conv => whnf))); try (first | apply VStop.mk | apply VCall.stop))
      ((apply VRet.mk); refine ret1 (by first | exact .inl rfl | exact .inr rfl) rfl (by exact rv_tmp rfl) ?_; exact fun w h => ⟨rfl, h.base⟩)
    · have hgo := hgo true (decide_eq_true h2)
      rw [Bool.true_and] at hgo
      by_cases h3 : t2 ≤ iAt sharp q - iAt tired i ∧ iAt sharp q - iAt tired i ≤ t3
      · rw [decide_eq_true h3] at hgo
        ((try first | apply tr_v Try.tabOk | apply ot_v Try.tabOk); (conv => whnf); (repeat ((first | ((first | apply VStop.mk | apply VCall.stop); (first | refine tr_region_lex (id := 14) (by kernel_rfl) [.rd, .rd, .cr, .rd, .rd, .rd, .rd, .rd, .rd, .rd, .rd, .rd, .rd, .rd, .rd, .rd, .rd, .rd, .rd, .rd, .rd, .rd, .rd, .rd, .rd, .rd, .rd, .rd, .rd, .rd, .rd, .rd, .rd, .rd, .rd, .rd] rfl (by kernel_rfl) ?_ | refine tr_region_lex (id := 16) (by kernel_rfl) [.rd, .rd, .rd, .rd, .rd, .rd, .rd, .rd, .rd, .rd, .rd, .rd, .rd, .rd] rfl (by kernel_rfl) ?_); try first | apply ot_v Try.tabOk | apply tr_v Try.tabOk) | (apply VLd.mk; first | exact hti _ | exact hsq _ | exact hx0 _ (by (repeat (first | with_unfolding_all exact List.Mem.head _ | assumption | with_unfolding_all refine List.Mem.tail _ ?_))) | exact hx1 _ (by (repeat (first | with_unfolding_all exact List.Mem.head _ | assumption | with_unfolding_all refine List.Mem.tail _ ?_))) | exact hx2 _ (by (repeat (first | with_unfolding_all exact List.Mem.head _ | assumption | with_unfolding_all refine List.Mem.tail _ ?_)))) | (apply VCall.q; kernel_rfl; (focus (intro w1 hs; first | with_reducible apply hfi w1 (hs.nest hN)))) | (apply VRng.mk; omega) | apply VBr.t | apply VBr.f | (apply v_t; omega) | (apply v_f; omega) | (apply VIx.mk; exact rfl; omega) | (apply VLdN.mk; (focus ((repeat (first | (with_reducible apply ldn_blk) | (with_reducible apply ldn_row) | (with_reducible assumption) | (with_reducible apply ldn_skip))); done)); exact rfl)); (conv => whnf))); try (first | apply VStop.mk | apply VCall.stop))
        exact v_rnd (gm - 1) (by omega) (l := [(1, _), (2, _), (3, _), (7, _), (9, _)]) (B := _) ⟨rfl, rfl, rfl, rfl, rfl, trivial⟩ (List.Sublist.refl _) ⟨rfl, i + 1, by omega, fun j hj => by
          rcases Nat.lt_or_ge j (i) with h | h
          · exact hall j h
          · obtain rfl : j = i := by omega
            exact hgo, rfl, rfl⟩
      · rw [decide_eq_false h3] at hgo
        rw [hfin hgo]
        by_cases h4 : iAt sharp q - iAt tired i < t2
        · ((try first | apply tr_v Try.tabOk | apply ot_v Try.tabOk); (conv => whnf); (repeat ((first | ((first | apply VStop.mk | apply VCall.stop); (first | refine tr_region_lex (id := 14) (by kernel_rfl) [.rd, .rd, .cr, .rd, .rd, .rd, .rd, .rd, .rd, .rd, .rd, .rd, .rd, .rd, .rd, .rd, .rd, .rd, .rd, .rd, .rd, .rd, .rd, .rd, .rd, .rd, .rd, .rd, .rd, .rd, .rd, .rd, .rd, .rd, .rd, .rd] rfl (by kernel_rfl) ?_ | refine tr_region_lex (id := 16) (by kernel_rfl) [.rd, .rd, .rd, .rd, .rd, .rd, .rd, .rd, .rd, .rd, .rd, .rd, .rd, .rd] rfl (by kernel_rfl) ?_); try first | apply ot_v Try.tabOk | apply tr_v Try.tabOk) | (apply VLd.mk; first | exact hti _ | exact hsq _ | exact hx0 _ (by (repeat (first | with_unfolding_all exact List.Mem.head _ | assumption | with_unfolding_all refine List.Mem.tail _ ?_))) | exact hx1 _ (by (repeat (first | with_unfolding_all exact List.Mem.head _ | assumption | with_unfolding_all refine List.Mem.tail _ ?_))) | exact hx2 _ (by (repeat (first | with_unfolding_all exact List.Mem.head _ | assumption | with_unfolding_all refine List.Mem.tail _ ?_)))) | (apply VCall.q; kernel_rfl; (focus (intro w1 hs; first | with_reducible apply hfi w1 (hs.nest hN)))) | (apply VRng.mk; omega) | apply VBr.t | apply VBr.f | (apply v_t; omega) | (apply v_f; omega) | (apply VIx.mk; exact rfl; omega) | (apply VLdN.mk; (focus ((repeat (first | (with_reducible apply ldn_blk) | (with_reducible apply ldn_row) | (with_reducible assumption) | (with_reducible apply ldn_skip))); done)); exact rfl)); (conv => whnf))); try (first | apply VStop.mk | apply VCall.stop))
          ((apply VRet.mk); refine ret1 (by first | exact .inl rfl | exact .inr rfl) rfl (by exact rv_tmp rfl) ?_; exact fun w h => ⟨rfl, h.base⟩)
        · ((try first | apply tr_v Try.tabOk | apply ot_v Try.tabOk); (conv => whnf); (repeat ((first | ((first | apply VStop.mk | apply VCall.stop); (first | refine tr_region_lex (id := 14) (by kernel_rfl) [.rd, .rd, .cr, .rd, .rd, .rd, .rd, .rd, .rd, .rd, .rd, .rd, .rd, .rd, .rd, .rd, .rd, .rd, .rd, .rd, .rd, .rd, .rd, .rd, .rd, .rd, .rd, .rd, .rd, .rd, .rd, .rd, .rd, .rd, .rd, .rd] rfl (by kernel_rfl) ?_ | refine tr_region_lex (id := 16) (by kernel_rfl) [.rd, .rd, .rd, .rd, .rd, .rd, .rd, .rd, .rd, .rd, .rd, .rd, .rd, .rd] rfl (by kernel_rfl) ?_); try first | apply ot_v Try.tabOk | apply tr_v Try.tabOk) | (apply VLd.mk; first | exact hti _ | exact hsq _ | exact hx0 _ (by (repeat (first | with_unfolding_all exact List.Mem.head _ | assumption | with_unfolding_all refine List.Mem.tail _ ?_))) | exact hx1 _ (by (repeat (first | with_unfolding_all exact List.Mem.head _ | assumption | with_unfolding_all refine List.Mem.tail _ ?_))) | exact hx2 _ (by (repeat (first | with_unfolding_all exact List.Mem.head _ | assumption | with_unfolding_all refine List.Mem.tail _ ?_)))) | (apply VCall.q; kernel_rfl; (focus (intro w1 hs; first | with_reducible apply hfi w1 (hs.nest hN)))) | (apply VRng.mk; omega) | apply VBr.t | apply VBr.f | (apply v_t; omega) | (apply v_f; omega) | (apply VIx.mk; exact rfl; omega) | (apply VLdN.mk; (focus ((repeat (first | (with_reducible apply ldn_blk) | (with_reducible apply ldn_row) | (with_reducible assumption) | (with_reducible apply ldn_skip))); done)); exact rfl)); (conv => whnf))); try (first | apply VStop.mk | apply VCall.stop))
          ((apply VRet.mk); refine ret1 (by first | exact .inl rfl | exact .inr rfl) rfl (by exact rv_tmp rfl) ?_; exact fun w h => ⟨rfl, h.base⟩)
  | false =>
    have hi0 : 0 < i := by
      rcases Nat.eq_zero_or_pos i with h | h
      · subst h
        have := hf0 (by omega)
        rw [show ((0 : Nat) : Int) = 0 from rfl] at hfb
        rw [this] at hfb; cases hfb
      · exact h
    obtain ⟨p, rfl⟩ : ∃ p, i = p + 1 := ⟨i - 1, by omega⟩
    have hpv := hprev hi0
    rw [Nat.add_sub_cancel] at hpv hgo
    have htp' := iAt_cell ht0 (show p < tired.length by omega)
    rw [hfb] at hfi hgo
    simp only [Bool.false_eq_true, if_false] at hgo
    by_cases h2 : rlo ≤ iAt tired (p + 1) - iAt tired p ∧ iAt tired (p + 1) - iAt tired p ≤ rhi
    rotate_left
    · have hgo := hgo false (decide_eq_false h2)
      rw [Bool.false_and] at hgo
      rw [hfin hgo]
      by_cases h4 : iAt tired (p + 1) - iAt tired p < rlo
      · ((try first | apply tr_v Try.tabOk | apply ot_v Try.tabOk); (conv => whnf); (repeat ((first | ((first | apply VStop.mk | apply VCall.stop); (first | refine tr_region_lex (id := 14) (by kernel_rfl) [.rd, .rd, .cr, .rd, .rd, .rd, .rd, .rd, .rd, .rd, .rd, .rd, .rd, .rd, .rd, .rd, .rd, .rd, .rd, .rd, .rd, .rd, .rd, .rd, .rd, .rd, .rd, .rd, .rd, .rd, .rd, .rd, .rd, .rd, .rd, .rd] rfl (by kernel_rfl) ?_ | refine tr_region_lex (id := 16) (by kernel_rfl) [.rd, .rd, .rd, .rd, .rd, .rd, .rd, .rd, .rd, .rd, .rd, .rd, .rd, .rd] rfl (by kernel_rfl) ?_); try first | apply ot_v Try.tabOk | apply tr_v Try.tabOk) | (apply VIx.mk (j := p); omega; omega) | (apply VLd.mk; first | exact hti _ | exact htp' _ | exact hsq _ | exact hx0 _ (by (repeat (first | with_unfolding_all exact List.Mem.head _ | assumption | with_unfolding_all refine List.Mem.tail _ ?_))) | exact hx1 _ (by (repeat (first | with_unfolding_all exact List.Mem.head _ | assumption | with_unfolding_all refine List.Mem.tail _ ?_))) | exact hx2 _ (by (repeat (first | with_unfolding_all exact List.Mem.head _ | assumption | with_unfolding_all refine List.Mem.tail _ ?_)))) | (apply VCall.q; kernel_rfl; (focus (intro w1 hs; first | with_reducible apply hfi w1 (hs.nest hN)))) | (apply VLd.mk; (focus ((repeat (first | ((with_reducible apply ld_blk); exact rfl) | ((with_reducible apply ld_row); exact rfl) | ((with_reducible apply ld_row0); exact rfl) | (with_reducible assumption) | (with_reducible exact CellAt.base (by assumption)) | (with_reducible apply ld_skip))); done))) | (apply VRng.mk; omega) | apply VBr.t | apply VBr.f | (apply v_t; omega) | (apply v_f; omega) | (apply VIx.mk; exact rfl; omega) | (apply VLdN.mk; (focus ((repeat (first | (with_reducible apply ldn_blk) | (with_reducible apply ldn_row) | (with_reducible assumption) | (with_reducible apply ldn_skip))); done)); exact rfl)); (conv => whnf))); try (first | apply VStop.mk | apply VCall.stop))
        ((apply VRet.mk); refine ret1 (by first | exact .inl rfl | exact .inr rfl) rfl (by exact rv_tmp rfl) ?_; exact fun w h => ⟨rfl, h.base⟩)
      · ((try first | apply tr_v Try.tabOk | apply ot_v Try.tabOk); (conv => whnf); (repeat ((first | ((first | apply VStop.mk | apply VCall.stop); (first | refine tr_region_lex (id := 14) (by kernel_rfl) [.rd, .rd, .cr, .rd, .rd, .rd, .rd, .rd, .rd, .rd, .rd, .rd, .rd, .rd, .rd, .rd, .rd, .rd, .rd, .rd, .rd, .rd, .rd, .rd, .rd, .rd, .rd, .rd, .rd, .rd, .rd, .rd, .rd, .rd, .rd, .rd] rfl (by kernel_rfl) ?_ | refine tr_region_lex (id := 16) (by kernel_rfl) [.rd, .rd, .rd, .rd, .rd, .rd, .rd, .rd, .rd, .rd, .rd, .rd, .rd, .rd] rfl (by kernel_rfl) ?_); try first | apply ot_v Try.tabOk | apply tr_v Try.tabOk) | (apply VIx.mk (j := p); omega; omega) | (apply VLd.mk; first | exact hti _ | exact htp' _ | exact hsq _ | exact hx0 _ (by (repeat (first | with_unfolding_all exact List.Mem.head _ | assumption | with_unfolding_all refine List.Mem.tail _ ?_))) | exact hx1 _ (by (repeat (first | with_unfolding_all exact List.Mem.head _ | assumption | with_unfolding_all refine List.Mem.tail _ ?_))) | exact hx2 _ (by (repeat (first | with_unfolding_all exact List.Mem.head _ | assumption | with_unfolding_all refine List.Mem.tail _ ?_)))) | (apply VCall.q; kernel_rfl; (focus (intro w1 hs; first | with_reducible apply hfi w1 (hs.nest hN)))) | (apply VLd.mk; (focus ((repeat (first | ((with_reducible apply ld_blk); exact rfl) | ((with_reducible apply ld_row); exact rfl) | ((with_reducible apply ld_row0); exact rfl) | (with_reducible assumption) | (with_reducible exact CellAt.base (by assumption)) | (with_reducible apply ld_skip))); done))) | (apply VRng.mk; omega) | apply VBr.t | apply VBr.f | (apply v_t; omega) | (apply v_f; omega) | (apply VIx.mk; exact rfl; omega) | (apply VLdN.mk; (focus ((repeat (first | (with_reducible apply ldn_blk) | (with_reducible apply ldn_row) | (with_reducible assumption) | (with_reducible apply ldn_skip))); done)); exact rfl)); (conv => whnf))); try (first | apply VStop.mk | apply VCall.stop))
        ((apply VRet.mk); refine ret1 (by first | exact .inl rfl | exact .inr rfl) rfl (by exact rv_tmp rfl) ?_; exact fun w h => ⟨rfl, h.base⟩)
    · have hgo := hgo true (decide_eq_true h2)
      rw [Bool.true_and] at hgo
      by_cases h3 : t2 ≤ iAt sharp q - iAt tired (p + 1) ∧ iAt sharp q - iAt tired (p + 1) ≤ t3
      · rw [decide_eq_true h3] at hgo
        ((try first | apply tr_v Try.tabOk | apply ot_v Try.tabOk); (conv => whnf); (repeat ((first | ((first | apply VStop.mk | apply VCall.stop); (first | refine tr_region_lex (id := 14) (by kernel_rfl) [.rd, .rd, .cr, .rd, .rd, .rd, .rd, .rd, .rd, .rd, .rd, .rd, .rd, .rd, .rd, .rd, .rd, .rd, .rd, .rd, .rd, .rd, .rd, .rd, .rd, .rd, .rd, .rd, .rd, .rd, .rd, .rd, .rd, .rd, .rd, .rd] rfl (by kernel_rfl) ?_ | refine tr_region_lex (id := 16) (by kernel_rfl) [.rd, .rd, .rd, .rd, .rd, .rd, .rd, .rd, .rd, .rd, .rd, .rd, .rd, .rd] rfl (by kernel_rfl) ?_); try first | apply ot_v Try.tabOk | apply tr_v Try.tabOk) | (apply VIx.mk (j := p); omega; omega) | (apply VLd.mk; first | exact hti _ | exact htp' _ | exact hsq _ | exact hx0 _ (by (repeat (first | with_unfolding_all exact List.Mem.head _ | assumption | with_unfolding_all refine List.Mem.tail _ ?_))) | exact hx1 _ (by (repeat (first | with_unfolding_all exact List.Mem.head _ | assumption | with_unfolding_all refine List.Mem.tail _ ?_))) | exact hx2 _ (by (repeat (first | with_unfolding_all exact List.Mem.head _ | assumption | with_unfolding_all refine List.Mem.tail _ ?_)))) | (apply VCall.q; kernel_rfl; (focus (intro w1 hs; first | with_reducible apply hfi w1 (hs.nest hN)))) | (apply VLd.mk; (focus ((repeat (first | ((with_reducible apply ld_blk); exact rfl) | ((with_reducible apply ld_row); exact rfl) | ((with_reducible apply ld_row0); exact rfl) | (with_reducible assumption) | (with_reducible exact CellAt.base (by assumption)) | (with_reducible apply ld_skip))); done))) | (apply VRng.mk; omega) | apply VBr.t | apply VBr.f | (apply v_t; omega) | (apply v_f; omega) | (apply VIx.mk; exact rfl; omega) | (apply VLdN.mk; (focus ((repeat (first | (with_reducible apply ldn_blk) | (with_reducible apply ldn_row) | (with_reducible assumption) | (with_reducible apply ldn_skip))); done)); exact rfl)); (conv => whnf))); try (first | apply VStop.mk | apply VCall.stop))
        exact v_rnd (gm - 1) (by omega) (l := [(1, _), (2, _), (3, _), (7, _), (9, _)]) (B := _) ⟨rfl, rfl, rfl, rfl, rfl, trivial⟩ (List.Sublist.refl _) ⟨rfl, p + 1 + 1, by omega, fun j hj => by
          rcases Nat.lt_or_ge j (p + 1) with h | h
          · exact hall j h
          · obtain rfl : j = p + 1 := by omega
            exact hgo, rfl, rfl⟩
      · rw [decide_eq_false h3] at hgo
        rw [hfin hgo]
        by_cases h4 : iAt sharp q - iAt tired (p + 1) < t2
        · ((try first | apply tr_v Try.tabOk | apply ot_v Try.tabOk); (conv => whnf); (repeat ((first | ((first | apply VStop.mk | apply VCall.stop); (first | refine tr_region_lex (id := 14) (by kernel_rfl) [.rd, .rd, .cr, .rd, .rd, .rd, .rd, .rd, .rd, .rd, .rd, .rd, .rd, .rd, .rd, .rd, .rd, .rd, .rd, .rd, .rd, .rd, .rd, .rd, .rd, .rd, .rd, .rd, .rd, .rd, .rd, .rd, .rd, .rd, .rd, .rd] rfl (by kernel_rfl) ?_ | refine tr_region_lex (id := 16) (by kernel_rfl) [.rd, .rd, .rd, .rd, .rd, .rd, .rd, .rd, .rd, .rd, .rd, .rd, .rd, .rd] rfl (by kernel_rfl) ?_); try first | apply ot_v Try.tabOk | apply tr_v Try.tabOk) | (apply VIx.mk (j := p); omega; omega) | (apply VLd.mk; first | exact hti _ | exact htp' _ | exact hsq _ | exact hx0 _ (by (repeat (first | with_unfolding_all exact List.Mem.head _ | assumption | with_unfolding_all refine List.Mem.tail _ ?_))) | exact hx1 _ (by (repeat (first | with_unfolding_all exact List.Mem.head _ | assumption | with_unfolding_all refine List.Mem.tail _ ?_))) | exact hx2 _ (by (repeat (first | with_unfolding_all exact List.Mem.head _ | assumption | with_unfolding_all refine List.Mem.tail _ ?_)))) | (apply VCall.q; kernel_rfl; (focus (intro w1 hs; first | with_reducible apply hfi w1 (hs.nest hN)))) | (apply VLd.mk; (focus ((repeat (first | ((with_reducible apply ld_blk); exact rfl) | ((with_reducible apply ld_row); exact rfl) | ((with_reducible apply ld_row0); exact rfl) | (with_reducible assumption) | (with_reducible exact CellAt.base (by assumption)) | (with_reducible apply ld_skip))); done))) | (apply VRng.mk; omega) | apply VBr.t | apply VBr.f | (apply v_t; omega) | (apply v_f; omega) | (apply VIx.mk; exact rfl; omega) | (apply VLdN.mk; (focus ((repeat (first | (with_reducible apply ldn_blk) | (with_reducible apply ldn_row) | (with_reducible assumption) | (with_reducible apply ldn_skip))); done)); exact rfl)); (conv => whnf))); try (first | apply VStop.mk | apply VCall.stop))
          ((apply VRet.mk); refine ret1 (by first | exact .inl rfl | exact .inr rfl) rfl (by exact rv_tmp rfl) ?_; exact fun w h => ⟨rfl, h.base⟩)
        · ((try first | apply tr_v Try.tabOk | apply ot_v Try.tabOk); (conv => whnf); (repeat ((first | ((first | apply VStop.mk | apply VCall.stop); (first | refine tr_region_lex (id := 14) (by kernel_rfl) [.rd, .rd, .cr, .rd, .rd, .rd, .rd, .rd, .rd, .rd, .rd, .rd, .rd, .rd, .rd, .rd, .rd, .rd, .rd, .rd, .rd, .rd, .rd, .rd, .rd, .rd, .rd, .rd, .rd, .rd, .rd, .rd, .rd, .rd, .rd, .rd] rfl (by kernel_rfl) ?_ | refine tr_region_lex (id := 16) (by kernel_rfl) [.rd, .rd, .rd, .rd, .rd, .rd, .rd, .rd, .rd, .rd, .rd, .rd, .rd, .rd] rfl (by kernel_rfl) ?_); try first | apply ot_v Try.tabOk | apply tr_v Try.tabOk) | (apply VIx.mk (j := p); omega; omega) | (apply VLd.mk; first | exact hti _ | exact htp' _ | exact hsq _ | exact hx0 _ (by (repeat (first | with_unfolding_all exact List.Mem.head _ | assumption | with_unfolding_all refine List.Mem.tail _ ?_))) | exact hx1 _ (by (repeat (first | with_unfolding_all exact List.Mem.head _ | assumption | with_unfolding_all refine List.Mem.tail _ ?_))) | exact hx2 _ (by (repeat (first | with_unfolding_all exact List.Mem.head _ | assumption | with_unfolding_all refine List.Mem.tail _ ?_)))) | (apply VCall.q; kernel_rfl; (focus (intro w1 hs; first | with_reducible apply hfi w1 (hs.nest hN)))) | (apply VLd.mk; (focus ((repeat (first | ((with_reducible apply ld_blk); exact rfl) | ((with_reducible apply ld_row); exact rfl) | ((with_reducible apply ld_row0); exact rfl) | (with_reducible assumption) | (with_reducible exact CellAt.base (by assumption)) | (with_reducible apply ld_skip))); done))) | (apply VRng.mk; omega) | apply VBr.t | apply VBr.f | (apply v_t; omega) | (apply v_f; omega) | (apply VIx.mk; exact rfl; omega) | (apply VLdN.mk; (focus ((repeat (first | (with_reducible apply ldn_blk) | (with_reducible apply ldn_row) | (with_reducible assumption) | (with_reducible apply ldn_skip))); done)); exact rfl)); (conv => whnf))); try (first | apply VStop.mk | apply VCall.stop))
          ((apply VRet.mk); refine ret1 (by first | exact .inl rfl | exact .inr rfl) rfl (by exact rv_tmp rfl) ?_; exact fun w h => ⟨rfl, h.base⟩)
end
end Go.Proofs.Ytkbcogaodnmdoaa
