/- Held, plainly: lemmas for the rows of this seat. No conditions. -/
import Derived.Test.YtkbcogaodnmdoaaProg
import Derived.WalkKit
import Derived.WalkSpells
import Derived.WalkLawsBesides
import Derived.Lib.Hide
import Derived.Deep.AppendLies
import Derived.Deep.Draws
import Derived.Maps.AppendAt
import Derived.RegionTactic
import Derived.OwnWalk
import Derived.Deep.QuietTactic
import Derived.BigQuiet
import Derived.Deep.DeepFit
import Derived.Deep.LoopGhost
import Derived.Deep.DeepMust
import Derived.Deep.DeepCutAuto
import Derived.StillTail
import Derived.Deep.Quiet
import Derived.Deep.RegionHeld3
import Derived.Deep.RegionWith
import Derived.Deep.RegionLaw
import Derived.Maps.OwnOps
import Derived.Maps.OwnSet
import Derived.Maps.OwnRows
import Derived.Maps.RangeWalk
import Derived.Carry
import Derived.Test.YtkbcogaodnmdoaaBase
import Derived.Test.YtkbcogaodnmdoaaMaps
import Derived.Test.YtkbcogaodnmdoaaKeys
import Derived.Test.YtkbcogaodnmdoaaS1
import Derived.Test.YtkbcogaodnmdoaaS5
import Derived.Test.YtkbcogaodnmdoaaS12
import Derived.Test.YtkbcogaodnmdoaaS14
import Derived.Test.YtkbcogaodnmdoaaV
import Derived.Test.YtkbcogaodnmdoaaV2
import Derived.Test.YtkbcogaodnmdoaaV3
import Derived.Test.YtkbcogaodnmdoaaV4
import Derived.Test.YtkbcogaodnmdoaaV5
import Derived.Test.YtkbcogaodnmdoaaV6
import Derived.Test.YtkbcogaodnmdoaaTab
import Derived.Test.YtkbcogaodnmdoaaE1
import Derived.Test.YtkbcogaodnmdoaaE2
import Derived.Test.YtkbcogaodnmdoaaE3
import Derived.Test.YtkbcogaodnmdoaaE4
import Derived.Test.YtkbcogaodnmdoaaE5
import Derived.Test.YtkbcogaodnmdoaaE6
import Derived.Test.YtkbcogaodnmdoaaE7
import Derived.Test.YtkbcogaodnmdoaaE8
import Derived.Test.YtkbcogaodnmdoaaE9
import Derived.Test.YtkbcogaodnmdoaaE10
import Derived.Test.YtkbcogaodnmdoaaE11
import Derived.Test.YtkbcogaodnmdoaaE12
import Derived.Test.YtkbcogaodnmdoaaE13
import Derived.Test.YtkbcogaodnmdoaaE14
import Derived.Test.YtkbcogaodnmdoaaE15
import Derived.Test.YtkbcogaodnmdoaaE16
import Derived.Test.YtkbcogaodnmdoaaE17
import Derived.Test.YtkbcogaodnmdoaaE18
import Derived.Test.YtkbcogaodnmdoaaE19
import Derived.Test.YtkbcogaodnmdoaaE20
import Derived.Test.YtkbcogaodnmdoaaE21
import Derived.Test.YtkbcogaodnmdoaaE22
import Derived.Test.YtkbcogaodnmdoaaE23
import Derived.Test.YtkbcogaodnmdoaaE24
import Derived.Test.YtkbcogaodnmdoaaE25
import Derived.Test.YtkbcogaodnmdoaaE26
import Derived.Test.YtkbcogaodnmdoaaE27
import Derived.Test.YtkbcogaodnmdoaaE28
import Derived.Test.YtkbcogaodnmdoaaE29
import Derived.Test.YtkbcogaodnmdoaaE30
import Derived.Test.YtkbcogaodnmdoaaE31
import Derived.Test.YtkbcogaodnmdoaaE32
import Derived.Test.YtkbcogaodnmdoaaE33
set_option linter.all false
namespace Go.Proofs.Ytkbcogaodnmdoaa
open Go.RowKit
/-! ## Held, plainly -/
/-- One of some numbers, round. -/
def numAt (by_ : List Int) (i : Nat) : Int := if by_.length = 0 then 0 else iAt by_ (i % by_.length)
theorem numAt_bd {by_ : List Int} (h : ∀ z ∈ by_, 0 ≤ z ∧ z ≤ 65535) (i : Nat) : 0 ≤ numAt by_ i ∧ numAt by_ i ≤ 65535 := by
  unfold numAt
  split
  · omega
  · have hl : i % by_.length < by_.length := Nat.mod_lt _ (by omega)
    have : iAt by_ (i % by_.length) = by_[i % by_.length] := by unfold iAt; rw [List.getElem?_eq_getElem hl]; rfl
    rw [this]
    exact h _ (List.getElem_mem hl)
def heldSh (by_ : List Int) (i : Nat) : Int := Int.tmod (numAt by_ i) 1001
def heldT (rlo rhi : Int) (L : Nat) (S : List (List T3)) (by_ : List Int) : Nat → Int
  | 0 => 0
  | t + 1 => if firstB S ((t + 1 : Nat) : Int) = true then 0 else heldT rlo rhi L S by_ t + rlo + Int.tmod (numAt by_ (t + 1 + L)) (rhi - rlo + 1)
def heldL (by_ : List Int) (L : Nat) : List Int := (List.range L).map (heldSh by_)
def heldTl (rlo rhi : Int) (L : Nat) (S : List (List T3)) (by_ : List Int) (T : Nat) : List Int := (List.range T).map (heldT rlo rhi L S by_)
/-- A taste, as much wider as it takes. -/
def widen (x : T3) (n : Int) : T3 := (x.1, (if n < x.2.1 then n else x.2.1), if n > x.2.2 then n else x.2.2)
def heldK (rlo rhi : Int) (L : Nat) (S : List (List T3)) (by_ : List Int) (j k : Nat) : T3 :=
  widen ((S[j]?.getD [])[k]?.getD (0, 0, 0)) (heldSh by_ ((S[j]?.getD [])[k]?.getD (0, 0, 0)).1.toNat - heldT rlo rhi L S by_ (offT S j + k))
def heldJ (rlo rhi : Int) (L : Nat) (S : List (List T3)) (by_ : List Int) (j : Nat) : List T3 := (List.range (S[j]?.getD []).length).map (heldK rlo rhi L S by_ j)
def heldS (rlo rhi : Int) (L : Nat) (S : List (List T3)) (by_ : List Int) : List (List T3) := (List.range S.length).map (heldJ rlo rhi L S by_)
theorem heldS_len (rlo rhi : Int) (L : Nat) (S : List (List T3)) (by_ : List Int) : (heldS rlo rhi L S by_).length = S.length := by unfold heldS; simp
section
variable {rlo rhi : Int} {L : Nat} {S : List (List T3)} {by_ : List Int}
theorem heldSh_bd (hb : ∀ z ∈ by_, 0 ≤ z ∧ z ≤ 65535) (i : Nat) : 0 ≤ heldSh by_ i ∧ heldSh by_ i ≤ 1000 := by
  have h := numAt_bd hb i
  have h1 := Int.tmod_nonneg 1001 h.1
  have h2 := Int.tmod_lt_of_pos (numAt by_ i) (show (0 : Int) < 1001 by decide)
  unfold heldSh
  omega
theorem heldJ_at {j : Nat} (hj : j < S.length) : heldJ rlo rhi L S by_ j = (List.range S[j].length).map (heldK rlo rhi L S by_ j) := by
  unfold heldJ
  rw [List.getElem?_eq_getElem hj]; rfl
theorem heldS_at {j : Nat} (hj : j < S.length) : (heldS rlo rhi L S by_)[j]'(by rw [heldS_len]; exact hj) = heldJ rlo rhi L S by_ j := by simp [heldS]
theorem heldS_atl {j : Nat} (hj : j < S.length) : ((heldS rlo rhi L S by_)[j]'(by rw [heldS_len]; exact hj)).length = S[j].length := by
  rw [heldS_at hj, heldJ_at hj]; simp
theorem heldK_at {j k : Nat} (hj : j < S.length) (hk : k < S[j].length) : heldK rlo rhi L S by_ j k = widen S[j][k] (heldSh by_ S[j][k].1.toNat - heldT rlo rhi L S by_ (offT S j + k)) := by
  unfold heldK
  rw [List.getElem?_eq_getElem hj, Option.getD_some, List.getElem?_eq_getElem hk, Option.getD_some]
theorem heldS_at2 {j k : Nat} (hj : j < S.length) (hk : k < S[j].length) : ((heldS rlo rhi L S by_)[j]'(by rw [heldS_len]; exact hj))[k]'(by rw [heldS_atl hj]; exact hk) = widen S[j][k] (heldSh by_ S[j][k].1.toNat - heldT rlo rhi L S by_ (offT S j + k)) := by
  rw [← heldK_at hj hk]
  simp only [heldS_at hj, heldJ_at hj, List.getElem_map, List.getElem_range]
theorem held_off : ∀ {j : Nat}, j ≤ S.length → offT (heldS rlo rhi L S by_) j = offT S j
  | 0, _ => rfl
  | j + 1, h => by
    rw [offT_step (show j < S.length by omega), offT_step (show j < (heldS rlo rhi L S by_).length by rw [heldS_len]; omega), held_off (by omega), heldS_atl (by omega)]
theorem held_flat : (heldS rlo rhi L S by_).flatten.length = S.flatten.length := by
  rw [← offT_all, ← offT_all, heldS_len, held_off (Nat.le_refl _)]
variable (hO : Okb rlo rhi L S)
include hO
theorem heldT_first {j : Nat} (hj : j < S.length) : heldT rlo rhi L S by_ (offT S j) = 0 := by
  have hl : 0 < S[j].length := Nat.pos_of_ne_zero (hO.ne _ (List.getElem_mem hj))
  have hf := first_at hO.ne hj hl
  rw [show (List.take j S).flatten.length + 0 = offT S j from rfl] at hf
  cases he : offT S j with
  | zero => rfl
  | succ t =>
    rw [heldT, ← he, hf, if_pos (by decide)]
theorem heldT_next {j k : Nat} (hj : j < S.length) (hk : k + 1 < S[j].length) : heldT rlo rhi L S by_ (offT S j + (k + 1)) = heldT rlo rhi L S by_ (offT S j + k) + rlo + Int.tmod (numAt by_ (offT S j + (k + 1) + L)) (rhi - rlo + 1) := by
  have hf := first_at hO.ne hj hk
  rw [show (List.take j S).flatten.length + (k + 1) = offT S j + (k + 1) from rfl] at hf
  rw [show offT S j + (k + 1) = offT S j + k + 1 by omega] at hf ⊢
  rw [heldT, hf, if_neg (by simp)]
variable (hb : ∀ z ∈ by_, 0 ≤ z ∧ z ≤ 65535)
include hb
/-- The numbers are a truth of the wider book. -/
theorem held_truth {S' : List (List T3)} (hl : S'.length = S.length) (hs : ∀ j (hj : j < S.length), (S'[j]'(by omega)).length = S[j].length ∧ ∀ k (hk : k < S[j].length) (hk' : k < (S'[j]'(by omega)).length), (S'[j]'(by omega))[k].1 = S[j][k].1 ∧ (S'[j]'(by omega))[k].2.1 ≤ heldSh by_ S[j][k].1.toNat - heldT rlo rhi L S by_ (offT S j + k) ∧ heldSh by_ S[j][k].1.toNat - heldT rlo rhi L S by_ (offT S j + k) ≤ (S'[j]'(by omega))[k].2.2) :
    TruthA rlo rhi L S' (heldSh by_) (fun j k => heldT rlo rhi L S by_ (offT S j + k)) := by
  have hr := hO.r
  refine ⟨fun i _ => heldSh_bd hb i, fun j hj => ?_, fun j hj k hk => ?_, fun j hj k hk _ => ?_⟩
  · rw [Nat.add_zero]; exact heldT_first hO (by omega)
  · rw [hl] at hj
    rw [(hs j hj).1] at hk
    rw [heldT_next hO hj hk]
    have h := numAt_bd hb (offT S j + (k + 1) + L)
    have h1 := Int.tmod_nonneg (rhi - rlo + 1) h.1
    have h2 := Int.tmod_lt_of_pos (numAt by_ (offT S j + (k + 1) + L)) (show (0 : Int) < rhi - rlo + 1 by omega)
    omega
  · have hj' : j < S.length := by omega
    obtain ⟨h1, h2⟩ := hs j hj'
    obtain ⟨h3, h4, h5⟩ := h2 k (by omega) hk
    rw [h3]
    exact ⟨h4, h5⟩
theorem held_self : TruthA rlo rhi L (heldS rlo rhi L S by_) (heldSh by_) (fun j k => heldT rlo rhi L S by_ (offT S j + k)) := by
  refine held_truth hO hb (heldS_len ..) fun j hj => ⟨heldS_atl hj, fun k hk hk' => ?_⟩
  rw [heldS_at2 hj hk]
  unfold widen
  dsimp only
  refine ⟨rfl, ?_, ?_⟩ <;> split <;> omega
end
/-! ## Held -/
theorem heldT_bd {rlo rhi : Int} {L : Nat} {S : List (List T3)} {by_ : List Int} (hr : 0 ≤ rlo ∧ rlo ≤ rhi ∧ rhi ≤ 50) (hb : ∀ z ∈ by_, 0 ≤ z ∧ z ≤ 65535) : ∀ t : Nat, 0 ≤ heldT rlo rhi L S by_ t ∧ heldT rlo rhi L S by_ t ≤ 50 * (t : Int)
  | 0 => by rw [heldT]; omega
  | t + 1 => by
    have ih := heldT_bd (L := L) (S := S) hr hb t
    have h := numAt_bd hb (t + 1 + L)
    have h1 := Int.tmod_nonneg (rhi - rlo + 1) h.1
    have h2 := Int.tmod_lt_of_pos (numAt by_ (t + 1 + L)) (show (0 : Int) < rhi - rlo + 1 by omega)
    by_cases hf : firstB S ((t + 1 : Nat) : Int) = true
    · have e : heldT rlo rhi L S by_ (t + 1) = 0 := by rw [heldT, if_pos hf]
      rw [e]; omega
    · have e : heldT rlo rhi L S by_ (t + 1) = heldT rlo rhi L S by_ t + rlo + Int.tmod (numAt by_ (t + 1 + L)) (rhi - rlo + 1) := by rw [heldT, if_neg hf]
      rw [e]; omega
theorem perm3 {α : Type} (a b c : α) (l : List α) : (a :: b :: c :: l).Perm (c :: b :: a :: l) :=
  ((List.Perm.swap b a _).trans (.cons b (.swap c a _))).trans (.swap c b _)
set_option maxRecDepth 20000 in
theorem number_any (A : Option Addr) (c : Nat) (by_ : List Int) (i : Int) (w : World) (h : Reads w w.heap.size 1 A by_.length (by_.map (Value.int .u16))) (hl : by_.length ≤ 30) (hi : 0 ≤ i ∧ i ≤ 1000) (hb : ∀ z ∈ by_, 0 ≤ z ∧ z ≤ 65535) :
    Calls Try.prog 79 #[.slice A by_.length c, .int .i64 i] w fun e w' => e = .returned (.int .i64 (numAt by_ i.toNat)) ∧ Below w.heap.size w w' := by
  have hbd := numAt_bd hb i.toNat
  by_cases h0 : by_.length = 0
  · have e : numAt by_ i.toNat = 0 := by unfold numAt; rw [if_pos h0]
    rw [e]
    refine fn_v Try.tabOk (n := 16) (A := []) Try.func79 rfl rfl (Nat.le_of_ble_eq_true rfl) (St.nil (Below.refl _ _)) ?_
    ((try first | apply tr_v Try.tabOk | apply ot_v Try.tabOk); (conv => whnf); (repeat ((first | apply VBr.t | (apply v_t; omega)); (conv => whnf))); try (first | apply VStop.mk | apply VCall.stop))
    ((apply VRet.mk); refine ret1 (by first | exact .inl rfl | exact .inr rfl) rfl (by exact rv_tmp rfl) ?_; exact fun w h => ⟨rfl, h.base⟩)
  · have e : numAt by_ i.toNat = iAt by_ (i.toNat % by_.length) := by unfold numAt; rw [if_neg h0]
    have hm : i.toNat % by_.length < by_.length := Nat.mod_lt _ (by omega)
    obtain ⟨b, o, rfl, _, hc⟩ := h.2 (by omega)
    have hcell : ∀ Ch, CellAt w Ch b (o + (i.toNat % by_.length) * 1) (.int .u16 (numAt by_ i.toNat)) := fun Ch => by
      refine CellAt.base ?_
      rw [Nat.mul_one]
      refine hc _ _ ?_
      rw [e, List.getElem?_map, List.getElem?_eq_getElem hm]
      unfold iAt
      rw [List.getElem?_eq_getElem hm]; rfl
    have hmod : Int.tmod i (by_.length : Int) = ((i.toNat % by_.length : Nat) : Int) := tmod_nat i _ hi.1
    generalize numAt by_ i.toNat = v at *
    refine fn_v Try.tabOk (n := 16) (A := []) Try.func79 rfl rfl (Nat.le_of_ble_eq_true rfl) (St.nil (Below.refl _ _)) ?_
    ((try first | apply tr_v Try.tabOk | apply ot_v Try.tabOk); (conv => whnf); (repeat ((first | (apply VIx.mk (j := i.toNat % by_.length); exact hmod; omega) | (apply VLd.mk; exact hcell _) | apply VBr.f | (apply v_f; omega) | (apply v_wr64; omega) | (apply VNz.mk; omega)); (conv => whnf))); try (first | apply VStop.mk | apply VCall.stop))
    ((apply VRet.mk); refine ret1 (by first | exact .inl rfl | exact .inr rfl) rfl (by exact rv_tmp rfl) ?_; exact fun w h => ⟨rfl, h.base⟩)
section
variable (rlo rhi : Int) (L : Nat) (Al : Option Addr) (c : Nat) (S : List (List T3)) (w : World) (hN : NestR w 3 Al (nestOf S)) (hO : Okb rlo rhi L S)
include hN hO
set_option maxHeartbeats 4000000 in
set_option maxRecDepth 20000 in
theorem held_any (By : Option Addr) (cb : Nat) (by_ : List Int) (hby : Reads w w.heap.size 1 By by_.length (by_.map (Value.int .u16))) (hbl : by_.length ≤ 30) (hb : ∀ z ∈ by_, 0 ≤ z ∧ z ≤ 65535) :
    Calls Try.prog 42 #[bookV rlo rhi L Al S.length c, .slice By by_.length cb] w fun e w' => ∃ x : NestX S.length × TwoX, e = .returned (.tuple #[bookV rlo rhi L x.1.1.1 S.length x.1.1.2, .slice x.2.1.1 L x.2.1.2, .slice x.2.2.1 S.flatten.length x.2.2.2]) ∧
      St w (.own (.slice x.2.1.1 L x.2.1.2) 2 1 L (i64s (heldL by_ L)) :: .own (.slice x.2.2.1 S.flatten.length x.2.2.2) 2 1 S.flatten.length (i64s (heldTl rlo rhi L S by_ S.flatten.length)) :: .own (.slice x.1.1.1 S.length x.1.1.2) 55 1 S.length (sitVs x.1.2.1 (heldS rlo rhi L S by_)) :: sitCh x.1.2.1 (heldS rlo rhi L S by_)) w' := by
  have hl := hO.l
  have hr := hO.r
  have hn := hO.n
  have ht := hO.t
  have hnum := fun w1 (h : Below w.heap.size w w1) (i : Int) hi => number_any By cb by_ i w1 ((hby.below h).more h.size) hbl hi hb
  have hto := fun a b w1 => to_any a b w1
  have hTb := fun t => heldT_bd (L := L) (S := S) hr hb t
  have hSb := fun i => heldSh_bd hb i
  have hNb := fun i => numAt_bd hb i
  unfold bookV
  refine fn_v Try.tabOk (n := 126) (A := []) Try.func42 rfl rfl (Nat.le_of_ble_eq_true rfl) (St.nil (Below.refl _ _)) ?_
  ((try first | apply tr_v Try.tabOk | apply ot_v Try.tabOk); (conv => whnf); (repeat ((first | (apply VLd.mk; (focus ((repeat (first | ((with_reducible apply ld_blk); exact rfl) | ((with_reducible apply ld_row); exact rfl) | ((with_reducible apply ld_row0); exact rfl) | (with_reducible assumption) | (with_reducible exact CellAt.base (by assumption)) | (with_reducible apply ld_skip))); done))) | (apply VNew.mk; intro g hg) | (apply VLdN.sub; (focus ((repeat (first | (with_reducible apply ldn_blk) | (with_reducible apply ldn_row) | (with_reducible assumption) | (with_reducible apply ldn_skip))); done)); exact rfl) | (apply VSt.mk; (focus ((repeat (first | (with_reducible exact At.here) | (with_reducible apply At.there))); done)); exact rfl)); (conv => whnf))); try (first | apply VStop.mk | apply VCall.stop))
  rename_i g2 h2 g4 h4
  revert g
  intro g7 h7
  refine tr_own_nil 2 1 ?_
  refine v_loop (fun gm ds ts A => ds = [] ∧ ∃ (i : Nat) (B : Option Addr) (cp : Nat), i + gm = L ∧ A = [.own (.slice B i cp) 2 1 i (i64s (heldL by_ i)), .blk g7 26 [.int .i64 rlo, .int .i64 rhi, .int .i64 L, .slice none 0 0], .blk g4 26 [.int .i64 0, .int .i64 0, .int .i64 0, .slice none 0 0], .blk g2 26 [.int .i64 rlo, .int .i64 rhi, .int .i64 L, .slice Al S.length c]] ∧ ts = [(1, .slice By by_.length cb), (2, .pointer (some ⟨g2, 0, none⟩)), (4, .pointer (some ⟨g4, 0, none⟩)), (7, .pointer (some ⟨g7, 0, none⟩)), (8, .slice B i cp), (9, .slice none 0 0), (10, .int .i64 (i : Int))]) L
    (l := [(1, _), (2, _), (4, _), (7, _), (8, _), (9, _), (10, _)]) (B := _) ?_ (List.Sublist.refl _) ⟨rfl, 0, none, 0, by omega, rfl, rfl⟩ ?_
  · exact ⟨rfl, rfl, rfl, rfl, rfl, rfl, rfl, trivial⟩
  rintro gm ds ts A ⟨rfl, i, B, cp, hi, rfl, rfl⟩
  by_cases hlt : i < L
  · have hsn : i64s (heldL by_ i) ++ i64s [heldSh by_ i] = i64s (heldL by_ (i + 1)) := by
      unfold i64s heldL
      rw [List.range_succ, List.map_append, List.map_append]; rfl
    have hni := hnum
    have hbi := hNb i
    have hsi := hSb i
    unfold heldSh at hsn hsi
    ((try first | apply tr_v Try.tabOk | apply ot_v Try.tabOk); (conv => whnf); (repeat ((first | ((first | apply VStop.mk | apply VCall.stop); (first | (refine ot_appendS (sz := 1) (sl := i) (xs := i64s (heldL by_ i)) (A'v := fun v' => _ :: .own v' 2 1 (i + 1) _ :: _) Try.tabOk rfl rfl rfl rfl rfl rfl rfl rfl rfl rfl (by decide) rfl (cells_blk_all (.head _)) rfl rfl (fun v' => .there .here) (by omega) (by decide) (fun Bn cn => ?_))); try first | apply ot_v Try.tabOk | apply tr_v Try.tabOk) | (apply VCall.q; kernel_rfl; (focus (intro w1 hs; first | with_reducible apply hni w1 hs.base i (by omega)))) | (apply VLd.mk; (focus ((repeat (first | ((with_reducible apply ld_blk); exact rfl) | ((with_reducible apply ld_row); exact rfl) | ((with_reducible apply ld_row0); exact rfl) | (with_reducible assumption) | (with_reducible exact CellAt.base (by assumption)) | (with_reducible apply ld_skip))); done))) | (apply VRng.mk; omega) | apply VBr.t | (apply v_t; omega) | (apply VNew.mk; intro g hg) | (apply VNz.mk; omega)); (conv => whnf))); try (first | apply VStop.mk | apply VCall.stop))
    exact v_rnd (gm - 1) (by omega) (l := [(1, _), (2, _), (4, _), (7, _), (8, _), (9, _), (10, _)]) (B := [_, _, _, _]) ⟨rfl, rfl, rfl, rfl, rfl, rfl, rfl, trivial⟩ (.cons _ (List.Sublist.refl _)) ⟨rfl, i + 1, Bn, cn, by omega, by rw [← hsn]; rfl, rfl⟩
  · obtain rfl : L = i := by omega
    ((try first | apply tr_v Try.tabOk | apply ot_v Try.tabOk); (conv => whnf); (repeat ((first | (apply VLd.mk; (focus ((repeat (first | ((with_reducible apply ld_blk); exact rfl) | ((with_reducible apply ld_row); exact rfl) | ((with_reducible apply ld_row0); exact rfl) | (with_reducible assumption) | (with_reducible exact CellAt.base (by assumption)) | (with_reducible apply ld_skip))); done))) | apply VBr.f | (apply v_f; omega)); (conv => whnf))); try (first | apply VStop.mk | apply VCall.stop))
    refine tr_fact (p := ∃ b8, B = some ⟨b8, 0, none⟩) (fun w' hs => ?_) fun hp => ?_
    · obtain ⟨_, _, q1, p1⟩ := own_form (hs.all _ (.head _))
      cases q1
      exact p1 (by omega)
    obtain ⟨b8, rfl⟩ := hp
    refine tr_own_nil 2 1 ?_
    refine tr_own_nil 55 1 ?_
    have hHJ : ∀ j, j < S.length → (List.range (j + 1)).map (heldJ rlo rhi L S by_) = (List.range j).map (heldJ rlo rhi L S by_) ++ [heldJ rlo rhi L S by_ j] := fun j _ => by rw [List.range_succ, List.map_append]; rfl
    have hTL : ∀ t, i64s (heldTl rlo rhi L S by_ t) ++ i64s [heldT rlo rhi L S by_ t] = i64s (heldTl rlo rhi L S by_ (t + 1)) := fun t => by
      unfold i64s heldTl
      rw [List.range_succ, List.map_append, List.map_append]; rfl
    refine v_loop (fun gm ds ts A => ds = [] ∧ ∃ (j : Nat) (Bo : Option Addr) (co : Nat) (Bt : Option Addr) (ct : Nat) (xs : List SitX), j + gm = S.length ∧ xs.length = j ∧ A.Perm (.own (.slice Bo j co) 55 1 j (sitVs xs ((List.range j).map (heldJ rlo rhi L S by_))) :: .own (.slice Bt (offT S j) ct) 2 1 (offT S j) (i64s (heldTl rlo rhi L S by_ (offT S j))) :: .own (.slice (some ⟨b8, 0, none⟩) L cp) 2 1 L (i64s (heldL by_ L)) :: .blk g7 26 [.int .i64 rlo, .int .i64 rhi, .int .i64 L, .slice Bo j co] :: .blk g4 26 [.int .i64 0, .int .i64 0, .int .i64 0, .slice none 0 0] :: .blk g2 26 [.int .i64 rlo, .int .i64 rhi, .int .i64 L, .slice Al S.length c] :: sitCh xs ((List.range j).map (heldJ rlo rhi L S by_))) ∧
        ts = [(1, .slice By by_.length cb), (2, .pointer (some ⟨g2, 0, none⟩)), (4, .pointer (some ⟨g4, 0, none⟩)), (7, .pointer (some ⟨g7, 0, none⟩)), (8, .slice (some ⟨b8, 0, none⟩) L cp), (9, .slice Bt (offT S j) ct), (11, .int .i64 (j : Int))]) S.length
      (l := [(1, _), (2, _), (4, _), (7, _), (8, _), (9, _), (11, _)]) (B := _) ?_ (List.Sublist.refl _) ⟨rfl, 0, none, 0, none, 0, [], by omega, rfl, .refl _, rfl⟩ ?_
    · exact ⟨rfl, rfl, rfl, rfl, rfl, rfl, rfl, trivial⟩
    rintro gm ds ts A ⟨rfl, j, Bo, co, Bt, ct, xs, hj, hxs, hA, rfl⟩
    refine tr_perm hA ?_
    clear hA A
    have hxl : xs.length = ((List.range j).map (heldJ rlo rhi L S by_)).length := by rw [List.length_map, List.length_range]; exact hxs
    by_cases hltj : j < S.length
    · obtain ⟨b, o, rfl, B', c', hce, hrd⟩ := nest_at hN hltj
      have hne := Nat.pos_of_ne_zero (hO.ne _ (List.getElem_mem hltj))
      ((try first | apply tr_v Try.tabOk | apply ot_v Try.tabOk); (conv => whnf); (repeat ((first | (apply VLd.mk; (focus ((repeat (first | ((with_reducible apply ld_blk); exact rfl) | ((with_reducible apply ld_row); exact rfl) | ((with_reducible apply ld_row0); exact rfl) | (with_reducible assumption) | (with_reducible exact CellAt.base (by assumption)) | (with_reducible apply ld_skip))); done))) | apply VBr.t | (apply v_t; omega)); (conv => whnf))); try (first | apply VStop.mk | apply VCall.stop))
      refine tr_own_nil 67 3 ?_
      generalize hR : sitCh xs ((List.range j).map (heldJ rlo rhi L S by_)) = R
      generalize hOC : Chunk.own (.slice Bo j co) 55 1 j (sitVs xs ((List.range j).map (heldJ rlo rhi L S by_))) = OC
      have hlj : S[j].length ≤ 12 := by
        have := offT_step hltj
        have h2 := off_mono (S := S) (show j + 1 ≤ S.length by omega) (Nat.le_refl _)
        rw [offT_all] at h2
        omega
      refine v_loop (fun gm' ds ts A => ds = [] ∧ ∃ (k : Nat) (Bl : Option Addr) (cl : Nat) (Bt : Option Addr) (ct : Nat), k + gm' = S[j].length ∧ A = .own (.slice Bl k cl) 67 3 k (saidCells ((List.range k).map (heldK rlo rhi L S by_ j))) :: OC :: .own (.slice Bt (offT S j + k) ct) 2 1 (offT S j + k) (i64s (heldTl rlo rhi L S by_ (offT S j + k))) :: .own (.slice (some ⟨b8, 0, none⟩) L cp) 2 1 L (i64s (heldL by_ L)) :: .blk g7 26 [.int .i64 rlo, .int .i64 rhi, .int .i64 L, .slice Bo j co] :: .blk g4 26 [.int .i64 0, .int .i64 0, .int .i64 0, .slice none 0 0] :: .blk g2 26 [.int .i64 rlo, .int .i64 rhi, .int .i64 L, .slice (some ⟨b, o, none⟩) S.length c] :: R ∧
          ts = [(1, .slice By by_.length cb), (2, .pointer (some ⟨g2, 0, none⟩)), (4, .pointer (some ⟨g4, 0, none⟩)), (7, .pointer (some ⟨g7, 0, none⟩)), (8, .slice (some ⟨b8, 0, none⟩) L cp), (9, .slice Bt (offT S j + k) ct), (11, .int .i64 (j : Int)), (12, .slice Bl k cl), (13, .int .i64 (k : Int))]) S[j].length
        (l := [(1, _), (2, _), (4, _), (7, _), (8, _), (9, _), (11, _), (12, _), (13, _)]) (B := _) ?_ (List.Sublist.refl _) ⟨rfl, 0, none, 0, Bt, ct, by omega, rfl, rfl⟩ ?_
      · exact ⟨rfl, rfl, rfl, rfl, rfl, rfl, rfl, rfl, rfl, trivial⟩
      clear Bt ct
      rintro gm' ds ts A ⟨rfl, k, Bl, cl, Bt, ct, hk, rfl, rfl⟩
      by_cases hltk : k < S[j].length
      · have hflt := flat_lt hltj hltk
        have hfo : offT S j + k < S.flatten.length := hflt
        obtain ⟨b', o', rfl, _⟩ := hrd.2 (by omega)
        have hsd : ∀ Ch, CellsAt w Ch b' (o' + k * 3) (saidL S[j][k]) := fun Ch => by
          have := said_cells hrd hltk (by omega) Ch
          rwa [List.getElem?_eq_getElem hltk, Option.getD_some] at this
        have hxk := hO.x _ (List.mem_flatten.2 ⟨_, List.getElem_mem hltj, List.getElem_mem hltk⟩)
        have hKs : (List.range (k + 1)).map (heldK rlo rhi L S by_ j) = (List.range k).map (heldK rlo rhi L S by_ j) ++ [heldK rlo rhi L S by_ j k] := by rw [List.range_succ, List.map_append]; rfl
        have hKe := heldK_at (rlo := rlo) (rhi := rhi) (L := L) (by_ := by_) hltj hltk
        generalize S[j][k] = tx at *
        obtain ⟨t1, lo, hi'⟩ := tx
        dsimp only at hxk
        obtain ⟨q, rfl⟩ : ∃ q : Nat, t1 = q := ⟨t1.toNat, by omega⟩
        have hsd : ∀ Ch, CellsAt w Ch b' (o' + k * 3) [.int .i64 (q : Int), .int .i64 lo, .int .i64 hi'] := hsd
        have hqL : q < L := by omega
        dsimp only [Int.toNat_natCast] at hKe
        have h8 : ∀ {Ch : List Chunk}, .own (.slice (some ⟨b8, 0, none⟩) L cp) 2 1 L (i64s (heldL by_ L)) ∈ Ch → CellAt w Ch b8 (0 + q * 1) (.int .i64 (heldSh by_ q)) := fun h => by
          rw [Nat.zero_add, Nat.mul_one]
          refine cell_own h ?_
          simp [i64s, heldL, hqL]
        have hsb := hSb q
        have htb := hTb (offT S j + k)
        have htl := hTL (offT S j + k)
        by_cases hk0 : k = 0
        · have hz : heldT rlo rhi L S by_ (offT S j + k) = 0 := by rw [hk0, Nat.add_zero]; exact heldT_first hO hltj
          rw [hz] at hKe htl
          generalize heldSh by_ q = sq at *
          ((try first | apply tr_v Try.tabOk | apply ot_v Try.tabOk); (conv => whnf); (repeat ((first | ((first | apply VStop.mk | apply VCall.stop); (first | refine tr_region_lex (id := 19) (by kernel_rfl) [.rd, .rd, .rd, .rd, .rd, .rd, .rd, .rd, .rd, .rd, .rd, .rd, .rd, .cr, .rd, .cr, .wr, .rd] rfl (by kernel_rfl) ?_ | (refine ot_appendS (sz := 3) (sl := k) (xs := saidCells ((List.range k).map (heldK rlo rhi L S by_ j))) (A'v := fun v' => _ :: _ :: .own v' 67 3 (k + 1) _ :: _) Try.tabOk rfl rfl rfl rfl rfl rfl rfl rfl rfl rfl (by decide) rfl (cells_blk_all (.head _)) rfl rfl (fun v' => .there (.there .here)) (by omega) (by decide) (fun Bn cn => ?_)) | (refine ot_appendS (sz := 1) (sl := offT S j + k) (xs := i64s (heldTl rlo rhi L S by_ (offT S j + k))) (A'v := fun v' => _ :: _ :: _ :: _ :: _ :: .own v' 2 1 (offT S j + k + 1) _ :: _) Try.tabOk rfl rfl rfl rfl rfl rfl rfl rfl rfl rfl (by decide) rfl (cells_blk_all (.head _)) rfl rfl (fun v' => .there (.there (.there (.there (.there .here))))) (by omega) (by decide) (fun Bm cm => ?_))); try first | apply ot_v Try.tabOk | apply tr_v Try.tabOk) | (apply VLd.mk; exact hce _) | (apply VLdN.mk; exact hsd _; exact rfl) | (apply VIx.mk (j := j); exact rfl; omega) | (apply VIx.mk (j := k); exact rfl; omega) | (apply VIx.mk (j := q); exact rfl; omega) | (apply VLd.mk; exact h8 (by (repeat (first | with_unfolding_all exact List.Mem.head _ | assumption | with_unfolding_all refine List.Mem.tail _ ?_)))) | (apply VCall.q; kernel_rfl; (focus (intro w1 hs; first | with_reducible apply hto _ _ w1))) | (apply VLd.mk; (focus ((repeat (first | ((with_reducible apply ld_blk); exact rfl) | ((with_reducible apply ld_row); exact rfl) | ((with_reducible apply ld_row0); exact rfl) | (with_reducible assumption) | (with_reducible exact CellAt.base (by assumption)) | (with_reducible apply ld_skip))); done))) | (apply VRng.mk; omega) | apply VBr.t | apply VBr.f | (apply v_t; omega) | (apply v_f; omega) | (apply VNew.mk; intro g hg) | (apply VSt.mk; (focus ((repeat (first | (with_reducible exact At.here) | (with_reducible apply At.there))); done)); exact rfl)); (conv => whnf))); try (first | apply VStop.mk | apply VCall.stop))
          exact v_rnd (gm' - 1) (by omega) (l := [(1, _), (2, _), (4, _), (7, _), (8, _), (9, _), (11, _), (12, _), (13, _)]) (B := _) ⟨rfl, rfl, rfl, rfl, rfl, rfl, rfl, rfl, rfl, trivial⟩ (.cons _ (.cons _ (.cons _ (List.Sublist.refl _)))) ⟨rfl, k + 1, Bn, cn, Bm, cm, by omega, by rw [hKs, saidCells_append, hKe, show offT S j + (k + 1) = offT S j + k + 1 from rfl, ← htl]; rfl, rfl⟩
        · obtain ⟨k1, rfl⟩ : ∃ k1, k = k1 + 1 := ⟨k - 1, by omega⟩
          have hnx := heldT_next (by_ := by_) hO hltj hltk
          have hn1 := fun w1 (h : Below w.heap.size w w1) => hnum w1 h (((offT S j + (k1 + 1) : Nat) : Int) + (L : Int)) (by omega)
          rw [show (((offT S j + (k1 + 1) : Nat) : Int) + (L : Int)).toNat = offT S j + (k1 + 1) + L by omega] at hn1
          have hnb := hNb (offT S j + (k1 + 1) + L)
          have htb1 := hTb (offT S j + k1)
          have h9 : ∀ {Ch : List Chunk} {bt : Nat}, .own (.slice (some ⟨bt, 0, none⟩) (offT S j + (k1 + 1)) ct) 2 1 (offT S j + (k1 + 1)) (i64s (heldTl rlo rhi L S by_ (offT S j + (k1 + 1)))) ∈ Ch → CellAt w Ch bt (0 + (offT S j + k1) * 1) (.int .i64 (heldT rlo rhi L S by_ (offT S j + k1))) := fun h => by
            rw [Nat.zero_add, Nat.mul_one]
            refine cell_own h ?_
            unfold i64s heldTl
            rw [List.map_map, List.getElem?_map, List.getElem?_range (by omega)]; rfl
          refine tr_fact (p := ∃ bt, Bt = some ⟨bt, 0, none⟩) (fun w' hs => ?_) fun hp => ?_
          · obtain ⟨_, _, q1, p1⟩ := own_form (hs.all _ (.tail _ (.tail _ (.head _))))
            cases q1
            exact p1 (by omega)
          obtain ⟨bt, rfl⟩ := hp
          have hmd := narrow_num (a := numAt by_ (offT S j + (k1 + 1) + L)) (m := rhi - rlo + 1) hnb.1 (by omega)
          generalize numAt by_ (offT S j + (k1 + 1) + L) = nn at *
          generalize heldSh by_ q = sq at *
          generalize heldT rlo rhi L S by_ (offT S j + k1) = h0 at *
          rw [hnx] at hKe htl
          ((try first | apply tr_v Try.tabOk | apply ot_v Try.tabOk); (conv => whnf); (repeat ((first | ((first | apply VStop.mk | apply VCall.stop); (first | refine tr_region_draw (id := 16) (by kernel_rfl) [0, 1, 2, 3, 4, 5, 6, 7, 8, 9, 10, 11, 12, 13, 14, 15, 17, 18, 19, 20, 21, 22, 23, 24, 16, 25, 26, 27] [.rd, .rd, .rd, .rd, .rd, .rd, .rd, .rd, .rd, .rd, .rd, .rd, .rd, .rd, .rd, .rd, .rd, .rd, .rd, .rd, .rd, .rd, .rd, .rd, .cr, .rd, .rd, .rd] rfl (by kernel_rfl) ?_ | refine tr_region_lex (id := 19) (by kernel_rfl) [.rd, .rd, .rd, .rd, .rd, .rd, .rd, .rd, .rd, .rd, .rd, .rd, .rd, .cr, .rd, .cr, .wr, .rd] rfl (by kernel_rfl) ?_ | (refine ot_appendS (sz := 3) (sl := k1 + 1) (xs := saidCells ((List.range (k1 + 1)).map (heldK rlo rhi L S by_ j))) (A'v := fun v' => _ :: _ :: .own v' 67 3 (k1 + 1 + 1) _ :: _) Try.tabOk rfl rfl rfl rfl rfl rfl rfl rfl rfl rfl (by decide) rfl (cells_blk_all (.head _)) rfl rfl (fun v' => .there (.there .here)) (by omega) (by decide) (fun Bn cn => ?_)) | (refine ot_appendS (sz := 1) (sl := offT S j + (k1 + 1)) (xs := i64s (heldTl rlo rhi L S by_ (offT S j + (k1 + 1)))) (A'v := fun v' => _ :: _ :: _ :: _ :: _ :: .own v' 2 1 (offT S j + (k1 + 1) + 1) _ :: _) Try.tabOk rfl rfl rfl rfl rfl rfl rfl rfl rfl rfl (by decide) rfl (cells_blk_all (.head _)) rfl rfl (fun v' => .there (.there (.there (.there (.there .here))))) (by omega) (by decide) (fun Bm cm => ?_))); try first | apply ot_v Try.tabOk | apply tr_v Try.tabOk) | (apply VIx.mk (j := offT S j + k1); omega; omega) | (apply VLd.mk; exact h9 (by (repeat (first | with_unfolding_all exact List.Mem.head _ | assumption | with_unfolding_all refine List.Mem.tail _ ?_)))) | (apply VLd.mk; exact hce _) | (apply VLdN.mk; exact hsd _; exact rfl) | (apply VIx.mk (j := j); exact rfl; omega) | (apply VIx.mk (j := k1 + 1); exact rfl; omega) | (apply VIx.mk (j := q); exact rfl; omega) | (apply VLd.mk; exact h8 (by (repeat (first | with_unfolding_all exact List.Mem.head _ | assumption | with_unfolding_all refine List.Mem.tail _ ?_)))) | (apply VCall.q; kernel_rfl; (focus (intro w1 hs; first | with_reducible apply hn1 w1 hs.base | with_reducible apply hto _ _ w1))) | (apply VLd.mk; (focus ((repeat (first | ((with_reducible apply ld_blk); exact rfl) | ((with_reducible apply ld_row); exact rfl) | ((with_reducible apply ld_row0); exact rfl) | (with_reducible assumption) | (with_reducible exact CellAt.base (by assumption)) | (with_reducible apply ld_skip))); done))) | (apply VRng.mk; omega) | apply VBr.t | (apply v_t; omega) | (apply VNew.mk; intro g hg) | (apply VSt.mk; (focus ((repeat (first | (with_reducible exact At.here) | (with_reducible apply At.there))); done)); exact rfl) | (apply VNz.mk; omega)); (conv => whnf))); try (first | apply VStop.mk | apply VCall.stop))
          exact v_rnd (gm' - 1) (by omega) (l := [(1, _), (2, _), (4, _), (7, _), (8, _), (9, _), (11, _), (12, _), (13, _)]) (B := _) ⟨rfl, rfl, rfl, rfl, rfl, rfl, rfl, rfl, rfl, trivial⟩ (.cons _ (.cons _ (.cons _ (List.Sublist.refl _)))) ⟨rfl, k1 + 1 + 1, Bn, cn, Bm, cm, by omega, by rw [hKs, saidCells_append, hKe, show offT S j + (k1 + 1 + 1) = offT S j + (k1 + 1) + 1 from rfl, ← htl]; rfl, rfl⟩
      · obtain rfl : S[j].length = k := by omega
        ((try first | apply tr_v Try.tabOk | apply ot_v Try.tabOk); (conv => whnf); (repeat ((first | (apply VLd.mk; exact hce _) | (apply VIx.mk (j := j); exact rfl; omega) | (apply VLd.mk; (focus ((repeat (first | ((with_reducible apply ld_blk); exact rfl) | ((with_reducible apply ld_row); exact rfl) | ((with_reducible apply ld_row0); exact rfl) | (with_reducible assumption) | (with_reducible exact CellAt.base (by assumption)) | (with_reducible apply ld_skip))); done))) | apply VBr.f | (apply v_f; omega) | (apply VNew.mk; intro g hg)); (conv => whnf))); try (first | apply VStop.mk | apply VCall.stop))
        subst hOC
        refine ot_appendS (sz := 1) (sl := j) (xs := sitVs xs ((List.range j).map (heldJ rlo rhi L S by_))) (A'v := fun v' => _ :: _ :: .own v' 55 1 (j + 1) _ :: _) Try.tabOk rfl rfl rfl rfl rfl rfl rfl rfl rfl rfl (by decide) rfl (cells_blk_all (.head _)) rfl rfl (fun v' => .there (.there .here)) (by omega) (by decide) (fun Bn cn => ?_)
        apply ot_v Try.tabOk
        ((try first | apply tr_v Try.tabOk | apply ot_v Try.tabOk); (conv => whnf); (repeat ((first | (apply VRng.mk; omega) | (apply VSt.mk; (focus ((repeat (first | (with_reducible exact At.here) | (with_reducible apply At.there))); done)); exact rfl)); (conv => whnf))); try (first | apply VStop.mk | apply VCall.stop))
        subst hR
        have hJl : (heldJ rlo rhi L S by_ j).length = S[j].length := by rw [heldJ_at hltj]; simp
        have e1 : sitVs xs ((List.range j).map (heldJ rlo rhi L S by_)) ++ [.slice Bl S[j].length cl] = sitVs (xs ++ [(Bl, cl)]) ((List.range (j + 1)).map (heldJ rlo rhi L S by_)) := by
          rw [hHJ j hltj, sitVs_snoc hxl, sitV, hJl]
        have e2 : sitCh (xs ++ [(Bl, cl)]) ((List.range (j + 1)).map (heldJ rlo rhi L S by_)) = sitCh xs ((List.range j).map (heldJ rlo rhi L S by_)) ++ [.own (.slice Bl S[j].length cl) 67 3 S[j].length (saidCells ((List.range S[j].length).map (heldK rlo rhi L S by_ j)))] := by
          rw [hHJ j hltj, sitCh_snoc hxl, sitC, hJl, heldJ_at hltj]
        have e3 := offT_step hltj
        exact v_rnd (gm - 1) (by omega) (l := [(1, _), (2, _), (4, _), (7, _), (8, _), (9, _), (11, _)]) (B := _) ⟨rfl, rfl, rfl, rfl, rfl, rfl, rfl, trivial⟩ (.cons _ (List.Sublist.refl _)) ⟨rfl, j + 1, Bn, cn, Bt, ct, xs ++ [(Bl, cl)], by omega, by rw [List.length_append, hxs]; rfl, by rw [e2, ← e1, e3]; exact (List.perm_append_singleton _ (_ :: _ :: _ :: _ :: _ :: _ :: _)).symm, by rw [e3]; rfl⟩
    · obtain rfl : S.length = j := by omega
      ((try first | apply tr_v Try.tabOk | apply ot_v Try.tabOk); (conv => whnf); (repeat ((first | (apply VLd.mk; (focus ((repeat (first | ((with_reducible apply ld_blk); exact rfl) | ((with_reducible apply ld_row); exact rfl) | ((with_reducible apply ld_row0); exact rfl) | (with_reducible assumption) | (with_reducible exact CellAt.base (by assumption)) | (with_reducible apply ld_skip))); done))) | apply VBr.f | (apply v_f; omega) | (apply VLdN.mk; (focus ((repeat (first | (with_reducible apply ldn_blk) | (with_reducible apply ldn_row) | (with_reducible assumption) | (with_reducible apply ldn_skip))); done)); exact rfl) | (apply VSt.mk; (focus ((repeat (first | (with_reducible exact At.here) | (with_reducible apply At.there))); done)); exact rfl)); (conv => whnf))); try (first | apply VStop.mk | apply VCall.stop))
      (apply VRet.mk)
      refine ret3 (by first | exact .inl rfl | exact .inr rfl) rfl (by exact rv_row Try.tabOk rfl rfl rfl (by first | exact cells_blk_all (by (repeat (first | exact List.Mem.head _ | assumption | refine List.Mem.tail _ ?_))) | exact cells_row0 (by (repeat (first | exact List.Mem.head _ | assumption | refine List.Mem.tail _ ?_)))) rfl) (by exact rv_tmp rfl) (by exact rv_tmp rfl) ?_
      rw [offT_all]
      exact fun w' hs => ⟨(((Bo, co), ⟨xs, hxs⟩), ((some ⟨b8, 0, none⟩, cp), (Bt, ct))), rfl, ((hs.sub (.cons_cons _ (.cons_cons _ (.cons_cons _ (.cons _ (.cons _ (.cons _ (List.Sublist.refl _)))))))).perm (perm3 _ _ _ _))⟩
end
end Go.Proofs.Ytkbcogaodnmdoaa
