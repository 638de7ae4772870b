/- The reference: Least, Greatest: lemmas for the rows of this seat. No conditions. -/
import Derived.Test.YtkbcogaodnmdoaaProg
import Derived.WalkKit
import Derived.WalkSpells
import Derived.WalkLawsBesides
import Derived.Lib.Hide
import Derived.Deep.AppendLies
import Derived.Deep.Draws
import Derived.Maps.AppendAt
import Derived.RegionTactic
import Derived.OwnWalk
import Derived.Deep.QuietTactic
import Derived.BigQuiet
import Derived.Deep.DeepFit
import Derived.Deep.LoopGhost
import Derived.Deep.DeepMust
import Derived.Deep.DeepCutAuto
import Derived.StillTail
import Derived.Deep.Quiet
import Derived.Deep.RegionHeld3
import Derived.Deep.RegionWith
import Derived.Deep.RegionLaw
import Derived.Maps.OwnOps
import Derived.Maps.OwnSet
import Derived.Maps.OwnRows
import Derived.Maps.RangeWalk
import Derived.Carry
import Derived.Test.YtkbcogaodnmdoaaBase
import Derived.Test.YtkbcogaodnmdoaaMaps
import Derived.Test.YtkbcogaodnmdoaaKeys
import Derived.Test.YtkbcogaodnmdoaaS1
import Derived.Test.YtkbcogaodnmdoaaS5
import Derived.Test.YtkbcogaodnmdoaaS14
import Derived.Test.YtkbcogaodnmdoaaV
import Derived.Test.YtkbcogaodnmdoaaTab
import Derived.Test.YtkbcogaodnmdoaaE1
import Derived.Test.YtkbcogaodnmdoaaE2
import Derived.Test.YtkbcogaodnmdoaaE3
import Derived.Test.YtkbcogaodnmdoaaE4
import Derived.Test.YtkbcogaodnmdoaaE5
import Derived.Test.YtkbcogaodnmdoaaE6
import Derived.Test.YtkbcogaodnmdoaaE7
import Derived.Test.YtkbcogaodnmdoaaE8
set_option linter.all false
namespace Go.Proofs.Ytkbcogaodnmdoaa
open Go.RowKit
/-! ## The reference: Least, Greatest -/
def endVal (m : Mx) (gr : Bool) (i : Nat) : Int := if gr then m 0 i else -(m i 0)
def sharpL (m : Mx) (gr : Bool) (L : Nat) : List Int := (List.range L).map fun i => endVal m gr (i + 1)
def tiredL (m : Mx) (gr : Bool) (L T : Nat) : List Int := (List.range T).map fun k => endVal m gr (L + 1 + k)
/-- The ends, plainly: both lists, and the error. -/
def endR (rlo rhi lots : Int) (S : List (List T3)) (gr : Bool) : List Int × List Int × Int :=
  if chkBook rlo rhi lots S ≠ 0 then ([], [], chkBook rlo rhi lots S) else if canB rlo rhi lots.toNat S (-1) = false then ([], [], 17)
  else (sharpL (jm rlo rhi lots.toNat S (-1)) gr lots.toNat, tiredL (jm rlo rhi lots.toNat S (-1)) gr lots.toNat S.flatten.length, 0)
def TwoRet (r : List Int × List Int × Int) (w : World) (e : Ending) (w' : World) : Prop :=
  ∃ x : Value × Value, e = .returned (.tuple #[x.1, x.2, .int .i64 r.2.2]) ∧ St w [.own x.1 2 1 r.1.length (i64s r.1), .own x.2 2 1 r.2.1.length (i64s r.2.1)] w'
theorem two_nil (q : Int) {w w' : World} {A : List Chunk} (h : St w A w') : TwoRet ([], [], q) w (.returned (.tuple #[.slice none 0 0, .slice none 0 0, .int .i64 q])) w' :=
  ⟨(.slice none 0 0, .slice none 0 0), rfl, h.base, fun c hc => by
    rcases List.mem_cons.1 hc with rfl | hc
    · exact World.ownsRow_nil _ _ _ _
    · rw [List.mem_singleton] at hc; subst hc; exact World.ownsRow_nil _ _ _ _, .cons (fun d hd _ b hb => by cases hb) (.cons (fun d hd => by cases hd) .nil)⟩
theorem rng_snoc {α : Type} (f : Nat → α) (n : Nat) : (List.range (n + 1)).map f = (List.range n).map f ++ [f n] := by
  rw [List.range_succ, List.map_append]; rfl
theorem i64s_append (l m : List Int) : i64s (l ++ m) = i64s l ++ i64s m := by simp [i64s]
section
variable (rlo rhi lots : Int) (Al : Option Addr) (c : Nat) (S : List (List T3)) (w : World) (hN : NestR w 3 Al (nestOf S)) (hF : Fit S)
include hN hF
set_option maxHeartbeats 4000000 in
set_option maxRecDepth 20000 in
theorem refEnd_any (gr : Bool) : Calls Try.prog 67 #[bookV rlo rhi lots Al S.length c, .bool gr] w (TwoRet (endR rlo rhi lots S gr) w) := by
  have hck := fun w1 (h : NestR w1 3 Al (nestOf S)) => refCheckBook_any rlo rhi lots Al c S w1 h hF
  by_cases h0 : chkBook rlo rhi lots S = 0
  rotate_left
  · have hs : endR rlo rhi lots S gr = ([], [], chkBook rlo rhi lots S) := by unfold endR; rw [if_pos h0]
    rw [hs]
    unfold bookV at *
    generalize chkBook rlo rhi lots S = e at *
    refine fn_v Try.tabOk (n := 56) (A := []) Try.func67 rfl rfl (Nat.le_of_ble_eq_true rfl) (St.nil (Below.refl _ _)) ?_
    ((try first | apply tr_v Try.tabOk | apply ot_v Try.tabOk); (conv => whnf); (repeat ((first | (apply VCall.q; kernel_rfl; (focus (intro w1 hs; first | with_reducible apply hck w1 (hs.nest hN)))) | apply VBr.t | (apply v_t; omega) | (apply VNew.mk; intro g hg) | (apply VLdN.mk; (focus ((repeat (first | (with_reducible apply ldn_blk) | (with_reducible apply ldn_row) | (with_reducible assumption) | (with_reducible apply ldn_skip))); done)); exact rfl)); (conv => whnf))); try (first | apply VStop.mk | apply VCall.stop))
    (apply VRet.mk)
    refine ret3 (by first | exact .inl rfl | exact .inr rfl) rfl (by exact rv_tmp rfl) (by exact rv_tmp rfl) (by exact rv_tmp rfl) ?_
    exact fun w h => two_nil _ h
  · have hO := chk_ok.1 h0
    rw [h0] at hck
    obtain ⟨L, rfl⟩ : ∃ L : Nat, lots = L := ⟨lots.toNat, by have := hO.l; omega⟩
    have hl := hO.l
    have ht := hO.t
    have hca := fun w1 (h : NestR w1 3 Al (nestOf S)) => can_any rlo rhi L Al c S w1 h hO (-1) (1 + L + S.flatten.length) rfl
    have hjo := fun w1 (h : NestR w1 3 Al (nestOf S)) => joined_any rlo rhi L Al c S w1 h hO (-1) (1 + L + S.flatten.length) rfl
    have hB := JB hN hO (-1) (1 + L + S.flatten.length) rfl
    have hsp : endR rlo rhi L S gr = if canB rlo rhi L S (-1) = false then ([], [], 17) else (sharpL (jm rlo rhi L S (-1)) gr L, tiredL (jm rlo rhi L S (-1)) gr L S.flatten.length, 0) := by unfold endR; rw [if_neg (by simpa using h0), Int.toNat_natCast]
    rw [hsp]
    unfold canB jm
    unfold bookV at *
    generalize hT : S.flatten.length = T at *
    clear hsp hO h0
    generalize joinP (bnd rlo rhi L S (-1)) (1 + L + T) = m at *
    have hFe : FarC = 1099511627776 := rfl
    cases hcb : canP (1 + L + T) m with
    | false =>
      rw [hcb] at hca
      rw [if_pos rfl]
      refine fn_v Try.tabOk (n := 56) (A := []) Try.func67 rfl rfl (Nat.le_of_ble_eq_true rfl) (St.nil (Below.refl _ _)) ?_
      ((try first | apply tr_v Try.tabOk | apply ot_v Try.tabOk); (conv => whnf); (repeat ((first | (apply VCall.q; kernel_rfl; (focus (intro w1 hs; first | with_reducible apply hck w1 (hs.nest hN) | with_reducible apply hca w1 (hs.nest hN)))) | apply VBr.t | apply VBr.f | (apply v_f; omega) | (apply VNew.mk; intro g hg) | (apply VLdN.mk; (focus ((repeat (first | (with_reducible apply ldn_blk) | (with_reducible apply ldn_row) | (with_reducible assumption) | (with_reducible apply ldn_skip))); done)); exact rfl)); (conv => whnf))); try (first | apply VStop.mk | apply VCall.stop))
      (apply VRet.mk)
      refine ret3 (by first | exact .inl rfl | exact .inr rfl) rfl (by exact rv_tmp rfl) (by exact rv_tmp rfl) (by exact rv_tmp rfl) ?_
      exact fun w h => two_nil _ h
    | true =>
      rw [hcb] at hca
      rw [if_neg (by simp)]
      refine fn_v Try.tabOk (n := 56) (A := []) Try.func67 rfl rfl (Nat.le_of_ble_eq_true rfl) (St.nil (Below.refl _ _)) ?_
      ((try first | apply tr_v Try.tabOk | apply ot_v Try.tabOk); (conv => whnf); (repeat ((first | (apply VCall.q; kernel_rfl; (focus (intro w1 hs; first | with_reducible apply hck w1 (hs.nest hN) | with_reducible apply hca w1 (hs.nest hN)))) | apply VBr.f | (apply v_f; omega) | (apply VNew.mk; intro g hg) | (apply VLdN.mk; (focus ((repeat (first | (with_reducible apply ldn_blk) | (with_reducible apply ldn_row) | (with_reducible assumption) | (with_reducible apply ldn_skip))); done)); exact rfl)); (conv => whnf))); try (first | apply VStop.mk | apply VCall.stop))
      refine ot_call_j (N := 1 + L + T) (m := m) (by omega) (by decide) rfl rfl rfl (by kernel_rfl) (evl_of rfl) (fun w1 hs => hjo w1 (hs.nest hN)) (fun gs hgs b cap => ?_)
      dsimp only [List.cons_append, List.nil_append]
      ((try first | apply tr_v Try.tabOk | apply ot_v Try.tabOk); (conv => whnf); try (first | apply VStop.mk | apply VCall.stop))
      refine tr_own_nil 2 1 ?_
      refine tr_own_nil 2 1 ?_
      refine v_loop (fun gm ds ts A => ds = [] ∧ ∃ p v1 v2, p + gm = L + T ∧ A = .own v1 2 1 (min p L) (i64s (sharpL m gr (min p L))) :: .own v2 2 1 (p - L) (i64s (tiredL m gr L (p - L))) :: .blk g 26 [.int .i64 rlo, .int .i64 rhi, .int .i64 L, .slice Al S.length c] :: JCh (1 + L + T) m ⟨(gs, .slice (some ⟨b, 0, none⟩) (1 + L + T) cap), hgs⟩ ∧
          ts = [(1, .bool gr), (2, .pointer (some ⟨g, 0, none⟩)), (7, .slice (some ⟨b, 0, none⟩) (1 + L + T) cap), (8, v1), (9, v2), (10, .int .i64 ((p + 1 : Nat) : Int))]) (L + T)
        (l := [(1, _), (2, _), (7, _), (8, _), (9, _), (10, _)]) (B := _) ?_ (List.Sublist.refl _) ⟨rfl, 0, .slice none 0 0, .slice none 0 0, by omega, by rw [Nat.zero_min, Nat.zero_sub]; rfl, rfl⟩ ?_
      · exact ⟨rfl, rfl, rfl, rfl, rfl, rfl, trivial⟩
      rintro gm ds ts A ⟨rfl, p, v1, v2, hp, rfl, rfl⟩
      by_cases hlt : p < L + T
      rotate_left
      · obtain rfl : p = L + T := by omega
        rw [show min (L + T) L = L by omega, show L + T - L = T by omega]
        ((try first | apply tr_v Try.tabOk | apply ot_v Try.tabOk); (conv => whnf); (repeat ((first | apply VBr.f | (apply v_f; omega)); (conv => whnf))); try (first | apply VStop.mk | apply VCall.stop))
        (apply VRet.mk)
        refine ret3 (by first | exact .inl rfl | exact .inr rfl) rfl (by exact rv_tmp rfl) (by exact rv_tmp rfl) (by exact rv_tmp rfl) ?_
        exact fun w1 hs => ⟨(v1, v2), rfl, by
          have := hs.sub (A' := [.own v1 2 1 L (i64s (sharpL m gr L)), .own v2 2 1 T (i64s (tiredL m gr L T))]) (.cons_cons _ (.cons_cons _ (List.nil_sublist _)))
          have e1 : (sharpL m gr L).length = L := by simp [sharpL]
          have e2 : (tiredL m gr L T).length = T := by simp [tiredL]
          rw [e1, e2]; exact this⟩
      · have b1 := hB (p + 1) 0 (by omega) (by omega)
        have b2 := hB 0 (p + 1) (by omega) (by omega)
        have hev : endVal m gr (p + 1) = if gr then m 0 (p + 1) else -(m (p + 1) 0) := rfl
        by_cases hpL : p < L
        · have hsn : sharpL m gr (min (p + 1) L) = sharpL m gr (min p L) ++ [endVal m gr (p + 1)] := by rw [show min (p + 1) L = p + 1 by omega, show min p L = p by omega]; exact rng_snoc _ _
          cases gr
          all_goals
            rw [hev] at hsn
            simp only [if_true, Bool.false_eq_true, if_false] at hsn
            ((try first | apply tr_v Try.tabOk | apply ot_v Try.tabOk); (conv => whnf); (repeat ((first | (apply VLd.mk; apply ld_skip; apply ld_skip; apply ld_skip; first | exact j_out hgs (by omega) | exact j_row hgs (by omega) (by omega)) | (apply VLd.mk; (focus ((repeat (first | ((with_reducible apply ld_blk); exact rfl) | ((with_reducible apply ld_row); exact rfl) | ((with_reducible apply ld_row0); exact rfl) | (with_reducible assumption) | (with_reducible exact CellAt.base (by assumption)) | (with_reducible apply ld_skip))); done))) | (apply VRng.mk; omega) | apply VBr.t | apply VBr.f | (apply v_t; omega) | (apply VNew.mk; intro g hg) | (apply VIx.mk; exact rfl; omega) | (apply VIx.mk (j := 0); exact rfl; omega)); (conv => whnf))); try (first | apply VStop.mk | apply VCall.stop))
            refine ot_append (sz := 1) (sl := min p L) (xs := i64s (sharpL m _ (min p L))) (A'v := fun v' => _ :: .own v' 2 1 (min p L + 1) _ :: _) Try.tabOk rfl rfl rfl rfl rfl rfl rfl rfl rfl rfl (by decide) rfl (cells_blk_all (.head _)) rfl rfl (fun v' => .there .here) (by omega) (by decide) (fun v' => ?_)
            ((try first | apply tr_v Try.tabOk | apply ot_v Try.tabOk); (conv => whnf); (repeat ((first | (apply VRng.mk; omega)); (conv => whnf))); try (first | apply VStop.mk | apply VCall.stop))
            exact v_rnd (gm - 1) (by omega) (l := [(1, _), (2, _), (7, _), (8, _), (9, _), (10, _)]) (B := .own v' 2 1 _ _ :: _) ⟨rfl, rfl, rfl, rfl, rfl, rfl, trivial⟩ (List.Sublist.cons _ (List.Sublist.refl _)) ⟨rfl, p + 1, v', v2, by omega, by rw [hsn, i64s_append, show min (p + 1) L = min p L + 1 by omega, show p + 1 - L = p - L by omega]; rfl, rfl⟩
        · have hsn : tiredL m gr L (p + 1 - L) = tiredL m gr L (p - L) ++ [endVal m gr (p + 1)] := by
            rw [show p + 1 - L = p - L + 1 by omega]
            have := rng_snoc (fun k => endVal m gr (L + 1 + k)) (p - L)
            rw [show L + 1 + (p - L) = p + 1 by omega] at this
            exact this
          cases gr
          all_goals
            rw [hev] at hsn
            simp only [if_true, Bool.false_eq_true, if_false] at hsn
            ((try first | apply tr_v Try.tabOk | apply ot_v Try.tabOk); (conv => whnf); (repeat ((first | (apply VLd.mk; apply ld_skip; apply ld_skip; apply ld_skip; first | exact j_out hgs (by omega) | exact j_row hgs (by omega) (by omega)) | (apply VLd.mk; (focus ((repeat (first | ((with_reducible apply ld_blk); exact rfl) | ((with_reducible apply ld_row); exact rfl) | ((with_reducible apply ld_row0); exact rfl) | (with_reducible assumption) | (with_reducible exact CellAt.base (by assumption)) | (with_reducible apply ld_skip))); done))) | (apply VRng.mk; omega) | apply VBr.t | apply VBr.f | (apply v_t; omega) | (apply v_f; omega) | (apply VNew.mk; intro g hg) | (apply VIx.mk; exact rfl; omega) | (apply VIx.mk (j := 0); exact rfl; omega)); (conv => whnf))); try (first | apply VStop.mk | apply VCall.stop))
            refine ot_append (sz := 1) (sl := p - L) (xs := i64s (tiredL m _ L (p - L))) (A'v := fun v' => _ :: _ :: .own v' 2 1 (p - L + 1) _ :: _) Try.tabOk rfl rfl rfl rfl rfl rfl rfl rfl rfl rfl (by decide) rfl (cells_blk_all (.head _)) rfl rfl (fun v' => .there (.there .here)) (by omega) (by decide) (fun v' => ?_)
            ((try first | apply tr_v Try.tabOk | apply ot_v Try.tabOk); (conv => whnf); (repeat ((first | (apply VRng.mk; omega)); (conv => whnf))); try (first | apply VStop.mk | apply VCall.stop))
            exact v_rnd (gm - 1) (by omega) (l := [(1, _), (2, _), (7, _), (8, _), (9, _), (10, _)]) (B := _ :: .own v' 2 1 _ _ :: _) ⟨rfl, rfl, rfl, rfl, rfl, rfl, trivial⟩ (List.Sublist.cons _ (List.Sublist.refl _)) ⟨rfl, p + 1, v1, v', by omega, by rw [hsn, i64s_append, show min (p + 1) L = min p L by omega, show p + 1 - L = p - L + 1 by omega]; rfl, rfl⟩
end
end Go.Proofs.Ytkbcogaodnmdoaa
