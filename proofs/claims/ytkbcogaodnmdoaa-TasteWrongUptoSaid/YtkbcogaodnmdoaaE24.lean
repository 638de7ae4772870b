/- CheckRound: lemmas for the rows of this seat. No conditions. -/
import Derived.Test.YtkbcogaodnmdoaaProg
import Derived.WalkKit
import Derived.WalkSpells
import Derived.WalkLawsBesides
import Derived.Lib.Hide
import Derived.Deep.AppendLies
import Derived.Deep.Draws
import Derived.Maps.AppendAt
import Derived.RegionTactic
import Derived.OwnWalk
import Derived.Deep.QuietTactic
import Derived.BigQuiet
import Derived.Deep.DeepFit
import Derived.Deep.LoopGhost
import Derived.Deep.DeepMust
import Derived.Deep.DeepCutAuto
import Derived.StillTail
import Derived.Deep.Quiet
import Derived.Deep.RegionHeld3
import Derived.Deep.RegionWith
import Derived.Deep.RegionLaw
import Derived.Maps.OwnOps
import Derived.Maps.OwnSet
import Derived.Maps.OwnRows
import Derived.Maps.RangeWalk
import Derived.Carry
import Derived.Test.YtkbcogaodnmdoaaBase
import Derived.Test.YtkbcogaodnmdoaaMaps
import Derived.Test.YtkbcogaodnmdoaaKeys
import Derived.Test.YtkbcogaodnmdoaaS1
import Derived.Test.YtkbcogaodnmdoaaS5
import Derived.Test.YtkbcogaodnmdoaaS12
import Derived.Test.YtkbcogaodnmdoaaS14
import Derived.Test.YtkbcogaodnmdoaaV
import Derived.Test.YtkbcogaodnmdoaaV2
import Derived.Test.YtkbcogaodnmdoaaV3
import Derived.Test.YtkbcogaodnmdoaaTab
import Derived.Test.YtkbcogaodnmdoaaE1
import Derived.Test.YtkbcogaodnmdoaaE2
import Derived.Test.YtkbcogaodnmdoaaE3
import Derived.Test.YtkbcogaodnmdoaaE4
import Derived.Test.YtkbcogaodnmdoaaE5
import Derived.Test.YtkbcogaodnmdoaaE6
import Derived.Test.YtkbcogaodnmdoaaE7
import Derived.Test.YtkbcogaodnmdoaaE8
import Derived.Test.YtkbcogaodnmdoaaE9
import Derived.Test.YtkbcogaodnmdoaaE10
import Derived.Test.YtkbcogaodnmdoaaE11
import Derived.Test.YtkbcogaodnmdoaaE12
import Derived.Test.YtkbcogaodnmdoaaE13
import Derived.Test.YtkbcogaodnmdoaaE14
import Derived.Test.YtkbcogaodnmdoaaE15
import Derived.Test.YtkbcogaodnmdoaaE16
import Derived.Test.YtkbcogaodnmdoaaE17
import Derived.Test.YtkbcogaodnmdoaaE18
import Derived.Test.YtkbcogaodnmdoaaE19
import Derived.Test.YtkbcogaodnmdoaaE20
import Derived.Test.YtkbcogaodnmdoaaE21
import Derived.Test.YtkbcogaodnmdoaaE22
import Derived.Test.YtkbcogaodnmdoaaE23
set_option linter.all false
namespace Go.Proofs.Ytkbcogaodnmdoaa
open Go.RowKit
/-! ## CheckRound -/
section
variable {P : Program} {tab : TT} {w0 w : World} {n : Nat} {r : Option Nat} {ds : List Deferred} {ops : List Oper} {o : Oper} {os : List Oper} {ks : List Kind} {ts : TS} {A : List Chunk} {K : TS → List Chunk → Prop} {Q : PostT} {d : Tmp} {x y : Operand} {t u : TypeId} {i i' : TI}
/-- The whole of an array, as a slice. -/
theorem ot_slice_arr {m e g : Nat} (hT : TabOk P tab) (hop : o.op = .slice t x none none none) (hd : o.dst = some d) (hw : wantB ops ts o = some true) (hx : evT ts x = some (.pointer (some ⟨g, 0, none⟩))) (hi : lookI tab t = some i) (hdd : i.d = .ar m e) (hi' : lookI tab e = some i')
    (hk : OT P w0 n ds ops os ks.tail ((d, .slice (some ⟨g, 0, none⟩) m m) :: ts) A K) : OT P w0 n ds ops (o :: os) ks ts A K :=
  ot_val _ hd hw (fun a w hh => by
    have h1 := (hT t i hi).ar hdd
    have h2 := (hT e i' hi').sz w
    simp only [execOp, hop, hh.ev hx, Instr.sliceAt, Option.map_none, Sem.run_bind, run_underlying h1, Result.andThen_ok, Instr.sureAddr, asAddr, Instr.sliceBounds, Sem.run_pure, h2, Nat.zero_mul, Addr.add_none, Nat.sub_zero]
    by_cases hc : m = 0 <;> simp [hc]) hk
end
theorem setMany_i (l : List Int) {k : Nat} (v : Int) (h : k < l.length) : setMany (i64s l) (0 + k * 1) [.int .i64 v] = i64s (l.set k v) := setMany_one v h
section
variable (rlo rhi lots : Int) (Al : Option Addr) (c : Nat) (S : List (List T3)) (w : World) (hN : NestR w 3 Al (nestOf S)) (hF : Fit S)
include hN hF
set_option maxHeartbeats 2000000 in
set_option maxRecDepth 20000 in
theorem checkRound_any (Bs : Option Addr) (cs : Nat) (l : List Int) (hs0 : Reads w w.heap.size 1 Bs l.length (i64s l)) (hls : l.length ≤ 30) :
    Calls Try.prog 34 #[bookV rlo rhi lots Al S.length c, .slice Bs l.length cs] w fun e w' => e = .returned (.tuple #[.int .i64 (roundR rlo rhi lots S l).1, .int .i64 (roundR rlo rhi lots S l).2]) ∧ Below w.heap.size w w' := by
  by_cases h0 : chkBook rlo rhi lots S = 0
  rotate_left
  · have hop := open_nil_no rlo rhi lots Al c S w hN hF h0
    have hE : roundR rlo rhi lots S l = (0, chkBook rlo rhi lots S) := by unfold roundR; rw [if_pos h0]
    rw [hE]
    unfold bookV at *
    generalize chkBook rlo rhi lots S = e at *
    refine fn_v Try.tabOk (n := 64) (A := []) Try.func34 rfl rfl (Nat.le_of_ble_eq_true rfl) (St.nil (Below.refl _ _)) ?_
    ((try first | apply tr_v Try.tabOk | apply ot_v Try.tabOk); (conv => whnf); (repeat ((first | (apply VCall.q; kernel_rfl; (focus (intro w1 hs; first | with_reducible apply hop w1 (hs.nest hN)))) | apply VBr.t | (apply v_t; omega) | (apply VNew.mk; intro g hg) | (apply VLdN.mk; (focus ((repeat (first | (with_reducible apply ldn_blk) | (with_reducible apply ldn_row) | (with_reducible assumption) | (with_reducible apply ldn_skip))); done)); exact rfl)); (conv => whnf))); try (first | apply VStop.mk | apply VCall.stop))
    (apply VRet.mk)
    refine ret2 (by first | exact .inl rfl | exact .inr rfl) rfl (by exact rv_tmp rfl) (by exact rv_tmp rfl) ?_
    exact fun w h => ⟨rfl, h.base⟩
  have hO := chk_ok.1 h0
  obtain ⟨L, rfl⟩ : ∃ L : Nat, lots = L := ⟨lots.toNat, by have := hO.l; omega⟩
  have hop := open_nil_yes rlo rhi Al c S w hN hF h0
  have hb := bnd_ok hO (-1)
  have hl := hO.l
  have ht := hO.t
  have hE : roundR rlo rhi L S l = roundOf (1 + L + S.flatten.length) (bnd rlo rhi L S (-1)) l := by
    unfold roundR; rw [if_neg (by simpa using h0), Int.toNat_natCast]
  rw [hE]
  clear hE
  unfold bookV at *
  refine fn_v Try.tabOk (n := 64) (A := []) Try.func34 rfl rfl (Nat.le_of_ble_eq_true rfl) (St.nil (Below.refl _ _)) ?_
  ((try first | apply tr_v Try.tabOk | apply ot_v Try.tabOk); (conv => whnf); (repeat ((first | (apply VNew.mk; intro g hg) | (apply VLdN.mk; (focus ((repeat (first | (with_reducible apply ldn_blk) | (with_reducible apply ldn_row) | (with_reducible assumption) | (with_reducible apply ldn_skip))); done)); exact rfl)); (conv => whnf))); try (first | apply VStop.mk | apply VCall.stop))
  refine ot_call_st (X := TongueX) (fun x => .tuple #[.pointer (some ⟨x.gt, 0, none⟩), .int .i64 0]) (fun x => tongueCh rlo rhi L Al c S (resM (bnd rlo rhi L S (-1)) (1 + L + S.flatten.length)) x) tongueCh_mut (by decide) rfl rfl rfl (by kernel_rfl) (evl_of rfl) (fun w1 hs => hop w1 (hs.nest hN)) (fun x => ?_)
  apply ot_v Try.tabOk
  have hnm : ∀ w1 A', (∀ d ∈ tongueCh rlo rhi L Al c S (resM (bnd rlo rhi L S (-1)) (1 + L + S.flatten.length)) x, d ∈ A') → St w A' w1 → Calls Try.prog 72 #[.pointer (some ⟨x.gt, 0, none⟩)] w1 fun e w' => e = .returned (.int .i64 ((1 + L + S.flatten.length : Nat) : Int)) ∧ Below w1.heap.size w1 w' := fun w1 A' hd hs => namesP_any rlo rhi L Al c S _ x.gt x.gm x.B x.cap w1 (hs.tongue hd) (by omega) (by omega)
  have hsm : ∀ w1 A', (∀ d ∈ tongueCh rlo rhi L Al c S (resM (bnd rlo rhi L S (-1)) (1 + L + S.flatten.length)) x, d ∈ A') → St w A' w1 → l.length ≠ 0 → (∀ k, k < l.length → 0 ≤ iAt l k ∧ iAt l k < ((1 + L + S.flatten.length : Nat) : Int)) → Calls Try.prog 73 #[.pointer (some ⟨x.gt, 0, none⟩), .slice Bs l.length cs] w1 fun e w' => e = .returned (sumV (sumUpto (edgeAt (bnd rlo rhi L S (-1)) l) l.length)) ∧ Below w1.heap.size w1 w' := fun w1 A' hd hs hl0 hin => by
    rw [← sum_back _ _ hl0]
    exact sum_any rlo rhi L Al c S _ _ x.gt x.gm x.B x.cap w1 (hs.tongue hd) hb.s Bs cs l (hs.reads hs0) (by omega) hls hin
  have hbs := hb.s
  have hNN : 1 + L + S.flatten.length ≤ 19 := hb.n1
  have hN0 : 0 < 1 + L + S.flatten.length := hb.n0
  generalize hNe : 1 + L + S.flatten.length = N at *
  generalize hch : tongueCh rlo rhi L Al c S (resM (bnd rlo rhi L S (-1)) N) x = CH at *
  generalize bnd rlo rhi L S (-1) = bf at *
  by_cases hlz : l.length = 0
  · have hE : roundOf N bf l = (0, 6) := by unfold roundOf; rw [if_pos hlz]
    rw [hE]
    ((try first | apply tr_v Try.tabOk | apply ot_v Try.tabOk); (conv => whnf); (repeat ((first | apply VBr.t | apply VBr.f | (apply v_t; omega) | (apply v_f; omega)); (conv => whnf))); try (first | apply VStop.mk | apply VCall.stop))
    (apply VRet.mk)
    refine ret2 (by first | exact .inl rfl | exact .inr rfl) rfl (by exact rv_tmp rfl) (by exact rv_tmp rfl) ?_
    exact fun w h => ⟨rfl, h.base⟩
  ((try first | apply tr_v Try.tabOk | apply ot_v Try.tabOk); (conv => whnf); (repeat ((first | ((first | apply VStop.mk | apply VCall.stop); (first | (refine ot_slice_arr Try.tabOk rfl rfl rfl rfl rfl rfl rfl ?_) | (refine ot_clear Try.tabOk rfl rfl rfl rfl rfl rfl rfl rfl rfl rfl (by omega) (by (repeat (first | exact Upd.here | apply Upd.there))) (by simp) ?_)); try first | apply ot_v Try.tabOk | apply tr_v Try.tabOk) | apply VBr.f | (apply v_f; omega) | (apply VNew.mk; intro g hg)); (conv => whnf))); try (first | apply VStop.mk | apply VCall.stop))
  have hbad : ∀ k, k < l.length → argB N l k = false → roundOf N bf l = (0, 2) := fun k hk h => by
    unfold roundOf
    rw [if_neg hlz, if_pos (truthUpto_no hk h)]
  refine v_loop (fun gm' ds ts A => ds = [] ∧ ∃ (k : Nat) (M : List Int), k + gm' = l.length ∧ M.length = 19 ∧ (∀ j, j < k → argB N l j = true) ∧ (∀ v, v < 19 → (iAt M v = 1 ∧ ∃ j, j < k ∧ iAt l j = v) ∨ (iAt M v = 0 ∧ ∀ j, j < k → iAt l j ≠ v)) ∧ A = .blk g 103 (i64s M) :: CH ∧ ts = [(1, .slice Bs l.length cs), (6, .pointer (some ⟨x.gt, 0, none⟩)), (8, .pointer (some ⟨g, 0, none⟩)), (27, .slice Bs l.length cs), (28, .int .i64 (l.length : Int)), (29, .int .i64 (k : Int))]) l.length
    (l := [(1, _), (6, _), (8, _), (27, _), (28, _), (29, _)]) (B := .blk g 103 (i64s (List.replicate 19 0)) :: CH) ?_ (.cons_cons _ (List.sublist_append_left _ _)) ⟨rfl, 0, List.replicate 19 0, by omega, rfl, fun j hj => by omega, fun v hv => .inr ⟨iAt_zeros _ _, fun j hj => by omega⟩, rfl, rfl⟩ ?_
  · exact ⟨rfl, rfl, rfl, rfl, rfl, rfl, trivial⟩
  rintro gm' ds ts A ⟨rfl, k, M, hk, hM, hall, hmk, rfl, rfl⟩
  have hCm : ∀ A' : List Chunk, (∀ d ∈ CH, d ∈ .blk g 103 (i64s M) :: CH) := fun _ d hd => .tail _ hd
  by_cases hlt : k < l.length
  · obtain ⟨b, o, rfl, _⟩ := hs0.2 (by omega)
    have hc := iAt_cell hs0 hlt
    have hn1 := fun w1 hs => hnm w1 (.blk g 103 (i64s M) :: CH) (fun d hd => .tail _ hd) hs
    have hbk := hbad k hlt
    generalize hxk : iAt l k = v at *
    by_cases hv : 0 ≤ v ∧ v < N
    · obtain ⟨q, rfl⟩ : ∃ q : Nat, v = q := ⟨v.toNat, by omega⟩
      have hq : CellAt w (.blk g 103 (i64s M) :: CH) g (0 + q * 1) (.int .i64 (iAt M q)) := by
        rw [Nat.zero_add, Nat.mul_one]; exact cell_blk (.head _) (iAt_get (by omega))
      rcases hmk q (by omega) with ⟨hm1, j, hj, hjq⟩ | ⟨hm0, hno⟩
      · rw [hm1] at hq
        rw [hbk (by
          unfold argB
          rw [Bool.and_eq_false_iff]
          right
          exact truthUpto_no hj (by rw [decide_eq_false_iff_not, hxk]; simpa using hjq))]
        ((try first | apply tr_v Try.tabOk | apply ot_v Try.tabOk); (conv => whnf); (repeat ((first | (apply VIx.mk (j := q); exact rfl; omega) | (apply VLd.mk; first | exact hc _ | exact hq) | (apply VCall.q; kernel_rfl; (focus (intro w1 hs; first | with_reducible apply hn1 w1 hs))) | apply VBr.t | apply VBr.f | (apply v_t; omega) | (apply v_f; omega) | (apply VIx.mk; exact rfl; omega)); (conv => whnf))); try (first | apply VStop.mk | apply VCall.stop))
        (apply VRet.mk)
        refine ret2 (by first | exact .inl rfl | exact .inr rfl) rfl (by exact rv_tmp rfl) (by exact rv_tmp rfl) ?_
        exact fun w h => ⟨rfl, h.base⟩
      · rw [hm0] at hq
        have hak : argB N l k = true := by
          unfold argB
          rw [Bool.and_eq_true, decide_eq_true_eq, truthUpto_all]
          refine ⟨by rw [hxk]; exact hv, fun j hj => ?_⟩
          rw [decide_eq_true_eq, hxk]
          exact hno j hj
        ((try first | apply tr_v Try.tabOk | apply ot_v Try.tabOk); (conv => whnf); (repeat ((first | (apply VIx.mk (j := q); exact rfl; omega) | (apply VLd.mk; first | exact hc _ | exact hq) | (apply VSt.old; (focus (repeat (first | (with_reducible exact Upd.here) | (with_reducible apply Upd.there))); done); exact ble_one _ (by omega); exact setMany_one _ (by omega)) | (apply VCall.q; kernel_rfl; (focus (intro w1 hs; first | with_reducible apply hn1 w1 hs))) | (apply VRng.mk; omega) | apply VBr.t | apply VBr.f | (apply v_t; omega) | (apply v_f; omega) | (apply VIx.mk; exact rfl; omega)); (conv => whnf))); try (first | apply VStop.mk | apply VCall.stop))
        exact v_rnd (gm' - 1) (by omega) (l := [(1, _), (6, _), (8, _), (27, _), (28, _), (29, _)]) (B := _) ⟨rfl, rfl, rfl, rfl, rfl, rfl, trivial⟩ (List.Sublist.refl _) ⟨rfl, k + 1, M.set q 1, by omega, by simpa using hM, fun j hj => by
          rcases Nat.lt_or_ge j k with h | h
          · exact hall j h
          · obtain rfl : j = k := by omega
            exact hak, fun v hv => by
          rw [iAt_set (by omega)]
          by_cases hvq : v = q
          · rw [if_pos hvq]; exact .inl ⟨rfl, k, by omega, by rw [hxk, hvq]⟩
          · rw [if_neg hvq]
            rcases hmk v hv with ⟨a, j, hj, e⟩ | ⟨a, hh⟩
            · exact .inl ⟨a, j, by omega, e⟩
            · refine .inr ⟨a, fun j hj e => ?_⟩
              rcases Nat.lt_or_ge j k with h | h
              · exact hh j h e
              · obtain rfl : j = k := by omega
                rw [hxk] at e; omega, rfl, rfl⟩
    · rw [hbk (by
        unfold argB
        rw [Bool.and_eq_false_iff]
        left
        rw [decide_eq_false_iff_not, hxk]; exact hv)]
      by_cases hv0 : v < 0
      · ((try first | apply tr_v Try.tabOk | apply ot_v Try.tabOk); (conv => whnf); (repeat ((first | (apply VLd.mk; exact hc _) | apply VBr.t | (apply v_t; omega) | (apply VIx.mk; exact rfl; omega)); (conv => whnf))); try (first | apply VStop.mk | apply VCall.stop))
        (apply VRet.mk)
        refine ret2 (by first | exact .inl rfl | exact .inr rfl) rfl (by exact rv_tmp rfl) (by exact rv_tmp rfl) ?_
        exact fun w h => ⟨rfl, h.base⟩
      · ((try first | apply tr_v Try.tabOk | apply ot_v Try.tabOk); (conv => whnf); (repeat ((first | (apply VLd.mk; exact hc _) | (apply VCall.q; kernel_rfl; (focus (intro w1 hs; first | with_reducible apply hn1 w1 hs))) | apply VBr.t | apply VBr.f | (apply v_t; omega) | (apply v_f; omega) | (apply VIx.mk; exact rfl; omega)); (conv => whnf))); try (first | apply VStop.mk | apply VCall.stop))
        (apply VRet.mk)
        refine ret2 (by first | exact .inl rfl | exact .inr rfl) rfl (by exact rv_tmp rfl) (by exact rv_tmp rfl) ?_
        exact fun w h => ⟨rfl, h.base⟩
  · have hin : ∀ j, j < l.length → 0 ≤ iAt l j ∧ iAt l j < N := fun j hj => by
      have := hall j (by omega)
      unfold argB at this
      rw [Bool.and_eq_true, decide_eq_true_eq] at this
      exact this.1
    have hs1 := fun w1 hs => hsm w1 (.blk g 103 (i64s M) :: CH) (fun d hd => .tail _ hd) hs hlz hin
    have hE : roundOf N bf l = match sumUpto (edgeAt bf l) l.length with
        | none => (0, 16)
        | some s => if 0 ≤ s then (0, 14) else (-s, 0) := by
      have hta : truthUpto (argB N l) l.length = true := (truthUpto_all _).2 fun j hj => hall j (by omega)
      unfold roundOf
      rw [if_neg hlz, hta, if_neg (by decide)]
      cases sumUpto (edgeAt bf l) l.length <;> rfl
    rw [hE]
    have hin2 : ∀ j, (iAt l j).toNat < N := fun j => by
      rcases Nat.lt_or_ge j l.length with h | h
      · have := hin j h; omega
      · unfold iAt
        rw [List.getElem?_eq_none h]
        exact hN0
    unfold sumV at hs1
    cases hsu : sumUpto (edgeAt bf l) l.length with
    | none =>
      rw [hsu] at hs1
      dsimp only [Option.getD, Option.isSome] at hs1 ⊢
      ((try first | apply tr_v Try.tabOk | apply ot_v Try.tabOk); (conv => whnf); (repeat ((first | (apply VCall.q; kernel_rfl; (focus (intro w1 hs; first | with_reducible apply hs1 w1 hs))) | apply VBr.t | apply VBr.f | (apply v_f; omega)); (conv => whnf))); try (first | apply VStop.mk | apply VCall.stop))
      (apply VRet.mk)
      refine ret2 (by first | exact .inl rfl | exact .inr rfl) rfl (by exact rv_tmp rfl) (by exact rv_tmp rfl) ?_
      exact fun w h => ⟨rfl, h.base⟩
    | some s =>
      rw [hsu] at hs1
      have hsb := sumUpto_le (f := edgeBack bf l) (fun k x hx => by
        cases k with
        | zero => exact hbs _ _ x (hin2 _) (hin2 _) hx
        | succ k => exact hbs _ _ x (hin2 _) (hin2 _) hx) l.length s (by rw [sum_back _ _ hlz]; exact hsu)
      dsimp only [Option.getD, Option.isSome] at hs1 ⊢
      by_cases h0s : 0 ≤ s
      · rw [if_pos h0s]
        ((try first | apply tr_v Try.tabOk | apply ot_v Try.tabOk); (conv => whnf); (repeat ((first | (apply VCall.q; kernel_rfl; (focus (intro w1 hs; first | with_reducible apply hs1 w1 hs))) | apply VBr.t | apply VBr.f | (apply v_t; omega) | (apply v_f; omega)); (conv => whnf))); try (first | apply VStop.mk | apply VCall.stop))
        (apply VRet.mk)
        refine ret2 (by first | exact .inl rfl | exact .inr rfl) rfl (by exact rv_tmp rfl) (by exact rv_tmp rfl) ?_
        exact fun w h => ⟨rfl, h.base⟩
      · rw [if_neg h0s]
        ((try first | apply tr_v Try.tabOk | apply ot_v Try.tabOk); (conv => whnf); (repeat ((first | (apply VCall.q; kernel_rfl; (focus (intro w1 hs; first | with_reducible apply hs1 w1 hs))) | (apply VRng.mk; omega) | apply VBr.f | (apply v_f; omega)); (conv => whnf))); try (first | apply VStop.mk | apply VCall.stop))
        (apply VRet.mk)
        refine ret2 (by first | exact .inl rfl | exact .inr rfl) rfl (by exact rv_tmp rfl) (by exact rv_tmp rfl) ?_
        exact fun w h => ⟨rfl, h.base⟩
end
/-! ## Round -/
/-- What Round hands back, plainly. -/
def roundRet (rlo rhi lots : Int) (S : List (List T3)) : List Int × Int :=
  if chkBook rlo rhi lots S ≠ 0 then ([], chkBook rlo rhi lots S) else if canB rlo rhi lots.toNat S (-1) = true then ([], 5)
  else (roundP (1 + lots.toNat + S.flatten.length) (allE (bnd rlo rhi lots.toNat S (-1)) (1 + lots.toNat + S.flatten.length) (1 + lots.toNat + S.flatten.length)), 0)
section
variable (rlo rhi lots : Int) (Al : Option Addr) (c : Nat) (S : List (List T3)) (w : World) (hN : NestR w 3 Al (nestOf S)) (hF : Fit S)
include hN hF
set_option maxHeartbeats 2000000 in
set_option maxRecDepth 20000 in
theorem rounds_any : Calls Try.prog 36 #[bookV rlo rhi lots Al S.length c] w (OneRet (roundRet rlo rhi lots S) w) := by
  by_cases h0 : chkBook rlo rhi lots S = 0
  rotate_left
  · have hop := open_nil_no rlo rhi lots Al c S w hN hF h0
    have hE : roundRet rlo rhi lots S = ([], chkBook rlo rhi lots S) := by unfold roundRet; rw [if_pos h0]
    rw [hE]
    unfold bookV at *
    generalize chkBook rlo rhi lots S = e at *
    refine fn_v Try.tabOk (n := 28) (A := []) Try.func36 rfl rfl (Nat.le_of_ble_eq_true rfl) (St.nil (Below.refl _ _)) ?_
    ((try first | apply tr_v Try.tabOk | apply ot_v Try.tabOk); (conv => whnf); (repeat ((first | (apply VCall.q; kernel_rfl; (focus (intro w1 hs; first | with_reducible apply hop w1 (hs.nest hN)))) | apply VBr.t | (apply v_t; omega) | (apply VNew.mk; intro g hg) | (apply VLdN.mk; (focus ((repeat (first | (with_reducible apply ldn_blk) | (with_reducible apply ldn_row) | (with_reducible assumption) | (with_reducible apply ldn_skip))); done)); exact rfl)); (conv => whnf))); try (first | apply VStop.mk | apply VCall.stop))
    (apply VRet.mk)
    refine ret2 (by first | exact .inl rfl | exact .inr rfl) rfl (by exact rv_tmp rfl) (by exact rv_tmp rfl) ?_
    exact fun w h => one_nil _ h
  have hO := chk_ok.1 h0
  obtain ⟨L, rfl⟩ : ∃ L : Nat, lots = L := ⟨lots.toNat, by have := hO.l; omega⟩
  have hop := open_nil_yes rlo rhi Al c S w hN hF h0
  have hb := bnd_ok hO (-1)
  have hci := canB_iff hO (-1)
  have hE : roundRet rlo rhi L S = if canB rlo rhi L S (-1) = true then ([], 5) else (roundP (1 + L + S.flatten.length) (allE (bnd rlo rhi L S (-1)) (1 + L + S.flatten.length) (1 + L + S.flatten.length)), 0) := by
    unfold roundRet; rw [if_neg (by simpa using h0), Int.toNat_natCast]
  rw [hE]
  clear hE
  unfold bookV at *
  refine fn_v Try.tabOk (n := 28) (A := []) Try.func36 rfl rfl (Nat.le_of_ble_eq_true rfl) (St.nil (Below.refl _ _)) ?_
  ((try first | apply tr_v Try.tabOk | apply ot_v Try.tabOk); (conv => whnf); (repeat ((first | (apply VNew.mk; intro g hg) | (apply VLdN.mk; (focus ((repeat (first | (with_reducible apply ldn_blk) | (with_reducible apply ldn_row) | (with_reducible assumption) | (with_reducible apply ldn_skip))); done)); exact rfl)); (conv => whnf))); try (first | apply VStop.mk | apply VCall.stop))
  refine ot_call_st (X := TongueX) (fun x => .tuple #[.pointer (some ⟨x.gt, 0, none⟩), .int .i64 0]) (fun x => tongueCh rlo rhi L Al c S (resM (bnd rlo rhi L S (-1)) (1 + L + S.flatten.length)) x) tongueCh_mut (by decide) rfl rfl rfl (by kernel_rfl) (evl_of rfl) (fun w1 hs => hop w1 (hs.nest hN)) (fun x => ?_)
  apply ot_v Try.tabOk
  ((try first | apply tr_v Try.tabOk | apply ot_v Try.tabOk); (conv => whnf); (repeat ((first | apply VBr.f | (apply v_f; omega)); (conv => whnf))); try (first | apply VStop.mk | apply VCall.stop))
  refine ot_call_ownS (by decide) rfl rfl rfl (by kernel_rfl) (evl_of rfl) (fun w1 hs => round_any rlo rhi L Al c S (bnd rlo rhi L S (-1)) (1 + L + S.flatten.length) x.gt x.gm x.B x.cap w1 (hs.tongue fun d hd => List.mem_append_left _ hd) rfl hb) (fun Br cr hBr => ?_)
  apply ot_v Try.tabOk
  by_cases hp : HasPot (bnd rlo rhi L S (-1)) (1 + L + S.flatten.length)
  · rw [if_pos (hci.2 hp), hb.round_none hp]
    ((try first | apply tr_v Try.tabOk | apply ot_v Try.tabOk); (conv => whnf); (repeat ((first | apply VBr.t | apply v_d); (conv => whnf))); try (first | apply VStop.mk | apply VCall.stop))
    (apply VRet.mk)
    refine ret2 (by first | exact .inl rfl | exact .inr rfl) rfl (by exact rv_tmp rfl) (by exact rv_tmp rfl) ?_
    exact fun w h => one_nil _ h
  · rw [if_neg (fun h => hp (hci.1 h))]
    have hlen := hb.round_len hp
    have hn1 := hb.n1
    generalize hch : tongueCh rlo rhi L Al c S (resM (bnd rlo rhi L S (-1)) (1 + L + S.flatten.length)) x = CH at *
    generalize 1 + L + S.flatten.length = N at *
    generalize roundP N (allE (bnd rlo rhi L S (-1)) N N) = rd at *
    obtain ⟨br, rfl⟩ := hBr (by omega)
    ((try first | apply tr_v Try.tabOk | apply ot_v Try.tabOk); (conv => whnf); (repeat ((first | ((first | apply VStop.mk | apply VCall.stop); (first | (refine ot_makeSlice Try.tabOk (by decide) rfl rfl rfl rfl rfl rfl rfl rfl rfl rfl rfl rfl (by omega) (by decide) ?_; intro g hg)); try first | apply ot_v Try.tabOk | apply tr_v Try.tabOk) | apply VBr.f | (apply v_f; omega)); (conv => whnf))); try (first | apply VStop.mk | apply VCall.stop))
    refine ot_copy (vs := i64s rd) Try.tabOk rfl rfl rfl rfl rfl rfl rfl rfl rfl rfl (fun w1 hs => hs.own_rd (.tail _ (.head _))) (fun u hu => ?_) .here (by simp) (fun e => by cases e) ?_
    · unfold i64s at hu
      obtain ⟨x, _, rfl⟩ := List.mem_map.1 hu
      rfl
    apply ot_v Try.tabOk
    ((try first | apply tr_v Try.tabOk | apply ot_v Try.tabOk); (conv => whnf); try (first | apply VStop.mk | apply VCall.stop))
    (apply VRet.mk)
    refine ret2 (by first | exact .inl rfl | exact .inr rfl) rfl (by exact rv_tmp rfl) (by exact rv_tmp rfl) ?_
    exact fun w' hs => ⟨_, rfl, (hs.blk_own (sz := 1) (m := rd.length) (by simp [i64s]) (by unfold maxLen; omega)).sub (.cons_cons _ (List.nil_sublist _))⟩
end
/-! ## Wrong -/
section
variable (rlo rhi lots : Int) (Al : Option Addr) (c : Nat) (S : List (List T3)) (w : World) (hN : NestR w 3 Al (nestOf S)) (hF : Fit S)
include hN hF
set_option maxHeartbeats 2000000 in
set_option maxRecDepth 20000 in
theorem wrong_any : Calls Try.prog 38 #[bookV rlo rhi lots Al S.length c] w (OneRet (wrongR rlo rhi lots S) w) := by
  by_cases h0 : chkBook rlo rhi lots S = 0
  rotate_left
  · have hop := open_nil_no rlo rhi lots Al c S w hN hF h0
    have hE : wrongR rlo rhi lots S = ([], chkBook rlo rhi lots S) := by unfold wrongR; rw [if_pos h0]
    rw [hE]
    unfold bookV at *
    generalize chkBook rlo rhi lots S = e at *
    refine fn_v Try.tabOk (n := 40) (A := []) Try.func38 rfl rfl (Nat.le_of_ble_eq_true rfl) (St.nil (Below.refl _ _)) ?_
    ((try first | apply tr_v Try.tabOk | apply ot_v Try.tabOk); (conv => whnf); (repeat ((first | (apply VCall.q; kernel_rfl; (focus (intro w1 hs; first | with_reducible apply hop w1 (hs.nest hN)))) | apply VBr.t | (apply v_t; omega) | (apply VNew.mk; intro g hg) | (apply VLdN.mk; (focus ((repeat (first | (with_reducible apply ldn_blk) | (with_reducible apply ldn_row) | (with_reducible assumption) | (with_reducible apply ldn_skip))); done)); exact rfl)); (conv => whnf))); try (first | apply VStop.mk | apply VCall.stop))
    (apply VRet.mk)
    refine ret2 (by first | exact .inl rfl | exact .inr rfl) rfl (by exact rv_tmp rfl) (by exact rv_tmp rfl) ?_
    exact fun w h => one_nil _ h
  have hO := chk_ok.1 h0
  obtain ⟨L, rfl⟩ : ∃ L : Nat, lots = L := ⟨lots.toNat, by have := hO.l; omega⟩
  have hop := open_nil_yes rlo rhi Al c S w hN hF h0
  have hnt := fun w1 (h : NestR w1 3 Al (nestOf S)) => newTongue_any rlo rhi L Al c S w1 h hO
  have hbk := fun k : Nat => bnd_ok hO (k : Int)
  have hci := fun k : Nat => canB_iff hO (k : Int)
  have hx := fun k (hk : k < S.flatten.length) => hO.x _ (tasteAt_mem hk)
  have hl := hO.l
  have ht := hO.t
  have hE : wrongR rlo rhi L S = (wrongUpto (fun k => canB rlo rhi L S k) S.flatten.length, 0) := by
    unfold wrongR; rw [if_neg (by simpa using h0), Int.toNat_natCast]
  rw [hE]
  clear hE
  unfold bookV at *
  refine fn_v Try.tabOk (n := 40) (A := []) Try.func38 rfl rfl (Nat.le_of_ble_eq_true rfl) (St.nil (Below.refl _ _)) ?_
  ((try first | apply tr_v Try.tabOk | apply ot_v Try.tabOk); (conv => whnf); (repeat ((first | (apply VNew.mk; intro g hg) | (apply VLdN.mk; (focus ((repeat (first | (with_reducible apply ldn_blk) | (with_reducible apply ldn_row) | (with_reducible assumption) | (with_reducible apply ldn_skip))); done)); exact rfl)); (conv => whnf))); try (first | apply VStop.mk | apply VCall.stop))
  refine ot_call_st (X := TongueX) (fun x => .tuple #[.pointer (some ⟨x.gt, 0, none⟩), .int .i64 0]) (fun x => tongueCh rlo rhi L Al c S (resM (bnd rlo rhi L S (-1)) (1 + L + S.flatten.length)) x) tongueCh_mut (by decide) rfl rfl rfl (by kernel_rfl) (evl_of rfl) (fun w1 hs => hop w1 (hs.nest hN)) (fun x => ?_)
  apply ot_v Try.tabOk
  dsimp only [tongueCh, List.cons_append, List.nil_append]
  ((try first | apply tr_v Try.tabOk | apply ot_v Try.tabOk); (conv => whnf); (repeat ((first | (apply VLd.mk; (focus ((repeat (first | ((with_reducible apply ld_blk); exact rfl) | ((with_reducible apply ld_row); exact rfl) | ((with_reducible apply ld_row0); exact rfl) | (with_reducible assumption) | (with_reducible exact CellAt.base (by assumption)) | (with_reducible apply ld_skip))); done))) | apply VBr.f | (apply v_f; omega)); (conv => whnf))); try (first | apply VStop.mk | apply VCall.stop))
  refine tr_own_nil 3 1 ?_
  refine v_loop (fun gm' ds ts A => ds = [] ∧ ∃ (k : Nat) (v : Value), k + gm' = S.flatten.length ∧ A = [.own v 3 1 (wrongUpto (fun k => canB rlo rhi L S k) k).length (i64s (wrongUpto (fun k => canB rlo rhi L S k) k)), .blk g 26 [.int .i64 rlo, .int .i64 rhi, .int .i64 L, .slice Al S.length c]] ∧ ts = [(1, .pointer (some ⟨g, 0, none⟩)), (6, v), (21, .int .i64 (S.flatten.length : Int)), (22, .int .i64 (k : Int))]) S.flatten.length
    (l := [(1, _), (6, _), (21, _), (22, _)]) (B := [_, _]) ?_ (.cons_cons _ (.cons _ (.cons _ (.cons _ (.cons_cons _ (List.nil_sublist _)))))) ⟨rfl, 0, .slice none 0 0, by omega, rfl, rfl⟩ ?_
  · exact ⟨rfl, rfl, rfl, rfl, trivial⟩
  clear x
  rintro gm' ds ts A ⟨rfl, k, v, hk, rfl, rfl⟩
  by_cases hlt : k < S.flatten.length
  rotate_left
  · obtain rfl : k = S.flatten.length := by omega
    ((try first | apply tr_v Try.tabOk | apply ot_v Try.tabOk); (conv => whnf); (repeat ((first | apply VBr.f | (apply v_f; omega)); (conv => whnf))); try (first | apply VStop.mk | apply VCall.stop))
    (apply VRet.mk)
    refine ret2 (by first | exact .inl rfl | exact .inr rfl) rfl (by exact rv_tmp rfl) (by exact rv_tmp rfl) ?_
    exact fun w' hs => ⟨v, rfl, hs.sub (.cons_cons _ (List.nil_sublist _))⟩
  have hxk := hx k hlt
  obtain ⟨q, hq⟩ : ∃ q : Nat, (tasteAt S k).1 = q := ⟨(tasteAt S k).1.toNat, by omega⟩
  have hrd := res_del rlo rhi L S (S.flatten.length + L + 1) k q rfl hlt hq (by omega)
  have hwl := wrongUpto_le (fun k => canB rlo rhi L S k) k
  have hw1 : wrongUpto (fun k => canB rlo rhi L S k) (k + 1) = if canB rlo rhi L S k = true then wrongUpto (fun k => canB rlo rhi L S k) k ++ [(k : Int)] else wrongUpto (fun k => canB rlo rhi L S k) k := rfl
  generalize hW : wrongUpto (fun k => canB rlo rhi L S k) k = W at *
  ((try first | apply tr_v Try.tabOk | apply ot_v Try.tabOk); (conv => whnf); (repeat ((first | apply VBr.t | (apply v_t; omega) | (apply VLdN.mk; (focus ((repeat (first | (with_reducible apply ldn_blk) | (with_reducible apply ldn_row) | (with_reducible assumption) | (with_reducible apply ldn_skip))); done)); exact rfl)); (conv => whnf))); try (first | apply VStop.mk | apply VCall.stop))
  refine ot_call_st (X := TongueX) (fun x => .pointer (some ⟨x.gt, 0, none⟩)) (fun x => tongueCh rlo rhi L Al c S (mapOf rlo rhi L S) x) tongueCh_mut (by decide) rfl rfl rfl (by kernel_rfl) (evl_of rfl) (fun w1 hs => hnt w1 (hs.nest hN)) (fun x => ?_)
  apply ot_v Try.tabOk
  dsimp only [tongueCh, List.cons_append, List.nil_append]
  ((try first | apply tr_v Try.tabOk | apply ot_v Try.tabOk); (conv => whnf); try (first | apply VStop.mk | apply VCall.stop))
  refine ot_call_w (R := fun _ e w' => e = .returned (.tuple #[]) ∧ St w (.blk x.gt 86 (tongueC rlo rhi L Al S.length c (.slice x.B S.flatten.length x.cap) x.gm) :: .prd x.gm (MapP pairE (resM (bnd rlo rhi L S k) (S.flatten.length + L + 1)) []) :: .own (.slice x.B S.flatten.length x.cap) 67 3 S.flatten.length (saidCells S.flatten) :: [.own v 3 1 W.length (i64s W), .blk g 26 [.int .i64 rlo, .int .i64 rhi, .int .i64 L, .slice Al S.length c]]) w') (by decide) rfl rfl rfl (by kernel_rfl) (evl_of rfl) (fun w1 hs => ?_) ?_
  · rw [← hrd]
    exact without_any rlo rhi L Al c S x hs (by omega) (by omega) k q hlt hq (by omega) (.head _) (.head _) (.tail _ (.tail _ (.head _))) (.there .here) (.there .here)
  rintro w1 e w2 _ ⟨rfl, hs⟩
  refine ⟨_, _, rfl, hs, ?_⟩
  apply ot_v Try.tabOk
  ((try first | apply tr_v Try.tabOk | apply ot_v Try.tabOk); (conv => whnf); try (first | apply VStop.mk | apply VCall.stop))
  refine ot_call_ownS (by decide) rfl rfl rfl (by kernel_rfl) (evl_of rfl) (fun w1 hs => round_any rlo rhi L Al c S (bnd rlo rhi L S k) (S.flatten.length + L + 1) x.gt x.gm x.B x.cap w1 (hs.tongue (x := ⟨x.gt, x.gm, x.B, x.cap, []⟩) fun d hd => ?_) (by omega) (by rw [show S.flatten.length + L + 1 = 1 + L + S.flatten.length by omega]; exact hbk k)) (fun Br cr _ => ?_)
  · simp only [tongueCh, List.mem_cons, List.not_mem_nil, or_false] at hd ⊢
    rcases hd with rfl | rfl | rfl
    · exact .inl rfl
    · exact .inr (.inl rfl)
    · exact .inr (.inr (.inl rfl))
  apply ot_v Try.tabOk
  have hnn : S.flatten.length + L + 1 = 1 + L + S.flatten.length := by omega
  rw [hnn] at *
  by_cases hp : HasPot (bnd rlo rhi L S k) (1 + L + S.flatten.length)
  · rw [if_pos ((hci k).2 hp)] at hw1
    rw [(hbk k).round_none hp]
    ((try first | apply tr_v Try.tabOk | apply ot_v Try.tabOk); (conv => whnf); (repeat ((first | apply VBr.t | apply v_d | (apply VNew.mk; intro g hg)); (conv => whnf))); try (first | apply VStop.mk | apply VCall.stop))
    refine ot_append (sz := 1) (sl := W.length) (xs := i64s W) (A'v := fun v' => _ :: _ :: _ :: _ :: _ :: .own v' 3 1 (W.length + 1) _ :: _) Try.tabOk rfl rfl rfl rfl rfl rfl rfl rfl rfl rfl (by decide) rfl (cells_blk_all (.head _)) rfl rfl (fun v' => .there (.there (.there (.there (.there .here))))) (by omega) (by decide) (fun v' => ?_)
    apply ot_v Try.tabOk
    ((try first | apply tr_v Try.tabOk | apply ot_v Try.tabOk); (conv => whnf); (repeat ((first | (apply VRng.mk; omega)); (conv => whnf))); try (first | apply VStop.mk | apply VCall.stop))
    have e1 : i64s W ++ [.int .i64 (k : Int)] = i64s (W ++ [(k : Int)]) := by simp [i64s]
    have e2 : W.length + 1 = (W ++ [(k : Int)]).length := by simp
    rw [e1, e2]
    exact v_rnd (gm' - 1) (by omega) (l := [(1, _), (6, _), (21, _), (22, _)]) (B := [_, _]) ⟨rfl, rfl, rfl, rfl, trivial⟩ (.cons _ (.cons _ (.cons _ (.cons _ (.cons _ (.cons_cons _ (.cons_cons _ (List.nil_sublist _)))))))) ⟨rfl, k + 1, v', by omega, by rw [hw1], rfl⟩
  · have hrl := (hbk k).round_len hp
    have hn1 := (hbk k).n1
    rw [if_neg (fun h => hp ((hci k).1 h))] at hw1
    generalize roundP (1 + L + S.flatten.length) (allE (bnd rlo rhi L S k) (1 + L + S.flatten.length) (1 + L + S.flatten.length)) = rd at *
    ((try first | apply tr_v Try.tabOk | apply ot_v Try.tabOk); (conv => whnf); (repeat ((first | (apply VRng.mk; omega) | apply VBr.f | (apply v_f; omega)); (conv => whnf))); try (first | apply VStop.mk | apply VCall.stop))
    exact v_rnd (gm' - 1) (by omega) (l := [(1, _), (6, _), (21, _), (22, _)]) (B := [_, _]) ⟨rfl, rfl, rfl, rfl, trivial⟩ (.cons _ (.cons _ (.cons _ (.cons _ (.cons_cons _ (.cons_cons _ (List.nil_sublist _))))))) ⟨rfl, k + 1, v, by omega, by rw [hw1], rfl⟩
end
end Go.Proofs.Ytkbcogaodnmdoaa
