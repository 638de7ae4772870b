/- Layer 3, blends: BlendMoved: lemmas for the rows of this seat. No conditions. -/
import Derived.Test.YtfjnnegaljfkgaaProg
import Derived.Test.YtfjnnegaljfkgaaBase
import Derived.Test.YtfjnnegaljfkgaaPlain
import Derived.Test.YtfjnnegaljfkgaaWA
import Derived.Test.YtfjnnegaljfkgaaSeg
import Derived.Test.YtfjnnegaljfkgaaKeys
import Derived.Test.YtfjnnegaljfkgaaW20
import Derived.Test.YtfjnnegaljfkgaaW21
import Derived.Test.YtfjnnegaljfkgaaW22
import Derived.Test.YtfjnnegaljfkgaaS1
import Derived.Test.YtfjnnegaljfkgaaS5
import Derived.Test.YtfjnnegaljfkgaaS12
import Derived.Test.YtfjnnegaljfkgaaTab
import Derived.Test.YtfjnnegaljfkgaaS14
import Derived.Test.YtfjnnegaljfkgaaArms
import Derived.Test.YtfjnnegaljfkgaaWE
import Derived.Test.YtfjnnegaljfkgaaB1
import Derived.Test.YtfjnnegaljfkgaaB2
import Derived.Test.YtfjnnegaljfkgaaB3
import Derived.Test.YtfjnnegaljfkgaaB4
import Derived.Test.YtfjnnegaljfkgaaB5
import Derived.Test.YtfjnnegaljfkgaaB6
import Derived.Test.YtfjnnegaljfkgaaB7
import Derived.Test.YtfjnnegaljfkgaaB8
import Derived.Test.YtfjnnegaljfkgaaB9
import Derived.Test.YtfjnnegaljfkgaaB10
import Derived.Test.YtfjnnegaljfkgaaB11
import Derived.Test.YtfjnnegaljfkgaaB12
import Derived.Test.YtfjnnegaljfkgaaB13
import Derived.Test.YtfjnnegaljfkgaaB14
import Derived.Test.YtfjnnegaljfkgaaC1
import Derived.Test.YtfjnnegaljfkgaaC2a
import Derived.Test.YtfjnnegaljfkgaaC2
import Derived.Test.YtfjnnegaljfkgaaL1
import Derived.Test.YtfjnnegaljfkgaaL2
import Derived.Test.YtfjnnegaljfkgaaC3a
import Derived.Test.YtfjnnegaljfkgaaC6
import Derived.Test.YtfjnnegaljfkgaaC7
import Derived.Test.YtfjnnegaljfkgaaC9
import Derived.Test.YtfjnnegaljfkgaaC10a
import Derived.Test.YtfjnnegaljfkgaaC12
import Derived.Test.YtfjnnegaljfkgaaV
set_option linter.all false
namespace Go.Proofs.Ytfjnnegaljfkgaa
open Go.RowKit
/-! ## BlendMoved -/
section
variable {P : Program} {w0 : World} {n : Nat} {ds : List Deferred} {ops : List Oper} {o : Oper} {os : List Oper} {ks : List Kind} {ts : TS} {A : List Chunk} {K : TS → List Chunk → Prop}
/-- Lay theorems by their runs: a call of a function, told apart. -/
def callV (o : Oper) : Bool := match o.op with
  | .call { callee := .value _, .. } => true
  | _ => false
theorem ot_callv_ (_ : callV o = true) (h : OT P w0 n ds ops (o :: os) ks ts A K) : OT P w0 n ds ops (o :: os) ks ts A K := h
end
section
variable (Al : Option Addr) (c : Nat) (xs : List (Int × Int)) (w : World) (hr : Reads w w.heap.size 2 Al xs.length (pairCells xs)) (hm : xs.length ≤ maxLen)
include hr hm
set_option maxHeartbeats 60000000 in
set_option maxRecDepth 100000 in
/-- Lay theorems by their runs: the law of lots that are moved. -/
theorem blendMoved_any (z1 z2 z3 z4 : Int) (h1 : 0 ≤ z1 ∧ z1 ≤ 255) (h2 : 0 ≤ z2 ∧ z2 ≤ 255) (h3 : 0 ≤ z3 ∧ z3 ≤ 65535) (h4 : 0 ≤ z4 ∧ z4 ≤ 255) :
    Calls Try.prog 12 #[.slice Al xs.length c, .int .u8 z1, .int .u8 z2, .int .u16 z3, .int .u8 z4] w fun e w' => e = .returned (.bool true) ∧ Below w.heap.size w w' := by
  refine fn_v Try.tabOk (n := 193) (A := []) Try.func12 rfl rfl (Nat.le_of_ble_eq_true rfl) (St.nil (Below.refl _ _)) ?_
  by_cases hf : checkLots xs = 0
  rotate_left
  · have kg := fine_no Al c xs w hr hm hf
    ((try first | apply tr_v Try.tabOk | apply ot_v Try.tabOk); (conv => whnf); (repeat ((first | (apply VCall.q; kernel_rfl; (focus (intro w1 hs; first | with_reducible apply kg w1 _ hs))) | (apply VLd.mk; (focus ((repeat (first | ((with_reducible apply ld_blk); exact rfl) | ((with_reducible apply ld_row); exact rfl) | ((with_reducible apply ld_row0); exact rfl) | (with_reducible assumption) | (with_reducible exact CellAt.base (by assumption)) | (with_reducible apply ld_skip))); done))) | (apply VRng.mk; omega) | apply VBr.t | apply VBr.f | (apply v_t; omega) | (apply v_f; omega) | apply v_d | (apply VNew.mk; intro g hg) | (apply VIx.mk; exact rfl; omega) | (apply VIx.mk (j := 0); exact rfl; omega) | (apply VLdN.mk; (focus ((repeat (first | (with_reducible apply ldn_blk) | (with_reducible apply ldn_row) | (with_reducible assumption) | (with_reducible apply ldn_skip))); done)); exact rfl) | (apply VSt.mk; (focus ((repeat (first | (with_reducible exact At.here) | (with_reducible apply At.there))); done)); exact rfl) | (apply VSt.old; (focus ((repeat (first | (with_reducible exact Upd.here) | (with_reducible apply Upd.there))); done)); (first | exact rfl | (simp; omega)); exact rfl) | (apply v_wr64; omega) | (apply VWr.mk; assumption) | (apply VNz.mk; omega) | refine slist_and (by (repeat (first | exact List.nil_sublist _ | exact List.Sublist.refl _ | refine List.Sublist.cons_cons _ ?_ | refine List.Sublist.cons _ ?_))) ?_ | (apply v_ixn; omega)); (conv => whnf))); try (first | apply VStop.mk | apply VCall.stop))
    (((try first | apply tr_v Try.tabOk | apply ot_v Try.tabOk); (conv => whnf); (repeat ((first | (apply VCall.q; kernel_rfl; (focus (intro w1 hs; first | with_reducible apply works_any w1))) | (apply VLd.mk; (focus ((repeat (first | ((with_reducible apply ld_blk); exact rfl) | ((with_reducible apply ld_row); exact rfl) | ((with_reducible apply ld_row0); exact rfl) | (with_reducible assumption) | (with_reducible exact CellAt.base (by assumption)) | (with_reducible apply ld_skip))); done))) | (apply VRng.mk; omega) | apply VBr.t | apply VBr.f | (apply v_t; omega) | (apply v_f; omega) | apply v_d | (apply VNew.mk; intro g hg) | (apply VIx.mk; exact rfl; omega) | (apply VIx.mk (j := 0); exact rfl; omega) | (apply VLdN.mk; (focus ((repeat (first | (with_reducible apply ldn_blk) | (with_reducible apply ldn_row) | (with_reducible assumption) | (with_reducible apply ldn_skip))); done)); exact rfl) | (apply VSt.mk; (focus ((repeat (first | (with_reducible exact At.here) | (with_reducible apply At.there))); done)); exact rfl) | (apply VSt.old; (focus ((repeat (first | (with_reducible exact Upd.here) | (with_reducible apply Upd.there))); done)); (first | exact rfl | (simp; omega)); exact rfl) | (apply v_wr64; omega) | (apply VWr.mk; assumption) | (apply VNz.mk; omega) | refine slist_and (by (repeat (first | exact List.nil_sublist _ | exact List.Sublist.refl _ | refine List.Sublist.cons_cons _ ?_ | refine List.Sublist.cons _ ?_))) ?_ | (apply v_ixn; omega)); (conv => whnf))); try (first | apply VStop.mk | apply VCall.stop)); (apply VRet.mk); refine ret1 (by first | exact .inl rfl | exact .inr rfl) rfl (by first | exact rv_tmp rfl | exact rv_row Try.tabOk rfl rfl rfl (by first | exact cells_blk_all (by (repeat (first | exact List.Mem.head _ | assumption | refine List.Mem.tail _ ?_))) | exact cells_row0 (by (repeat (first | exact List.Mem.head _ | assumption | refine List.Mem.tail _ ?_)))) rfl | exact rv_sc Try.tabOk rfl rfl rfl (by first | exact cell_blk (by (repeat (first | exact List.Mem.head _ | assumption | refine List.Mem.tail _ ?_))) (by rfl) | exact cell_row (by (repeat (first | exact List.Mem.head _ | assumption | refine List.Mem.tail _ ?_))) (by rfl) | exact cell_own (by (repeat (first | exact List.Mem.head _ | assumption | refine List.Mem.tail _ ?_))) (by rfl) | exact cell_row0 (by (repeat (first | exact List.Mem.head _ | assumption | refine List.Mem.tail _ ?_))) (by rfl) | assumption | exact CellAt.base (by assumption))) ?_; exact fun w h => ⟨rfl, h.base⟩)
  · have kg := fine_yes Al c xs w hr hm hf
    have hG := Good.of hf
    have hn := hG.len
    have ht := sharpOf_ok h1.1
    have k1 := sharpness_any z1 h1
    generalize sharpOf z1 = t at *
    have hD : 0 ≤ z2.tmod 50 ∧ z2.tmod 50 ≤ 49 := by rw [Int.tmod_eq_emod_of_nonneg h2.1]; omega
    have hE : 0 ≤ z3.tmod 600 ∧ z3.tmod 600 ≤ 599 := by rw [Int.tmod_eq_emod_of_nonneg h3.1]; omega
    have hM : 0 ≤ z4.tmod 4 ∧ z4.tmod 4 ≤ 3 := by rw [Int.tmod_eq_emod_of_nonneg h4.1]; omega
    have hw2 := i64_wrap (p := z2.tmod 50) (by omega)
    have hw3 := i64_wrap (p := z3.tmod 600) (by omega)
    have hw4 := i64_wrap (p := z4.tmod 4) (by omega)
    obtain ⟨fx, hfx⟩ : ∃ fx : Nat → Int × Int, fx = fun j => ((lotAt xs j).1 + z2.tmod 50, (lotAt xs j).2) := ⟨_, rfl⟩
    obtain ⟨fy, hfy⟩ : ∃ fy : Nat → Int × Int, fy = fun j => ((lotAt xs j).1, (lotAt xs j).2 + z3.tmod 600) := ⟨_, rfl⟩
    obtain ⟨fz, hfz⟩ : ∃ fz : Nat → Int × Int, fz = fun j => ((lotAt xs j).1, (1 + z4.tmod 4) * (lotAt xs j).2) := ⟨_, rfl⟩
    ((try first | apply tr_v Try.tabOk | apply ot_v Try.tabOk); (conv => whnf); (repeat ((first | (apply VCall.q; kernel_rfl; (focus (intro w1 hs; first | with_reducible apply kg w1 _ hs))) | (apply VLd.mk; (focus ((repeat (first | ((with_reducible apply ld_blk); exact rfl) | ((with_reducible apply ld_row); exact rfl) | ((with_reducible apply ld_row0); exact rfl) | (with_reducible assumption) | (with_reducible exact CellAt.base (by assumption)) | (with_reducible apply ld_skip))); done))) | (apply VRng.mk; omega) | apply VBr.t | apply VBr.f | (apply v_t; omega) | (apply v_f; omega) | apply v_d | (apply VNew.mk; intro g hg) | (apply VIx.mk; exact rfl; omega) | (apply VIx.mk (j := 0); exact rfl; omega) | (apply VLdN.mk; (focus ((repeat (first | (with_reducible apply ldn_blk) | (with_reducible apply ldn_row) | (with_reducible assumption) | (with_reducible apply ldn_skip))); done)); exact rfl) | (apply VSt.mk; (focus ((repeat (first | (with_reducible exact At.here) | (with_reducible apply At.there))); done)); exact rfl) | (apply VSt.old; (focus ((repeat (first | (with_reducible exact Upd.here) | (with_reducible apply Upd.there))); done)); (first | exact rfl | (simp; omega)); exact rfl) | (apply v_wr64; omega) | (apply VWr.mk; assumption) | (apply VNz.mk; omega) | refine slist_and (by (repeat (first | exact List.nil_sublist _ | exact List.Sublist.refl _ | refine List.Sublist.cons_cons _ ?_ | refine List.Sublist.cons _ ?_))) ?_ | (apply v_ixn; omega)); (conv => whnf))); try (first | apply VStop.mk | apply VCall.stop))
    ((try first | apply tr_v Try.tabOk | apply ot_v Try.tabOk); (conv => whnf); (repeat ((first | (apply VCall.q; kernel_rfl; (focus (intro w1 hs; first | with_reducible apply k1 w1))) | (apply VLd.mk; (focus ((repeat (first | ((with_reducible apply ld_blk); exact rfl) | ((with_reducible apply ld_row); exact rfl) | ((with_reducible apply ld_row0); exact rfl) | (with_reducible assumption) | (with_reducible exact CellAt.base (by assumption)) | (with_reducible apply ld_skip))); done))) | (apply VRng.mk; omega) | apply VBr.t | apply VBr.f | (apply v_t; omega) | (apply v_f; omega) | apply v_d | (apply VNew.mk; intro g hg) | (apply VIx.mk; exact rfl; omega) | (apply VIx.mk (j := 0); exact rfl; omega) | (apply VLdN.mk; (focus ((repeat (first | (with_reducible apply ldn_blk) | (with_reducible apply ldn_row) | (with_reducible assumption) | (with_reducible apply ldn_skip))); done)); exact rfl) | (apply VSt.mk; (focus ((repeat (first | (with_reducible exact At.here) | (with_reducible apply At.there))); done)); exact rfl) | (apply VSt.old; (focus ((repeat (first | (with_reducible exact Upd.here) | (with_reducible apply Upd.there))); done)); (first | exact rfl | (simp; omega)); exact rfl) | (apply v_wr64; omega) | (apply VWr.mk; assumption) | (apply VNz.mk; omega) | refine slist_and (by (repeat (first | exact List.nil_sublist _ | exact List.Sublist.refl _ | refine List.Sublist.cons_cons _ ?_ | refine List.Sublist.cons _ ?_))) ?_ | (apply v_ixn; omega)); (conv => whnf))); try (first | apply VStop.mk | apply VCall.stop))
    ((try first | apply tr_v Try.tabOk | apply ot_v Try.tabOk); (conv => whnf); (repeat ((first | (apply VLd.mk; (focus ((repeat (first | ((with_reducible apply ld_blk); exact rfl) | ((with_reducible apply ld_row); exact rfl) | ((with_reducible apply ld_row0); exact rfl) | (with_reducible assumption) | (with_reducible exact CellAt.base (by assumption)) | (with_reducible apply ld_skip))); done))) | (apply VRng.mk; omega) | apply VBr.t | apply VBr.f | (apply v_t; omega) | (apply v_f; omega) | apply v_d | (apply VNew.mk; intro g hg) | (apply VIx.mk; exact rfl; omega) | (apply VIx.mk (j := 0); exact rfl; omega) | (apply VLdN.mk; (focus ((repeat (first | (with_reducible apply ldn_blk) | (with_reducible apply ldn_row) | (with_reducible assumption) | (with_reducible apply ldn_skip))); done)); exact rfl) | (apply VSt.mk; (focus ((repeat (first | (with_reducible exact At.here) | (with_reducible apply At.there))); done)); exact rfl) | (apply VSt.old; (focus ((repeat (first | (with_reducible exact Upd.here) | (with_reducible apply Upd.there))); done)); (first | exact rfl | (simp; omega)); exact rfl) | (apply v_wr64; omega) | (apply VWr.mk; assumption) | (apply VNz.mk; omega) | refine slist_and (by (repeat (first | exact List.nil_sublist _ | exact List.Sublist.refl _ | refine List.Sublist.cons_cons _ ?_ | refine List.Sublist.cons _ ?_))) ?_ | (apply v_ixn; omega)); (conv => whnf))); try (first | apply VStop.mk | apply VCall.stop))
    refine tr_own_nil 67 2 ?_
    refine tr_own_nil 67 2 ?_
    refine tr_own_nil 67 2 ?_
    refine v_loop (fun gm ds ts A => ds = [] ∧ ∃ k v1 v2 v3, k + gm = xs.length ∧ A = [.own v3 67 2 (mapUpto fz k).length (pairCells (mapUpto fz k)), .own v2 67 2 (mapUpto fy k).length (pairCells (mapUpto fy k)), .own v1 67 2 (mapUpto fx k).length (pairCells (mapUpto fx k))] ∧
        ts = [(0, .slice Al xs.length c), (3, .int .u16 z3), (11, .int .i64 t), (12, .int .i64 (z2.tmod 50)), (13, .int .i64 (1 + z4.tmod 4)), (14, v1), (15, v2), (16, v3), (17, .int .i64 (k : Int))]) xs.length
      (l := [(0, _), (3, _), (11, _), (12, _), (13, _), (14, _), (15, _), (16, _), (17, _)]) (B := [_, _, _]) ?_ (by (repeat (first | exact List.nil_sublist _ | exact List.Sublist.refl _ | refine List.Sublist.cons_cons _ ?_ | refine List.Sublist.cons _ ?_))) ⟨rfl, 0, .slice none 0 0, .slice none 0 0, .slice none 0 0, by omega, rfl, rfl⟩ ?_
    · exact ⟨rfl, rfl, rfl, rfl, rfl, rfl, rfl, rfl, rfl, trivial⟩
    rintro gm ds ts A ⟨rfl, k, v1, v2, v3, hk, rfl, rfl⟩
    have hlx := mapUpto_length fx k
    have hly := mapUpto_length fy k
    have hlz := mapUpto_length fz k
    by_cases hlt : k < xs.length
    · have sx : mapUpto fx (k + 1) = mapUpto fx k ++ [((lotAt xs k).1 + z2.tmod 50, (lotAt xs k).2)] := by rw [mapUpto, hfx]
      have sy : mapUpto fy (k + 1) = mapUpto fy k ++ [((lotAt xs k).1, (lotAt xs k).2 + z3.tmod 600)] := by rw [mapUpto, hfy]
      have sz : mapUpto fz (k + 1) = mapUpto fz k ++ [((lotAt xs k).1, (1 + z4.tmod 4) * (lotAt xs k).2)] := by rw [mapUpto, hfz]
      obtain ⟨b, o, rfl, _⟩ := hr.2 (show 0 < xs.length by omega)
      have hcy : ∀ A, CellsAt w A b (o + k * 2) [.int .i64 (lotAt xs k).1, .int .i64 (lotAt xs k).2] := pair_cells hr hlt
      have hb := not_lotBad.1 (hG.lot k hlt)
      generalize lotAt xs k = py at *
      obtain ⟨py1, py2⟩ := py
      dsimp only at hcy hb sx sy sz
      have mm := mul_mono (a := 1 + z4.tmod 4) (b := py2) (A := 4) (B := 1000) (by omega) (by omega) (by omega) (by omega)
      ((try first | apply tr_v Try.tabOk | apply ot_v Try.tabOk); (conv => whnf); (repeat ((first | (apply VLdN.mk; exact hcy _; exact rfl) | (apply VLd.mk; (focus ((repeat (first | ((with_reducible apply ld_blk); exact rfl) | ((with_reducible apply ld_row); exact rfl) | ((with_reducible apply ld_row0); exact rfl) | (with_reducible assumption) | (with_reducible exact CellAt.base (by assumption)) | (with_reducible apply ld_skip))); done))) | (apply VRng.mk; omega) | apply VBr.t | apply VBr.f | (apply v_t; omega) | (apply v_f; omega) | apply v_d | (apply VNew.mk; intro g hg) | (apply VIx.mk; exact rfl; omega) | (apply VIx.mk (j := 0); exact rfl; omega) | (apply VLdN.mk; (focus ((repeat (first | (with_reducible apply ldn_blk) | (with_reducible apply ldn_row) | (with_reducible assumption) | (with_reducible apply ldn_skip))); done)); exact rfl) | (apply VSt.mk; (focus ((repeat (first | (with_reducible exact At.here) | (with_reducible apply At.there))); done)); exact rfl) | (apply VSt.old; (focus ((repeat (first | (with_reducible exact Upd.here) | (with_reducible apply Upd.there))); done)); (first | exact rfl | (simp; omega)); exact rfl) | (apply v_wr64; omega) | (apply VWr.mk; assumption) | (apply VNz.mk; omega) | refine slist_and (by (repeat (first | exact List.nil_sublist _ | exact List.Sublist.refl _ | refine List.Sublist.cons_cons _ ?_ | refine List.Sublist.cons _ ?_))) ?_ | (apply v_ixn; omega)); (conv => whnf))); try (first | apply VStop.mk | apply VCall.stop))
      refine ot_append (sz := 2) (A'v := fun v' => _ :: _ :: _ :: _ :: .own v' 67 2 _ _ :: _) Try.tabOk rfl rfl rfl rfl rfl rfl rfl rfl rfl rfl (by decide) rfl (cells_blk_all (by (repeat (first | exact List.Mem.head _ | assumption | refine List.Mem.tail _ ?_)))) rfl rfl (fun v' => by (repeat (first | exact Upd.here | apply Upd.there))) (by omega) (by decide) (fun v1' => ?_)
      ((try first | apply tr_v Try.tabOk | apply ot_v Try.tabOk); (conv => whnf); (repeat ((first | (apply VLd.mk; (focus ((repeat (first | ((with_reducible apply ld_blk); exact rfl) | ((with_reducible apply ld_row); exact rfl) | ((with_reducible apply ld_row0); exact rfl) | (with_reducible assumption) | (with_reducible exact CellAt.base (by assumption)) | (with_reducible apply ld_skip))); done))) | (apply VRng.mk; omega) | apply VBr.t | apply VBr.f | (apply v_t; omega) | (apply v_f; omega) | apply v_d | (apply VNew.mk; intro g hg) | (apply VIx.mk; exact rfl; omega) | (apply VIx.mk (j := 0); exact rfl; omega) | (apply VLdN.mk; (focus ((repeat (first | (with_reducible apply ldn_blk) | (with_reducible apply ldn_row) | (with_reducible assumption) | (with_reducible apply ldn_skip))); done)); exact rfl) | (apply VSt.mk; (focus ((repeat (first | (with_reducible exact At.here) | (with_reducible apply At.there))); done)); exact rfl) | (apply VSt.old; (focus ((repeat (first | (with_reducible exact Upd.here) | (with_reducible apply Upd.there))); done)); (first | exact rfl | (simp; omega)); exact rfl) | (apply v_wr64; omega) | (apply VWr.mk; assumption) | (apply VNz.mk; omega) | refine slist_and (by (repeat (first | exact List.nil_sublist _ | exact List.Sublist.refl _ | refine List.Sublist.cons_cons _ ?_ | refine List.Sublist.cons _ ?_))) ?_ | (apply v_ixn; omega)); (conv => whnf))); try (first | apply VStop.mk | apply VCall.stop))
      refine ot_append (sz := 2) (A'v := fun v' => _ :: _ :: _ :: _ :: .own v' 67 2 _ _ :: _) Try.tabOk rfl rfl rfl rfl rfl rfl rfl rfl rfl rfl (by decide) rfl (cells_blk_all (by (repeat (first | exact List.Mem.head _ | assumption | refine List.Mem.tail _ ?_)))) rfl rfl (fun v' => by (repeat (first | exact Upd.here | apply Upd.there))) (by omega) (by decide) (fun v2' => ?_)
      ((try first | apply tr_v Try.tabOk | apply ot_v Try.tabOk); (conv => whnf); (repeat ((first | (apply VLd.mk; (focus ((repeat (first | ((with_reducible apply ld_blk); exact rfl) | ((with_reducible apply ld_row); exact rfl) | ((with_reducible apply ld_row0); exact rfl) | (with_reducible assumption) | (with_reducible exact CellAt.base (by assumption)) | (with_reducible apply ld_skip))); done))) | (apply VRng.mk; omega) | apply VBr.t | apply VBr.f | (apply v_t; omega) | (apply v_f; omega) | apply v_d | (apply VNew.mk; intro g hg) | (apply VIx.mk; exact rfl; omega) | (apply VIx.mk (j := 0); exact rfl; omega) | (apply VLdN.mk; (focus ((repeat (first | (with_reducible apply ldn_blk) | (with_reducible apply ldn_row) | (with_reducible assumption) | (with_reducible apply ldn_skip))); done)); exact rfl) | (apply VSt.mk; (focus ((repeat (first | (with_reducible exact At.here) | (with_reducible apply At.there))); done)); exact rfl) | (apply VSt.old; (focus ((repeat (first | (with_reducible exact Upd.here) | (with_reducible apply Upd.there))); done)); (first | exact rfl | (simp; omega)); exact rfl) | (apply v_wr64; omega) | (apply VWr.mk; assumption) | (apply VNz.mk; omega) | refine slist_and (by (repeat (first | exact List.nil_sublist _ | exact List.Sublist.refl _ | refine List.Sublist.cons_cons _ ?_ | refine List.Sublist.cons _ ?_))) ?_ | (apply v_ixn; omega)); (conv => whnf))); try (first | apply VStop.mk | apply VCall.stop))
      refine ot_append (sz := 2) (A'v := fun v' => _ :: _ :: _ :: _ :: .own v' 67 2 _ _ :: _) Try.tabOk rfl rfl rfl rfl rfl rfl rfl rfl rfl rfl (by decide) rfl (cells_blk_all (by (repeat (first | exact List.Mem.head _ | assumption | refine List.Mem.tail _ ?_)))) rfl rfl (fun v' => by (repeat (first | exact Upd.here | apply Upd.there))) (by omega) (by decide) (fun v3' => ?_)
      ((try first | apply tr_v Try.tabOk | apply ot_v Try.tabOk); (conv => whnf); (repeat ((first | (apply VLd.mk; (focus ((repeat (first | ((with_reducible apply ld_blk); exact rfl) | ((with_reducible apply ld_row); exact rfl) | ((with_reducible apply ld_row0); exact rfl) | (with_reducible assumption) | (with_reducible exact CellAt.base (by assumption)) | (with_reducible apply ld_skip))); done))) | (apply VRng.mk; omega) | apply VBr.t | apply VBr.f | (apply v_t; omega) | (apply v_f; omega) | apply v_d | (apply VNew.mk; intro g hg) | (apply VIx.mk; exact rfl; omega) | (apply VIx.mk (j := 0); exact rfl; omega) | (apply VLdN.mk; (focus ((repeat (first | (with_reducible apply ldn_blk) | (with_reducible apply ldn_row) | (with_reducible assumption) | (with_reducible apply ldn_skip))); done)); exact rfl) | (apply VSt.mk; (focus ((repeat (first | (with_reducible exact At.here) | (with_reducible apply At.there))); done)); exact rfl) | (apply VSt.old; (focus ((repeat (first | (with_reducible exact Upd.here) | (with_reducible apply Upd.there))); done)); (first | exact rfl | (simp; omega)); exact rfl) | (apply v_wr64; omega) | (apply VWr.mk; assumption) | (apply VNz.mk; omega) | refine slist_and (by (repeat (first | exact List.nil_sublist _ | exact List.Sublist.refl _ | refine List.Sublist.cons_cons _ ?_ | refine List.Sublist.cons _ ?_))) ?_ | (apply v_ixn; omega)); (conv => whnf))); try (first | apply VStop.mk | apply VCall.stop))
      exact v_rnd (gm - 1) (by omega) (l := [(0, _), (3, _), (11, _), (12, _), (13, _), (14, _), (15, _), (16, _), (17, _)])
        (B := [.own v3' 67 2 ((mapUpto fz k).length + 1) (pairCells (mapUpto fz k) ++ [.int .i64 py1, .int .i64 ((1 + z4.tmod 4) * py2)]), .own v2' 67 2 ((mapUpto fy k).length + 1) (pairCells (mapUpto fy k) ++ [.int .i64 py1, .int .i64 (py2 + z3.tmod 600)]), .own v1' 67 2 ((mapUpto fx k).length + 1) (pairCells (mapUpto fx k) ++ [.int .i64 (py1 + z2.tmod 50), .int .i64 py2])])
        ⟨rfl, rfl, rfl, rfl, rfl, rfl, rfl, rfl, rfl, trivial⟩ (by (repeat (first | exact List.nil_sublist _ | exact List.Sublist.refl _ | refine List.Sublist.cons_cons _ ?_ | refine List.Sublist.cons _ ?_)))
        ⟨rfl, k + 1, v1', v2', v3', by omega, by rw [sx, sy, sz, List.length_append, List.length_append, List.length_append, pairCells_append, pairCells_append, pairCells_append]; rfl, rfl⟩
    · obtain rfl : k = xs.length := by omega
      have px : ∀ p ∈ xs, (p.1 + z2.tmod 50, p.2) ∈ mapUpto fx xs.length := fun p hp => by
        obtain ⟨i, hi, rfl⟩ := mem_lotAt hp
        exact (mapUpto_mem _ _ _).2 ⟨i, hi, by rw [hfx]⟩
      have px' : ∀ q ∈ mapUpto fx xs.length, (q.1 - z2.tmod 50, q.2) ∈ xs := fun q hq => by
        obtain ⟨j, hj, e⟩ := (mapUpto_mem _ _ _).1 hq
        rw [hfx] at e
        rw [← e]
        dsimp only
        rw [show (lotAt xs j).1 + z2.tmod 50 - z2.tmod 50 = (lotAt xs j).1 by omega]
        exact lotAt_mem hj
      have py : ∀ p ∈ xs, (p.1, 1 * p.2 + z3.tmod 600) ∈ mapUpto fy xs.length := fun p hp => by
        obtain ⟨i, hi, rfl⟩ := mem_lotAt hp
        exact (mapUpto_mem _ _ _).2 ⟨i, hi, by rw [hfy]; dsimp only; rw [Int.one_mul]⟩
      have py' : ∀ q ∈ mapUpto fy xs.length, ∃ p ∈ xs, q = (p.1, 1 * p.2 + z3.tmod 600) := fun q hq => by
        obtain ⟨j, hj, e⟩ := (mapUpto_mem _ _ _).1 hq
        rw [hfy] at e
        exact ⟨_, lotAt_mem hj, by rw [← e]; dsimp only; rw [Int.one_mul]⟩
      have pz : ∀ p ∈ xs, (p.1, (1 + z4.tmod 4) * p.2 + 0) ∈ mapUpto fz xs.length := fun p hp => by
        obtain ⟨i, hi, rfl⟩ := mem_lotAt hp
        exact (mapUpto_mem _ _ _).2 ⟨i, hi, by rw [hfz]; dsimp only; rw [Int.add_zero]⟩
      have pz' : ∀ q ∈ mapUpto fz xs.length, ∃ p ∈ xs, q = (p.1, (1 + z4.tmod 4) * p.2 + 0) := fun q hq => by
        obtain ⟨j, hj, e⟩ := (mapUpto_mem _ _ _).1 hq
        rw [hfz] at e
        exact ⟨_, lotAt_mem hj, by rw [← e]; dsimp only; rw [Int.add_zero]⟩
      have hlX : (mapUpto fx xs.length).length ≤ maxLen := by unfold maxLen; omega
      have hlY : (mapUpto fy xs.length).length ≤ maxLen := by unfold maxLen; omega
      have hlZ : (mapUpto fz xs.length).length ≤ maxLen := by unfold maxLen; omega
      generalize mapUpto fx xs.length = X at *
      generalize mapUpto fy xs.length = Y at *
      generalize mapUpto fz xs.length = Z at *
      obtain ⟨bx, hbx⟩ : ∃ b, decide (checkLots X = 0) = b := ⟨_, rfl⟩
      obtain ⟨by', hby⟩ : ∃ b, decide (checkLots Y = 0) = b := ⟨_, rfl⟩
      obtain ⟨bz, hbz⟩ : ∃ b, decide (checkLots Z = 0) = b := ⟨_, rfl⟩
      have o1 := fun h => (hG.ch_true (t := t) h).2
      have wx : bx = true → Good X ∧ chR X (t + z2.tmod 50) = chR xs t := fun h => by
        have g := Good.of (of_decide_eq_true (hbx.trans h))
        exact ⟨g, shift_ch hG g px px' t⟩
      have wy : by' = true → Good Y ∧ (chR Y t).2 = (chR xs t).2 ∧ ((chR xs t).2 = true → (chR Y t).1 = rat ((chR xs t).1.1 + z3.tmod 600 * (chR xs t).1.2) (chR xs t).1.2) := fun h => by
        have g := Good.of (of_decide_eq_true (hby.trans h))
        have := scale_ch hG g (by omega) py py' t
        rw [Int.one_mul] at this
        exact ⟨g, this⟩
      have wz : bz = true → Good Z ∧ (chR Z t).2 = (chR xs t).2 ∧ ((chR xs t).2 = true → (chR Z t).1 = rat ((1 + z4.tmod 4) * (chR xs t).1.1) (chR xs t).1.2) := fun h => by
        have g := Good.of (of_decide_eq_true (hbz.trans h))
        have := scale_ch hG g (by omega) pz pz' t
        rw [Int.zero_mul, Int.add_zero] at this
        exact ⟨g, this⟩
      have fxk := fun (Bl : Option Addr) (cl : Nat) w1 h => fine_any Bl cl X w1 h hlX
      have fyk := fun (Bl : Option Addr) (cl : Nat) w1 h => fine_any Bl cl Y w1 h hlY
      have fzk := fun (Bl : Option Addr) (cl : Nat) w1 h => fine_any Bl cl Z w1 h hlZ
      rw [hbx] at fxk
      rw [hby] at fyk
      rw [hbz] at fzk
      obtain ⟨⟨⟨r1, r2⟩, i⟩, e1⟩ : ∃ r, chR xs t = r := ⟨_, rfl⟩
      obtain ⟨⟨⟨y1, y2⟩, iy⟩, e2⟩ : ∃ r, chR Y t = r := ⟨_, rfl⟩
      obtain ⟨⟨⟨u1, u2⟩, iz⟩, e3⟩ : ∃ r, chR Z t = r := ⟨_, rfl⟩
      have c1 := cheap_call Al c xs w hr hG t ht e1
      rw [e1] at wx o1
      rw [e1, e2] at wy
      rw [e1, e3] at wz
      dsimp only at wy wz o1
      have cx := fun (h : bx = true) (h2 : t + z2.tmod 50 ≤ 100) (Bl : Option Addr) (cl : Nat) => cheap_at (Al := Bl) (c := cl) (wx h).1 (show 0 ≤ t + z2.tmod 50 ∧ t + z2.tmod 50 ≤ 100 by omega) (wx h).2
      have cy := fun (h : by' = true) (Bl : Option Addr) (cl : Nat) => cheap_at (Al := Bl) (c := cl) (wy h).1 ht e2
      have cz := fun (h : bz = true) (Bl : Option Addr) (cl : Nat) => cheap_at (Al := Bl) (c := cl) (wz h).1 ht e3
      have jy : by' = true → iy = i := fun h => (wy h).2.1
      have jz : bz = true → iz = i := fun h => (wz h).2.1
      have fit : i = true → 1 ≤ r2 ∧ r2 ≤ 200 ∧ 0 ≤ r1 ∧ r1 ≤ 200000 := fun h => (o1 h).fits
      have me : i = true → 0 ≤ z3.tmod 600 * r2 ∧ z3.tmod 600 * r2 ≤ 599 * 200 := fun h => by
        have := fit h
        exact mul_mono hE.1 hE.2 (by omega) (by omega)
      have mf : i = true → 0 ≤ (1 + z4.tmod 4) * r1 ∧ (1 + z4.tmod 4) * r1 ≤ 4 * 200000 := fun h => by
        have := fit h
        exact mul_mono (by omega) (by omega) (by omega) (by omega)
      have by1 : by' = true → i = true → ∀ w1, Calls Try.prog 47 #[.int .i64 (r1 + z3.tmod 600 * r2), .int .i64 r2] w1 fun e w' => e = .returned (.agg #[.int .i64 y1, .int .i64 y2]) ∧ Below w1.heap.size w1 w' := fun h h2 w1 => by
        have h3 := fit h2
        have h4 := me h2
        have := refBy_any (r1 + z3.tmod 600 * r2) r2 w1 (by omega) (by omega)
        rwa [← (wy h).2.2 h2] at this
      have bz1 : bz = true → i = true → ∀ w1, Calls Try.prog 47 #[.int .i64 ((1 + z4.tmod 4) * r1), .int .i64 r2] w1 fun e w' => e = .returned (.agg #[.int .i64 u1, .int .i64 u2]) ∧ Below w1.heap.size w1 w' := fun h h2 w1 => by
        have h3 := fit h2
        have h4 := mf h2
        have := refBy_any ((1 + z4.tmod 4) * r1) r2 w1 (by omega) (by omega)
        rwa [← (wz h).2.2 h2] at this
      clear wx wy wz px px' py py' pz pz' o1 e1 e2 e3
      refine tr_own_slice (.head _) ?_
      rintro ⟨Bz, cz', rfl⟩
      refine tr_own_slice (.tail _ (.head _)) ?_
      rintro ⟨By, cy', rfl⟩
      refine tr_own_slice (.tail _ (.tail _ (.head _))) ?_
      rintro ⟨Bx, cx', rfl⟩
      ((try first | apply tr_v Try.tabOk | apply ot_v Try.tabOk); (conv => whnf); (repeat ((first | (apply VCall.q; kernel_rfl; (focus (intro w1 hs; first | with_reducible apply c1 w1 _ hs))) | (apply VLd.mk; (focus ((repeat (first | ((with_reducible apply ld_blk); exact rfl) | ((with_reducible apply ld_row); exact rfl) | ((with_reducible apply ld_row0); exact rfl) | (with_reducible assumption) | (with_reducible exact CellAt.base (by assumption)) | (with_reducible apply ld_skip))); done))) | (apply VRng.mk; omega) | apply VBr.t | apply VBr.f | (apply v_t; omega) | (apply v_f; omega) | apply v_d | (apply VNew.mk; intro g hg) | (apply VIx.mk; exact rfl; omega) | (apply VIx.mk (j := 0); exact rfl; omega) | (apply VLdN.mk; (focus ((repeat (first | (with_reducible apply ldn_blk) | (with_reducible apply ldn_row) | (with_reducible assumption) | (with_reducible apply ldn_skip))); done)); exact rfl) | (apply VSt.mk; (focus ((repeat (first | (with_reducible exact At.here) | (with_reducible apply At.there))); done)); exact rfl) | (apply VSt.old; (focus ((repeat (first | (with_reducible exact Upd.here) | (with_reducible apply Upd.there))); done)); (first | exact rfl | (simp; omega)); exact rfl) | (apply v_wr64; omega) | (apply VWr.mk; assumption) | (apply VNz.mk; omega) | refine slist_and (by (repeat (first | exact List.nil_sublist _ | exact List.Sublist.refl _ | refine List.Sublist.cons_cons _ ?_ | refine List.Sublist.cons _ ?_))) ?_ | (apply v_ixn; omega)); (conv => whnf))); try (first | apply VStop.mk | apply VCall.stop))
      have nb : ∀ b : Bool, (!(b == b)) = false := fun b => by cases b <;> rfl
      have nb2 : ∀ b : Bool, (b == b) = true := fun b => by cases b <;> rfl
      by_cases hle : t + z2.tmod 50 ≤ 100
      · cases bx <;> cases by' <;> cases bz <;> (first | (obtain rfl : i = iy := (jy rfl).symm) | skip) <;> (first | (obtain rfl : i = iz := (jz rfl).symm) | skip) <;> cases i <;> (first | (have me := me rfl; have mf := mf rfl; have fit := fit rfl) | skip) <;>
          (((try first | apply tr_v Try.tabOk | apply ot_v Try.tabOk); (conv => whnf); (repeat ((first | ((first | apply VStop.mk | apply VCall.stop); (first | refine ot_eqlb true rfl rfl rfl rfl rfl (bool_eq _ _) (nb2 _) ?_ | refine ot_neqb false rfl rfl rfl rfl rfl (bool_eq _ _) (nb _) ?_ | refine tr_region_lex (by kernel_rfl) [.rd, .rd, .rd, .rd, .rd, .rd, .rd, .rd, .rd, .rd, .rd, .rd, .rd, .rd, .rd, .rd, .rd, .rd, .rd, .rd, .rd, .rd, .cr, .rd, .rd, .rd] rfl (by kernel_rfl) ?_ | refine tr_region_lex (by kernel_rfl) [.rd, .rd, .rd, .rd, .rd, .rd, .rd, .rd, .rd, .rd, .rd, .rd, .rd, .rd, .rd, .rd, .rd, .cr, .rd, .rd, .rd, .rd, .cr, .rd, .rd] rfl (by kernel_rfl) ?_); try first | apply ot_v Try.tabOk | apply tr_v Try.tabOk) | (apply VEq.mk true; kernel_rfl; exact rat_same _ _) | (apply VCall.q; kernel_rfl; (focus (intro w1 hs; first | with_reducible apply fxk _ _ w1 (hs.own_rd (by (repeat (first | with_unfolding_all exact List.Mem.head _ | assumption | with_unfolding_all refine List.Mem.tail _ ?_)))) | with_reducible apply fyk _ _ w1 (hs.own_rd (by (repeat (first | with_unfolding_all exact List.Mem.head _ | assumption | with_unfolding_all refine List.Mem.tail _ ?_)))) | with_reducible apply fzk _ _ w1 (hs.own_rd (by (repeat (first | with_unfolding_all exact List.Mem.head _ | assumption | with_unfolding_all refine List.Mem.tail _ ?_)))) | with_reducible apply cx rfl hle _ _ w1 (hs.own_rd (by (repeat (first | with_unfolding_all exact List.Mem.head _ | assumption | with_unfolding_all refine List.Mem.tail _ ?_)))) | with_reducible apply cy rfl _ _ w1 (hs.own_rd (by (repeat (first | with_unfolding_all exact List.Mem.head _ | assumption | with_unfolding_all refine List.Mem.tail _ ?_)))) | with_reducible apply cz rfl _ _ w1 (hs.own_rd (by (repeat (first | with_unfolding_all exact List.Mem.head _ | assumption | with_unfolding_all refine List.Mem.tail _ ?_)))) | with_reducible apply by1 rfl rfl w1 | with_reducible apply bz1 rfl rfl w1 | with_reducible apply works_any w1))) | (apply VLd.mk; (focus ((repeat (first | ((with_reducible apply ld_blk); exact rfl) | ((with_reducible apply ld_row); exact rfl) | ((with_reducible apply ld_row0); exact rfl) | (with_reducible assumption) | (with_reducible exact CellAt.base (by assumption)) | (with_reducible apply ld_skip))); done))) | (apply VRng.mk; omega) | apply VBr.t | apply VBr.f | (apply v_t; omega) | (apply v_f; omega) | apply v_d | (apply VNew.mk; intro g hg) | (apply VIx.mk; exact rfl; omega) | (apply VIx.mk (j := 0); exact rfl; omega) | (apply VLdN.mk; (focus ((repeat (first | (with_reducible apply ldn_blk) | (with_reducible apply ldn_row) | (with_reducible assumption) | (with_reducible apply ldn_skip))); done)); exact rfl) | (apply VSt.mk; (focus ((repeat (first | (with_reducible exact At.here) | (with_reducible apply At.there))); done)); exact rfl) | (apply VSt.old; (focus ((repeat (first | (with_reducible exact Upd.here) | (with_reducible apply Upd.there))); done)); (first | exact rfl | (simp; omega)); exact rfl) | (apply v_wr64; omega) | (apply VWr.mk; assumption) | (apply VNz.mk; omega) | refine slist_and (by (repeat (first | exact List.nil_sublist _ | exact List.Sublist.refl _ | refine List.Sublist.cons_cons _ ?_ | refine List.Sublist.cons _ ?_))) ?_ | (apply v_ixn; omega)); (conv => whnf))); try (first | apply VStop.mk | apply VCall.stop)); (apply VRet.mk); refine ret1 (by first | exact .inl rfl | exact .inr rfl) rfl (by first | exact rv_tmp rfl | exact rv_row Try.tabOk rfl rfl rfl (by first | exact cells_blk_all (by (repeat (first | exact List.Mem.head _ | assumption | refine List.Mem.tail _ ?_))) | exact cells_row0 (by (repeat (first | exact List.Mem.head _ | assumption | refine List.Mem.tail _ ?_)))) rfl | exact rv_sc Try.tabOk rfl rfl rfl (by first | exact cell_blk (by (repeat (first | exact List.Mem.head _ | assumption | refine List.Mem.tail _ ?_))) (by rfl) | exact cell_row (by (repeat (first | exact List.Mem.head _ | assumption | refine List.Mem.tail _ ?_))) (by rfl) | exact cell_own (by (repeat (first | exact List.Mem.head _ | assumption | refine List.Mem.tail _ ?_))) (by rfl) | exact cell_row0 (by (repeat (first | exact List.Mem.head _ | assumption | refine List.Mem.tail _ ?_))) (by rfl) | assumption | exact CellAt.base (by assumption))) ?_; exact fun w h => ⟨rfl, h.base⟩)
      · cases bx <;> cases by' <;> cases bz <;> (first | (obtain rfl : i = iy := (jy rfl).symm) | skip) <;> (first | (obtain rfl : i = iz := (jz rfl).symm) | skip) <;> cases i <;> (first | (have me := me rfl; have mf := mf rfl; have fit := fit rfl) | skip) <;>
          (((try first | apply tr_v Try.tabOk | apply ot_v Try.tabOk); (conv => whnf); (repeat ((first | ((first | apply VStop.mk | apply VCall.stop); (first | refine ot_eqlb true rfl rfl rfl rfl rfl (bool_eq _ _) (nb2 _) ?_ | refine ot_neqb false rfl rfl rfl rfl rfl (bool_eq _ _) (nb _) ?_ | refine tr_region_lex (by kernel_rfl) [.rd, .rd, .rd, .rd, .rd, .rd, .rd, .rd, .rd, .rd, .rd, .rd, .rd, .rd, .rd, .rd, .rd, .rd, .rd, .rd, .rd, .rd, .cr, .rd, .rd, .rd] rfl (by kernel_rfl) ?_ | refine tr_region_lex (by kernel_rfl) [.rd, .rd, .rd, .rd, .rd, .rd, .rd, .rd, .rd, .rd, .rd, .rd, .rd, .rd, .rd, .rd, .rd, .cr, .rd, .rd, .rd, .rd, .cr, .rd, .rd] rfl (by kernel_rfl) ?_); try first | apply ot_v Try.tabOk | apply tr_v Try.tabOk) | (apply VEq.mk true; kernel_rfl; exact rat_same _ _) | (apply VCall.q; kernel_rfl; (focus (intro w1 hs; first | with_reducible apply fxk _ _ w1 (hs.own_rd (by (repeat (first | with_unfolding_all exact List.Mem.head _ | assumption | with_unfolding_all refine List.Mem.tail _ ?_)))) | with_reducible apply fyk _ _ w1 (hs.own_rd (by (repeat (first | with_unfolding_all exact List.Mem.head _ | assumption | with_unfolding_all refine List.Mem.tail _ ?_)))) | with_reducible apply fzk _ _ w1 (hs.own_rd (by (repeat (first | with_unfolding_all exact List.Mem.head _ | assumption | with_unfolding_all refine List.Mem.tail _ ?_)))) | with_reducible apply cy rfl _ _ w1 (hs.own_rd (by (repeat (first | with_unfolding_all exact List.Mem.head _ | assumption | with_unfolding_all refine List.Mem.tail _ ?_)))) | with_reducible apply cz rfl _ _ w1 (hs.own_rd (by (repeat (first | with_unfolding_all exact List.Mem.head _ | assumption | with_unfolding_all refine List.Mem.tail _ ?_)))) | with_reducible apply by1 rfl rfl w1 | with_reducible apply bz1 rfl rfl w1 | with_reducible apply works_any w1))) | (apply VLd.mk; (focus ((repeat (first | ((with_reducible apply ld_blk); exact rfl) | ((with_reducible apply ld_row); exact rfl) | ((with_reducible apply ld_row0); exact rfl) | (with_reducible assumption) | (with_reducible exact CellAt.base (by assumption)) | (with_reducible apply ld_skip))); done))) | (apply VRng.mk; omega) | apply VBr.t | apply VBr.f | (apply v_t; omega) | (apply v_f; omega) | apply v_d | (apply VNew.mk; intro g hg) | (apply VIx.mk; exact rfl; omega) | (apply VIx.mk (j := 0); exact rfl; omega) | (apply VLdN.mk; (focus ((repeat (first | (with_reducible apply ldn_blk) | (with_reducible apply ldn_row) | (with_reducible assumption) | (with_reducible apply ldn_skip))); done)); exact rfl) | (apply VSt.mk; (focus ((repeat (first | (with_reducible exact At.here) | (with_reducible apply At.there))); done)); exact rfl) | (apply VSt.old; (focus ((repeat (first | (with_reducible exact Upd.here) | (with_reducible apply Upd.there))); done)); (first | exact rfl | (simp; omega)); exact rfl) | (apply v_wr64; omega) | (apply VWr.mk; assumption) | (apply VNz.mk; omega) | refine slist_and (by (repeat (first | exact List.nil_sublist _ | exact List.Sublist.refl _ | refine List.Sublist.cons_cons _ ?_ | refine List.Sublist.cons _ ?_))) ?_ | (apply v_ixn; omega)); (conv => whnf))); try (first | apply VStop.mk | apply VCall.stop)); (apply VRet.mk); refine ret1 (by first | exact .inl rfl | exact .inr rfl) rfl (by first | exact rv_tmp rfl | exact rv_row Try.tabOk rfl rfl rfl (by first | exact cells_blk_all (by (repeat (first | exact List.Mem.head _ | assumption | refine List.Mem.tail _ ?_))) | exact cells_row0 (by (repeat (first | exact List.Mem.head _ | assumption | refine List.Mem.tail _ ?_)))) rfl | exact rv_sc Try.tabOk rfl rfl rfl (by first | exact cell_blk (by (repeat (first | exact List.Mem.head _ | assumption | refine List.Mem.tail _ ?_))) (by rfl) | exact cell_row (by (repeat (first | exact List.Mem.head _ | assumption | refine List.Mem.tail _ ?_))) (by rfl) | exact cell_own (by (repeat (first | exact List.Mem.head _ | assumption | refine List.Mem.tail _ ?_))) (by rfl) | exact cell_row0 (by (repeat (first | exact List.Mem.head _ | assumption | refine List.Mem.tail _ ?_))) (by rfl) | assumption | exact CellAt.base (by assumption))) ?_; exact fun w h => ⟨rfl, h.base⟩)
end
end Go.Proofs.Ytfjnnegaljfkgaa
