/- Layer 3, blends: The examples of the chapter: lemmas for the rows of this seat. No conditions. -/
import Derived.Test.YtfjnnegaljfkgaaProg
import Derived.Test.YtfjnnegaljfkgaaBase
import Derived.Test.YtfjnnegaljfkgaaPlain
import Derived.Test.YtfjnnegaljfkgaaWA
import Derived.Test.YtfjnnegaljfkgaaSeg
import Derived.Test.YtfjnnegaljfkgaaKeys
import Derived.Test.YtfjnnegaljfkgaaW20
import Derived.Test.YtfjnnegaljfkgaaW21
import Derived.Test.YtfjnnegaljfkgaaW22
import Derived.Test.YtfjnnegaljfkgaaS1
import Derived.Test.YtfjnnegaljfkgaaS5
import Derived.Test.YtfjnnegaljfkgaaS12
import Derived.Test.YtfjnnegaljfkgaaTab
import Derived.Test.YtfjnnegaljfkgaaS14
import Derived.Test.YtfjnnegaljfkgaaArms
import Derived.Test.YtfjnnegaljfkgaaWE
import Derived.Test.YtfjnnegaljfkgaaB1
import Derived.Test.YtfjnnegaljfkgaaB2
import Derived.Test.YtfjnnegaljfkgaaB3
import Derived.Test.YtfjnnegaljfkgaaB4
import Derived.Test.YtfjnnegaljfkgaaB5
import Derived.Test.YtfjnnegaljfkgaaB6
import Derived.Test.YtfjnnegaljfkgaaB7
import Derived.Test.YtfjnnegaljfkgaaB8
import Derived.Test.YtfjnnegaljfkgaaB9
import Derived.Test.YtfjnnegaljfkgaaB10
import Derived.Test.YtfjnnegaljfkgaaB11
import Derived.Test.YtfjnnegaljfkgaaB12
import Derived.Test.YtfjnnegaljfkgaaB13
import Derived.Test.YtfjnnegaljfkgaaB14
import Derived.Test.YtfjnnegaljfkgaaC1
import Derived.Test.YtfjnnegaljfkgaaC2a
import Derived.Test.YtfjnnegaljfkgaaV
set_option linter.all false
namespace Go.Proofs.Ytfjnnegaljfkgaa
open Go.RowKit
/-! ## The examples of the chapter -/
set_option maxHeartbeats 8000000 in
set_option maxRecDepth 200000 in
theorem works_any (w : World) : Calls Try.prog 17 #[] w fun e w' => e = .returned (.bool true) ∧ Below w.heap.size w w' := by
  refine fn_v Try.tabOk (n := 326) (args := []) (A := []) Try.func17 rfl rfl (Nat.le_of_ble_eq_true rfl) (St.nil (Below.refl _ _)) ?_
  ((conv => whnf); apply VCall.stop)
  refine ot_call_row (sz := 2) (m := 5) (xs := pairCells fiveL) (by decide) rfl rfl rfl (by kernel_rfl) (evl_of rfl) (fun w1 hs => five_any w1) (by decide) (fun _ _ _ => ?_)
  dsimp only [freezeL]
  (apply ot_v Try.tabOk; (conv => whnf); apply VCall.stop)
  refine ot_call_row (sz := 2) (m := 2) (xs := pairCells twoL) (by decide) rfl rfl rfl (by kernel_rfl) (evl_of rfl) (fun w1 hs => two_any w1) (by decide) (fun _ _ _ => ?_)
  dsimp only [freezeL]
  (apply ot_v Try.tabOk; (conv => whnf); (repeat ((apply VNew.mk; intro g hg); (conv => whnf))); apply VCall.stop)
  refine ot_call_q rfl rfl rfl (by kernel_rfl) (evl_of rfl) (fun w1 hs => longs_any _ w1) ?_
  (apply ot_v Try.tabOk; (conv => whnf); apply VCall.stop)
  refine ot_call_q (v := .tuple #[.agg #[.int .i64 25, .int .i64 1], .agg #[.int .i64 85, .int .i64 2], .int .i64 0]) rfl rfl rfl (by kernel_rfl) (evl_of rfl) (fun w1 hs => (checkBlend_any _ _ _ _ fiveL [0, 1, 0, 1, 0] w1 (hs.row_reads (by (repeat (first | exact List.Mem.head _ | assumption | refine List.Mem.tail _ ?_))) rfl) (by decide) (hs.blk_reads (by (repeat (first | exact List.Mem.head _ | assumption | refine List.Mem.tail _ ?_))) rfl) (by decide)).mono fun e w' h => ⟨h.1.trans (by kernel_rfl), h.2⟩) ?_
  (apply ot_v Try.tabOk; (conv => whnf); (repeat ((first | (apply VNew.mk; intro g hg) | (apply VSt.mk; (focus ((repeat (first | (with_reducible exact At.here) | (with_reducible apply At.there))); done)); exact rfl)); (conv => whnf))); apply VCall.stop)
  refine ot_call_q rfl rfl rfl (by kernel_rfl) (evl_of rfl) (fun w1 hs => longs_any _ w1) ?_
  (apply ot_v Try.tabOk; (conv => whnf); apply VCall.stop)
  refine ot_call_q (v := .tuple #[.agg #[.int .i64 0, .int .i64 0], .agg #[.int .i64 0, .int .i64 0], .int .i64 6]) rfl rfl rfl (by kernel_rfl) (evl_of rfl) (fun w1 hs => (checkBlend_any _ _ _ _ fiveL [0, 0, 0, 0, 0] w1 (hs.row_reads (by (repeat (first | exact List.Mem.head _ | assumption | refine List.Mem.tail _ ?_))) rfl) (by decide) (hs.blk_reads (by (repeat (first | exact List.Mem.head _ | assumption | refine List.Mem.tail _ ?_))) rfl) (by decide)).mono fun e w' h => ⟨h.1.trans (by kernel_rfl), h.2⟩) ?_
  (apply ot_v Try.tabOk; (conv => whnf); (repeat ((first | (apply VNew.mk; intro g hg) | (apply VSt.mk; (focus ((repeat (first | (with_reducible exact At.here) | (with_reducible apply At.there))); done)); exact rfl)); (conv => whnf))); apply VCall.stop)
  refine ot_call_q rfl rfl rfl (by kernel_rfl) (evl_of rfl) (fun w1 hs => longs_any _ w1) ?_
  (apply ot_v Try.tabOk; (conv => whnf); apply VCall.stop)
  refine ot_call_q (v := .tuple #[.agg #[.int .i64 0, .int .i64 0], .agg #[.int .i64 0, .int .i64 0], .int .i64 15]) rfl rfl rfl (by kernel_rfl) (evl_of rfl) (fun w1 hs => (checkBlend_any _ _ _ _ fiveL [1, 1] w1 (hs.row_reads (by (repeat (first | exact List.Mem.head _ | assumption | refine List.Mem.tail _ ?_))) rfl) (by decide) (hs.blk_reads (by (repeat (first | exact List.Mem.head _ | assumption | refine List.Mem.tail _ ?_))) rfl) (by decide)).mono fun e w' h => ⟨h.1.trans (by kernel_rfl), h.2⟩) ?_
  (apply ot_v Try.tabOk; (conv => whnf); (repeat ((first | (apply VNew.mk; intro g hg) | (apply VSt.mk; (focus ((repeat (first | (with_reducible exact At.here) | (with_reducible apply At.there))); done)); exact rfl)); (conv => whnf))); apply VCall.stop)
  refine ot_call_q (v := .tuple #[.agg #[.int .i64 85, .int .i64 2], .int .i64 0]) rfl rfl rfl (by kernel_rfl) (evl_of rfl) (fun w1 hs => (cheapest_any _ _ fiveL 25 w1 (hs.row_reads (by (repeat (first | exact List.Mem.head _ | assumption | refine List.Mem.tail _ ?_))) rfl) (by decide)).mono fun e w' h => ⟨h.1.trans (by kernel_rfl), h.2⟩) ?_
  (apply ot_v Try.tabOk; (conv => whnf); (repeat ((first | (apply VNew.mk; intro g hg) | (apply VSt.mk; (focus ((repeat (first | (with_reducible exact At.here) | (with_reducible apply At.there))); done)); exact rfl)); (conv => whnf))); apply VCall.stop)
  refine ot_call_q (v := .tuple #[.agg #[.int .i64 0, .int .i64 0], .int .i64 19]) rfl rfl rfl (by kernel_rfl) (evl_of rfl) (fun w1 hs => (cheapest_any _ _ fiveL 45 w1 (hs.row_reads (by (repeat (first | exact List.Mem.head _ | assumption | refine List.Mem.tail _ ?_))) rfl) (by decide)).mono fun e w' h => ⟨h.1.trans (by kernel_rfl), h.2⟩) ?_
  (apply ot_v Try.tabOk; (conv => whnf); (repeat ((first | (apply VNew.mk; intro g hg) | (apply VSt.mk; (focus ((repeat (first | (with_reducible exact At.here) | (with_reducible apply At.there))); done)); exact rfl)); (conv => whnf))); apply VCall.stop)
  refine ot_call_q (v := .tuple #[.agg #[.int .i64 0, .int .i64 0], .int .i64 3]) rfl rfl rfl (by kernel_rfl) (evl_of rfl) (fun w1 hs => (cheapest_any _ _ fiveL 101 w1 (hs.row_reads (by (repeat (first | exact List.Mem.head _ | assumption | refine List.Mem.tail _ ?_))) rfl) (by decide)).mono fun e w' h => ⟨h.1.trans (by kernel_rfl), h.2⟩) ?_
  (apply ot_v Try.tabOk; (conv => whnf); (repeat ((first | (apply VNew.mk; intro g hg) | (apply VSt.mk; (focus ((repeat (first | (with_reducible exact At.here) | (with_reducible apply At.there))); done)); exact rfl)); (conv => whnf))); apply VCall.stop)
  refine ot_call_q (v := .tuple #[.agg #[.int .i64 20, .int .i64 1], .int .i64 0]) rfl rfl rfl (by kernel_rfl) (evl_of rfl) (fun w1 hs => (atLeast_any _ _ twoL 15 w1 (hs.row_reads (by (repeat (first | exact List.Mem.head _ | assumption | refine List.Mem.tail _ ?_))) rfl) (by decide)).mono fun e w' h => ⟨h.1.trans (by kernel_rfl), h.2⟩) ?_
  (apply ot_v Try.tabOk; (conv => whnf); (repeat ((first | (apply VNew.mk; intro g hg) | (apply VSt.mk; (focus ((repeat (first | (with_reducible exact At.here) | (with_reducible apply At.there))); done)); exact rfl)); (conv => whnf))); apply VCall.stop)
  refine ot_call_q (v := .tuple #[.agg #[.int .i64 0, .int .i64 0], .int .i64 19]) rfl rfl rfl (by kernel_rfl) (evl_of rfl) (fun w1 hs => (atLeast_any _ _ fiveL 41 w1 (hs.row_reads (by (repeat (first | exact List.Mem.head _ | assumption | refine List.Mem.tail _ ?_))) rfl) (by decide)).mono fun e w' h => ⟨h.1.trans (by kernel_rfl), h.2⟩) ?_
  (apply ot_v Try.tabOk; (conv => whnf); (repeat ((first | (apply VNew.mk; intro g hg) | (apply VSt.mk; (focus ((repeat (first | (with_reducible exact At.here) | (with_reducible apply At.there))); done)); exact rfl)); (conv => whnf))); apply VCall.stop)
  refine ot_call_row2 (sz := 1) (m := 5) (xs := i64s [0, 5, 0, 5, 0]) (q := 0) (by decide) rfl rfl rfl (by kernel_rfl) (evl_of rfl) (fun w1 hs => ints_ret (l := [0, 5, 0, 5, 0]) (parts_any _ _ fiveL 25 w1 (hs.row_reads (by (repeat (first | exact List.Mem.head _ | assumption | refine List.Mem.tail _ ?_))) rfl) (by decide)) (by kernel_rfl)) (by decide) (fun _ _ _ => ?_)
  dsimp only [freezeL]
  (apply ot_v Try.tabOk; (conv => whnf); apply VCall.stop)
  refine ot_call_q rfl rfl rfl (by kernel_rfl) (evl_of rfl) (fun w1 hs => lineL_any 2 10 3 w1) ?_
  (apply ot_v Try.tabOk; (conv => whnf); apply VCall.stop)
  refine ot_call_q (v := .tuple #[.agg #[.int .i64 85, .int .i64 2], .int .i64 0]) rfl rfl rfl (by kernel_rfl) (evl_of rfl) (fun w1 hs => (checkLine_any _ _ fiveL 2 10 3 25 w1 (hs.row_reads (by (repeat (first | exact List.Mem.head _ | assumption | refine List.Mem.tail _ ?_))) rfl) (by decide)).mono fun e w' h => ⟨h.1.trans (by kernel_rfl), h.2⟩) ?_
  (apply ot_v Try.tabOk; (conv => whnf); (repeat ((first | (apply VNew.mk; intro g hg) | (apply VSt.mk; (focus ((repeat (first | (with_reducible exact At.here) | (with_reducible apply At.there))); done)); exact rfl)); (conv => whnf))); apply VCall.stop)
  refine ot_call_q rfl rfl rfl (by kernel_rfl) (evl_of rfl) (fun w1 hs => lineL_any 1 0 2 w1) ?_
  (apply ot_v Try.tabOk; (conv => whnf); apply VCall.stop)
  refine ot_call_q (v := .tuple #[.agg #[.int .i64 0, .int .i64 0], .int .i64 16]) rfl rfl rfl (by kernel_rfl) (evl_of rfl) (fun w1 hs => (checkLine_any _ _ fiveL 1 0 2 25 w1 (hs.row_reads (by (repeat (first | exact List.Mem.head _ | assumption | refine List.Mem.tail _ ?_))) rfl) (by decide)).mono fun e w' h => ⟨h.1.trans (by kernel_rfl), h.2⟩) ?_
  (apply ot_v Try.tabOk; (conv => whnf); (repeat ((first | (apply VNew.mk; intro g hg) | (apply VSt.mk; (focus ((repeat (first | (with_reducible exact At.here) | (with_reducible apply At.there))); done)); exact rfl)); (conv => whnf))); apply VCall.stop)
  refine ot_call_q rfl rfl rfl (by kernel_rfl) (evl_of rfl) (fun w1 hs => lineL_any 0 0 0 w1) ?_
  (apply ot_v Try.tabOk; (conv => whnf); apply VCall.stop)
  refine ot_call_q (v := .tuple #[.agg #[.int .i64 0, .int .i64 0], .int .i64 3]) rfl rfl rfl (by kernel_rfl) (evl_of rfl) (fun w1 hs => (checkLine_any _ _ fiveL 0 0 0 25 w1 (hs.row_reads (by (repeat (first | exact List.Mem.head _ | assumption | refine List.Mem.tail _ ?_))) rfl) (by decide)).mono fun e w' h => ⟨h.1.trans (by kernel_rfl), h.2⟩) ?_
  (apply ot_v Try.tabOk; (conv => whnf); (repeat ((first | (apply VNew.mk; intro g hg) | (apply VSt.mk; (focus ((repeat (first | (with_reducible exact At.here) | (with_reducible apply At.there))); done)); exact rfl)); (conv => whnf))); apply VCall.stop)
  refine ot_call_q (v := .tuple #[.agg #[.int .i64 10, .int .i64 50, .int .i64 15], .int .i64 0]) rfl rfl rfl (by kernel_rfl) (evl_of rfl) (fun w1 hs => (lineP_any _ _ fiveL 25 w1 (hs.row_reads (by (repeat (first | exact List.Mem.head _ | assumption | refine List.Mem.tail _ ?_))) rfl) (by decide)).mono fun e w' h => ⟨h.1.trans (by kernel_rfl), h.2⟩) ?_
  (apply ot_v Try.tabOk; (conv => whnf); (repeat ((first | (apply VNew.mk; intro g hg) | (apply VSt.mk; (focus ((repeat (first | (with_reducible exact At.here) | (with_reducible apply At.there))); done)); exact rfl)); (conv => whnf))); apply VCall.stop)
  refine ot_call_q (v := .tuple #[.agg #[.int .i64 1, .int .i64 20, .int .i64 0], .int .i64 0]) rfl rfl rfl (by kernel_rfl) (evl_of rfl) (fun w1 hs => (floor_any _ _ twoL 15 w1 (hs.row_reads (by (repeat (first | exact List.Mem.head _ | assumption | refine List.Mem.tail _ ?_))) rfl) (by decide)).mono fun e w' h => ⟨h.1.trans (by kernel_rfl), h.2⟩) ?_
  (apply ot_v Try.tabOk; (conv => whnf); (repeat ((first | (apply VNew.mk; intro g hg) | (apply VSt.mk; (focus ((repeat (first | (with_reducible exact At.here) | (with_reducible apply At.there))); done)); exact rfl)); (conv => whnf))); apply VCall.stop)
  refine ot_call_row2 (sz := 1) (m := 4) (xs := i64s [0, 1, 3, 2]) (q := 0) (by decide) rfl rfl rfl (by kernel_rfl) (evl_of rfl) (fun w1 hs => ints_ret (l := [0, 1, 3, 2]) (cornersP_any _ _ fiveL w1 (hs.row_reads (by (repeat (first | exact List.Mem.head _ | assumption | refine List.Mem.tail _ ?_))) rfl) (by decide)) (by kernel_rfl)) (by decide) (fun _ _ _ => ?_)
  dsimp only [freezeL]
  (apply ot_v Try.tabOk; (conv => whnf); apply VCall.stop)
  refine ot_call_row2 (sz := 1) (m := 1) (xs := i64s [4]) (q := 0) (by decide) rfl rfl rfl (by kernel_rfl) (evl_of rfl) (fun w1 hs => ints_ret (l := [4]) (idleP_any _ _ fiveL w1 (hs.row_reads (by (repeat (first | exact List.Mem.head _ | assumption | refine List.Mem.tail _ ?_))) rfl) (by decide) fun h => h.mixes) (by kernel_rfl)) (by decide) (fun _ _ _ => ?_)
  dsimp only [freezeL]
  (apply ot_v Try.tabOk; (conv => whnf); apply VCall.stop)
  refine ot_call_q (v := .tuple #[.int .i64 3, .int .i64 0]) rfl rfl rfl (by kernel_rfl) (evl_of rfl) (fun w1 hs => (last_any _ _ fiveL 25 4 w1 (hs.row_reads (by (repeat (first | exact List.Mem.head _ | assumption | refine List.Mem.tail _ ?_))) rfl) (by decide)).mono fun e w' h => ⟨h.1.trans (by kernel_rfl), h.2⟩) ?_
  (apply ot_v Try.tabOk; (conv => whnf); apply VCall.stop)
  refine ot_call_q (v := .tuple #[.int .i64 0, .int .i64 19]) rfl rfl rfl (by kernel_rfl) (evl_of rfl) (fun w1 hs => (last_any _ _ fiveL 41 1 w1 (hs.row_reads (by (repeat (first | exact List.Mem.head _ | assumption | refine List.Mem.tail _ ?_))) rfl) (by decide)).mono fun e w' h => ⟨h.1.trans (by kernel_rfl), h.2⟩) ?_
  (apply ot_v Try.tabOk; (conv => whnf); apply VCall.stop)
  refine ot_call_q (v := .tuple #[.int .i64 0, .int .i64 3]) rfl rfl rfl (by kernel_rfl) (evl_of rfl) (fun w1 hs => (last_any _ _ fiveL 25 0 w1 (hs.row_reads (by (repeat (first | exact List.Mem.head _ | assumption | refine List.Mem.tail _ ?_))) rfl) (by decide)).mono fun e w' h => ⟨h.1.trans (by kernel_rfl), h.2⟩) ?_
  (apply ot_v Try.tabOk; (conv => whnf); (repeat ((first | apply VBr.f | (apply v_f; omega)); (conv => whnf))); apply VCall.stop)
  refine ot_call_q (v := .tuple #[.agg #[.int .i64 25, .int .i64 1], .agg #[.int .i64 85, .int .i64 2], .int .i64 0]) rfl rfl rfl (by kernel_rfl) (evl_of rfl) (fun w1 hs => (refCheckBlend_any _ _ _ _ fiveL [0, 5, 0, 5, 0] w1 (hs.row_reads (by (repeat (first | exact List.Mem.head _ | assumption | refine List.Mem.tail _ ?_))) rfl) (by decide) (hs.row_reads (by (repeat (first | exact List.Mem.head _ | assumption | refine List.Mem.tail _ ?_))) rfl)).mono fun e w' h => ⟨h.1.trans (by kernel_rfl), h.2⟩) ?_
  (apply ot_v Try.tabOk; (conv => whnf); (repeat ((first | (apply VNew.mk; intro g hg) | (apply VLdN.mk; (focus ((repeat (first | (with_reducible apply ldn_blk) | (with_reducible apply ldn_row) | (with_reducible assumption) | (with_reducible apply ldn_skip))); done)); exact rfl) | (apply VSt.mk; (focus ((repeat (first | (with_reducible exact At.here) | (with_reducible apply At.there))); done)); exact rfl)); (conv => whnf))); apply VCall.stop)
  refine ot_call_q (v := .tuple #[.agg #[.int .i64 85, .int .i64 2], .int .i64 0]) rfl rfl rfl (by kernel_rfl) (evl_of rfl) (fun w1 hs => (refCheckLine_any _ _ fiveL 10 50 15 25 w1 (hs.row_reads (by (repeat (first | exact List.Mem.head _ | assumption | refine List.Mem.tail _ ?_))) rfl) (by decide)).mono fun e w' h => ⟨h.1.trans (by kernel_rfl), h.2⟩) ?_
  (apply ot_v Try.tabOk; (conv => whnf); (repeat ((first | (apply VNew.mk; intro g hg) | (apply VLdN.mk; (focus ((repeat (first | (with_reducible apply ldn_blk) | (with_reducible apply ldn_row) | (with_reducible assumption) | (with_reducible apply ldn_skip))); done)); exact rfl) | (apply VSt.mk; (focus ((repeat (first | (with_reducible exact At.here) | (with_reducible apply At.there))); done)); exact rfl)); (conv => whnf))); apply VCall.stop)
  refine ot_call_q (v := .tuple #[.agg #[.int .i64 20, .int .i64 1], .int .i64 0]) rfl rfl rfl (by kernel_rfl) (evl_of rfl) (fun w1 hs => (refCheckLine_any _ _ twoL 1 20 0 15 w1 (hs.row_reads (by (repeat (first | exact List.Mem.head _ | assumption | refine List.Mem.tail _ ?_))) rfl) (by decide)).mono fun e w' h => ⟨h.1.trans (by kernel_rfl), h.2⟩) ?_
  (apply ot_v Try.tabOk; (conv => whnf); (repeat ((first | (apply VNew.mk; intro g hg) | (apply VSt.mk; (focus ((repeat (first | (with_reducible exact At.here) | (with_reducible apply At.there))); done)); exact rfl)); (conv => whnf))); apply VStop.mk)
  refine tr_region_lex (id := 26) (by kernel_rfl) [.rd, .cr, .rd, .rd, .rd, .cr, .rd, .rd, .rd, .rd, .rd, .rd, .rd, .rd, .rd, .cr, .rd, .rd, .rd, .rd, .rd, .rd, .rd, .rd, .rd, .rd, .rd, .rd, .rd, .rd, .rd, .rd, .rd, .rd, .rd, .rd, .rd, .rd, .rd, .rd, .rd, .rd, .rd, .rd, .rd, .rd, .rd, .rd, .rd, .rd, .rd, .rd, .rd, .rd, .rd, .rd, .rd, .rd, .rd, .rd, .rd, .rd, .cr, .cr, .cr, .rd, .rd, .rd, .cr, .cr, .cr, .rd, .rd, .rd, .rd, .rd, .rd] rfl (by kernel_rfl) ?_
  (apply ot_v Try.tabOk; (conv => whnf); (repeat ((apply VLdN.mk; (focus ((repeat (first | (with_reducible apply ldn_blk) | (with_reducible apply ldn_row) | (with_reducible assumption) | (with_reducible apply ldn_skip))); done)); exact rfl); (conv => whnf))); apply VCall.stop)
  refine ot_call_q rfl rfl rfl (by kernel_rfl) (evl_of rfl) (fun w1 hs => byL_any 25 1 w1) ?_
  (apply ot_v Try.tabOk; (conv => whnf); (repeat ((first | (apply VEq.mk true; kernel_rfl; exact rat_same _ _) | apply VBr.t | (apply VLdN.mk; (focus ((repeat (first | (with_reducible apply ldn_blk) | (with_reducible apply ldn_row) | (with_reducible assumption) | (with_reducible apply ldn_skip))); done)); exact rfl)); (conv => whnf))); apply VCall.stop)
  refine ot_call_q rfl rfl rfl (by kernel_rfl) (evl_of rfl) (fun w1 hs => byL_any 85 2 w1) ?_
  (apply ot_v Try.tabOk; (conv => whnf); (repeat ((first | (apply VEq.mk true; kernel_rfl; exact rat_same _ _) | apply VBr.t | (apply VLdN.mk; (focus ((repeat (first | (with_reducible apply ldn_blk) | (with_reducible apply ldn_row) | (with_reducible assumption) | (with_reducible apply ldn_skip))); done)); exact rfl)); (conv => whnf))); apply VCall.stop)
  refine ot_call_q rfl rfl rfl (by kernel_rfl) (evl_of rfl) (fun w1 hs => byL_any 20 1 w1) ?_
  (apply ot_v Try.tabOk; (conv => whnf); (repeat ((first | (apply VEq.mk true; kernel_rfl; exact rat_same _ _) | (apply VLdN.mk; (focus ((repeat (first | (with_reducible apply ldn_blk) | (with_reducible apply ldn_skip))); done)); exact rfl) | (apply VLd.mk; (focus ((repeat (first | ((with_reducible apply ld_blk); exact rfl) | ((with_reducible apply ld_row); exact rfl) | ((with_reducible apply ld_row0); exact rfl) | (with_reducible assumption) | (with_reducible exact CellAt.base (by assumption)) | (with_reducible apply ld_skip))); done))) | apply VBr.t | (apply v_t; omega) | (apply VNew.mk; intro g hg) | (apply VLdN.mk; (focus ((repeat (first | (with_reducible apply ldn_blk) | (with_reducible apply ldn_row) | (with_reducible assumption) | (with_reducible apply ldn_skip))); done)); exact rfl)); (conv => whnf))); apply VCall.stop)
  refine ot_call_q rfl rfl rfl (by kernel_rfl) (evl_of rfl) (fun w1 hs => of_any _ w1) ?_
  (apply ot_v Try.tabOk; (conv => whnf); (repeat (apply VBr.t; (conv => whnf))); apply VCall.stop)
  refine ot_call_q (v := .bool true) rfl rfl rfl (by kernel_rfl) (evl_of rfl) (fun w1 hs => (ints_any _ _ _ _ [0, 1, 3, 2] [0, 1, 3, 2] w1 (hs.row_reads (by (repeat (first | exact List.Mem.head _ | assumption | refine List.Mem.tail _ ?_))) rfl) (hs.blk_reads (by (repeat (first | exact List.Mem.head _ | assumption | refine List.Mem.tail _ ?_))) rfl) (by decide)).mono fun e w' h => ⟨h.1.trans (by kernel_rfl), h.2⟩) ?_
  (apply ot_v Try.tabOk; (conv => whnf); (repeat ((first | apply VBr.t | (apply VNew.mk; intro g hg)); (conv => whnf))); apply VCall.stop)
  refine ot_call_q rfl rfl rfl (by kernel_rfl) (evl_of rfl) (fun w1 hs => of_any _ w1) ?_
  (apply ot_v Try.tabOk; (conv => whnf); (repeat (apply VBr.t; (conv => whnf))); apply VCall.stop)
  refine ot_call_q (v := .bool true) rfl rfl rfl (by kernel_rfl) (evl_of rfl) (fun w1 hs => (ints_any _ _ _ _ [4] [4] w1 (hs.row_reads (by (repeat (first | exact List.Mem.head _ | assumption | refine List.Mem.tail _ ?_))) rfl) (hs.blk_reads (by (repeat (first | exact List.Mem.head _ | assumption | refine List.Mem.tail _ ?_))) rfl) (by decide)).mono fun e w' h => ⟨h.1.trans (by kernel_rfl), h.2⟩) ?_
  (apply ot_v Try.tabOk; (conv => whnf); (repeat ((first | apply VBr.t | (apply v_t; omega)); (conv => whnf))))
  (apply VRet.mk)
  refine ret1 (by first | exact .inl rfl | exact .inr rfl) rfl (by exact rv_tmp rfl) ?_
  exact fun w h => ⟨rfl, h.base⟩
end Go.Proofs.Ytfjnnegaljfkgaa
