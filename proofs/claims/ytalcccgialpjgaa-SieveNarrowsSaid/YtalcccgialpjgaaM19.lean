/- Summed: lemmas for the rows of this seat. No conditions. -/
import Derived.Test.YtalcccgialpjgaaM18
import Derived.Test.YtalcccgialpjgaaN19
set_option linter.all false
namespace Go.Proofs.Ytalcccgialpjgaa
open Go.RowKit
/-! ## Summed -/
section
variable (RA : Option Addr) (rc : Nat) (CA : Option Addr) (cc : Nat) (XA : Option Addr) (xc : Nat) (R C : List R2) (X : List (List R2)) (w : World) (hT : TabR w RA CA XA R C X)
include hT
/-- A table copied. -/
theorem with_same (hV : Valid R C X) : Calls Try.prog 47 #[tabV RA rc CA cc XA xc R C X, .int .i64 0, .int .i64 0, .agg #[.int .i64 (xAt X 0 0).1, .int .i64 (xAt X 0 0).2]] w fun e w' => ∃ x : TabX, e = .returned (tabX x R C X) ∧ x.xs.length = X.length ∧ St w (tabCh R C X x) w' := by
 have hn := hV.r1
 have hm := hV.c1
 have hx := hV.x
 have := with_any RA rc CA cc XA xc R C X w hT hV 0 0 (by omega) (by omega) (xAt X 0 0)
 rw [setX_self hV.xs (by omega) (by omega)] at this
 exact this
set_option maxHeartbeats 2000000 in
set_option maxRecDepth 20000 in
theorem summed_any (hV : Valid R C X) (i : Nat) (hi : i < R.length) (n : Int) : Calls Try.prog 103 #[tabV RA rc CA cc XA xc R C X, .int .i64 (i : Int), .int .i64 n] w fun e w' => ∃ x : TabX, e = .returned (tabX x (R.set i (n, n)) C X) ∧ x.xs.length = X.length ∧ St w (tabCh (R.set i (n, n)) C X x) w' := by
 have hn := hV.r1
 have hm := hV.c1
 have hxl := hV.x
 have hwi := fun w1 (h : TabR w1 RA CA XA R C X) => with_same RA rc CA cc XA xc R C X w1 h hV
 have hx0 : 0 < X.length := by omega
 have hxk := hV.xs _ (List.getElem_mem hx0)
 obtain ⟨xb, xo, rfl, B, c, hce, hrd⟩ := nest_gen hT.x hx0
 obtain ⟨b2, o2, rfl, _⟩ := hrd.2 (by omega)
 have k2 : ∀ Ch, CellsAt w Ch b2 (o2 + 0 * 2) [.int .i64 (xAt X 0 0).1, .int .i64 (xAt X 0 0).2] := by
  have := rg_cells hrd (k := 0) (by omega) (by omega)
  unfold xAt
  rw [List.getElem?_eq_getElem hx0, Option.getD_some]
  exact this
 unfold tabV at *
 refine fn_k Try.func103 rfl rfl (Nat.le_of_ble_eq_true rfl) (n := 24) (A := []) (St.nil (Below.refl _ _)) ?_
 refine tr_seqK ?_
 ((try first | apply tr_v tk | apply ot_v tk); (conv => whnf); (repeat ((first | (apply VNew.mk; intro g hg)); (conv => whnf))); try (first | apply VStop.mk | apply VCall.stop))
 revert g hg
 intro g6 hg6
 revert g hg
 intro g3 hg3
 refine tr_cut (fun x : Nat × { x : TabX // x.xs.length = X.length } => ([(1, .int .i64 (i : Int)), (2, .int .i64 n), (6, .pointer (some ⟨g6, 0, none⟩)), (7, .pointer (some ⟨x.1, 0, none⟩))], .own (.slice x.2.1.r.1 R.length x.2.1.r.2) 37 2 R.length (rgC R) :: .blk x.1 25 [.slice x.2.1.r.1 R.length x.2.1.r.2, .slice x.2.1.c.1 C.length x.2.1.c.2, .slice x.2.1.x.1 X.length x.2.1.x.2] :: .blk g6 25 [.slice none 0 0, .slice none 0 0, .slice none 0 0] :: .own (.slice x.2.1.c.1 C.length x.2.1.c.2) 37 2 C.length (rgC C) :: .own (.slice x.2.1.x.1 X.length x.2.1.x.2) 22 1 X.length (nsVs x.2.1.xs (nestR X)) :: nsCh 37 2 x.2.1.xs (nestR X))) ?_ ?_
 ·((try first | apply tr_v tk | apply ot_v tk); (conv => whnf); (repeat ((first | ((first | apply VStop.mk | apply VCall.stop); (first | refine tr_region_treeV (id := 1) (by kernel_rfl) [.blk g3 25 _] (by (repeat (first | exact sl0 _ | exact sl1 _ | refine sl2 _ ?_ | refine sl3 _ ?_))) [0, 1, 2, 3, 4, 5, 6] [7, 8, 9] [.rd, .rd, .rd, .rd, .rd, .rd, .rd] (fun i => [.wr, .wr, .wr, .wr, .wr, .wr, .wr, .cr, .cr, .wr].getD i .wr) _ rfl rfl (by kernel_rfl) ?_); try first | apply ot_v tk | apply tr_v tk) | (apply VIx.mk (j := 0); exact rfl; omega) | (apply VLd.mk; exact hce _) | (apply VLdN.mk; exact k2 _; exact rfl) | (apply VLd.mk; (focus ((repeat (first | ((with_reducible apply ld_blk); exact rfl) | (with_reducible apply ld_skip))); done))) | (apply VLdN.mk; (focus ((repeat (first | (with_reducible apply ldn_blk) | (with_reducible apply ldn_skip))); done)); exact rfl)); (conv => whnf))); try (first | apply VStop.mk | apply VCall.stop))
  refine ox2 7 8 ?_ ?_
  ·(refine ot_callT (X := TabX) (us := []) (vs := []) (fun x => tabX x R C X) (fun x => [.own (.slice x.r.1 R.length x.r.2) 37 2 R.length (rgC R), .own (.slice x.c.1 C.length x.c.2) 37 2 C.length (rgC C), .own (.slice x.x.1 X.length x.x.2) 22 1 X.length (nsVs x.xs (nestR X))]) (fun x => nsCh 37 2 x.xs (nestR X)) _ (fun x c hc => tabCh_mut (x := x) c hc) (by decide) rfl rfl rfl rfl (by kernel_rfl) (evl_of rfl) rfl (fun w1 hs => hwi w1 (hs.tab hT)) (fun x hx => ?_); refine ot_nil ?_; refine sla ?_)
   refine ox1 8 ?_
   (apply ot_v tk; (conv => whnf); (apply VNew.mk; intro g7 hg7; (conv => whnf)); refine sla ?_)
   refine ox1 9 ?_
   (apply ot_v tk; (conv => whnf); (apply VSt.mk; (focus (repeat (first | exact At.here | apply At.there)); done); exact rfl; (conv => whnf)); refine sla ?_)
   refine VT.mk (otx_end ?_)
   exact VJ.mk (g7, ⟨x, hx⟩) rfl ⟨rfl, rfl, rfl, rfl, trivial⟩ (by ((try dsimp only); (iterate 5 ((apply Pick.cons); (focus (repeat (first | exact Rem.here | apply Rem.there)); done))); exact Pick.of_sub (by (repeat (first | exact sl0 _ | exact sl1 _ | refine sl2 _ ?_ | refine sl3 _ ?_)))))
  ·(apply ot_v tk; (conv => whnf); (apply VNew.mk; intro g7 hg7; (conv => whnf)); refine sla ?_)
   refine ox1 7 ?_
   (refine ot_callT (X := TabX) (us := []) (vs := []) (fun x => tabX x R C X) (fun x => [.own (.slice x.r.1 R.length x.r.2) 37 2 R.length (rgC R), .own (.slice x.c.1 C.length x.c.2) 37 2 C.length (rgC C), .own (.slice x.x.1 X.length x.x.2) 22 1 X.length (nsVs x.xs (nestR X))]) (fun x => nsCh 37 2 x.xs (nestR X)) _ (fun x c hc => tabCh_mut (x := x) c hc) (by decide) rfl rfl rfl rfl (by kernel_rfl) (evl_of rfl) rfl (fun w1 hs => hwi w1 (hs.tab hT)) (fun x hx => ?_); refine ot_nil ?_; refine sla ?_)
   refine ox1 9 ?_
   (apply ot_v tk; (conv => whnf); (apply VSt.mk; (focus (repeat (first | exact At.here | apply At.there)); done); exact rfl; (conv => whnf)); refine sla ?_)
   refine VT.mk (otx_end ?_)
   exact VJ.mk (g7, ⟨x, hx⟩) rfl ⟨rfl, rfl, rfl, rfl, trivial⟩ (by ((try dsimp only); (iterate 5 ((apply Pick.cons); (focus (repeat (first | exact Rem.here | apply Rem.there)); done))); exact Pick.of_sub (by (repeat (first | exact sl0 _ | exact sl1 _ | refine sl2 _ ?_ | refine sl3 _ ?_)))))
 rintro ⟨g7, ⟨⟨Br, cr⟩, ⟨Bc, cc2⟩, ⟨Bx, cx⟩, xs⟩, hxs⟩
 dsimp only at hxs ⊢
 refine tr_fact (p := ∃ b, Br = some ⟨b, 0, none⟩) (fun w' hs => own_some hs (.head _) (by omega)) ?_
 rintro ⟨b, rfl⟩
 have hp := rgC_put (n, n) hi
 have hup : Upd (.own (.slice (some ⟨b, 0, none⟩) R.length cr) 37 2 R.length (rgC R)) (.own (.slice (some ⟨b, 0, none⟩) R.length cr) 37 2 R.length (setMany (rgC R) (0 + i * 2) [.int .i64 n, .int .i64 n])) _ _ := Upd.here (A := .blk g7 25 [.slice (some ⟨b, 0, none⟩) R.length cr, .slice Bc C.length cc2, .slice Bx X.length cx] :: .blk g6 25 [.slice none 0 0, .slice none 0 0, .slice none 0 0] :: .own (.slice Bc C.length cc2) 37 2 C.length (rgC C) :: .own (.slice Bx X.length cx) 22 1 X.length (nsVs xs (nestR X)) :: nsCh 37 2 xs (nestR X))
 have hl : (R.set i (n, n)).length = R.length := List.length_set
 ((try first | apply tr_v tk | apply ot_v tk); (conv => whnf); (repeat ((first | (apply VIx.mk (j := i); exact rfl; omega) | (apply VLd.mk; (focus ((repeat (first | ((with_reducible apply ld_blk); exact rfl) | (with_reducible apply ld_skip))); done)))); (conv => whnf))); try (first | apply VStop.mk | apply VCall.stop))
 apply VSt.stop
 refine ot_storeN_own (sz := 2) (vs := [.int .i64 n, .int .i64 n]) tk rfl rfl rfl rfl rfl rfl rfl rfl rfl rfl hup (by simp only [List.length_cons, List.length_nil]; omega) (Nat.succ_pos _) ?_
 rw [hp]
 apply ot_v tk
 ((try first | apply tr_v tk | apply ot_v tk); (conv => whnf); (repeat ((first | (apply VLdN.mk; (focus ((repeat (first | (with_reducible apply ldn_blk) | (with_reducible apply ldn_skip))); done)); exact rfl) | (apply VSt.mk; (focus ((repeat (first | (with_reducible exact At.here) | (with_reducible apply At.there))); done)); exact rfl)); (conv => whnf))); try (first | apply VStop.mk | apply VCall.stop))
 (apply VRet.mk)
 refine ret1 (by first | exact .inl rfl | exact .inr rfl) rfl (by exact rv_row tk rfl rfl rfl (by first | exact cells_blk_all (by (repeat (first | exact List.Mem.head _ | assumption | refine List.Mem.tail _ ?_))) | exact cells_row0 (by (repeat (first | exact List.Mem.head _ | assumption | refine List.Mem.tail _ ?_)))) rfl) ?_
 refine fun w hs => ⟨⟨(some ⟨b, 0, none⟩, cr), (Bc, cc2), (Bx, cx), xs⟩, ?_, hxs, ?_⟩
 ·unfold tabX tabV
  rw [hl]
 ·unfold tabCh
  dsimp only
  rw [hl]
  exact hs.sub (.cons_cons _ (.cons _ (.cons _ (List.Sublist.refl _))))
end
end Go.Proofs.Ytalcccgialpjgaa
