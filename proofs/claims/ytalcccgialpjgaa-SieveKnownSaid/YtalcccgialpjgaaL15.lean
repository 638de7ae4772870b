/- SieveKnown: lemmas for the rows of this seat. No conditions. -/
import Derived.Test.YtalcccgialpjgaaN31
set_option linter.all false
namespace Go.Proofs.Ytalcccgialpjgaa
open Go.RowKit
/-! ## SieveKnown -/
def fA15 : Nat → TwoX → Value × List Chunk := fun i x => match i with
 | 1 | 2 => lfI 2 [2, 1] x
 | 3 | 4 => lfI 2 [0, 5] x
 | 5 | 6 => lf2 [2, 1] [0, 5] x
 | _ => vf (.int .i64 0)
set_option maxHeartbeats 4000000 in
set_option maxRecDepth 20000 in
theorem law15_any (w : World) : Calls Try.prog 15 #[] w fun e w' => e = .returned (.bool true) ∧ Below w.heap.size w w' := by
 have hto := fun (a b : Int) w1 => to_any a b w1
 refine fn_k (n := 105) (args := []) (A := []) Try.func15 rfl rfl (Nat.zero_le _) (St.nil (Below.refl _ _)) ?_
 refine tr_seqK ?_
 ((try first | apply tr_v tk | apply ot_v tk); (conv => whnf); try (first | apply VStop.mk | apply VCall.stop))
 refine tr_seqK ?_
 ((try first | apply tr_v tk | apply ot_v tk); (conv => whnf); (repeat ((first | (apply VCall.q; kernel_rfl; (focus (intro w1 hs; first | with_reducible apply hto _ _ w1)))); (conv => whnf))); try (first | apply VStop.mk | apply VCall.stop))
 refine ot_callC (X := TwoX) (us := []) (vs := []) twoV (twoCh 5 6) (fun _ => True) (fun x c hc => twoCh_mut c hc) (by decide) rfl rfl rfl rfl (by kernel_rfl) (evl_of rfl) rfl (fun w1 hs => two_any 5 6 w1) (fun xt _ => ?_)
 dsimp only [twoV, twoCh, List.cons_append, List.nil_append]
 apply ot_v tk
 ((try first | apply tr_v tk | apply ot_v tk); (conv => whnf); (repeat ((first | (apply VNew.mk; intro g hg) | (apply VSt.mk; (focus ((repeat (first | (with_reducible exact At.here) | (with_reducible apply At.there))); done)); exact rfl)); (conv => whnf))); try (first | apply VStop.mk | apply VCall.stop))
 revert g hg
 intro g1 hg1
 refine tr_seqK ?_
 refine tr_nameA2 ?_
 intro A0 hA0
 have hAT : ∀ d ∈ twoCh 5 6 xt, d ∈ A0 := fun d hd => by
  rw [hA0]
  exact .tail _ hd
 have c1 : .blk g1 25 [.slice (some ⟨xt.gr, 0, none⟩) 2 2, .slice (some ⟨xt.gc, 0, none⟩) 2 2, .slice (some ⟨xt.gx, 0, none⟩) 2 2] ∈ A0 := by rw [hA0]; exact .head _
 clear hA0
 have hTT : ∀ {A' w1}, A0.Sublist A' → St w A' w1 → TabR w1 (some ⟨xt.gr, 0, none⟩) (some ⟨xt.gc, 0, none⟩) (some ⟨xt.gx, 0, none⟩) (twoR 5 6) twoC twoT := fun hA hs => two_tab hs fun d hd => hA.subset (hAT d hd)
 refine tr_region_factsX (id := 2) (by kernel_rfl) A0 (by (repeat (first | exact sl0 _ | exact sl1 _ | refine sl2 _ ?_ | refine sl3 _ ?_))) [0] [1, 2, 3, 4, 5, 6, 7, 8] [.rd] (fun i => [.wr, .cr, .cr, .cr, .cr, .cr, .cr, .cr, .wr].getD i .wr) _ rfl rfl (by kernel_rfl) (by kernel_rfl) (by kernel_rfl) (fun i => [15, 16, 17, 18, 19, 20, 21, 22, 2].getD i 0) ([(1, .pointer (some ⟨g1, 0, none⟩)), (15, twoV xt)]) fA15 (by kernel_rfl) ?_ ?_ ?_
 ·((try first | apply tr_v tk | apply ot_v tk); (conv => whnf); (repeat ((first | (apply VLdN.mk; (first | exact cells_blk_all c1); exact rfl)); (conv => whnf))); try (first | apply VStop.mk | apply VCall.stop))
  exact ⟨rfl, rfl, trivial⟩
 ·refine ⟨?_, ?_, ?_, ?_, ?_, ?_, ?_, ?_, trivial⟩
  ·rintro ts A hb hA -
   refine ot_buildSlice tk (by decide) rfl rfl rfl rfl rfl rfl (pts_of rfl) rfl (by decide) ?_
   intro g hg
   exact ⟨_, [_], ⟨g, g, g, g, g⟩, rfl, rfl, rfl, hm1⟩
  ·rintro ts A hb hA ⟨⟨x1, h1, c1⟩, _⟩
   refine ot_call_q rfl rfl rfl (by kernel_rfl) (.cons h1 .nil) (fun w1 hs => longsV_any _ _ _ w1) ?_
   exact ⟨_, [], x1, rfl, rfl, rfl, fun c h => c1 c h⟩
  ·rintro ts A hb hA -
   refine ot_buildSlice tk (by decide) rfl rfl rfl rfl rfl rfl (pts_of rfl) rfl (by decide) ?_
   intro g hg
   exact ⟨_, [_], ⟨g, g, g, g, g⟩, rfl, rfl, rfl, hm1⟩
  ·rintro ts A hb hA ⟨⟨x3, h3, c3⟩, _⟩
   refine ot_call_q rfl rfl rfl (by kernel_rfl) (.cons h3 .nil) (fun w1 hs => longsV_any _ _ _ w1) ?_
   exact ⟨_, [], x3, rfl, rfl, rfl, fun c h => c3 c h⟩
  ·rintro ts A hb hA ⟨⟨x2, h2, c2⟩, ⟨x4, h4, c4⟩, _⟩
   refine ot_buildSlice tk (by decide) rfl rfl rfl rfl rfl rfl (.cons h2 rfl (.cons h4 rfl .nil)) rfl (by decide) ?_
   intro g hg
   exact ⟨_, [_], ⟨g, g, x2.gr, x4.gr, g⟩, rfl, rfl, rfl, hm2 (c2 _ (.head _)) (c4 _ (.head _))⟩
  ·rintro ts A hb hA ⟨⟨x5, h5, c5⟩, _⟩
   refine ot_call_q rfl rfl rfl (by kernel_rfl) (.cons h5 .nil) (fun w1 hs => lists_any _ w1 _ _ _ rfl) ?_
   exact ⟨_, [], x5, rfl, rfl, rfl, fun c h => c5 c h⟩
  ·rintro ts A hb hA ⟨⟨x6, h6, c6⟩, _⟩
   refine ot_call_q (v := .int .i64 0) rfl rfl rfl (by kernel_rfl) (.cons hb.2.1 (.cons h6 .nil)) (fun w1 hs => exT_check _ _ _ w1 rfl rfl (hTT hA hs) (nest_two hs rfl rfl c6) (by decide +kernel)) ?_
   exact ⟨_, [], ⟨0, 0, 0, 0, 0⟩, rfl, rfl, rfl, hm0⟩
  ·rintro ts A hb hA ⟨⟨x7, h7, c7⟩, _⟩
   refine ot_assign rfl rfl rfl h7 ?_
   exact ⟨_, [], ⟨0, 0, 0, 0, 0⟩, rfl, rfl, rfl, hm0⟩
 intro ts A hb hA hf
 have h2 : look ts 2 = some (.int .i64 0) := (hf 8 (by decide)).elim fun x hx => hx.1
 refine VStop.mk (tr_weak (l := [(1, .pointer (some ⟨g1, 0, none⟩)), (2, .int .i64 0)]) (B := A0) ⟨hb.1, h2, trivial⟩ hA ?_)
 clear hf h2 hb hA
 clear ts A
 have kc0 : ∀ {A' w1}, A0.Sublist A' → St w A' w1 → Calls Try.prog 25 #[.agg #[.slice (some ⟨xt.gr, 0, none⟩) 2 2, .slice (some ⟨xt.gc, 0, none⟩) 2 2, .slice (some ⟨xt.gx, 0, none⟩) 2 2], .int .i64 0, .int .i64 1] w1 fun e w' => e = .returned (.tuple #[.agg #[.int .i64 1, .int .i64 2], .int .i64 0]) ∧ Below w1.heap.size w1 w' := fun {A' w1} hA hs => exT_cell _ _ _ w1 (hTT hA hs) (r := ((1, 2), 0)) ((cellA_ok vT tT_has (i := 0) (k := 1) (by decide) (by decide)).trans (by rw [tC01]))
 have kc1 : ∀ {A' w1}, A0.Sublist A' → St w A' w1 → Calls Try.prog 25 #[.agg #[.slice (some ⟨xt.gr, 0, none⟩) 2 2, .slice (some ⟨xt.gc, 0, none⟩) 2 2, .slice (some ⟨xt.gx, 0, none⟩) 2 2], .int .i64 1, .int .i64 0] w1 fun e w' => e = .returned (.tuple #[.agg #[.int .i64 0, .int .i64 2], .int .i64 0]) ∧ Below w1.heap.size w1 w' := fun {A' w1} hA hs => exT_cell _ _ _ w1 (hTT hA hs) (r := ((0, 2), 0)) ((cellA_ok vT tT_has (i := 1) (k := 0) (by decide) (by decide)).trans (by rw [tC10]))
 have kr : ∀ {A' w1}, A0.Sublist A' → St w A' w1 → Calls Try.prog 32 #[.agg #[.slice (some ⟨xt.gr, 0, none⟩) 2 2, .slice (some ⟨xt.gc, 0, none⟩) 2 2, .slice (some ⟨xt.gx, 0, none⟩) 2 2], .int .i64 0] w1 fun e w' => e = .returned (.tuple #[.agg #[.int .i64 3, .int .i64 4], .int .i64 0]) ∧ Below w1.heap.size w1 w' := fun {A' w1} hA hs => exT_row _ _ _ w1 (hTT hA hs) (r := ((3, 4), 0)) ((rowA_ok vT tT_has (i := 0) (by decide)).trans (by rw [tR0]))
 have kt : ∀ {A' w1}, A0.Sublist A' → St w A' w1 → Calls Try.prog 19 #[.agg #[.slice (some ⟨xt.gr, 0, none⟩) 2 2, .slice (some ⟨xt.gc, 0, none⟩) 2 2, .slice (some ⟨xt.gx, 0, none⟩) 2 2]] w1 fun e w' => e = .returned (.int .i64 0) ∧ Below w1.heap.size w1 w' := fun {A' w1} hA hs => by
  have := checkTable_any _ 2 _ 2 _ 2 _ _ _ w1 (hTT hA hs) vT.fit
  rw [chk0 vT] at this
  exact this
 refine tr_seqK ?_
 ((try first | apply tr_v tk | apply ot_v tk); (conv => whnf); (repeat ((first | (apply VLdN.mk; (first | exact cells_blk_all (((by (repeat (first | exact sl0 _ | exact sl1 _ | refine sl2 _ ?_ | refine sl3 _ ?_)) : List.Sublist A0 _)).subset c1)); exact rfl) | (apply VCall.q; kernel_rfl; (focus (intro w1 hs; first | with_reducible apply kc0 (by (repeat (first | exact sl0 _ | exact sl1 _ | refine sl2 _ ?_ | refine sl3 _ ?_))) hs))) | (apply VNew.mk; intro g hg) | (apply VSt.mk; (focus ((repeat (first | (with_reducible exact At.here) | (with_reducible apply At.there))); done)); exact rfl)); (conv => whnf))); try (first | apply VStop.mk | apply VCall.stop))
 refine tr_seqK ?_
 ((try first | apply tr_v tk | apply ot_v tk); (conv => whnf); (repeat ((first | (apply VLdN.mk; (first | exact cells_blk_all (((by (repeat (first | exact sl0 _ | exact sl1 _ | refine sl2 _ ?_ | refine sl3 _ ?_)) : List.Sublist A0 _)).subset c1)); exact rfl) | (apply VCall.q; kernel_rfl; (focus (intro w1 hs; first | with_reducible apply kc1 (by (repeat (first | exact sl0 _ | exact sl1 _ | refine sl2 _ ?_ | refine sl3 _ ?_))) hs))) | (apply VNew.mk; intro g hg) | (apply VSt.mk; (focus ((repeat (first | (with_reducible exact At.here) | (with_reducible apply At.there))); done)); exact rfl)); (conv => whnf))); try (first | apply VStop.mk | apply VCall.stop))
 refine tr_seqK ?_
 ((try first | apply tr_v tk | apply ot_v tk); (conv => whnf); (repeat ((first | (apply VLdN.mk; (first | exact cells_blk_all (((by (repeat (first | exact sl0 _ | exact sl1 _ | refine sl2 _ ?_ | refine sl3 _ ?_)) : List.Sublist A0 _)).subset c1)); exact rfl) | (apply VCall.q; kernel_rfl; (focus (intro w1 hs; first | with_reducible apply kr (by (repeat (first | exact sl0 _ | exact sl1 _ | refine sl2 _ ?_ | refine sl3 _ ?_))) hs))) | (apply VNew.mk; intro g hg) | (apply VSt.mk; (focus ((repeat (first | (with_reducible exact At.here) | (with_reducible apply At.there))); done)); exact rfl)); (conv => whnf))); try (first | apply VStop.mk | apply VCall.stop))
 refine tr_seqK ?_
 ((try first | apply tr_v tk | apply ot_v tk); (conv => whnf); (repeat ((first | (apply VLdN.mk; (first | exact cells_blk_all (((by (repeat (first | exact sl0 _ | exact sl1 _ | refine sl2 _ ?_ | refine sl3 _ ?_)) : List.Sublist A0 _)).subset c1)); exact rfl)); (conv => whnf))); try (first | apply VStop.mk | apply VCall.stop))
 refine ot_callC (X := SlX) (us := []) (vs := []) (fun x => .tuple #[.slice x.B 2 x.c, .int .i64 0]) (fun x => [.own (.slice x.B 2 x.c) 3 1 2 (i64s [0, 2])]) (fun _ => True) (fun x => mut_one rfl) (by decide) rfl rfl rfl rfl (by kernel_rfl) (evl_of rfl) rfl (fun w1 hs => exT_more _ _ _ w1 (hTT (by (repeat (first | exact sl0 _ | exact sl1 _ | refine sl2 _ ?_ | refine sl3 _ ?_))) hs) (by decide)) (fun m4 hm4 => ?_)
 dsimp only [List.cons_append, List.nil_append]
 apply ot_v tk
 ((try first | apply tr_v tk | apply ot_v tk); (conv => whnf); try (first | apply VStop.mk | apply VCall.stop))
 refine tr_seqK ?_
 ((try first | apply tr_v tk | apply ot_v tk); (conv => whnf); (repeat ((first | (apply VLdN.mk; (first | exact cells_blk_all (((by (repeat (first | exact sl0 _ | exact sl1 _ | refine sl2 _ ?_ | refine sl3 _ ?_)) : List.Sublist A0 _)).subset c1)); exact rfl)); (conv => whnf))); try (first | apply VStop.mk | apply VCall.stop))
 refine ot_callC (X := SlX) (us := []) (vs := []) (fun x => .tuple #[.slice x.B 2 x.c, .int .i64 0]) (fun x => [.own (.slice x.B 2 x.c) 3 1 2 (i64s [2, 2])]) (fun _ => True) (fun x => mut_one rfl) (by decide) rfl rfl rfl rfl (by kernel_rfl) (evl_of rfl) rfl (fun w1 hs => exT_more _ _ _ w1 (hTT (by (repeat (first | exact sl0 _ | exact sl1 _ | refine sl2 _ ?_ | refine sl3 _ ?_))) hs) (by decide)) (fun m1 hm1 => ?_)
 dsimp only [List.cons_append, List.nil_append]
 apply ot_v tk
 ((try first | apply tr_v tk | apply ot_v tk); (conv => whnf); try (first | apply VStop.mk | apply VCall.stop))
 have hI : ∀ {A1 w1}, St w A1 w1 → ∀ {B1 B2 : Option Addr} {c g : Nat} {l : List Int}, l.length = 2 → .own (.slice B1 2 c) 3 1 2 (i64s l) ∈ A1 → .blk g 3 (i64s l) ∈ A1 → B2 = some ⟨g, 0, none⟩ → Calls Try.prog 38 #[.slice B1 2 c, .slice B2 2 2] w1 fun e w' => e = .returned (.bool true) ∧ Below w1.heap.size w1 w' := fun {A1 w1} hs {B1 B2 c g l} hl h1 h2 h3 => by
  subst h3
  have := ints_any B1 c (some ⟨g, 0, none⟩) 2 l w1 (by rw [hl]; exact hs.own_rd h1) (by rw [hl]; exact hs.blk_reads h2 (by rw [← hl]; simp [i64s])) (by rw [hl]; decide)
  rw [hl] at this
  exact this
 have hI4 : ∀ {A1 w1}, St w A1 w1 → ∀ {B1 : Option Addr} {c g : Nat}, .own (.slice B1 2 c) 3 1 2 (i64s [0, 2]) ∈ A1 → .blk g 3 [.int .i64 0, .int .i64 2] ∈ A1 → Calls Try.prog 38 #[.slice B1 2 c, .slice (some ⟨g, 0, none⟩) 2 2] w1 fun e w' => e = .returned (.bool true) ∧ Below w1.heap.size w1 w' := fun {A1 w1} hs {B1 c g} h1 h2 => @hI A1 w1 hs B1 _ c g [0, 2] rfl h1 h2 rfl
 have hI1 : ∀ {A1 w1}, St w A1 w1 → ∀ {B1 : Option Addr} {c g : Nat}, .own (.slice B1 2 c) 3 1 2 (i64s [2, 2]) ∈ A1 → .blk g 3 [.int .i64 2, .int .i64 2] ∈ A1 → Calls Try.prog 38 #[.slice B1 2 c, .slice (some ⟨g, 0, none⟩) 2 2] w1 fun e w' => e = .returned (.bool true) ∧ Below w1.heap.size w1 w' := fun {A1 w1} hs {B1 c g} h1 h2 => @hI A1 w1 hs B1 _ c g [2, 2] rfl h1 h2 rfl
 ((try first | apply tr_v tk | apply ot_v tk); (conv => whnf); (repeat ((first | ((first | apply VStop.mk | apply VCall.stop); (first | refine tr_region_lex (id := 8) (by kernel_rfl) [.rd, .rd, .rd, .rd, .rd, .rd, .rd, .rd, .cr, .rd, .rd, .rd, .rd, .rd, .rd, .rd, .rd, .cr, .rd, .rd, .rd, .rd, .rd, .rd, .rd, .rd, .cr, .rd, .rd, .rd, .rd, .rd, .rd, .rd, .rd, .cr, .cr, .cr, .rd, .rd, .rd, .rd, .rd, .rd, .rd, .cr, .cr, .cr, .rd, .rd, .rd, .cr, .rd, .rd, .rd, .cr, .rd, .rd] rfl (by kernel_rfl) ?_); try first | apply ot_v tk | apply tr_v tk) | (apply VEq.mk true; kernel_rfl; exact fun w => rng_same _ _ w) | (apply VLdN.mk; (first | exact cells_blk_all (((by (repeat (first | exact sl0 _ | exact sl1 _ | refine sl2 _ ?_ | refine sl3 _ ?_)) : List.Sublist A0 _)).subset c1)); exact rfl) | (apply VCall.q; kernel_rfl; (focus (intro w1 hs; first | with_reducible apply hto _ _ w1 | with_reducible apply of_any _ _ _ w1 | with_reducible apply kt (by (repeat (first | exact sl0 _ | exact sl1 _ | refine sl2 _ ?_ | refine sl3 _ ?_))) hs | ((with_reducible apply hI4 hs (B1 := m4.B) (c := m4.c)); (all_goals (repeat (first | exact List.mem_cons_self | refine List.mem_cons_of_mem _ ?_)))) | ((with_reducible apply hI1 hs (B1 := m1.B) (c := m1.c)); (all_goals (repeat (first | exact List.mem_cons_self | refine List.mem_cons_of_mem _ ?_)))) | with_reducible apply works_any w1))) | (apply VLdN.mk; (focus ((repeat (first | (with_reducible apply ldn_blk) | (with_reducible apply ldn_skip))); done)); exact rfl) | apply VBr.t | (apply v_t; omega) | (apply VNew.mk; intro g hg)); (conv => whnf))); try (first | apply VStop.mk | apply VCall.stop))
 ((apply VRet.mk); refine ret1 (by first | exact .inl rfl | exact .inr rfl) rfl (by exact rv_tmp rfl) ?_; exact fun w h => ⟨rfl, h.base⟩)
end Go.Proofs.Ytalcccgialpjgaa
