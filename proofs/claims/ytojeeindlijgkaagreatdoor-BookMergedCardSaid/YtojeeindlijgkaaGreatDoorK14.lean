/- The closures of Common, Only, Since: lemmas for the rows of this seat. No conditions. -/
import Derived.Laws.StructEq
import Derived.Test.YtojeeindlijgkaaGreatDoorK12
import Derived.Test.YtojeeindlijgkaaGreatDoorK13
set_option linter.all false
namespace Go.Proofs.YtojeeindlijgkaaGreatDoor
open Go.RowKit
/-! ## The closures of Common, Only, Since -/
set_option maxRecDepth 20000 in
theorem common1_any (x : Ln) (g1 gm : Nat) (F : Int × Int → Option Ln) (st : List (Nat × (Int × Int))) (w : World) (h1 : w.cell? ⟨g1, 0, none⟩ = some (.map (some gm))) (h2 : MapP pairE (mapO F) st w.heap[gm]?) (h3 : gm < w.heap.size) : Calls Tryz.prog 70 #[lnV x, .pointer (some ⟨g1, 0, none⟩)] w fun e w' => e = .returned (.bool (F (key x)).isNone) ∧ Below w.heap.size w w' := by
 have c1 : ∀ A, CellAt w A g1 0 _ := fun A => CellAt.base h1
 have m1 := mapAt_base h2 h3
 clear h1 h2 h3
 have hk : mapO F (x.st, x.ck) = (F (key x)).map lnV := rfl
 cases hf : F (key x) with
 | none =>
  rw [hf] at hk
  replace hk : mapO F (x.st, x.ck) = none := hk
  unfold lnV
  refine fn_v tk (n := 18) (A := []) Tryz.func70 rfl rfl (Nat.le_of_ble_eq_true rfl) (St.nil (Below.refl _ _)) ?_
  ((conv => whnf); (repeat ((first | (apply VStop.mk; (refine ot_look_no (k := (x.st, x.ck)) hk pairK mapS zv61 rfl rfl rfl rfl (by exact rfl) (m1 _) ?_); apply ot_v tk) | (apply VLd.mk; first | exact c1 _) | (apply VLd.mk; (focus ((repeat (first | ((with_reducible apply ld_blk); exact rfl) | (with_reducible apply ld_skip))); done))) | (apply VNew.mk; intro g hg) | (apply VSt.mk; (focus ((repeat (first | (with_reducible exact At.here) | (with_reducible apply At.there))); done)); exact rfl)); (conv => whnf))))
  ((apply VRet.mk); refine ret1 (by first | exact .inl rfl | exact .inr rfl) rfl (by exact rv_tmp rfl) ?_; exact fun w h => ⟨rfl, h.base⟩)
 | some y =>
  rw [hf] at hk
  replace hk : mapO F (x.st, x.ck) = some (lnV y) := hk
  unfold lnV at hk ⊢
  refine fn_v tk (n := 18) (A := []) Tryz.func70 rfl rfl (Nat.le_of_ble_eq_true rfl) (St.nil (Below.refl _ _)) ?_
  ((conv => whnf); (repeat ((first | (apply VStop.mk; (refine ot_look_yes (k := (x.st, x.ck)) hk pairK mapS zv61 rfl rfl rfl rfl (by exact rfl) (m1 _) ?_); apply ot_v tk) | (apply VLd.mk; first | exact c1 _) | (apply VLd.mk; (focus ((repeat (first | ((with_reducible apply ld_blk); exact rfl) | (with_reducible apply ld_skip))); done))) | (apply VNew.mk; intro g hg) | (apply VSt.mk; (focus ((repeat (first | (with_reducible exact At.here) | (with_reducible apply At.there))); done)); exact rfl)); (conv => whnf))))
  ((apply VRet.mk); refine ret1 (by first | exact .inl rfl | exact .inr rfl) rfl (by exact rv_tmp rfl) ?_; exact fun w h => ⟨rfl, h.base⟩)
set_option maxRecDepth 20000 in
theorem only1_any (x : Ln) (g1 gm : Nat) (F : Int × Int → Option Ln) (st : List (Nat × (Int × Int))) (w : World) (h1 : w.cell? ⟨g1, 0, none⟩ = some (.map (some gm))) (h2 : MapP pairE (mapO F) st w.heap[gm]?) (h3 : gm < w.heap.size) : Calls Tryz.prog 72 #[lnV x, .pointer (some ⟨g1, 0, none⟩)] w fun e w' => e = .returned (.bool (F (key x)).isSome) ∧ Below w.heap.size w w' := by
 have c1 : ∀ A, CellAt w A g1 0 _ := fun A => CellAt.base h1
 have m1 := mapAt_base h2 h3
 clear h1 h2 h3
 have hk : mapO F (x.st, x.ck) = (F (key x)).map lnV := rfl
 cases hf : F (key x) with
 | none =>
  rw [hf] at hk
  replace hk : mapO F (x.st, x.ck) = none := hk
  unfold lnV
  refine fn_v tk (n := 17) (A := []) Tryz.func72 rfl rfl (Nat.le_of_ble_eq_true rfl) (St.nil (Below.refl _ _)) ?_
  ((conv => whnf); (repeat ((first | (apply VStop.mk; (refine ot_look_no (k := (x.st, x.ck)) hk pairK mapS zv61 rfl rfl rfl rfl (by exact rfl) (m1 _) ?_); apply ot_v tk) | (apply VLd.mk; first | exact c1 _) | (apply VLd.mk; (focus ((repeat (first | ((with_reducible apply ld_blk); exact rfl) | (with_reducible apply ld_skip))); done))) | (apply VNew.mk; intro g hg) | (apply VSt.mk; (focus ((repeat (first | (with_reducible exact At.here) | (with_reducible apply At.there))); done)); exact rfl)); (conv => whnf))))
  ((apply VRet.mk); refine ret1 (by first | exact .inl rfl | exact .inr rfl) rfl (by exact rv_tmp rfl) ?_; exact fun w h => ⟨rfl, h.base⟩)
 | some y =>
  rw [hf] at hk
  replace hk : mapO F (x.st, x.ck) = some (lnV y) := hk
  unfold lnV at hk ⊢
  refine fn_v tk (n := 17) (A := []) Tryz.func72 rfl rfl (Nat.le_of_ble_eq_true rfl) (St.nil (Below.refl _ _)) ?_
  ((conv => whnf); (repeat ((first | (apply VStop.mk; (refine ot_look_yes (k := (x.st, x.ck)) hk pairK mapS zv61 rfl rfl rfl rfl (by exact rfl) (m1 _) ?_); apply ot_v tk) | (apply VLd.mk; first | exact c1 _) | (apply VLd.mk; (focus ((repeat (first | ((with_reducible apply ld_blk); exact rfl) | (with_reducible apply ld_skip))); done))) | (apply VNew.mk; intro g hg) | (apply VSt.mk; (focus ((repeat (first | (with_reducible exact At.here) | (with_reducible apply At.there))); done)); exact rfl)); (conv => whnf))))
  ((apply VRet.mk); refine ret1 (by first | exact .inl rfl | exact .inr rfl) rfl (by exact rv_tmp rfl) ?_; exact fun w h => ⟨rfl, h.base⟩)
set_option maxRecDepth 20000 in
theorem since1_any (x : Ln) (hx : LnOk x) (g1 : Nat) (SA : Option Addr) (sc : Nat) (sn : List Int) (w : World) (h1 : w.cell? ⟨g1, 0, none⟩ = some (.slice SA 3 sc)) (hs0 : Reads w w.heap.size 1 SA 3 (i64s sn)) (hn : sn.length = 3) : Calls Tryz.prog 73 #[lnV x, .pointer (some ⟨g1, 0, none⟩)] w fun e w' => e = .returned (.bool (sinceP sn x)) ∧ Below w.heap.size w w' := by
 have c1 : ∀ A, CellAt w A g1 0 _ := fun A => CellAt.base h1
 obtain ⟨b, o, rfl, _⟩ := hs0.2 (by omega)
 obtain ⟨st, ck, kd, th, vl⟩ := x
 have o1 := hx.ck
 dsimp only at o1
 obtain ⟨k, rfl, hk⟩ := toNat_eq o1.1
 have c2 := fun A => ints_at hs0 (show k < 3 by omega) A
 have hp : sinceP sn ⟨st, (k : Int), kd, th, vl⟩ = decide (iAtK sn k < st) := by unfold sinceP; dsimp only; rw [hk]
 rw [hp]
 generalize iAtK sn k = z at *
 clear hp hs0 h1 hx
 unfold lnV
 dsimp only
 by_cases e : z < st
 ·rw [decide_eq_true e]
  refine fn_v tk (n := 12) (A := []) Tryz.func73 rfl rfl (Nat.le_of_ble_eq_true rfl) (St.nil (Below.refl _ _)) ?_
  ((conv => whnf); (repeat ((first | (apply VStop.mk; refine tr_region_lex (id := 1) (by kernel_rfl) [.rd, .rd, .rd, .rd, .rd, .rd, .rd, .rd, .rd] rfl (by kernel_rfl) ?_; apply ot_v tk) | (apply VLd.mk; first | exact c1 _ | exact c2 _) | (apply VIx.mk (j := k); exact rfl; omega) | (apply VLd.mk; (focus ((repeat (first | ((with_reducible apply ld_blk); exact rfl) | (with_reducible apply ld_skip))); done))) | (apply v_t; omega) | (apply VNew.mk; intro g hg)); (conv => whnf))))
  (apply VRet.mk)
  refine ret1 (by first | exact .inl rfl | exact .inr rfl) rfl (by exact rv_tmp rfl) ?_
  exact fun w h => ⟨by simp, h.base⟩
 ·rw [decide_eq_false e]
  refine fn_v tk (n := 12) (A := []) Tryz.func73 rfl rfl (Nat.le_of_ble_eq_true rfl) (St.nil (Below.refl _ _)) ?_
  ((conv => whnf); (repeat ((first | (apply VStop.mk; refine tr_region_lex (id := 1) (by kernel_rfl) [.rd, .rd, .rd, .rd, .rd, .rd, .rd, .rd, .rd] rfl (by kernel_rfl) ?_; apply ot_v tk) | (apply VLd.mk; first | exact c1 _ | exact c2 _) | (apply VIx.mk (j := k); exact rfl; omega) | (apply VLd.mk; (focus ((repeat (first | ((with_reducible apply ld_blk); exact rfl) | (with_reducible apply ld_skip))); done))) | (apply v_f; omega) | (apply VNew.mk; intro g hg)); (conv => whnf))))
  (apply VRet.mk)
  refine ret1 (by first | exact .inl rfl | exact .inr rfl) rfl (by exact rv_tmp rfl) ?_
  exact fun w h => ⟨by simp, h.base⟩
section
variable (gd : Nat) (A1 : Option Addr) (c1 : Nat) (l1 : List Ln) (w : World) (hd : w.cell? ⟨gd, 0, none⟩ = some (.slice A1 l1.length c1)) (h1 : BookR w A1 l1) (hm1 : l1.length ≤ 1000)
include hd h1 hm1
theorem whereC_any (g1 gm : Nat) (F : Int × Int → Option Ln) (st : List (Nat × (Int × Int))) (e1 : w.cell? ⟨g1, 0, none⟩ = some (.map (some gm))) (e2 : MapP pairE (mapO F) st w.heap[gm]?) (e3 : gm < w.heap.size) {L : List Ln} (hL : l1.filter (fun x => (F (key x)).isNone) = L) : Calls Tryz.prog 69 #[.pointer (some ⟨gd, 0, none⟩), .func (.func 70) #[] #[.pointer (some ⟨g1, 0, none⟩)]] w fun e w' => ∃ x : SlX, e = .returned (.agg #[.slice x.1 L.length x.2]) ∧ True ∧ St w ([] ++ [.own (.slice x.1 L.length x.2) 61 5 L.length (lnC L)]) w' := by
 subst hL
 exact where_any 70 _ _ gd A1 c1 l1 w (by kernel_rfl) (fun x _ w1 hs => common1_any x g1 gm F st w1 (CellAt.base e1 w1 hs) (by rw [hs.base.block gm e3]; exact e2) (Nat.lt_of_lt_of_le e3 hs.base.size)) hd h1 hm1
theorem whereO_any (g1 gm : Nat) (F : Int × Int → Option Ln) (st : List (Nat × (Int × Int))) (e1 : w.cell? ⟨g1, 0, none⟩ = some (.map (some gm))) (e2 : MapP pairE (mapO F) st w.heap[gm]?) (e3 : gm < w.heap.size) {L : List Ln} (hL : l1.filter (fun x => (F (key x)).isSome) = L) : Calls Tryz.prog 69 #[.pointer (some ⟨gd, 0, none⟩), .func (.func 72) #[] #[.pointer (some ⟨g1, 0, none⟩)]] w fun e w' => ∃ x : SlX, e = .returned (.agg #[.slice x.1 L.length x.2]) ∧ True ∧ St w ([] ++ [.own (.slice x.1 L.length x.2) 61 5 L.length (lnC L)]) w' := by
 subst hL
 exact where_any 72 _ _ gd A1 c1 l1 w (by kernel_rfl) (fun x _ w1 hs => only1_any x g1 gm F st w1 (CellAt.base e1 w1 hs) (by rw [hs.base.block gm e3]; exact e2) (Nat.lt_of_lt_of_le e3 hs.base.size)) hd h1 hm1
theorem whereS_any (hV : Valid l1) (g1 : Nat) (SA : Option Addr) (sc : Nat) (sn : List Int) (e1 : w.cell? ⟨g1, 0, none⟩ = some (.slice SA 3 sc)) (e2 : Reads w w.heap.size 1 SA 3 (i64s sn)) (hn : sn.length = 3) : Calls Tryz.prog 69 #[.pointer (some ⟨gd, 0, none⟩), .func (.func 73) #[] #[.pointer (some ⟨g1, 0, none⟩)]] w fun e w' => ∃ x : SlX, e = .returned (.agg #[.slice x.1 (l1.filter (sinceP sn)).length x.2]) ∧ True ∧ St w ([] ++ [.own (.slice x.1 (l1.filter (sinceP sn)).length x.2) 61 5 (l1.filter (sinceP sn)).length (lnC (l1.filter (sinceP sn)))]) w' :=
 where_any 73 _ _ gd A1 c1 l1 w (by kernel_rfl) (fun x hx w1 hs => by
  obtain ⟨j, hj, rfl⟩ := mem_at hx
  exact since1_any _ (hV.lnOk hj) g1 SA sc sn w1 (CellAt.base e1 w1 hs) (hs.reads e2) hn) hd h1 hm1
end
theorem filterC {l1 : List Ln} (h : Valid l1) (l2 : List Ln) : l1.filter (fun x => (onlyF l1 l2 (key x)).isNone) = l1.filter (partP l2 true) := by
 refine List.filter_congr fun x hx => ?_
 rw [onlyF_eq h l2 hx]
 unfold partP hasL
 by_cases e : x ∈ l2
 ·rw [if_pos e, decide_eq_true e]; rfl
 ·rw [if_neg e, decide_eq_false e]; rfl
theorem filterO {l1 : List Ln} (h : Valid l1) (l2 : List Ln) : l1.filter (fun x => (onlyF l1 l2 (key x)).isSome) = l1.filter (partP l2 false) := by
 refine List.filter_congr fun x hx => ?_
 rw [onlyF_eq h l2 hx]
 unfold partP hasL
 by_cases e : x ∈ l2
 ·rw [if_pos e, decide_eq_true e]; rfl
 ·rw [if_neg e, decide_eq_false e]; rfl
/-! ## Common, Only -/
section
variable (A1 : Option Addr) (c1 : Nat) (l1 : List Ln) (A2 : Option Addr) (c2 : Nat) (l2 : List Ln) (w : World) (h1 : BookR w A1 l1) (h2 : BookR w A2 l2)
include h1 h2
set_option maxRecDepth 20000 in
theorem common_err (hm1 : l1.length ≤ maxLen) (hm2 : l2.length ≤ maxLen) (hE : errTwo l1 l2 ≠ 0) : Calls Tryz.prog 29 #[.agg #[.slice A1 l1.length c1], .agg #[.slice A2 l2.length c2]] w fun e w' => e = .returned (.tuple #[.agg #[.slice none 0 0], .int .i64 (errTwo l1 l2)]) ∧ Below w.heap.size w w' := by
 have k1 := fun {g t : Nat} {A : List Chunk} {w0 w1 : World} (hs : St w0 A w1) (hb1 : BookR w1 A1 l1) (hb2 : BookR w1 A2 l2) (hA : Chunk.blk g t [.slice A1 l1.length c1, .slice A2 l2.length c2] ∈ A) => open2_err g A1 c1 l1 A2 c2 l2 w1 (hs.blk_reads hA rfl) hb1 hb2 hm1 hm2 hE
 generalize errTwo l1 l2 = z at *
 refine fn_v tk (n := 31) (A := []) Tryz.func29 rfl rfl (Nat.le_of_ble_eq_true rfl) (St.nil (Below.refl _ _)) ?_
 ((conv => whnf); (repeat ((first | (apply VCall.q; kernel_rfl; (focus (intro w1 hs; first | ((with_reducible apply k1 hs (hs.book h1) (hs.book h2)); (repeat (first | exact List.Mem.head _ | assumption | refine List.Mem.tail _ ?_)))))) | (apply VLdN.mk; (focus ((repeat (first | (with_reducible apply ldn_blk) | (with_reducible apply ldn_skip))); done)); exact rfl) | apply VBr.t | (apply v_t; omega) | (apply VNew.mk; intro g hg) | (apply VSt.mk; (focus ((repeat (first | (with_reducible exact At.here) | (with_reducible apply At.there))); done)); exact rfl)); (conv => whnf))))
 (apply VRet.mk)
 refine ret2 (by first | exact .inl rfl | exact .inr rfl) rfl (by exact rv_row tk rfl rfl rfl (by first | exact cells_blk_all (by (repeat (first | exact List.Mem.head _ | assumption | refine List.Mem.tail _ ?_))) | exact cells_row0 (by (repeat (first | exact List.Mem.head _ | assumption | refine List.Mem.tail _ ?_)))) rfl) (by exact rv_tmp rfl) ?_
 exact fun w h => ⟨rfl, h.base⟩
set_option maxRecDepth 20000 in
theorem common_ok (hV1 : Valid l1) (hV2 : Valid l2) : Calls Tryz.prog 29 #[.agg #[.slice A1 l1.length c1], .agg #[.slice A2 l2.length c2]] w fun e w' => ∃ x : SlX, e = .returned (.tuple #[.agg #[.slice x.1 (l1.filter (partP l2 true)).length x.2], .int .i64 0]) ∧ True ∧ St w ([] ++ [.own (.slice x.1 (l1.filter (partP l2 true)).length x.2) 61 5 (l1.filter (partP l2 true)).length (lnC (l1.filter (partP l2 true)))]) w' := by
 have z1 := chk_valid.2 hV1
 have z2 := chk_valid.2 hV2
 have hfl := filterC hV1 l2
 generalize l1.filter (partP l2 true) = O at *
 have hmm : l1.length ≤ 1000 := by have := hV1.len; omega
 refine fn_v tk (n := 31) (A := []) Tryz.func29 rfl rfl (Nat.le_of_ble_eq_true rfl) (St.nil (Below.refl _ _)) ?_
 ((conv => whnf); (repeat ((first | (apply VLdN.mk; (focus ((repeat (first | (with_reducible apply ldn_blk) | (with_reducible apply ldn_skip))); done)); exact rfl) | (apply VNew.mk; intro g hg)); (conv => whnf))); apply VCall.stop)
 refine ot_callT (X := OpX) (us := []) (vs := []) (fun x => .tuple #[.slice x.B 2 x.c, .int .i64 0]) (fun x => []) (fun x => [.blk x.d2 93 [.slice A2 l2.length c2], .blk x.d1 93 [.slice A1 l1.length c1], .own (.slice x.B 2 x.c) 79 1 2 [.pointer (some ⟨x.d1, 0, none⟩), .pointer (some ⟨x.d2, 0, none⟩)]]) _ (fun x c hc => three_mut hc) (by decide) rfl rfl rfl rfl (by kernel_rfl) (evl_of rfl) rfl (fun w1 hs => open2_ok _ A1 c1 l1 A2 c2 l2 w1 (hs.blk_reads (by (repeat (first | exact List.Mem.head _ | assumption | refine List.Mem.tail _ ?_))) rfl) (hs.book h1) (hs.book h2) hV1.max hV2.max z1 z2) ?_
 intro x _
 obtain ⟨Bx, cx, d1, d2⟩ := x
 dsimp only [List.cons_append, List.nil_append]
 refine ot_own_addr (B := Bx) (m := 2) (cc := cx) (te := 79) (sz := 1) (xs := [.pointer (some ⟨d1, 0, none⟩), .pointer (some ⟨d2, 0, none⟩)]) (by (repeat (first | exact List.Mem.head _ | assumption | refine List.Mem.tail _ ?_))) (by omega) rfl ?_
 rintro bx rfl
 apply ot_v tk
 ((conv => whnf); (repeat ((first | apply VBr.f | (apply v_f; omega)); (conv => whnf))); apply VStop.mk)
 rename_i gA _ gB _ gR _ _
 (apply tr_v tk; (conv => whnf); (repeat ((first | (apply VStop.mk; refine tr_region_treeV (id := 4) (by kernel_rfl) [.blk gB 24 _, .own _ 79 1 2 _] (by (repeat (first | exact sl0 _ | exact sl1 _ | refine sl2 _ ?_ | refine sl3 _ ?_))) [0, 1, 2, 3, 4] [5, 6, 7] [.rd, .rd, .rd, .rd, .rd] (fun i => [.wr, .wr, .wr, .wr, .wr, .cr, .cr, .wr].getD i .wr) _ rfl rfl (by kernel_rfl) ?_; apply ot_v tk) | (apply VLd.mk; exact cell_own (j := 0) (by (repeat (first | exact List.Mem.head _ | assumption | refine List.Mem.tail _ ?_))) rfl) | (apply VLd.mk; (focus ((repeat (first | ((with_reducible apply ld_blk); exact rfl) | (with_reducible apply ld_skip))); done))) | (apply VIx.mk (j := 0); exact rfl; omega)); (conv => whnf))))
 refine ox2 5 6 ?_ ?_
 ·(refine ot_callT (X := Nat) (us := []) (vs := []) (fun x => .map (some x)) (fun x => []) (fun x => [.prd x (MapP pairE (mapO (onlyF l1 l2)) [])]) _ (fun x c hc => prd_mut hc) (by decide) rfl rfl rfl rfl (by kernel_rfl) (evl_of rfl) rfl (fun w1 hs => only_any d1 A1 c1 l1 A2 c2 l2 w1 (cell_blk (by (repeat (first | exact List.Mem.head _ | assumption | refine List.Mem.tail _ ?_))) rfl w1 hs) (hs.book h1) (hs.book h2) hV1.max hV2.max) ?_; intro gm _; dsimp only [List.cons_append, List.nil_append]; refine ot_nil ?_; refine sla ?_)
  refine ox1 6 ?_
  (apply ot_v tk; (conv => whnf); (apply VNew.mk; intro g8 hg8; (conv => whnf)); refine sla ?_)
  refine ox1 7 ?_
  (apply ot_v tk; (conv => whnf); (apply VSt.mk; (focus (repeat (first | exact At.here | apply At.there)); done); exact rfl; (conv => whnf)); refine sla ?_)
  refine VT.mk (otx_end ?_)
  ((conv => whnf); (repeat ((first | (apply VLd.mk; exact cell_own (j := 0) (by (repeat (first | exact List.Mem.head _ | assumption | refine List.Mem.tail _ ?_))) rfl) | (apply VIx.mk (j := 0); exact rfl; omega)); (conv => whnf))); apply VCall.stop); refine ot_callT (X := SlX) (us := []) (vs := []) (fun x => .agg #[.slice x.1 O.length x.2]) (fun x => []) (fun x => [.own (.slice x.1 O.length x.2) 61 5 O.length (lnC O)]) _ (fun x c hc => one_mut hc) (by decide) rfl rfl rfl rfl (by kernel_rfl) (evl_of rfl) rfl (fun w1 hs => whereC_any d1 A1 c1 l1 w1 (cell_blk (by (repeat (first | exact List.Mem.head _ | assumption | refine List.Mem.tail _ ?_))) rfl w1 hs) (hs.book h1) hmm g8 gm (onlyF l1 l2) .nil (cell_blk (by (repeat (first | exact List.Mem.head _ | assumption | refine List.Mem.tail _ ?_))) rfl w1 hs) (prd_at (p := MapP pairE (mapO (onlyF l1 l2)) .nil) hs (by (repeat (first | exact List.Mem.head _ | assumption | refine List.Mem.tail _ ?_)))).1 (prd_at (p := MapP pairE (mapO (onlyF l1 l2)) .nil) hs (by (repeat (first | exact List.Mem.head _ | assumption | refine List.Mem.tail _ ?_)))).2 hfl) ?_; intro x _; (dsimp only [List.cons_append, List.nil_append]; apply ot_v tk); ((conv => whnf); (repeat ((apply VSt.mk; (focus ((repeat (first | (with_reducible exact At.here) | (with_reducible apply At.there))); done)); exact rfl); (conv => whnf)))); (apply VRet.mk); refine ret2 (by first | exact .inl rfl | exact .inr rfl) rfl (by exact rv_row tk rfl rfl rfl (by first | exact cells_blk_all (by (repeat (first | exact List.Mem.head _ | assumption | refine List.Mem.tail _ ?_))) | exact cells_row0 (by (repeat (first | exact List.Mem.head _ | assumption | refine List.Mem.tail _ ?_)))) rfl) (by exact rv_tmp rfl) ?_; exact fun w hs => ⟨x, rfl, trivial, hs.sub (List.singleton_sublist.2 (by (repeat (first | exact List.Mem.head _ | assumption | refine List.Mem.tail _ ?_))))⟩
 ·(apply ot_v tk; (conv => whnf); (apply VNew.mk; intro g8 hg8; (conv => whnf)); refine sla ?_)
  refine ox1 5 ?_
  (refine ot_callT (X := Nat) (us := []) (vs := []) (fun x => .map (some x)) (fun x => []) (fun x => [.prd x (MapP pairE (mapO (onlyF l1 l2)) [])]) _ (fun x c hc => prd_mut hc) (by decide) rfl rfl rfl rfl (by kernel_rfl) (evl_of rfl) rfl (fun w1 hs => only_any d1 A1 c1 l1 A2 c2 l2 w1 (cell_blk (by (repeat (first | exact List.Mem.head _ | assumption | refine List.Mem.tail _ ?_))) rfl w1 hs) (hs.book h1) (hs.book h2) hV1.max hV2.max) ?_; intro gm _; dsimp only [List.cons_append, List.nil_append]; refine ot_nil ?_; refine sla ?_)
  refine ox1 7 ?_
  (apply ot_v tk; (conv => whnf); (apply VSt.mk; (focus (repeat (first | exact At.here | apply At.there)); done); exact rfl; (conv => whnf)); refine sla ?_)
  refine VT.mk (otx_end ?_)
  ((conv => whnf); (repeat ((first | (apply VLd.mk; exact cell_own (j := 0) (by (repeat (first | exact List.Mem.head _ | assumption | refine List.Mem.tail _ ?_))) rfl) | (apply VIx.mk (j := 0); exact rfl; omega)); (conv => whnf))); apply VCall.stop); refine ot_callT (X := SlX) (us := []) (vs := []) (fun x => .agg #[.slice x.1 O.length x.2]) (fun x => []) (fun x => [.own (.slice x.1 O.length x.2) 61 5 O.length (lnC O)]) _ (fun x c hc => one_mut hc) (by decide) rfl rfl rfl rfl (by kernel_rfl) (evl_of rfl) rfl (fun w1 hs => whereC_any d1 A1 c1 l1 w1 (cell_blk (by (repeat (first | exact List.Mem.head _ | assumption | refine List.Mem.tail _ ?_))) rfl w1 hs) (hs.book h1) hmm g8 gm (onlyF l1 l2) .nil (cell_blk (by (repeat (first | exact List.Mem.head _ | assumption | refine List.Mem.tail _ ?_))) rfl w1 hs) (prd_at (p := MapP pairE (mapO (onlyF l1 l2)) .nil) hs (by (repeat (first | exact List.Mem.head _ | assumption | refine List.Mem.tail _ ?_)))).1 (prd_at (p := MapP pairE (mapO (onlyF l1 l2)) .nil) hs (by (repeat (first | exact List.Mem.head _ | assumption | refine List.Mem.tail _ ?_)))).2 hfl) ?_; intro x _; (dsimp only [List.cons_append, List.nil_append]; apply ot_v tk); ((conv => whnf); (repeat ((apply VSt.mk; (focus ((repeat (first | (with_reducible exact At.here) | (with_reducible apply At.there))); done)); exact rfl); (conv => whnf)))); (apply VRet.mk); refine ret2 (by first | exact .inl rfl | exact .inr rfl) rfl (by exact rv_row tk rfl rfl rfl (by first | exact cells_blk_all (by (repeat (first | exact List.Mem.head _ | assumption | refine List.Mem.tail _ ?_))) | exact cells_row0 (by (repeat (first | exact List.Mem.head _ | assumption | refine List.Mem.tail _ ?_)))) rfl) (by exact rv_tmp rfl) ?_; exact fun w hs => ⟨x, rfl, trivial, hs.sub (List.singleton_sublist.2 (by (repeat (first | exact List.Mem.head _ | assumption | refine List.Mem.tail _ ?_))))⟩
set_option maxRecDepth 20000 in
theorem only_err (hm1 : l1.length ≤ maxLen) (hm2 : l2.length ≤ maxLen) (hE : errTwo l1 l2 ≠ 0) : Calls Tryz.prog 31 #[.agg #[.slice A1 l1.length c1], .agg #[.slice A2 l2.length c2]] w fun e w' => e = .returned (.tuple #[.agg #[.slice none 0 0], .int .i64 (errTwo l1 l2)]) ∧ Below w.heap.size w w' := by
 have k1 := fun {g t : Nat} {A : List Chunk} {w0 w1 : World} (hs : St w0 A w1) (hb1 : BookR w1 A1 l1) (hb2 : BookR w1 A2 l2) (hA : Chunk.blk g t [.slice A1 l1.length c1, .slice A2 l2.length c2] ∈ A) => open2_err g A1 c1 l1 A2 c2 l2 w1 (hs.blk_reads hA rfl) hb1 hb2 hm1 hm2 hE
 generalize errTwo l1 l2 = z at *
 refine fn_v tk (n := 31) (A := []) Tryz.func31 rfl rfl (Nat.le_of_ble_eq_true rfl) (St.nil (Below.refl _ _)) ?_
 ((conv => whnf); (repeat ((first | (apply VCall.q; kernel_rfl; (focus (intro w1 hs; first | ((with_reducible apply k1 hs (hs.book h1) (hs.book h2)); (repeat (first | exact List.Mem.head _ | assumption | refine List.Mem.tail _ ?_)))))) | (apply VLdN.mk; (focus ((repeat (first | (with_reducible apply ldn_blk) | (with_reducible apply ldn_skip))); done)); exact rfl) | apply VBr.t | (apply v_t; omega) | (apply VNew.mk; intro g hg) | (apply VSt.mk; (focus ((repeat (first | (with_reducible exact At.here) | (with_reducible apply At.there))); done)); exact rfl)); (conv => whnf))))
 (apply VRet.mk)
 refine ret2 (by first | exact .inl rfl | exact .inr rfl) rfl (by exact rv_row tk rfl rfl rfl (by first | exact cells_blk_all (by (repeat (first | exact List.Mem.head _ | assumption | refine List.Mem.tail _ ?_))) | exact cells_row0 (by (repeat (first | exact List.Mem.head _ | assumption | refine List.Mem.tail _ ?_)))) rfl) (by exact rv_tmp rfl) ?_
 exact fun w h => ⟨rfl, h.base⟩
set_option maxRecDepth 20000 in
theorem only_ok (hV1 : Valid l1) (hV2 : Valid l2) : Calls Tryz.prog 31 #[.agg #[.slice A1 l1.length c1], .agg #[.slice A2 l2.length c2]] w fun e w' => ∃ x : SlX, e = .returned (.tuple #[.agg #[.slice x.1 (l1.filter (partP l2 false)).length x.2], .int .i64 0]) ∧ True ∧ St w ([] ++ [.own (.slice x.1 (l1.filter (partP l2 false)).length x.2) 61 5 (l1.filter (partP l2 false)).length (lnC (l1.filter (partP l2 false)))]) w' := by
 have z1 := chk_valid.2 hV1
 have z2 := chk_valid.2 hV2
 have hfl := filterO hV1 l2
 generalize l1.filter (partP l2 false) = O at *
 have hmm : l1.length ≤ 1000 := by have := hV1.len; omega
 refine fn_v tk (n := 31) (A := []) Tryz.func31 rfl rfl (Nat.le_of_ble_eq_true rfl) (St.nil (Below.refl _ _)) ?_
 ((conv => whnf); (repeat ((first | (apply VLdN.mk; (focus ((repeat (first | (with_reducible apply ldn_blk) | (with_reducible apply ldn_skip))); done)); exact rfl) | (apply VNew.mk; intro g hg)); (conv => whnf))); apply VCall.stop)
 refine ot_callT (X := OpX) (us := []) (vs := []) (fun x => .tuple #[.slice x.B 2 x.c, .int .i64 0]) (fun x => []) (fun x => [.blk x.d2 93 [.slice A2 l2.length c2], .blk x.d1 93 [.slice A1 l1.length c1], .own (.slice x.B 2 x.c) 79 1 2 [.pointer (some ⟨x.d1, 0, none⟩), .pointer (some ⟨x.d2, 0, none⟩)]]) _ (fun x c hc => three_mut hc) (by decide) rfl rfl rfl rfl (by kernel_rfl) (evl_of rfl) rfl (fun w1 hs => open2_ok _ A1 c1 l1 A2 c2 l2 w1 (hs.blk_reads (by (repeat (first | exact List.Mem.head _ | assumption | refine List.Mem.tail _ ?_))) rfl) (hs.book h1) (hs.book h2) hV1.max hV2.max z1 z2) ?_
 intro x _
 obtain ⟨Bx, cx, d1, d2⟩ := x
 dsimp only [List.cons_append, List.nil_append]
 refine ot_own_addr (B := Bx) (m := 2) (cc := cx) (te := 79) (sz := 1) (xs := [.pointer (some ⟨d1, 0, none⟩), .pointer (some ⟨d2, 0, none⟩)]) (by (repeat (first | exact List.Mem.head _ | assumption | refine List.Mem.tail _ ?_))) (by omega) rfl ?_
 rintro bx rfl
 apply ot_v tk
 ((conv => whnf); (repeat ((first | apply VBr.f | (apply v_f; omega)); (conv => whnf))); apply VStop.mk)
 rename_i gA _ gB _ gR _ _
 (apply tr_v tk; (conv => whnf); (repeat ((first | (apply VStop.mk; refine tr_region_treeV (id := 4) (by kernel_rfl) [.blk gB 24 _, .own _ 79 1 2 _] (by (repeat (first | exact sl0 _ | exact sl1 _ | refine sl2 _ ?_ | refine sl3 _ ?_))) [0, 1, 2, 3, 4] [5, 6, 7] [.rd, .rd, .rd, .rd, .rd] (fun i => [.wr, .wr, .wr, .wr, .wr, .cr, .cr, .wr].getD i .wr) _ rfl rfl (by kernel_rfl) ?_; apply ot_v tk) | (apply VLd.mk; exact cell_own (j := 0) (by (repeat (first | exact List.Mem.head _ | assumption | refine List.Mem.tail _ ?_))) rfl) | (apply VLd.mk; (focus ((repeat (first | ((with_reducible apply ld_blk); exact rfl) | (with_reducible apply ld_skip))); done))) | (apply VIx.mk (j := 0); exact rfl; omega)); (conv => whnf))))
 refine ox2 5 6 ?_ ?_
 ·(refine ot_callT (X := Nat) (us := []) (vs := []) (fun x => .map (some x)) (fun x => []) (fun x => [.prd x (MapP pairE (mapO (onlyF l1 l2)) [])]) _ (fun x c hc => prd_mut hc) (by decide) rfl rfl rfl rfl (by kernel_rfl) (evl_of rfl) rfl (fun w1 hs => only_any d1 A1 c1 l1 A2 c2 l2 w1 (cell_blk (by (repeat (first | exact List.Mem.head _ | assumption | refine List.Mem.tail _ ?_))) rfl w1 hs) (hs.book h1) (hs.book h2) hV1.max hV2.max) ?_; intro gm _; dsimp only [List.cons_append, List.nil_append]; refine ot_nil ?_; refine sla ?_)
  refine ox1 6 ?_
  (apply ot_v tk; (conv => whnf); (apply VNew.mk; intro g8 hg8; (conv => whnf)); refine sla ?_)
  refine ox1 7 ?_
  (apply ot_v tk; (conv => whnf); (apply VSt.mk; (focus (repeat (first | exact At.here | apply At.there)); done); exact rfl; (conv => whnf)); refine sla ?_)
  refine VT.mk (otx_end ?_)
  ((conv => whnf); (repeat ((first | (apply VLd.mk; exact cell_own (j := 0) (by (repeat (first | exact List.Mem.head _ | assumption | refine List.Mem.tail _ ?_))) rfl) | (apply VIx.mk (j := 0); exact rfl; omega)); (conv => whnf))); apply VCall.stop); refine ot_callT (X := SlX) (us := []) (vs := []) (fun x => .agg #[.slice x.1 O.length x.2]) (fun x => []) (fun x => [.own (.slice x.1 O.length x.2) 61 5 O.length (lnC O)]) _ (fun x c hc => one_mut hc) (by decide) rfl rfl rfl rfl (by kernel_rfl) (evl_of rfl) rfl (fun w1 hs => whereO_any d1 A1 c1 l1 w1 (cell_blk (by (repeat (first | exact List.Mem.head _ | assumption | refine List.Mem.tail _ ?_))) rfl w1 hs) (hs.book h1) hmm g8 gm (onlyF l1 l2) .nil (cell_blk (by (repeat (first | exact List.Mem.head _ | assumption | refine List.Mem.tail _ ?_))) rfl w1 hs) (prd_at (p := MapP pairE (mapO (onlyF l1 l2)) .nil) hs (by (repeat (first | exact List.Mem.head _ | assumption | refine List.Mem.tail _ ?_)))).1 (prd_at (p := MapP pairE (mapO (onlyF l1 l2)) .nil) hs (by (repeat (first | exact List.Mem.head _ | assumption | refine List.Mem.tail _ ?_)))).2 hfl) ?_; intro x _; (dsimp only [List.cons_append, List.nil_append]; apply ot_v tk); ((conv => whnf); (repeat ((apply VSt.mk; (focus ((repeat (first | (with_reducible exact At.here) | (with_reducible apply At.there))); done)); exact rfl); (conv => whnf)))); (apply VRet.mk); refine ret2 (by first | exact .inl rfl | exact .inr rfl) rfl (by exact rv_row tk rfl rfl rfl (by first | exact cells_blk_all (by (repeat (first | exact List.Mem.head _ | assumption | refine List.Mem.tail _ ?_))) | exact cells_row0 (by (repeat (first | exact List.Mem.head _ | assumption | refine List.Mem.tail _ ?_)))) rfl) (by exact rv_tmp rfl) ?_; exact fun w hs => ⟨x, rfl, trivial, hs.sub (List.singleton_sublist.2 (by (repeat (first | exact List.Mem.head _ | assumption | refine List.Mem.tail _ ?_))))⟩
 ·(apply ot_v tk; (conv => whnf); (apply VNew.mk; intro g8 hg8; (conv => whnf)); refine sla ?_)
  refine ox1 5 ?_
  (refine ot_callT (X := Nat) (us := []) (vs := []) (fun x => .map (some x)) (fun x => []) (fun x => [.prd x (MapP pairE (mapO (onlyF l1 l2)) [])]) _ (fun x c hc => prd_mut hc) (by decide) rfl rfl rfl rfl (by kernel_rfl) (evl_of rfl) rfl (fun w1 hs => only_any d1 A1 c1 l1 A2 c2 l2 w1 (cell_blk (by (repeat (first | exact List.Mem.head _ | assumption | refine List.Mem.tail _ ?_))) rfl w1 hs) (hs.book h1) (hs.book h2) hV1.max hV2.max) ?_; intro gm _; dsimp only [List.cons_append, List.nil_append]; refine ot_nil ?_; refine sla ?_)
  refine ox1 7 ?_
  (apply ot_v tk; (conv => whnf); (apply VSt.mk; (focus (repeat (first | exact At.here | apply At.there)); done); exact rfl; (conv => whnf)); refine sla ?_)
  refine VT.mk (otx_end ?_)
  ((conv => whnf); (repeat ((first | (apply VLd.mk; exact cell_own (j := 0) (by (repeat (first | exact List.Mem.head _ | assumption | refine List.Mem.tail _ ?_))) rfl) | (apply VIx.mk (j := 0); exact rfl; omega)); (conv => whnf))); apply VCall.stop); refine ot_callT (X := SlX) (us := []) (vs := []) (fun x => .agg #[.slice x.1 O.length x.2]) (fun x => []) (fun x => [.own (.slice x.1 O.length x.2) 61 5 O.length (lnC O)]) _ (fun x c hc => one_mut hc) (by decide) rfl rfl rfl rfl (by kernel_rfl) (evl_of rfl) rfl (fun w1 hs => whereO_any d1 A1 c1 l1 w1 (cell_blk (by (repeat (first | exact List.Mem.head _ | assumption | refine List.Mem.tail _ ?_))) rfl w1 hs) (hs.book h1) hmm g8 gm (onlyF l1 l2) .nil (cell_blk (by (repeat (first | exact List.Mem.head _ | assumption | refine List.Mem.tail _ ?_))) rfl w1 hs) (prd_at (p := MapP pairE (mapO (onlyF l1 l2)) .nil) hs (by (repeat (first | exact List.Mem.head _ | assumption | refine List.Mem.tail _ ?_)))).1 (prd_at (p := MapP pairE (mapO (onlyF l1 l2)) .nil) hs (by (repeat (first | exact List.Mem.head _ | assumption | refine List.Mem.tail _ ?_)))).2 hfl) ?_; intro x _; (dsimp only [List.cons_append, List.nil_append]; apply ot_v tk); ((conv => whnf); (repeat ((apply VSt.mk; (focus ((repeat (first | (with_reducible exact At.here) | (with_reducible apply At.there))); done)); exact rfl); (conv => whnf)))); (apply VRet.mk); refine ret2 (by first | exact .inl rfl | exact .inr rfl) rfl (by exact rv_row tk rfl rfl rfl (by first | exact cells_blk_all (by (repeat (first | exact List.Mem.head _ | assumption | refine List.Mem.tail _ ?_))) | exact cells_row0 (by (repeat (first | exact List.Mem.head _ | assumption | refine List.Mem.tail _ ?_)))) rfl) (by exact rv_tmp rfl) ?_; exact fun w hs => ⟨x, rfl, trivial, hs.sub (List.singleton_sublist.2 (by (repeat (first | exact List.Mem.head _ | assumption | refine List.Mem.tail _ ?_))))⟩
end
end Go.Proofs.YtojeeindlijgkaaGreatDoor
