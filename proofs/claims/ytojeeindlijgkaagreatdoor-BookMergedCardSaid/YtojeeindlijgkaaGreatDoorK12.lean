/- Clash: lemmas for the rows of this seat. No conditions. -/
import Derived.Laws.StructEq
import Derived.Test.YtojeeindlijgkaaGreatDoorK11
set_option linter.all false
namespace Go.Proofs.YtojeeindlijgkaaGreatDoor
open Go.RowKit
/-! ## Clash -/
def clF (F : Int × Int → Option Ln) (x : Ln) : Bool := match F (key x) with
 | none => false
 | some y => !decide (y = x)
theorem clF_eq {l2 : List Ln} (h : Valid l2) (x : Ln) : clF (linesF l2) x = clashB l2 x := by
 unfold clF clashB
 cases hf : linesF l2 (key x) with
 | none =>
  dsimp only
  symm
  rw [List.any_eq_false]
  intro y hy hc
  unfold clB at hc
  simp only [Bool.and_eq_true, decide_eq_true_eq] at hc
  exact linesF_none hf y hy (by unfold key; rw [hc.1.1, hc.1.2])
 | some y =>
  dsimp only
  obtain ⟨h1, h2⟩ := linesF_some hf
  have e1 := congrArg Prod.fst h2
  have e2 := congrArg Prod.snd h2
  unfold key at e1 e2
  dsimp only at e1 e2
  by_cases e : y = x
  ·rw [decide_eq_true e, Bool.not_true]
   symm
   rw [List.any_eq_false]
   intro z hz hc
   unfold clB at hc
   simp only [Bool.and_eq_true, decide_eq_true_eq, Bool.not_eq_true', decide_eq_false_iff_not] at hc
   exact hc.2 ((e.symm.trans (h.key_inj h1 hz (by rw [h2]; unfold key; rw [hc.1.1, hc.1.2]))))
  ·rw [decide_eq_false e, Bool.not_false]
   symm
   rw [List.any_eq_true]
   refine ⟨y, h1, ?_⟩
   unfold clB
   simp only [Bool.and_eq_true, decide_eq_true_eq, Bool.not_eq_true', decide_eq_false_iff_not]
   exact ⟨⟨e1.symm, e2.symm⟩, fun e' => e e'.symm⟩
set_option maxRecDepth 20000 in
theorem clash1_any (x : Ln) (g1 gm : Nat) (F : Int × Int → Option Ln) (st : List (Nat × (Int × Int))) (w : World) (h1 : w.cell? ⟨g1, 0, none⟩ = some (.map (some gm))) (h2 : MapP pairE (mapO F) st w.heap[gm]?) (h3 : gm < w.heap.size) : Calls Tryz.prog 64 #[lnV x, .pointer (some ⟨g1, 0, none⟩)] w fun e w' => e = .returned (.bool (clF F x)) ∧ Below w.heap.size w w' := by
 have c1 : ∀ A, CellAt w A g1 0 _ := fun A => CellAt.base h1
 have m1 := mapAt_base h2 h3
 clear h1 h2 h3
 unfold clF
 have hk : mapO F (x.st, x.ck) = (F (key x)).map lnV := rfl
 cases hf : F (key x) with
 | none =>
  rw [hf] at hk
  replace hk : mapO F (x.st, x.ck) = none := hk
  unfold lnV
  dsimp only
  refine fn_v tk (n := 22) (A := []) Tryz.func64 rfl rfl (Nat.le_of_ble_eq_true rfl) (St.nil (Below.refl _ _)) ?_
  ((conv => whnf); (repeat ((first | (apply VStop.mk; (refine ot_look_no (k := (x.st, x.ck)) hk pairK mapS zv61 rfl rfl rfl rfl (by exact rfl) (m1 _) ?_); apply ot_v tk) | (apply VLd.mk; first | exact c1 _) | (apply VLd.mk; (focus ((repeat (first | ((with_reducible apply ld_blk); exact rfl) | (with_reducible apply ld_skip))); done))) | apply VBr.f | (apply VNew.mk; intro g hg) | (apply VSt.mk; (focus ((repeat (first | (with_reducible exact At.here) | (with_reducible apply At.there))); done)); exact rfl)); (conv => whnf))))
  ((apply VRet.mk); refine ret1 (by first | exact .inl rfl | exact .inr rfl) rfl (by exact rv_tmp rfl) ?_; exact fun w h => ⟨rfl, h.base⟩)
 | some y =>
  rw [hf] at hk
  replace hk : mapO F (x.st, x.ck) = some (lnV y) := hk
  unfold lnV at hk ⊢
  dsimp only
  have he := fun b (hb : decide (y = x) = b) w => ln_eqV (x := y) (y := x) hb w
  refine fn_v tk (n := 22) (A := []) Tryz.func64 rfl rfl (Nat.le_of_ble_eq_true rfl) (St.nil (Below.refl _ _)) ?_
  cases hb : decide (y = x)
  ·have he := he false hb
   ((conv => whnf); (repeat ((first | (apply VStop.mk; (refine ot_look_yes (k := (x.st, x.ck)) hk pairK mapS zv61 rfl rfl rfl rfl (by exact rfl) (m1 _) ?_); apply ot_v tk) | (apply VLd.mk; first | exact c1 _) | (apply VEq.mk false; kernel_rfl; exact he) | (apply VLd.mk; (focus ((repeat (first | ((with_reducible apply ld_blk); exact rfl) | (with_reducible apply ld_skip))); done))) | (apply VLdN.mk; (focus ((repeat (first | (with_reducible apply ldn_blk) | (with_reducible apply ldn_skip))); done)); exact rfl) | apply VBr.t | (apply VNew.mk; intro g hg) | (apply VSt.mk; (focus ((repeat (first | (with_reducible exact At.here) | (with_reducible apply At.there))); done)); exact rfl)); (conv => whnf))))
   ((apply VRet.mk); refine ret1 (by first | exact .inl rfl | exact .inr rfl) rfl (by exact rv_tmp rfl) ?_; exact fun w h => ⟨rfl, h.base⟩)
  ·have he := he true hb
   ((conv => whnf); (repeat ((first | (apply VStop.mk; (refine ot_look_yes (k := (x.st, x.ck)) hk pairK mapS zv61 rfl rfl rfl rfl (by exact rfl) (m1 _) ?_); apply ot_v tk) | (apply VLd.mk; first | exact c1 _) | (apply VEq.mk true; kernel_rfl; exact he) | (apply VLd.mk; (focus ((repeat (first | ((with_reducible apply ld_blk); exact rfl) | (with_reducible apply ld_skip))); done))) | (apply VLdN.mk; (focus ((repeat (first | (with_reducible apply ldn_blk) | (with_reducible apply ldn_skip))); done)); exact rfl) | apply VBr.t | (apply VNew.mk; intro g hg) | (apply VSt.mk; (focus ((repeat (first | (with_reducible exact At.here) | (with_reducible apply At.there))); done)); exact rfl)); (conv => whnf))))
   ((apply VRet.mk); refine ret1 (by first | exact .inl rfl | exact .inr rfl) rfl (by exact rv_tmp rfl) ?_; exact fun w h => ⟨rfl, h.base⟩)
def findV : Option Ln → Value
 | some x => .tuple #[lnV x, .bool true]
 | none => .tuple #[.agg #[.int .i64 0, .int .i64 0, .int .i64 0, .int .i64 0, .int .i64 0], .bool false]
set_option maxRecDepth 20000 in
theorem find_any (A1 : Option Addr) (c1 : Nat) (l1 : List Ln) (g1 gm : Nat) (F : Int × Int → Option Ln) (st : List (Nat × (Int × Int))) (w : World) (h : BookR w A1 l1) (hm : l1.length ≤ maxLen) (h1 : w.cell? ⟨g1, 0, none⟩ = some (.map (some gm))) (h2 : MapP pairE (mapO F) st w.heap[gm]?) (h3 : gm < w.heap.size) : Calls Tryz.prog 63 #[.slice A1 l1.length c1, .func (.func 64) #[] #[.pointer (some ⟨g1, 0, none⟩)]] w fun e w' => e = .returned (findV (l1.find? (clF F))) ∧ Below w.heap.size w w' := by
 unfold maxLen at hm
 have kc := fun (x : Ln) w1 (hs : St w [] w1) => clash1_any x g1 gm F st w1 (CellAt.base h1 w1 hs) (by rw [hs.base.block gm h3]; exact h2) (Nat.lt_of_lt_of_le h3 hs.base.size)
 clear h1 h2 h3
 obtain ⟨r, hr⟩ : ∃ r, r = (l1.drop 0).find? (clF F) := ⟨_, rfl⟩
 rw [show l1.find? (clF F) = r from hr.symm]
 refine fn_v tk (n := 21) (A := []) Tryz.func63 rfl rfl (Nat.le_of_ble_eq_true rfl) (St.nil (Below.refl _ _)) ?_
 ((conv => whnf); (repeat ((apply VNew.mk; intro g hg); (conv => whnf))); apply VStop.mk)
 revert g hg
 intro g4 hg4
 refine v_loop (fun gm2 ds ts A => ds = [] ∧ ∃ j : Nat, j + gm2 = l1.length ∧ r = (l1.drop j).find? (clF F) ∧ A = [.blk g4 61 [.int .i64 0, .int .i64 0, .int .i64 0, .int .i64 0, .int .i64 0]] ∧ ts = [(1, .func (.func 64) #[] #[.pointer (some ⟨g1, 0, none⟩)]), (4, .pointer (some ⟨g4, 0, none⟩)), (9, .slice A1 l1.length c1), (10, .int .i64 (l1.length : Int)), (11, .int .i64 (j : Int))]) l1.length (l := [(1, _), (4, _), (9, _), (10, _), (11, _)]) (B := _) ?_ (List.Sublist.refl _) ⟨rfl, 0, by omega, hr, rfl, rfl⟩ ?_
 ·exact ⟨rfl, rfl, rfl, rfl, rfl, trivial⟩
 clear hr
 rintro gm2 ds ts A ⟨rfl, j, hj, hr, rfl, rfl⟩
 by_cases hlt : j < l1.length
 ·obtain ⟨b, o, rfl⟩ := book_addr h hlt
  have c1 := fun A => ln_cells h hlt A
  have kx := fun w1 hs => kc (lnAt l1 j) w1 hs
  rw [find_step _ hlt, ← lnAt_get hlt] at hr
  unfold lnL at c1
  unfold lnV at kx
  generalize lnAt l1 j = x at *
  cases hp : clF F x
  ·rw [hp] at hr kx
   rw [if_neg (by decide)] at hr
   (apply tr_v tk; (conv => whnf); (repeat ((first | (apply VLdN.mk; exact c1 _; exact rfl) | (apply VIx.mk (j := j); exact rfl; omega) | (apply VCall.q; kernel_rfl; (focus (intro w1 hs; first | with_reducible apply kx w1 (St.nil hs.base)))) | (apply VLdN.mk; (focus ((repeat (first | (with_reducible apply ldn_blk) | (with_reducible apply ldn_skip))); done)); exact rfl) | (apply VRng.mk; omega) | apply VBr.t | apply VBr.f | (apply v_t; omega) | (apply VNew.mk; intro g hg) | (apply VSt.mk; (focus ((repeat (first | (with_reducible exact At.here) | (with_reducible apply At.there))); done)); exact rfl)); (conv => whnf))))
   exact v_rnd (gm2 - 1) (by omega) (l := [(1, _), (4, _), (9, _), (10, _), (11, _)]) (B := _) ⟨rfl, rfl, rfl, rfl, rfl, trivial⟩ (.cons _ (List.Sublist.refl _)) ⟨rfl, j + 1, by omega, hr, rfl, rfl⟩
  ·rw [hp] at hr kx
   rw [if_pos rfl] at hr
   subst hr
   (apply tr_v tk; (conv => whnf); (repeat ((first | (apply VLdN.mk; exact c1 _; exact rfl) | (apply VIx.mk (j := j); exact rfl; omega) | (apply VCall.q; kernel_rfl; (focus (intro w1 hs; first | with_reducible apply kx w1 (St.nil hs.base)))) | (apply VLdN.mk; (focus ((repeat (first | (with_reducible apply ldn_blk) | (with_reducible apply ldn_skip))); done)); exact rfl) | apply VBr.t | (apply v_t; omega) | (apply VNew.mk; intro g hg) | (apply VSt.mk; (focus ((repeat (first | (with_reducible exact At.here) | (with_reducible apply At.there))); done)); exact rfl)); (conv => whnf))))
   (apply VRet.mk)
   refine ret2 (by first | exact .inl rfl | exact .inr rfl) rfl (by exact rv_row tk rfl rfl rfl (by first | exact cells_blk_all (by (repeat (first | exact List.Mem.head _ | assumption | refine List.Mem.tail _ ?_))) | exact cells_row0 (by (repeat (first | exact List.Mem.head _ | assumption | refine List.Mem.tail _ ?_)))) rfl) (by exact rv_tmp rfl) ?_
   exact fun w h => ⟨rfl, h.base⟩
 obtain rfl : j = l1.length := by omega
 rw [List.drop_length] at hr
 subst hr
 (apply tr_v tk; (conv => whnf); (repeat ((first | (apply VLdN.mk; (focus ((repeat (first | (with_reducible apply ldn_blk) | (with_reducible apply ldn_skip))); done)); exact rfl) | apply VBr.f | (apply v_f; omega) | (apply VNew.mk; intro g hg) | (apply VSt.mk; (focus ((repeat (first | (with_reducible exact At.here) | (with_reducible apply At.there))); done)); exact rfl)); (conv => whnf))))
 (apply VRet.mk)
 refine ret2 (by first | exact .inl rfl | exact .inr rfl) rfl (by exact rv_row tk rfl rfl rfl (by first | exact cells_blk_all (by (repeat (first | exact List.Mem.head _ | assumption | refine List.Mem.tail _ ?_))) | exact cells_row0 (by (repeat (first | exact List.Mem.head _ | assumption | refine List.Mem.tail _ ?_)))) rfl) (by exact rv_tmp rfl) ?_
 exact fun w h => ⟨rfl, h.base⟩
theorem prd_at {w0 w : World} {A : List Chunk} {b : Nat} {p : Option Obj → Prop} (hs : St w0 A w) (h : Chunk.prd b p ∈ A) : p w.heap[b]? ∧ b < w.heap.size := ⟨(hs.all _ h).2.2, (hs.all _ h).2.1⟩
section
variable (A1 : Option Addr) (c1 : Nat) (l1 : List Ln) (A2 : Option Addr) (c2 : Nat) (l2 : List Ln) (w : World) (h1 : BookR w A1 l1) (h2 : BookR w A2 l2)
include h1 h2
set_option maxRecDepth 20000 in
theorem clash_err (hm1 : l1.length ≤ maxLen) (hm2 : l2.length ≤ maxLen) (hE : errTwo l1 l2 ≠ 0) : Calls Tryz.prog 24 #[.agg #[.slice A1 l1.length c1], .agg #[.slice A2 l2.length c2]] w fun e w' => e = .returned (.tuple #[.int .i64 0, .int .i64 0, .int .i64 (errTwo l1 l2)]) ∧ Below w.heap.size w w' := by
 have k1 := fun {g t : Nat} {A : List Chunk} {w0 w1 : World} (hs : St w0 A w1) (hb1 : BookR w1 A1 l1) (hb2 : BookR w1 A2 l2) (hA : Chunk.blk g t [.slice A1 l1.length c1, .slice A2 l2.length c2] ∈ A) => open2_err g A1 c1 l1 A2 c2 l2 w1 (hs.blk_reads hA rfl) hb1 hb2 hm1 hm2 hE
 generalize errTwo l1 l2 = z at *
 refine fn_v tk (n := 39) (A := []) Tryz.func24 rfl rfl (Nat.le_of_ble_eq_true rfl) (St.nil (Below.refl _ _)) ?_
 ((conv => whnf); (repeat ((first | (apply VCall.q; kernel_rfl; (focus (intro w1 hs; first | ((with_reducible apply k1 hs (hs.book h1) (hs.book h2)); (repeat (first | exact List.Mem.head _ | assumption | refine List.Mem.tail _ ?_)))))) | (apply VLdN.mk; (focus ((repeat (first | (with_reducible apply ldn_blk) | (with_reducible apply ldn_skip))); done)); exact rfl) | apply VBr.t | (apply v_t; omega) | (apply VNew.mk; intro g hg)); (conv => whnf))))
 (apply VRet.mk)
 refine ret3 (by first | exact .inl rfl | exact .inr rfl) rfl (by exact rv_tmp rfl) (by exact rv_tmp rfl) (by exact rv_tmp rfl) ?_
 exact fun w h => ⟨rfl, h.base⟩
set_option maxRecDepth 20000 in
theorem clash_any (hV1 : Valid l1) (hV2 : Valid l2) : Calls Tryz.prog 24 #[.agg #[.slice A1 l1.length c1], .agg #[.slice A2 l2.length c2]] w fun e w' => e = .returned (clashV (l1.find? (clashB l2))) ∧ Below w.heap.size w w' := by
 have z1 := chk_valid.2 hV1
 have z2 := chk_valid.2 hV2
 have hcl : clF (linesF l2) = clashB l2 := funext fun x => clF_eq hV2 x
 have kf := fun {g1 gm t : Nat} {A : List Chunk} {w1 : World} (hs : St w A w1) (hA1 : Chunk.blk g1 t [.map (some gm)] ∈ A) (hA2 : Chunk.prd gm (MapP pairE (mapO (linesF l2)) []) ∈ A) => find_any A1 c1 l1 g1 gm (linesF l2) [] w1 (hs.book h1) hV1.max (cell_blk hA1 rfl w1 hs) (prd_at hs hA2).1 (prd_at hs hA2).2
 rw [hcl] at kf
 refine fn_v tk (n := 39) (A := []) Tryz.func24 rfl rfl (Nat.le_of_ble_eq_true rfl) (St.nil (Below.refl _ _)) ?_
 ((conv => whnf); (repeat ((first | (apply VLdN.mk; (focus ((repeat (first | (with_reducible apply ldn_blk) | (with_reducible apply ldn_skip))); done)); exact rfl) | (apply VNew.mk; intro g hg)); (conv => whnf))); apply VCall.stop)
 refine ot_callT (X := OpX) (us := []) (vs := []) (fun x => .tuple #[.slice x.B 2 x.c, .int .i64 0]) (fun x => []) (fun x => [.blk x.d2 93 [.slice A2 l2.length c2], .blk x.d1 93 [.slice A1 l1.length c1], .own (.slice x.B 2 x.c) 79 1 2 [.pointer (some ⟨x.d1, 0, none⟩), .pointer (some ⟨x.d2, 0, none⟩)]]) _ (fun x c hc => three_mut hc) (by decide) rfl rfl rfl rfl (by kernel_rfl) (evl_of rfl) rfl (fun w1 hs => open2_ok _ A1 c1 l1 A2 c2 l2 w1 (hs.blk_reads (by (repeat (first | exact List.Mem.head _ | assumption | refine List.Mem.tail _ ?_))) rfl) (hs.book h1) (hs.book h2) hV1.max hV2.max z1 z2) ?_
 intro x _
 obtain ⟨Bx, cx, d1, d2⟩ := x
 dsimp only [List.cons_append, List.nil_append]
 refine ot_own_addr (B := Bx) (m := 2) (cc := cx) (te := 79) (sz := 1) (xs := [.pointer (some ⟨d1, 0, none⟩), .pointer (some ⟨d2, 0, none⟩)]) (by (repeat (first | exact List.Mem.head _ | assumption | refine List.Mem.tail _ ?_))) (by omega) rfl ?_
 rintro bx rfl
 apply ot_v tk
 ((conv => whnf); (repeat ((first | (apply VLd.mk; exact cell_own (j := 1) (by (repeat (first | exact List.Mem.head _ | assumption | refine List.Mem.tail _ ?_))) rfl) | (apply VIx.mk (j := 1); exact rfl; omega) | apply VBr.f | (apply v_f; omega)); (conv => whnf))); apply VCall.stop)
 refine ot_callT (X := Nat) (us := []) (vs := []) (fun x => .map (some x)) (fun x => []) (fun x => [.prd x (MapP pairE (mapO (linesF l2)) [])]) _ (fun x c hc => prd_mut hc) (by decide) rfl rfl rfl rfl (by kernel_rfl) (evl_of rfl) rfl (fun w1 hs => lines_any d2 A2 c2 l2 w1 (cell_blk (by (repeat (first | exact List.Mem.head _ | assumption | refine List.Mem.tail _ ?_))) rfl w1 hs) (hs.book h2) hV2.max) ?_
 intro gm _
 (dsimp only [List.cons_append, List.nil_append]; apply ot_v tk)
 cases hx : l1.find? (clashB l2) with
 | none =>
  rw [hx] at kf
  unfold findV at kf
  dsimp only at kf
  ((conv => whnf); (repeat ((first | (apply VCall.q; kernel_rfl; (focus (intro w1 hs; first | ((with_reducible apply kf hs); (repeat (first | exact List.Mem.head _ | assumption | refine List.Mem.tail _ ?_)))))) | (apply VLd.mk; (focus ((repeat (first | ((with_reducible apply ld_blk); exact rfl) | (with_reducible apply ld_skip))); done))) | apply VBr.t | (apply VNew.mk; intro g hg) | (apply VSt.mk; (focus ((repeat (first | (with_reducible exact At.here) | (with_reducible apply At.there))); done)); exact rfl)); (conv => whnf))))
  (apply VRet.mk)
  refine ret3 (by first | exact .inl rfl | exact .inr rfl) rfl (by exact rv_tmp rfl) (by exact rv_tmp rfl) (by exact rv_tmp rfl) ?_
  exact fun w h => ⟨rfl, h.base⟩
 | some x =>
  rw [hx] at kf
  unfold findV lnV at kf
  dsimp only at kf
  ((conv => whnf); (repeat ((first | ((first | apply VStop.mk | apply VCall.stop); refine tr_region_lex (id := 8) (by kernel_rfl) [.rd, .rd, .rd, .rd, .rd, .rd, .rd] rfl (by kernel_rfl) ?_; apply ot_v tk) | (apply VCall.q; kernel_rfl; (focus (intro w1 hs; first | ((with_reducible apply kf hs); (repeat (first | exact List.Mem.head _ | assumption | refine List.Mem.tail _ ?_)))))) | (apply VLd.mk; (focus ((repeat (first | ((with_reducible apply ld_blk); exact rfl) | (with_reducible apply ld_skip))); done))) | apply VBr.f | (apply VNew.mk; intro g hg) | (apply VSt.mk; (focus ((repeat (first | (with_reducible exact At.here) | (with_reducible apply At.there))); done)); exact rfl)); (conv => whnf))))
  (apply VRet.mk)
  refine ret3 (by first | exact .inl rfl | exact .inr rfl) rfl (by exact rv_tmp rfl) (by exact rv_tmp rfl) (by exact rv_tmp rfl) ?_
  exact fun w h => ⟨rfl, h.base⟩
end
end Go.Proofs.YtojeeindlijgkaaGreatDoor
