/- round, walked: lemmas for the rows of this seat. No conditions. -/
import Derived.Test.YtkbcogaodnmdoaaProg
import Derived.WalkKit
import Derived.WalkSpells
import Derived.WalkLawsBesides
import Derived.Lib.Hide
import Derived.Deep.AppendLies
import Derived.Deep.Draws
import Derived.Maps.AppendAt
import Derived.RegionTactic
import Derived.OwnWalk
import Derived.Deep.QuietTactic
import Derived.BigQuiet
import Derived.Deep.DeepFit
import Derived.Deep.LoopGhost
import Derived.Deep.DeepMust
import Derived.Deep.DeepCutAuto
import Derived.StillTail
import Derived.Deep.Quiet
import Derived.Deep.RegionHeld3
import Derived.Deep.RegionWith
import Derived.Deep.RegionLaw
import Derived.Maps.OwnOps
import Derived.Maps.OwnSet
import Derived.Maps.OwnRows
import Derived.Maps.RangeWalk
import Derived.Carry
import Derived.Test.YtkbcogaodnmdoaaBase
import Derived.Test.YtkbcogaodnmdoaaMaps
import Derived.Test.YtkbcogaodnmdoaaKeys
import Derived.Test.YtkbcogaodnmdoaaS1
import Derived.Test.YtkbcogaodnmdoaaS5
import Derived.Test.YtkbcogaodnmdoaaS12
import Derived.Test.YtkbcogaodnmdoaaS14
import Derived.Test.YtkbcogaodnmdoaaV
import Derived.Test.YtkbcogaodnmdoaaV2
import Derived.Test.YtkbcogaodnmdoaaV3
import Derived.Test.YtkbcogaodnmdoaaTab
import Derived.Test.YtkbcogaodnmdoaaE1
import Derived.Test.YtkbcogaodnmdoaaE2
import Derived.Test.YtkbcogaodnmdoaaE3
import Derived.Test.YtkbcogaodnmdoaaE4
import Derived.Test.YtkbcogaodnmdoaaE5
import Derived.Test.YtkbcogaodnmdoaaE6
import Derived.Test.YtkbcogaodnmdoaaE7
import Derived.Test.YtkbcogaodnmdoaaE8
import Derived.Test.YtkbcogaodnmdoaaE9
import Derived.Test.YtkbcogaodnmdoaaE10
import Derived.Test.YtkbcogaodnmdoaaE11
import Derived.Test.YtkbcogaodnmdoaaE12
import Derived.Test.YtkbcogaodnmdoaaE13
import Derived.Test.YtkbcogaodnmdoaaE14
import Derived.Test.YtkbcogaodnmdoaaE15
import Derived.Test.YtkbcogaodnmdoaaE16
import Derived.Test.YtkbcogaodnmdoaaE17
import Derived.ChangeKeysEq
import Derived.Laws.StructEq
set_option linter.all false
namespace Go.Proofs.Ytkbcogaodnmdoaa
open Go.RowKit
/-! ## round, walked -/
theorem setMany_one {l : List Int} {k : Nat} (v : Int) (h : k < l.length) : setMany (i64s l) (0 + k * 1) [.int .i64 v] = i64s (l.set k v) := by
  have hl : (i64s l).length = l.length := by simp [i64s]
  rw [Nat.zero_add, Nat.mul_one, setMany_eq _ _ _ (by simp only [List.length_singleton]; omega), ← i64s_set, List.set_eq_take_append_cons_drop, if_pos (by omega)]
  simp
theorem ble_one {l : List Int} {k : Nat} (v : Int) (h : k < l.length) : Nat.ble (0 + k * 1 + [Value.int .i64 v].length) (i64s l).length = true := by
  apply Nat.ble_eq_true_of_le
  simp [i64s]; omega
def startR (s : RS) : RS := ⟨s.at_, s.be, -1⟩
theorem eqItems_ints {P : Program} {d : Nat} {e : TypeId} (he : P.underlying e = some (.int .i64)) {xs ys : List Int} (w : World) {j : Nat} (hne : iAt xs j ≠ iAt ys j) : ∀ (is : List Nat), (∀ i ∈ is, i < xs.length ∧ i < ys.length) → j ∈ is →
    (Op.eqItems (d + 1) e 1 (i64s xs).toArray (i64s ys).toArray is).run P w = .ok false w
  | [], _, h => by cases h
  | i :: is, hi, h => by
    obtain ⟨h1, h2⟩ := hi i (.head _)
    have g1 : (part e (i64s xs).toArray (i * 1)).run P w = .ok (.int .i64 (iAt xs i)) w := run_part_int he _ _ w _ (by rw [Nat.mul_one, List.getElem?_toArray]; exact iAt_get h1)
    have g2 : (part e (i64s ys).toArray (i * 1)).run P w = .ok (.int .i64 (iAt ys i)) w := run_part_int he _ _ w _ (by rw [Nat.mul_one, List.getElem?_toArray]; exact iAt_get h2)
    have g3 := run_equalIn_int (P := P) (w := w) d e .i64 .i64 (iAt xs i) (iAt ys i) he
    simp only [Op.eqItems, Sem.run_bind, g1, g2, g3, Result.andThen_ok]
    by_cases hij : iAt xs i = iAt ys i
    · have hjs : j ∈ is := by
        rcases List.mem_cons.1 h with rfl | h
        · exact absurd hij hne
        · exact h
      have := eqItems_ints (d := d) he w hne is (fun x hx => hi x (.tail _ hx)) hjs
      simpa [hij] using this
    · simp [hij]
theorem eq_ints_no {P : Program} {t e : TypeId} {n : Nat} {xs ys : List Int} (hu : P.underlying t = some (.array n e)) (he : P.underlying e = some (.int .i64)) {ie : TI} (hie : TIok P e ie) (h1 : ie.size = 1) (hx : xs.length = n) (hy : ys.length = n) {j : Nat} (hj : j < n) (hne : iAt xs j ≠ iAt ys j) :
    ∀ w, (Op.equal t (.agg (i64s xs).toArray) (.agg (i64s ys).toArray)).run P w = .ok false w := fun w => by
  obtain ⟨i, hi⟩ : ∃ i, P.info? e = some i := by
    obtain ⟨j, z, hj, _⟩ := hie.info
    exact ⟨j, hj⟩
  have hi2 : P.cellsOf e = 1 := by rw [hie.size, h1]
  show (Op.equalIn (9999 + 1) t _ _).run P w = _
  rw [run_equalIn_array w 9999 _ _ hu hi, hi2]
  exact eqItems_ints (d := 9998) he w hne _ (fun i hi => by rw [List.mem_range] at hi; omega) (List.mem_range.2 hj)
theorem ret1_many {P : Program} {w0 : World} {n : Nat} {ts : TS} {Ds : List Nat} {P1 : List Chunk} {fn : Func} {R : Ending → World → Prop} {e : Exit} {r : ResultVar} {v : Value} (he : e = .normal ∨ e = .ret) (hr : fn.results = #[r]) (h : RV P w0 ts (P1 ++ Ds.map objN) r v) (hR : ∀ w, St w0 (P1 ++ Ds.map objN) w → R (.returned v) w) :
    RetOK P w0 n fn R e (Ds.map colD) ts (P1 ++ Ds.map objD) := by
  have := (ret1 (P := P) (n := n) he hr h hR).2
  have h2 := leave_many (P := P) (w0 := w0) (n := n) (fn := fn) (R := R) (ts := ts) Ds P1 [] (by rw [List.append_nil]; exact this)
  rw [List.append_nil] at h2
  exact ⟨he, h2⟩
section
variable (rlo rhi : Int) (L : Nat) (Al : Option Addr) (c : Nat) (S : List (List T3)) (bf : Nat → Nat → Option Int) (N : Nat) (gt gm : Nat) (B : Option Addr) (cap : Nat) (w : World) (hT : TongueAt rlo rhi L Al c S (resM bf N) gt gm B cap w)
include hT
set_option maxHeartbeats 4000000 in
set_option maxRecDepth 20000 in
theorem round_any (hN : N = 1 + L + S.flatten.length) (hb : BOk bf N) :
    Calls Try.prog 76 #[.pointer (some ⟨gt, 0, none⟩)] w (OwnRet 3 1 (roundP N (allE bf N N)).length (i64s (roundP N (allE bf N N))) w) := by
  have hN2 : N ≤ 19 := hb.n1
  have hnm : ∀ w1, Below w.heap.size w w1 → Calls Try.prog 72 #[.pointer (some ⟨gt, 0, none⟩)] w1 fun e w' => e = .returned (.int .i64 (N : Int)) ∧ Below w1.heap.size w1 w' := fun w1 h => by
    rw [hN]
    exact namesP_any rlo rhi L Al c S _ gt gm B cap w1 (hT.grow h) (by omega) (by omega)
  have hbd := fun w1 => bounds_any gt w1
  refine fn_v Try.tabOk (n := 86) (A := []) Try.func76 rfl rfl (Nat.le_of_ble_eq_true rfl) (St.nil (Below.refl _ _)) ?_
  ((try first | apply tr_v Try.tabOk | apply ot_v Try.tabOk); (conv => whnf); (repeat ((first | (apply VCall.q; kernel_rfl; (focus (intro w1 hs; first | with_reducible apply hnm w1 hs.base))) | (apply VNew.mk; intro g hg) | (apply VSt.mk; (focus ((repeat (first | (with_reducible exact At.here) | (with_reducible apply At.there))); done)); exact rfl) | (refine slist_and (by (repeat (first | exact List.nil_sublist _ | exact List.Sublist.refl _ | refine List.Sublist.cons_cons _ ?_ | refine List.Sublist.cons _ ?_))) ?_; first | refine otl_nil ?_ | (refine otl_cons ?_; apply ot_v Try.tabOk) | skip) | (apply VK.mk; first | (refine otl_cons ?_; apply ot_v Try.tabOk) | apply ot_v Try.tabOk)); (conv => whnf))); try (first | apply VStop.mk | apply VCall.stop))
  rename_i ga hga gb hgb
  have hE : ∀ e ∈ allE bf N N, e.1 < N ∧ e.2.1 < N ∧ -1000 ≤ e.2.2 := fun e he => ⟨(hb.hE2 e he).1, (hb.hE2 e he).2, (hb.hE3 e he).1⟩
  have hE' : ∀ e ∈ allE bf N N, e.2.2 ≤ 1000 := fun e he => (hb.hE3 e he).2
  have hN0 : 0 < N := by omega
  have hok := passes_ok ⟨hN0, hN2⟩ hE
  have hElen : (allE bf N N).length ≤ 361 := by
    have h1 := hb.allE_len N
    have h2 : N * N ≤ 19 * 19 := Nat.mul_le_mul hN2 hN2
    omega
  generalize hEE : allE bf N N = EE at *
  refine v_loop (fun gm' ds ts A => ∃ (k : Nat) (Ds : List Nat), k + gm' = N ∧ ds = Ds.map colD ∧ A.Perm (.blk g 3 [.int .i64 (passes EE k).la] :: .blk gb 103 (i64s (passes EE k).be) :: .blk ga 124 (i64s (passes EE k).at_) :: Ds.map objD) ∧ ts = [(0, .pointer (some ⟨gt, 0, none⟩)), (3, .pointer (some ⟨ga, 0, none⟩)), (4, .pointer (some ⟨gb, 0, none⟩)), (5, .pointer (some ⟨g, 0, none⟩)), (11, .int .i64 (N : Int)), (12, .int .i64 (k : Int))]) N
    (l := [(0, _), (3, _), (4, _), (5, _), (11, _), (12, _)]) (B := _) ?_ (List.Sublist.refl _) ⟨0, [], by omega, rfl, .refl _, rfl⟩ ?_
  · exact ⟨rfl, rfl, rfl, rfl, rfl, rfl, trivial⟩
  rintro gm' ds ts A ⟨k, Ds, hk, rfl, hA, rfl⟩
  refine tr_perm hA ?_
  clear hA A
  by_cases hlt : k < N
  · ((try first | apply tr_v Try.tabOk | apply ot_v Try.tabOk); (conv => whnf); (repeat ((first | apply VBr.t | (apply v_t; omega) | (apply VSt.mk; (focus ((repeat (first | (with_reducible exact At.here) | (with_reducible apply At.there))); done)); exact rfl) | (refine slist_and (by (repeat (first | exact List.nil_sublist _ | exact List.Sublist.refl _ | refine List.Sublist.cons_cons _ ?_ | refine List.Sublist.cons _ ?_))) ?_; first | refine otl_nil ?_ | (refine otl_cons ?_; apply ot_v Try.tabOk) | skip) | (apply VK.mk; first | (refine otl_cons ?_; apply ot_v Try.tabOk) | apply ot_v Try.tabOk)); (conv => whnf))); try (first | apply VStop.mk | apply VCall.stop))
    refine ot_call_st (X := Nat) (fun Bs => .func (.func 86) #[] #[.pointer (some ⟨Bs, 0, none⟩)]) (fun Bs => [.blk Bs 81 [.pointer (some ⟨gt, 0, none⟩)]]) (fun Bs c hc => by simp at hc; subst hc; rfl) (by decide) rfl rfl rfl (by kernel_rfl) (evl_of rfl) (fun w1 hs => hbd w1) (fun Bs => ?_)
    ((try first | apply tr_v Try.tabOk | apply ot_v Try.tabOk); (conv => whnf); (repeat ((first | (refine slist_and (by (repeat (first | exact List.nil_sublist _ | exact List.Sublist.refl _ | refine List.Sublist.cons_cons _ ?_ | refine List.Sublist.cons _ ?_))) ?_; first | refine otl_nil ?_ | (refine otl_cons ?_; apply ot_v Try.tabOk) | skip) | (apply VK.mk; first | (refine otl_cons ?_; apply ot_v Try.tabOk) | apply ot_v Try.tabOk)); (conv => whnf))); try (first | apply VStop.mk | apply VCall.stop))
    refine tr_rangeFunc rfl (by kernel_rfl) (hEE ▸ bounds_it rlo rhi L Al c S bf N gt gm B cap Bs hN (by omega)) (fun _ => rfl) (by decide)
      (fun pre R => R = .blk Bs 81 [.pointer (some ⟨gt, 0, none⟩)] :: .blk g 3 [.int .i64 (pre.foldl relax (startR (passes EE k))).la] :: .blk gb 103 (i64s (pre.foldl relax (startR (passes EE k))).be) :: .blk ga 124 (i64s (pre.foldl relax (startR (passes EE k))).at_) :: Ds.map objD)
      (fun _ _ _ => False) ?_ rfl ?_ ?_ ?_
    · rintro pre R rfl F W hS
      exact ⟨by rw [(hS.all _ (.head _)).2.cell]; rfl, hT.grow hS.base⟩
    · rintro l pre ⟨x1, x2, x3⟩ R Fr ⟨rest, hpre⟩ rfl
      have hx := hE (x1, x2, x3) (by rw [← hpre]; simp)
      have hx' := hE' (x1, x2, x3) (by rw [← hpre]; simp)
      have hfo : (pre ++ [(x1, x2, x3)]).foldl relax (startR (passes EE k)) = relax (pre.foldl relax (startR (passes EE k))) (x1, x2, x3) := by rw [List.foldl_append]; rfl
      have hm : k * EE.length + pre.length ≤ 7220 := by
        have h1 : k * EE.length ≤ 19 * 361 := Nat.mul_le_mul (by omega) hElen
        have h2 : pre.length ≤ EE.length := by rw [← hpre, List.length_append, List.length_append]; omega
        omega
      have hs : RSok N (k * EE.length + pre.length) (pre.foldl relax (startR (passes EE k))) := RSok.fold hN2 ((hok k).start hN0) (E := pre) (fun e he => hE e (by rw [← hpre]; simp [he]))
      generalize hsd : pre.foldl relax (startR (passes EE k)) = s at *
      change Tr _ _ _ _ _ _ _ (_ :: _ :: _ :: _ :: (Ds.map objD ++ Fr)) _
      obtain ⟨hx1, hx2, hx3⟩ := hx
      dsimp only at hx1 hx2 hx3 hx'
      generalize k * EE.length + pre.length = M at hm hs
      revert g hg
      intro gl hgl
      ((try first | apply tr_v Try.tabOk | apply ot_v Try.tabOk); (conv => whnf); (repeat ((first | (apply VNew.mk; intro g hg) | (apply VSt.mk; (focus ((repeat (first | (with_reducible exact At.here) | (with_reducible apply At.there))); done)); exact rfl) | (refine slist_and (by (repeat (first | exact List.nil_sublist _ | exact List.Sublist.refl _ | refine List.Sublist.cons_cons _ ?_ | refine List.Sublist.cons _ ?_))) ?_; first | refine otl_nil ?_ | (refine otl_cons ?_; apply ot_v Try.tabOk) | skip) | (apply VK.mk; first | (refine otl_cons ?_; apply ot_v Try.tabOk) | apply ot_v Try.tabOk)); (conv => whnf))); try (first | apply VStop.mk | apply VCall.stop))
      refine ⟨rfl, rfl, .blk g 92 [.int .i64 (x1 : Int), .int .i64 (x2 : Int)] :: .blk Bs 81 [.pointer (some ⟨gt, 0, none⟩)] :: .blk gl 3 [.int .i64 s.la] :: .blk gb 103 (i64s s.be) :: .blk ga 124 (i64s s.at_) :: Ds.map objD, List.Sublist.refl _, fun Fr' => ?_⟩
      change Tr _ _ _ _ _ _ _ (_ :: _ :: _ :: _ :: _ :: (Ds.map objD ++ Fr')) _
      obtain ⟨sa, sb, sl⟩ := s
      have l1 : sa.length = 19 := hs.l1
      have l2 : sb.length = 19 := hs.l2
      have v1 := hs.v x1
      have v2 := hs.v x2
      dsimp only at *
      have ci : ∀ {A'}, .blk ga 124 (i64s sa) ∈ A' → CellAt w A' ga (0 + x1 * 1) (.int .i64 (iAt sa x1)) := fun h => by
        rw [Nat.zero_add, Nat.mul_one]; exact cell_blk h (iAt_get (by omega))
      have cj : ∀ {A'}, .blk ga 124 (i64s sa) ∈ A' → CellAt w A' ga (0 + x2 * 1) (.int .i64 (iAt sa x2)) := fun h => by
        rw [Nat.zero_add, Nat.mul_one]; exact cell_blk h (iAt_get (by omega))
      by_cases hc : iAt sa x1 + x3 < iAt sa x2
      · ((try first | apply tr_v Try.tabOk | apply ot_v Try.tabOk); (conv => whnf); (repeat ((first | ((first | apply VStop.mk | apply VCall.stop); (first | refine tr_region_lex (id := 10) (by kernel_rfl) [.rd, .rd, .rd, .rd, .rd, .rd, .rd, .rd, .rd, .rd, .rd] rfl (by kernel_rfl) ?_ | refine tr_region_late2 (id := 11) (by kernel_rfl) [.blk _ 92 _] (by (repeat (first | exact List.nil_sublist _ | exact List.Sublist.refl _ | refine List.Sublist.cons_cons _ ?_ | refine List.Sublist.cons _ ?_))) [2, 3, 10, 11] [0, 1, 4, 5, 6, 7, 8, 9, 12] 13 [14, 15] [.rd, .rd, .rd, .rd] [.rd, .rd, .rd, .rd, .rd, .rd, .rd, .rd, .rd] [.wr, .wr, .wr] rfl (by kernel_rfl) ?_); try first | apply ot_v Try.tabOk | apply tr_v Try.tabOk) | (apply VIx.mk (j := x1); exact rfl; omega) | (apply VIx.mk (j := x2); exact rfl; omega) | (apply VLd.mk; first | exact ci (by (repeat (first | with_unfolding_all exact List.Mem.head _ | assumption | with_unfolding_all refine List.Mem.tail _ ?_))) | exact cj (by (repeat (first | with_unfolding_all exact List.Mem.head _ | assumption | with_unfolding_all refine List.Mem.tail _ ?_)))) | (apply VSt.old; (focus (repeat (first | (with_reducible exact Upd.here) | (with_reducible apply Upd.there))); done); exact ble_one _ (by omega); exact setMany_one _ (by omega)) | (apply VLd.mk; (focus ((repeat (first | ((with_reducible apply ld_blk); exact rfl) | ((with_reducible apply ld_row); exact rfl) | ((with_reducible apply ld_row0); exact rfl) | (with_reducible assumption) | (with_reducible exact CellAt.base (by assumption)) | (with_reducible apply ld_skip))); done))) | (apply VRng.mk; omega) | apply VBr.t | (apply v_t; omega) | (apply VSt.mk; (focus ((repeat (first | (with_reducible exact At.here) | (with_reducible apply At.there))); done)); exact rfl) | (refine slist_and (by (repeat (first | exact List.nil_sublist _ | exact List.Sublist.refl _ | refine List.Sublist.cons_cons _ ?_ | refine List.Sublist.cons _ ?_))) ?_; first | refine otl_nil ?_ | (refine otl_cons ?_; apply ot_v Try.tabOk) | skip) | (apply VK.mk; first | (refine otl_cons ?_; apply ot_v Try.tabOk) | apply ot_v Try.tabOk)); (conv => whnf))); try (first | apply VStop.mk | apply VCall.stop))
        exact ⟨rfl, .blk Bs 81 [.pointer (some ⟨gt, 0, none⟩)] :: .blk gl 3 [.int .i64 (x2 : Int)] :: .blk gb 103 (i64s (sb.set x2 (x1 : Int))) :: .blk ga 124 (i64s (sa.set x2 (iAt sa x1 + x3))) :: Ds.map objD, List.sublist_cons_self _ _, by dsimp only; rw [hfo]; unfold relax; rw [if_pos hc]⟩
      · ((try first | apply tr_v Try.tabOk | apply ot_v Try.tabOk); (conv => whnf); (repeat ((first | ((first | apply VStop.mk | apply VCall.stop); (first | refine tr_region_lex (id := 10) (by kernel_rfl) [.rd, .rd, .rd, .rd, .rd, .rd, .rd, .rd, .rd, .rd, .rd] rfl (by kernel_rfl) ?_); try first | apply ot_v Try.tabOk | apply tr_v Try.tabOk) | (apply VIx.mk (j := x1); exact rfl; omega) | (apply VIx.mk (j := x2); exact rfl; omega) | (apply VLd.mk; first | exact ci (by (repeat (first | with_unfolding_all exact List.Mem.head _ | assumption | with_unfolding_all refine List.Mem.tail _ ?_))) | exact cj (by (repeat (first | with_unfolding_all exact List.Mem.head _ | assumption | with_unfolding_all refine List.Mem.tail _ ?_)))) | (apply VLd.mk; (focus ((repeat (first | ((with_reducible apply ld_blk); exact rfl) | ((with_reducible apply ld_row); exact rfl) | ((with_reducible apply ld_row0); exact rfl) | (with_reducible assumption) | (with_reducible exact CellAt.base (by assumption)) | (with_reducible apply ld_skip))); done))) | (apply VRng.mk; omega) | apply VBr.f | (apply v_f; omega) | (refine slist_and (by (repeat (first | exact List.nil_sublist _ | exact List.Sublist.refl _ | refine List.Sublist.cons_cons _ ?_ | refine List.Sublist.cons _ ?_))) ?_; first | refine otl_nil ?_ | (refine otl_cons ?_; apply ot_v Try.tabOk) | skip) | (apply VK.mk; first | (refine otl_cons ?_; apply ot_v Try.tabOk) | apply ot_v Try.tabOk)); (conv => whnf))); try (first | apply VStop.mk | apply VCall.stop))
        exact ⟨rfl, .blk Bs 81 [.pointer (some ⟨gt, 0, none⟩)] :: .blk gl 3 [.int .i64 sl] :: .blk gb 103 (i64s sb) :: .blk ga 124 (i64s sa) :: Ds.map objD, List.sublist_cons_self _ _, by dsimp only; rw [hfo]; unfold relax; rw [if_neg hc]⟩
    · rintro D R rfl
      have hnext : EE.foldl relax (startR (passes EE k)) = passes EE (k + 1) := rfl
      rw [hnext]
      ((try first | apply tr_v Try.tabOk | apply ot_v Try.tabOk); (conv => whnf); (repeat ((first | (apply VRng.mk; omega) | (refine slist_and (by (repeat (first | exact List.nil_sublist _ | exact List.Sublist.refl _ | refine List.Sublist.cons_cons _ ?_ | refine List.Sublist.cons _ ?_))) ?_; first | refine otl_nil ?_ | (refine otl_cons ?_; apply ot_v Try.tabOk) | skip) | (apply VK.mk; first | (refine otl_cons ?_; apply ot_v Try.tabOk) | apply ot_v Try.tabOk)); (conv => whnf))); try (first | apply VStop.mk | apply VCall.stop))
      exact v_rnd (gm' - 1) (by omega) (l := [(0, _), (3, _), (4, _), (5, _), (11, _), (12, _)]) (B := .obj D (.deferred (some [])) :: _) ⟨rfl, rfl, rfl, rfl, rfl, rfl, trivial⟩ (.cons_cons _ (.cons _ (List.Sublist.refl _))) ⟨k + 1, D :: Ds, by omega, rfl, (List.perm_middle (l₁ := [_, _, _])).symm, rfl⟩
    · exact fun _ _ _ _ h => h.elim
  · obtain rfl : N = k := by omega
    have hs := hok N
    unfold roundP
    clear hE hE' hElen hok hlt hk hbd hEE
    generalize passes EE N = s at *
    obtain ⟨sa, sb, sl⟩ := s
    have l1 : sa.length = 19 := hs.l1
    have l2 : sb.length = 19 := hs.l2
    dsimp only at *
    by_cases hla : sl < 0
    · rw [if_pos hla]
      have hla' := hs.la
      dsimp only at hla'
      ((try first | apply tr_v Try.tabOk | apply ot_v Try.tabOk); (conv => whnf); (repeat ((first | (apply VLd.mk; (focus ((repeat (first | ((with_reducible apply ld_blk); exact rfl) | ((with_reducible apply ld_row); exact rfl) | ((with_reducible apply ld_row0); exact rfl) | (with_reducible assumption) | (with_reducible exact CellAt.base (by assumption)) | (with_reducible apply ld_skip))); done))) | apply VBr.t | apply VBr.f | (apply v_t; omega) | (apply v_f; omega) | (refine slist_and (by (repeat (first | exact List.nil_sublist _ | exact List.Sublist.refl _ | refine List.Sublist.cons_cons _ ?_ | refine List.Sublist.cons _ ?_))) ?_; first | refine otl_nil ?_ | (refine otl_cons ?_; apply ot_v Try.tabOk) | skip) | (apply VK.mk; first | (refine otl_cons ?_; apply ot_v Try.tabOk) | apply ot_v Try.tabOk)); (conv => whnf))); try (first | apply VStop.mk | apply VCall.stop))
      (apply VRet.mk)
      exact ret1_many (P1 := [_, _, _]) (.inr rfl) rfl (by exact rv_tmp rfl) fun w' h => ⟨⟨_, rfl, World.ownsRow_nil _ _ _ _⟩, h.base⟩
    · rw [if_neg hla]
      obtain ⟨v0, rfl⟩ : ∃ v0 : Nat, sl = v0 := ⟨sl.toNat, by omega⟩
      have hv0 := hs.la
      dsimp only at hv0
      have hneg := hs.neg
      have hbb := hs.b
      dsimp only at hneg hbb
      have hneg0 := hneg (by omega)
      rw [Int.toNat_natCast] at *
      have hv1 : v0 < N := by omega
      obtain ⟨p1, p2, p3, p4⟩ := perB_spec hbb hv1
      clear hs hneg
      have hlts := fun k => backN_lt hbb hv1 k
      have hl19 : (i64s sa).length = 19 := by simpa [i64s] using l1
      ((try first | apply tr_v Try.tabOk | apply ot_v Try.tabOk); (conv => whnf); (repeat ((first | ((first | apply VStop.mk | apply VCall.stop); (first | (refine ot_build0 Try.tabOk rfl rfl rfl rfl rfl (fun m e h => by cases h; exact ⟨_, rfl⟩) ?_)); try first | apply ot_v Try.tabOk | apply tr_v Try.tabOk) | (apply VLdN.mk; exact ldn_skip (ldn_skip ldn_blk); exact hl19) | (apply VEq.mk false; kernel_rfl; exact eq_ints_no (ys := List.replicate 19 0) Try.underlying124 Try.underlying2 Try.ti2 rfl l1 rfl (show v0 < 19 by omega) (by rw [iAt_zeros]; omega)) | (apply VCall.q; kernel_rfl; (focus (intro w1 hs; first | with_reducible apply hnm w1 hs.base))) | (apply VLd.mk; (focus ((repeat (first | ((with_reducible apply ld_blk); exact rfl) | ((with_reducible apply ld_row); exact rfl) | ((with_reducible apply ld_row0); exact rfl) | (with_reducible assumption) | (with_reducible exact CellAt.base (by assumption)) | (with_reducible apply ld_skip))); done))) | apply VBr.f | (apply v_f; omega) | (refine slist_and (by (repeat (first | exact List.nil_sublist _ | exact List.Sublist.refl _ | refine List.Sublist.cons_cons _ ?_ | refine List.Sublist.cons _ ?_))) ?_; first | refine otl_nil ?_ | (refine otl_cons ?_; apply ot_v Try.tabOk) | skip) | (apply VK.mk; first | (refine otl_cons ?_; apply ot_v Try.tabOk) | apply ot_v Try.tabOk)); (conv => whnf))); try (first | apply VStop.mk | apply VCall.stop))
      clear hl19 hneg0
      refine v_loop (fun gm' ds ts A => ∃ k : Nat, k + gm' = N ∧ ds = Ds.map colD ∧ A = .blk g 3 [.int .i64 (backN sb k v0 : Int)] :: .blk gb 103 (i64s sb) :: .blk ga 124 (i64s sa) :: Ds.map objD ∧ ts = [(4, .pointer (some ⟨gb, 0, none⟩)), (5, .pointer (some ⟨g, 0, none⟩)), (54, .int .i64 (N : Int)), (55, .int .i64 (k : Int))]) N
        (l := [(4, _), (5, _), (54, _), (55, _)]) (B := _) ?_ (List.Sublist.refl _) ⟨0, by omega, rfl, rfl, rfl⟩ ?_
      · exact ⟨rfl, rfl, rfl, rfl, trivial⟩
      rintro gm' ds ts A ⟨k, hk, rfl, rfl, rfl⟩
      by_cases hlt : k < N
      · have hkk := hlts k
        have hnx : CellAt w (.blk g 3 [.int .i64 (backN sb k v0 : Int)] :: .blk gb 103 (i64s sb) :: .blk ga 124 (i64s sa) :: Ds.map objD) gb (0 + backN sb k v0 * 1) (.int .i64 (backN sb (k + 1) v0 : Int)) := by
          have := hbb (backN sb k v0)
          rw [Nat.zero_add, Nat.mul_one, backN, Int.toNat_of_nonneg this.1]
          exact cell_blk (.tail _ (.head _)) (iAt_get (by omega))
        ((try first | apply tr_v Try.tabOk | apply ot_v Try.tabOk); (conv => whnf); (repeat ((first | (apply VIx.mk (j := backN sb k v0); exact rfl; omega) | (apply VLd.mk; exact hnx) | (apply VLd.mk; (focus ((repeat (first | ((with_reducible apply ld_blk); exact rfl) | ((with_reducible apply ld_row); exact rfl) | ((with_reducible apply ld_row0); exact rfl) | (with_reducible assumption) | (with_reducible exact CellAt.base (by assumption)) | (with_reducible apply ld_skip))); done))) | (apply VRng.mk; omega) | apply VBr.t | (apply v_t; omega) | (apply VSt.mk; (focus ((repeat (first | (with_reducible exact At.here) | (with_reducible apply At.there))); done)); exact rfl) | (refine slist_and (by (repeat (first | exact List.nil_sublist _ | exact List.Sublist.refl _ | refine List.Sublist.cons_cons _ ?_ | refine List.Sublist.cons _ ?_))) ?_; first | refine otl_nil ?_ | (refine otl_cons ?_; apply ot_v Try.tabOk) | skip) | (apply VK.mk; first | (refine otl_cons ?_; apply ot_v Try.tabOk) | apply ot_v Try.tabOk)); (conv => whnf))); try (first | apply VStop.mk | apply VCall.stop))
        exact v_rnd (gm' - 1) (by omega) (l := [(4, _), (5, _), (54, _), (55, _)]) (B := _) ⟨rfl, rfl, rfl, rfl, trivial⟩ (List.Sublist.refl _) ⟨k + 1, by omega, rfl, rfl, rfl⟩
      · obtain rfl : N = k := by omega
        have hlts2 := fun k => backN_lt hbb (hlts N) k
        generalize backN sb N v0 = y at *
        generalize perB N sb y = p at *
        revert g hg
        intro gl hgl
        ((try first | apply tr_v Try.tabOk | apply ot_v Try.tabOk); (conv => whnf); (repeat ((first | (apply VLd.mk; (focus ((repeat (first | ((with_reducible apply ld_blk); exact rfl) | ((with_reducible apply ld_row); exact rfl) | ((with_reducible apply ld_row0); exact rfl) | (with_reducible assumption) | (with_reducible exact CellAt.base (by assumption)) | (with_reducible apply ld_skip))); done))) | apply VBr.f | (apply v_f; omega) | (apply VNew.mk; intro g hg) | (refine slist_and (by (repeat (first | exact List.nil_sublist _ | exact List.Sublist.refl _ | refine List.Sublist.cons_cons _ ?_ | refine List.Sublist.cons _ ?_))) ?_; first | refine otl_nil ?_ | (refine otl_cons ?_; apply ot_v Try.tabOk) | skip) | (apply VK.mk; first | (refine otl_cons ?_; apply ot_v Try.tabOk) | apply ot_v Try.tabOk)); (conv => whnf))); try (first | apply VStop.mk | apply VCall.stop))
        refine tr_blk_own (sz := 1) (m := 1) rfl (by unfold maxLen; omega) ?_
        refine v_loop (fun gm' ds ts A => ∃ (q g8 cap : Nat), q + gm' = p ∧ 1 ≤ gm' ∧ ds = Ds.map colD ∧ A = .own (.slice (some ⟨g8, 0, none⟩) (q + 1) cap) 3 1 (q + 1) (i64s (outB sb y (q + 1))) :: .blk gl 3 [.int .i64 (y : Int)] :: .blk gb 103 (i64s sb) :: .blk ga 124 (i64s sa) :: Ds.map objD ∧ ts = [(4, .pointer (some ⟨gb, 0, none⟩)), (5, .pointer (some ⟨gl, 0, none⟩)), (8, .slice (some ⟨g8, 0, none⟩) (q + 1) cap)]) p
          (l := [(4, _), (5, _), (8, _)]) (B := _) ?_ (List.Sublist.refl _) ⟨0, g, 1, by omega, by omega, rfl, rfl, rfl⟩ ?_
        · exact ⟨rfl, rfl, rfl, trivial⟩
        rintro gm' ds ts A ⟨q, g8, cap, hq, hq1, rfl, rfl, rfl⟩
        refine tr_fact (p := q + 1 ≤ cap) (fun w' hs => ?_) fun hcap => ?_
        · obtain ⟨_, h2⟩ := hs.all _ (.head _)
          rcases h2 with ⟨h2, _⟩ | ⟨g', cap', cur, h3, _, _, h6, _⟩
          · cases h2
          · cases h3; exact h6
        have hqq := hlts2 q
        have hlast : ∀ {A'}, CellAt w (.own (.slice (some ⟨g8, 0, none⟩) (q + 1) cap) 3 1 (q + 1) (i64s (outB sb y (q + 1))) :: A') g8 (0 + q * 1) (.int .i64 (backN sb q y : Int)) := by
          rw [Nat.zero_add, Nat.mul_one]
          exact cell_own (.head _) (by unfold outB i64s; rw [List.getElem?_map, List.getElem?_map, List.getElem?_range (by omega)]; rfl)
        have hnx : CellAt w (.own (.slice (some ⟨g8, 0, none⟩) (q + 1) cap) 3 1 (q + 1) (i64s (outB sb y (q + 1))) :: .blk gl 3 [.int .i64 (y : Int)] :: .blk gb 103 (i64s sb) :: .blk ga 124 (i64s sa) :: Ds.map objD) gb (0 + backN sb q y * 1) (.int .i64 (backN sb (q + 1) y : Int)) := by
          have := hbb (backN sb q y)
          rw [Nat.zero_add, Nat.mul_one, backN, Int.toNat_of_nonneg this.1]
          exact cell_blk (.tail _ (.tail _ (.head _))) (iAt_get (by omega))
        have hlen : (outB sb y (q + 1)).length = q + 1 := by unfold outB; simp
        by_cases hE : backN sb (q + 1) y = y
        · have hpq : q + 1 = p := by
            rcases Nat.lt_or_ge (q + 1) p with h | h
            · exact absurd hE (p4 (q + 1) (by omega) h)
            · omega
          ((try first | apply tr_v Try.tabOk | apply ot_v Try.tabOk); (conv => whnf); (repeat ((first | (apply VIx.mk (j := q); omega; omega) | (apply VIx.mk (j := backN sb q y); exact rfl; omega) | (apply VLd.mk; first | exact hlast | exact hnx) | (apply VLd.mk; (focus ((repeat (first | ((with_reducible apply ld_blk); exact rfl) | ((with_reducible apply ld_row); exact rfl) | ((with_reducible apply ld_row0); exact rfl) | (with_reducible assumption) | (with_reducible exact CellAt.base (by assumption)) | (with_reducible apply ld_skip))); done))) | (apply VRng.mk; omega) | apply VBr.t | (apply v_t; omega) | (refine slist_and (by (repeat (first | exact List.nil_sublist _ | exact List.Sublist.refl _ | refine List.Sublist.cons_cons _ ?_ | refine List.Sublist.cons _ ?_))) ?_; first | refine otl_nil ?_ | (refine otl_cons ?_; apply ot_v Try.tabOk) | skip) | (apply VK.mk; first | (refine otl_cons ?_; apply ot_v Try.tabOk) | apply ot_v Try.tabOk)); (conv => whnf))); try (first | apply VStop.mk | apply VCall.stop))
          refine ot_call_w (R := fun _ e w' => e = .returned (.tuple #[]) ∧ St w (.own (.slice (some ⟨g8, 0, none⟩) (q + 1) cap) 3 1 (q + 1) (i64s (outB sb y (q + 1)).reverse) :: .blk gl 3 [.int .i64 (y : Int)] :: .blk gb 103 (i64s sb) :: .blk ga 124 (i64s sa) :: Ds.map objD) w') (by decide) rfl rfl rfl (by kernel_rfl) (evl_of rfl) (fun w1 hs => ?_) ?_
          · have := reverse_head (w0 := w) (w := w1) g8 cap (outB sb y (q + 1)) (by rw [hlen]; omega) (by rw [hlen]; exact hs)
            rw [hlen] at this
            exact this
          rintro w1 e w2 _ ⟨rfl, hs⟩
          refine ⟨_, _, rfl, hs, ?_⟩
          ((try first | apply tr_v Try.tabOk | apply ot_v Try.tabOk); (conv => whnf); (repeat ((first | (refine slist_and (by (repeat (first | exact List.nil_sublist _ | exact List.Sublist.refl _ | refine List.Sublist.cons_cons _ ?_ | refine List.Sublist.cons _ ?_))) ?_; first | refine otl_nil ?_ | (refine otl_cons ?_; apply ot_v Try.tabOk) | skip) | (apply VK.mk; first | (refine otl_cons ?_; apply ot_v Try.tabOk) | apply ot_v Try.tabOk)); (conv => whnf))); try (first | apply VStop.mk | apply VCall.stop))
          (apply VRet.mk)
          rw [← hpq]
          have hl2 : (outB sb y (q + 1)).reverse.length = q + 1 := by rw [List.length_reverse, hlen]
          rw [hl2]
          exact ret1_many (P1 := [_, _, _, _]) (.inr rfl) rfl (by exact rv_tmp rfl) fun w' h => own_ret h (.head _)
        · have hpq : q + 1 ≠ p := fun e => hE (e ▸ p1)
          ((try first | apply tr_v Try.tabOk | apply ot_v Try.tabOk); (conv => whnf); (repeat ((first | ((first | apply VStop.mk | apply VCall.stop); (first | (refine ot_slice_trim Try.tabOk rfl rfl rfl rfl rfl rfl rfl rfl rfl rfl rfl hcap (.inr ⟨_, _, rfl⟩) ?_)); try first | apply ot_v Try.tabOk | apply tr_v Try.tabOk) | (apply VIx.mk (j := q); omega; omega) | (apply VIx.mk (j := backN sb q y); exact rfl; omega) | (apply VLd.mk; first | exact hlast | exact hnx) | (apply VLd.mk; (focus ((repeat (first | ((with_reducible apply ld_blk); exact rfl) | ((with_reducible apply ld_row); exact rfl) | ((with_reducible apply ld_row0); exact rfl) | (with_reducible assumption) | (with_reducible exact CellAt.base (by assumption)) | (with_reducible apply ld_skip))); done))) | (apply VRng.mk; omega) | apply VBr.f | (apply v_f; omega) | (apply VNew.mk; intro g hg) | (refine slist_and (by (repeat (first | exact List.nil_sublist _ | exact List.Sublist.refl _ | refine List.Sublist.cons_cons _ ?_ | refine List.Sublist.cons _ ?_))) ?_; first | refine otl_nil ?_ | (refine otl_cons ?_; apply ot_v Try.tabOk) | skip) | (apply VK.mk; first | (refine otl_cons ?_; apply ot_v Try.tabOk) | apply ot_v Try.tabOk)); (conv => whnf))); try (first | apply VStop.mk | apply VCall.stop))
          refine ot_append_fullO (sz := 1) (xs := i64s (outB sb y (q + 1))) Try.tabOk (by decide) rfl rfl rfl rfl rfl rfl rfl rfl rfl rfl (by decide) (by omega) (fun w' hs => hs.own_rd (.tail _ (.head _))) (cells_blk_all (.head _)) rfl (by omega) (by decide) (fun g9 cap9 hg9 => ?_)
          have hsn : i64s (outB sb y (q + 1)) ++ [.int .i64 (backN sb (q + 1) y : Int)] = i64s (outB sb y (q + 1 + 1)) := by
            unfold outB
            rw [rng_snoc _ (q + 1), i64s_append]
            rfl
          rw [hsn]
          apply ot_v Try.tabOk
          ((try first | apply tr_v Try.tabOk | apply ot_v Try.tabOk); (conv => whnf); (repeat ((first | (refine slist_and (by (repeat (first | exact List.nil_sublist _ | exact List.Sublist.refl _ | refine List.Sublist.cons_cons _ ?_ | refine List.Sublist.cons _ ?_))) ?_; first | refine otl_nil ?_ | (refine otl_cons ?_; apply ot_v Try.tabOk) | skip) | (apply VK.mk; first | (refine otl_cons ?_; apply ot_v Try.tabOk) | apply ot_v Try.tabOk)); (conv => whnf))); try (first | apply VStop.mk | apply VCall.stop))
          exact v_rnd (gm' - 1) (by omega) (l := [(4, _), (5, _), (8, _)]) (B := _ :: _ :: _ :: _ :: List.map objD Ds) ⟨rfl, rfl, rfl, trivial⟩ (.cons_cons _ (.cons _ (.cons _ (List.Sublist.refl _)))) ⟨q + 1, g9, cap9, by omega, by omega, rfl, rfl, rfl⟩
end
end Go.Proofs.Ytkbcogaodnmdoaa
