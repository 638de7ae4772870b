/- Layer 3, blends: BlendMore: lemmas for the rows of this seat. No conditions. -/
import Derived.Test.YtfjnnegaljfkgaaProg
import Derived.Test.YtfjnnegaljfkgaaBase
import Derived.Test.YtfjnnegaljfkgaaPlain
import Derived.Test.YtfjnnegaljfkgaaWA
import Derived.Test.YtfjnnegaljfkgaaSeg
import Derived.Test.YtfjnnegaljfkgaaKeys
import Derived.Test.YtfjnnegaljfkgaaW20
import Derived.Test.YtfjnnegaljfkgaaW21
import Derived.Test.YtfjnnegaljfkgaaW22
import Derived.Test.YtfjnnegaljfkgaaS1
import Derived.Test.YtfjnnegaljfkgaaS5
import Derived.Test.YtfjnnegaljfkgaaS12
import Derived.Test.YtfjnnegaljfkgaaTab
import Derived.Test.YtfjnnegaljfkgaaS14
import Derived.Test.YtfjnnegaljfkgaaArms
import Derived.Test.YtfjnnegaljfkgaaWE
import Derived.Test.YtfjnnegaljfkgaaB1
import Derived.Test.YtfjnnegaljfkgaaB2
import Derived.Test.YtfjnnegaljfkgaaB3
import Derived.Test.YtfjnnegaljfkgaaB4
import Derived.Test.YtfjnnegaljfkgaaB5
import Derived.Test.YtfjnnegaljfkgaaB6
import Derived.Test.YtfjnnegaljfkgaaB7
import Derived.Test.YtfjnnegaljfkgaaB8
import Derived.Test.YtfjnnegaljfkgaaB9
import Derived.Test.YtfjnnegaljfkgaaB10
import Derived.Test.YtfjnnegaljfkgaaB11
import Derived.Test.YtfjnnegaljfkgaaB12
import Derived.Test.YtfjnnegaljfkgaaB13
import Derived.Test.YtfjnnegaljfkgaaB14
import Derived.Test.YtfjnnegaljfkgaaC1
import Derived.Test.YtfjnnegaljfkgaaC2a
import Derived.Test.YtfjnnegaljfkgaaC2
import Derived.Test.YtfjnnegaljfkgaaL1
import Derived.Test.YtfjnnegaljfkgaaL2
import Derived.Test.YtfjnnegaljfkgaaC3a
import Derived.Test.YtfjnnegaljfkgaaC6
import Derived.Test.YtfjnnegaljfkgaaC7
import Derived.Test.YtfjnnegaljfkgaaC9
import Derived.Test.YtfjnnegaljfkgaaC12
import Derived.Test.YtfjnnegaljfkgaaC13
import Derived.Test.YtfjnnegaljfkgaaV
import Derived.Test.YtfjnnegaljfkgaaV2
import Derived.Test.YtfjnnegaljfkgaaV3
set_option linter.all false
namespace Go.Proofs.Ytfjnnegaljfkgaa
open Go.RowKit
/-! ## BlendMore -/
theorem pairCells_set (l : List (Int × Int)) (i : Nat) (v : Int) (hi : i < l.length) : pairCells (l.set i ((l[i]?.getD (0, 0)).1, v)) = (pairCells l).set (i * 2 + 1) (.int .i64 v) := by
  induction l generalizing i with
  | nil => simp at hi
  | cons p l ih =>
    cases i with
    | zero => simp [pairCells]
    | succ i =>
      have := ih i (by simpa using hi)
      rw [show (i + 1) * 2 + 1 = (i * 2 + 1) + 1 + 1 from by omega]
      simp only [List.set_cons_succ, pairCells, List.getElem?_cons_succ]
      rw [this]
section
variable (Al : Option Addr) (c : Nat) (xs : List (Int × Int)) (w : World) (hr : Reads w w.heap.size 2 Al xs.length (pairCells xs)) (hm : xs.length ≤ maxLen)
include hr hm
set_option maxHeartbeats 16000000 in
set_option maxRecDepth 100000 in
theorem blendMore_any (m1 m2 z2 z3 z4 : Int) (h2 : 0 ≤ z2 ∧ z2 ≤ 255) (h3 : 0 ≤ z3 ∧ z3 ≤ 65535) (h4 : 0 ≤ z4 ∧ z4 ≤ 255) :
    Calls Try.prog 11 #[.slice Al xs.length c, .agg #[.int .i64 m1, .int .i64 m2], .int .u8 z2, .int .u16 z3, .int .u8 z4] w fun e w' => e = .returned (.bool true) ∧ Below w.heap.size w w' := by
  by_cases hf : checkLots xs = 0
  rotate_left
  · have kg := fine_no Al c xs w hr hm hf
    refine fn_v Try.tabOk (n := 72) (A := []) Try.func11 rfl rfl (Nat.le_of_ble_eq_true rfl) (St.nil (Below.refl _ _)) ?_
    ((conv => whnf); (repeat ((first | (apply VCall.q; kernel_rfl; (focus (intro w1 hs; first | with_reducible apply kg w1 _ hs | with_reducible apply works_any w1))) | apply VBr.t | (apply VNew.mk; intro g hg)); (conv => whnf))))
    ((apply VRet.mk); refine ret1 (by first | exact .inl rfl | exact .inr rfl) rfl (by exact rv_tmp rfl) ?_; exact fun w h => ⟨rfl, h.base⟩)
  · have kg := fine_yes Al c xs w hr hm hf
    have hG := Good.of hf
    have hn := hG.len
    by_cases h8 : (8 : Int) ≤ (xs.length : Int)
    · refine fn_v Try.tabOk (n := 72) (A := []) Try.func11 rfl rfl (Nat.le_of_ble_eq_true rfl) (St.nil (Below.refl _ _)) ?_
      ((conv => whnf); (repeat ((first | (apply VCall.q; kernel_rfl; (focus (intro w1 hs; first | with_reducible apply kg w1 _ hs | with_reducible apply works_any w1))) | apply VBr.t | apply VBr.f | (apply v_t; omega) | (apply VNew.mk; intro g hg)); (conv => whnf))))
      ((apply VRet.mk); refine ret1 (by first | exact .inl rfl | exact .inr rfl) rfl (by exact rv_tmp rfl) ?_; exact fun w h => ⟨rfl, h.base⟩)
    · have ht := sharpOf_ok h4.1
      have k1 := sharpness_any z4 h4
      generalize sharpOf z4 = t at *
      obtain ⟨q, rfl⟩ : ∃ q : Nat, z2 = q := ⟨z2.toNat, by omega⟩
      have hw2 := i64_wrap (p := (q : Int)) (by omega)
      have hL : 0 ≤ z3.tmod 1001 ∧ z3.tmod 1001 ≤ 1000 := by rw [Int.tmod_eq_emod_of_nonneg h3.1]; omega
      have hw3 := i64_wrap (p := z3.tmod 1001) (by omega)
      have hJ : ((q : Int)).tmod (xs.length : Int) = ((q % xs.length : Nat) : Int) := (Int.ofNat_tmod _ _).symm
      have hJlt : q % xs.length < xs.length := Nat.mod_lt _ (by omega)
      obtain ⟨b, o, rfl, _⟩ := hr.2 (show 0 < xs.length by omega)
      have hall : ∀ A, CellsAt w A b o (pairCells xs) := fun A => CellsAt.base fun j u hu => by
        obtain ⟨b', o', e, _, hc⟩ := hr.2 (show 0 < xs.length by omega)
        cases e
        exact hc j u hu
      have hpl := pairCells_length xs
      have hone : (pairCells xs).all Value.oneCell' = true := by rw [List.all_eq_true]; exact pair_oneCell xs
      have hlj := not_lotBad.1 (hG.lot (q % xs.length) hJlt)
      have hget := pairCells_get xs (q % xs.length) hJlt
      obtain ⟨pr, hpr⟩ : ∃ pr, pr = if (xs[q % xs.length]?.getD (0, 0)).2 - z3.tmod 1001 > 0 then (xs[q % xs.length]?.getD (0, 0)).2 - z3.tmod 1001 else 0 := ⟨_, rfl⟩
      have hset := pairCells_set xs (q % xs.length) pr hJlt
      change 0 ≤ (xs[q % xs.length]?.getD (0, 0)).1 ∧ (xs[q % xs.length]?.getD (0, 0)).1 ≤ 100 ∧ 0 ≤ (xs[q % xs.length]?.getD (0, 0)).2 ∧ (xs[q % xs.length]?.getD (0, 0)).2 ≤ 1000 at hlj
      have hY : Under xs (xs.set (q % xs.length) ((xs[q % xs.length]?.getD (0, 0)).1, pr)) ∧ Good (xs.set (q % xs.length) ((xs[q % xs.length]?.getD (0, 0)).1, pr)) := by
        have hprb : 0 ≤ pr ∧ pr ≤ (xs[q % xs.length]?.getD (0, 0)).2 := by rw [hpr]; split <;> omega
        constructor
        · intro p hp
          obtain ⟨i, hi, rfl⟩ := List.mem_iff_getElem.1 hp
          by_cases e : q % xs.length = i
          · refine ⟨_, List.mem_iff_getElem.2 ⟨i, by simpa using hi, rfl⟩, ?_⟩
            subst e
            rw [List.getElem_set_self]
            rw [List.getElem?_eq_getElem hi] at hprb ⊢
            exact ⟨rfl, hprb.2⟩
          · refine ⟨_, List.mem_iff_getElem.2 ⟨i, by simpa using hi, rfl⟩, ?_⟩
            rw [List.getElem_set_ne e]
            exact ⟨rfl, Int.le_refl _⟩
        · refine Good.of_mem (by simp; omega) (by simp; omega) fun p hp => ?_
          rcases List.mem_or_eq_of_mem_set hp with h | rfl
          · exact hG.mem h
          · dsimp only; omega
      have hX : Under xs (xs ++ [(m1, m2)]) := fun p hp => ⟨p, List.mem_append_left _ hp, rfl, Int.le_refl _⟩
      have hsx : pairCells xs ++ [.int .i64 m1, .int .i64 m2] = pairCells (xs ++ [(m1, m2)]) := by rw [pairCells_append]; rfl
      have hlx : (xs ++ [(m1, m2)]).length = xs.length + 1 := by simp
      have hly : (xs.set (q % xs.length) ((xs[q % xs.length]?.getD (0, 0)).1, pr)).length = xs.length := by simp
      generalize xs ++ [(m1, m2)] = X at *
      generalize xs.set (q % xs.length) ((xs[q % xs.length]?.getD (0, 0)).1, pr) = Y at *
      generalize xs[q % xs.length]?.getD (0, 0) = py at *
      generalize q % xs.length = J at *
      obtain ⟨py1, py2⟩ := py
      dsimp only at *
      obtain ⟨bx, hbx⟩ : ∃ bb, decide (checkLots X = 0) = bb := ⟨_, rfl⟩
      have wx : bx = true → Good X := fun h => Good.of (of_decide_eq_true (hbx.trans h))
      have fxk := fun (Bl : Option Addr) (cl : Nat) w1 (h : Reads w1 w1.heap.size 2 Bl (xs.length + 1) (pairCells X)) => fine_any Bl cl X w1 (by rw [hlx]; exact h) (by rw [hlx]; unfold maxLen; omega)
      rw [hbx, hlx] at fxk
      have nx := fun (hb : bx = true) (Bl : Option Addr) (cl : Nat) w1 h1 (h : Reads w1 w1.heap.size 2 Bl (xs.length + 1) (pairCells X)) => noMore_any (some ⟨b, o, none⟩) Bl c cl xs X w1 h1 (by rw [hlx]; exact h) hG (wx hb) hX t ht
      rw [hlx] at nx
      have ny := fun (Bl : Option Addr) (cl : Nat) w1 h1 (h : Reads w1 w1.heap.size 2 Bl xs.length (pairCells Y)) => noMore_any (some ⟨b, o, none⟩) Bl c cl xs Y w1 h1 (by rw [hly]; exact h) hG hY.2 hY.1 t ht
      rw [hly] at ny
      refine fn_k (n := 72) (A := []) Try.func11 rfl rfl (Nat.le_of_ble_eq_true rfl) (St.nil (Below.refl _ _)) ?_
      refine tr_seqK ?_
      (apply tr_v Try.tabOk; (conv => whnf); (repeat ((apply VNew.mk; intro g hg); (conv => whnf))); apply VStop.mk)
      refine tr_seqK ?_
      (apply tr_v Try.tabOk; (conv => whnf); (repeat ((first | (apply VCall.q; kernel_rfl; (focus (intro w1 hs; first | with_reducible apply kg w1 _ hs))) | apply VBr.f | (apply v_f; omega)); (conv => whnf))); apply VStop.mk)
      revert g hg
      intro g6 hg6
      refine tr_seqK ?_
      (apply tr_v Try.tabOk; (conv => whnf); (repeat ((first | ((first | apply VStop.mk | apply VCall.stop); refine tr_region_draw (id := 3) (by kernel_rfl) [0, 2, 3, 4, 5, 6, 1, 7, 8] [.rd, .rd, .rd, .rd, .rd, .rd, .cr, .rd, .rd] rfl (by kernel_rfl) ?_; apply ot_v Try.tabOk) | (apply VCall.q; kernel_rfl; (focus (intro w1 hs; first | with_reducible apply k1 w1))) | (apply v_wr64; omega) | (apply VNz.mk; omega)); (conv => whnf))); apply VStop.mk)
      rw [hJ]
      refine tr_cut (fun x : Option Addr × Nat => ([(0, .slice (some ⟨b, o, none⟩) xs.length c), (3, .int .u16 z3), (11, .int .i64 t), (12, .int .i64 (J : Int)), (13, .slice x.1 (xs.length + 1) x.2)], [.own (.slice x.1 (xs.length + 1) x.2) 67 2 (xs.length + 1) (pairCells xs ++ [.int .i64 m1, .int .i64 m2])])) ?_ ?_
      · (apply tr_v Try.tabOk; (conv => whnf); (repeat ((first | (apply VStop.mk; refine tr_region_treeV (id := 4) (by kernel_rfl) [.blk g6 67 _] (by (repeat (first | exact List.nil_sublist _ | exact List.Sublist.refl _ | refine List.Sublist.cons_cons _ ?_ | refine List.Sublist.cons _ ?_))) [1, 3] [0, 2, 4, 5, 6] [.rd, .rd] (fun i => [.cr, .wr, .wr, .wr, .cr, .wr, .wr].getD i .wr) _ rfl rfl (by kernel_rfl) ?_; apply ot_v Try.tabOk) | (apply VLdN.mk; (focus ((repeat (first | (with_reducible apply ldn_blk) | (with_reducible apply ldn_skip))); done)); exact rfl)); (conv => whnf))))
        refine VT.mk (otx_twoV 0 4 (by kernel_rfl) (by kernel_rfl) (by decide) (by kernel_rfl) (by decide) ?_ ?_)
        · (apply ot_v Try.tabOk; (conv => whnf); (apply VNew.mk; intro gp hgp; (conv => whnf)); refine slist_and (by (repeat (first | exact List.nil_sublist _ | exact List.Sublist.refl _ | refine List.Sublist.cons_cons _ ?_ | refine List.Sublist.cons _ ?_))) ?_)
          refine VT.mk (otx_twoV 2 4 (by kernel_rfl) (by kernel_rfl) (by decide) (by kernel_rfl) (by decide) ?_ ?_)
          · (refine ot_appendE (sz := 2) (news := pairCells xs) Try.tabOk (by decide) rfl rfl rfl rfl rfl rfl rfl rfl rfl rfl (by omega) (fun w1 hs => hs.reads hr) (by omega) (by decide) (fun gx cx0 hgx => ?_); refine ot_nil ?_; refine slist_and (by (repeat (first | exact List.nil_sublist _ | exact List.Sublist.refl _ | refine List.Sublist.cons_cons _ ?_ | refine List.Sublist.cons _ ?_))) ?_)
            refine VT.mk (otx_oneV 4 (by kernel_rfl) (by kernel_rfl) (by decide) ?_)
            (apply ot_v Try.tabOk; (conv => whnf); (apply VNew.mk; intro gq hgq; (conv => whnf)); refine slist_and (by (repeat (first | exact List.nil_sublist _ | exact List.Sublist.refl _ | refine List.Sublist.cons_cons _ ?_ | refine List.Sublist.cons _ ?_))) ?_)
            refine VT.mk (otx_oneV 5 (by kernel_rfl) (by kernel_rfl) (by decide) ?_)
            ((first | refine ot_appendS (sz := 2) (sl := xs.length) (xs := pairCells xs) (A'v := fun v' => .own v' 67 2 (xs.length + 1) (pairCells xs ++ [.int .i64 m1, .int .i64 m2]) :: _) Try.tabOk rfl rfl rfl rfl rfl rfl rfl rfl rfl rfl (by decide) rfl (cells_blk_all (by (repeat (first | with_unfolding_all exact List.Mem.head _ | assumption | with_unfolding_all refine List.Mem.tail _ ?_)))) rfl rfl (fun v' => .here) (by omega) (by decide) (fun Bx cx => ?_) | refine ot_appendS (sz := 2) (sl := xs.length) (xs := pairCells xs) (A'v := fun v' => _ :: .own v' 67 2 (xs.length + 1) (pairCells xs ++ [.int .i64 m1, .int .i64 m2]) :: _) Try.tabOk rfl rfl rfl rfl rfl rfl rfl rfl rfl rfl (by decide) rfl (cells_blk_all (by (repeat (first | with_unfolding_all exact List.Mem.head _ | assumption | with_unfolding_all refine List.Mem.tail _ ?_)))) rfl rfl (fun v' => .there (.here)) (by omega) (by decide) (fun Bx cx => ?_)); refine ot_nil ?_; refine slist_and (by (repeat (first | exact List.nil_sublist _ | exact List.Sublist.refl _ | refine List.Sublist.cons_cons _ ?_ | refine List.Sublist.cons _ ?_))) ?_)
            refine VT.mk (otx_oneV 6 (by kernel_rfl) (by kernel_rfl) (by decide) ?_)
            (apply ot_v Try.tabOk; (conv => whnf); refine slist_and (by (repeat (first | exact List.nil_sublist _ | exact List.Sublist.refl _ | refine List.Sublist.cons_cons _ ?_ | refine List.Sublist.cons _ ?_))) ?_)
            refine VT.mk (otx_end ?_)
            exact VJ.mk (Bx, cx) rfl ⟨rfl, rfl, rfl, rfl, rfl, trivial⟩ (by ((try dsimp only); (iterate 1 ((apply Pick.cons); (focus (repeat (first | exact Rem.here | apply Rem.there)); done))); exact Pick.nil))
          · (apply ot_v Try.tabOk; (conv => whnf); (apply VNew.mk; intro gq hgq; (conv => whnf)); refine slist_and (by (repeat (first | exact List.nil_sublist _ | exact List.Sublist.refl _ | refine List.Sublist.cons_cons _ ?_ | refine List.Sublist.cons _ ?_))) ?_)
            refine VT.mk (otx_oneV 2 (by kernel_rfl) (by kernel_rfl) (by decide) ?_)
            (refine ot_appendE (sz := 2) (news := pairCells xs) Try.tabOk (by decide) rfl rfl rfl rfl rfl rfl rfl rfl rfl rfl (by omega) (fun w1 hs => hs.reads hr) (by omega) (by decide) (fun gx cx0 hgx => ?_); refine ot_nil ?_; refine slist_and (by (repeat (first | exact List.nil_sublist _ | exact List.Sublist.refl _ | refine List.Sublist.cons_cons _ ?_ | refine List.Sublist.cons _ ?_))) ?_)
            refine VT.mk (otx_oneV 5 (by kernel_rfl) (by kernel_rfl) (by decide) ?_)
            ((first | refine ot_appendS (sz := 2) (sl := xs.length) (xs := pairCells xs) (A'v := fun v' => .own v' 67 2 (xs.length + 1) (pairCells xs ++ [.int .i64 m1, .int .i64 m2]) :: _) Try.tabOk rfl rfl rfl rfl rfl rfl rfl rfl rfl rfl (by decide) rfl (cells_blk_all (by (repeat (first | with_unfolding_all exact List.Mem.head _ | assumption | with_unfolding_all refine List.Mem.tail _ ?_)))) rfl rfl (fun v' => .here) (by omega) (by decide) (fun Bx cx => ?_) | refine ot_appendS (sz := 2) (sl := xs.length) (xs := pairCells xs) (A'v := fun v' => _ :: .own v' 67 2 (xs.length + 1) (pairCells xs ++ [.int .i64 m1, .int .i64 m2]) :: _) Try.tabOk rfl rfl rfl rfl rfl rfl rfl rfl rfl rfl (by decide) rfl (cells_blk_all (by (repeat (first | with_unfolding_all exact List.Mem.head _ | assumption | with_unfolding_all refine List.Mem.tail _ ?_)))) rfl rfl (fun v' => .there (.here)) (by omega) (by decide) (fun Bx cx => ?_)); refine ot_nil ?_; refine slist_and (by (repeat (first | exact List.nil_sublist _ | exact List.Sublist.refl _ | refine List.Sublist.cons_cons _ ?_ | refine List.Sublist.cons _ ?_))) ?_)
            refine VT.mk (otx_oneV 6 (by kernel_rfl) (by kernel_rfl) (by decide) ?_)
            (apply ot_v Try.tabOk; (conv => whnf); refine slist_and (by (repeat (first | exact List.nil_sublist _ | exact List.Sublist.refl _ | refine List.Sublist.cons_cons _ ?_ | refine List.Sublist.cons _ ?_))) ?_)
            refine VT.mk (otx_end ?_)
            exact VJ.mk (Bx, cx) rfl ⟨rfl, rfl, rfl, rfl, rfl, trivial⟩ (by ((try dsimp only); (iterate 1 ((apply Pick.cons); (focus (repeat (first | exact Rem.here | apply Rem.there)); done))); exact Pick.nil))
        · (apply ot_v Try.tabOk; (conv => whnf); (apply VNew.mk; intro gq hgq; (conv => whnf)); refine slist_and (by (repeat (first | exact List.nil_sublist _ | exact List.Sublist.refl _ | refine List.Sublist.cons_cons _ ?_ | refine List.Sublist.cons _ ?_))) ?_)
          refine VT.mk (otx_oneV 0 (by kernel_rfl) (by kernel_rfl) (by decide) ?_)
          (apply ot_v Try.tabOk; (conv => whnf); (apply VNew.mk; intro gp hgp; (conv => whnf)); refine slist_and (by (repeat (first | exact List.nil_sublist _ | exact List.Sublist.refl _ | refine List.Sublist.cons_cons _ ?_ | refine List.Sublist.cons _ ?_))) ?_)
          refine VT.mk (otx_oneV 2 (by kernel_rfl) (by kernel_rfl) (by decide) ?_)
          (refine ot_appendE (sz := 2) (news := pairCells xs) Try.tabOk (by decide) rfl rfl rfl rfl rfl rfl rfl rfl rfl rfl (by omega) (fun w1 hs => hs.reads hr) (by omega) (by decide) (fun gx cx0 hgx => ?_); refine ot_nil ?_; refine slist_and (by (repeat (first | exact List.nil_sublist _ | exact List.Sublist.refl _ | refine List.Sublist.cons_cons _ ?_ | refine List.Sublist.cons _ ?_))) ?_)
          refine VT.mk (otx_oneV 5 (by kernel_rfl) (by kernel_rfl) (by decide) ?_)
          ((first | refine ot_appendS (sz := 2) (sl := xs.length) (xs := pairCells xs) (A'v := fun v' => .own v' 67 2 (xs.length + 1) (pairCells xs ++ [.int .i64 m1, .int .i64 m2]) :: _) Try.tabOk rfl rfl rfl rfl rfl rfl rfl rfl rfl rfl (by decide) rfl (cells_blk_all (by (repeat (first | with_unfolding_all exact List.Mem.head _ | assumption | with_unfolding_all refine List.Mem.tail _ ?_)))) rfl rfl (fun v' => .here) (by omega) (by decide) (fun Bx cx => ?_) | refine ot_appendS (sz := 2) (sl := xs.length) (xs := pairCells xs) (A'v := fun v' => _ :: .own v' 67 2 (xs.length + 1) (pairCells xs ++ [.int .i64 m1, .int .i64 m2]) :: _) Try.tabOk rfl rfl rfl rfl rfl rfl rfl rfl rfl rfl (by decide) rfl (cells_blk_all (by (repeat (first | with_unfolding_all exact List.Mem.head _ | assumption | with_unfolding_all refine List.Mem.tail _ ?_)))) rfl rfl (fun v' => .there (.here)) (by omega) (by decide) (fun Bx cx => ?_)); refine ot_nil ?_; refine slist_and (by (repeat (first | exact List.nil_sublist _ | exact List.Sublist.refl _ | refine List.Sublist.cons_cons _ ?_ | refine List.Sublist.cons _ ?_))) ?_)
          refine VT.mk (otx_oneV 6 (by kernel_rfl) (by kernel_rfl) (by decide) ?_)
          (apply ot_v Try.tabOk; (conv => whnf); refine slist_and (by (repeat (first | exact List.nil_sublist _ | exact List.Sublist.refl _ | refine List.Sublist.cons_cons _ ?_ | refine List.Sublist.cons _ ?_))) ?_)
          refine VT.mk (otx_end ?_)
          exact VJ.mk (Bx, cx) rfl ⟨rfl, rfl, rfl, rfl, rfl, trivial⟩ (by ((try dsimp only); (iterate 1 ((apply Pick.cons); (focus (repeat (first | exact Rem.here | apply Rem.there)); done))); exact Pick.nil))
      rintro ⟨Bx, cx⟩
      dsimp only
      refine tr_seqK ?_
      (apply tr_v Try.tabOk; (conv => whnf); (repeat ((first | (apply VStop.mk; (refine ot_appendE (sz := 2) (news := pairCells xs) Try.tabOk (by decide) rfl rfl rfl rfl rfl rfl rfl rfl rfl rfl (by omega) (fun w1 hs => hs.reads hr) (by omega) (by decide) (fun gy cy hgy => ?_)); apply ot_v Try.tabOk) | (apply VNew.mk; intro g hg)); (conv => whnf))); apply VStop.mk)
      refine tr_seqK ?_
      (apply tr_v Try.tabOk; (conv => whnf); (repeat ((first | (apply VIx.mk (j := J); exact rfl; omega) | (apply VLd.mk; exact cell_own (.head _) (by show (pairCells xs)[0 + J * 2 + 1]? = _; rw [Nat.zero_add]; exact hget.2)) | (apply VSt.stop; refine ot_store_own (sv := undef) Try.tabOk rfl rfl rfl rfl rfl rfl rfl rfl rfl rfl .here (show 0 + J * 2 + 1 < xs.length * 2 by omega) ?_; apply ot_v Try.tabOk) | (apply VRng.mk; omega) | (apply v_wr64; omega) | (apply VNz.mk; omega)); (conv => whnf))); apply VStop.mk)
      have rdX : ∀ {w1 A}, St w A w1 → Chunk.own (.slice Bx (xs.length + 1) cx) 67 2 (xs.length + 1) (pairCells xs ++ [.int .i64 m1, .int .i64 m2]) ∈ A → Reads w1 w1.heap.size 2 Bx (xs.length + 1) (pairCells X) := fun hs h => by
        rw [← hsx]; exact hs.own_rd h
      have rdY : ∀ {w1 A}, St w A w1 → Chunk.own (.slice (some ⟨gy, 0, none⟩) xs.length cy) 67 2 xs.length ((pairCells xs).set (0 + J * 2 + 1) (.int .i64 (if py2 - z3.tmod 1001 > 0 then py2 - z3.tmod 1001 else 0))) ∈ A → Reads w1 w1.heap.size 2 (some ⟨gy, 0, none⟩) xs.length (pairCells Y) := fun hs h => by
        rw [Nat.zero_add] at h
        rw [hset, hpr]
        exact hs.own_rd h
      cases bx
      · (apply tr_v Try.tabOk; (conv => whnf); (repeat ((first | (apply VCall.q; kernel_rfl; (focus (intro w1 hs; first | with_reducible apply fxk _ _ w1 (rdX hs (by (repeat (first | with_unfolding_all exact List.Mem.head _ | assumption | with_unfolding_all refine List.Mem.tail _ ?_)))) | with_reducible apply ny _ _ w1 (hs.reads hr) (rdY hs (by (repeat (first | with_unfolding_all exact List.Mem.head _ | assumption | with_unfolding_all refine List.Mem.tail _ ?_)))) | with_reducible apply works_any w1))) | apply VBr.t); (conv => whnf))))
        ((apply VRet.mk); refine ret1 (by first | exact .inl rfl | exact .inr rfl) rfl (by exact rv_tmp rfl) ?_; exact fun w h => ⟨rfl, h.base⟩)
      · (apply tr_v Try.tabOk; (conv => whnf); (repeat ((first | (apply VCall.q; kernel_rfl; (focus (intro w1 hs; first | with_reducible apply fxk _ _ w1 (rdX hs (by (repeat (first | with_unfolding_all exact List.Mem.head _ | assumption | with_unfolding_all refine List.Mem.tail _ ?_)))) | with_reducible apply nx rfl _ _ w1 (hs.reads hr) (rdX hs (by (repeat (first | with_unfolding_all exact List.Mem.head _ | assumption | with_unfolding_all refine List.Mem.tail _ ?_)))) | with_reducible apply ny _ _ w1 (hs.reads hr) (rdY hs (by (repeat (first | with_unfolding_all exact List.Mem.head _ | assumption | with_unfolding_all refine List.Mem.tail _ ?_)))) | with_reducible apply works_any w1))) | apply VBr.t | apply VBr.f); (conv => whnf))))
        ((apply VRet.mk); refine ret1 (by first | exact .inl rfl | exact .inr rfl) rfl (by exact rv_tmp rfl) ?_; exact fun w h => ⟨rfl, h.base⟩)
end
end Go.Proofs.Ytfjnnegaljfkgaa
