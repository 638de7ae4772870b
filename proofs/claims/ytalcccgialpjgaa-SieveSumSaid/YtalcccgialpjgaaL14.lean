/- SieveSum: lemmas for the rows of this seat. No conditions. -/
import Derived.Test.YtalcccgialpjgaaM22
import Derived.Test.YtalcccgialpjgaaQ3
import Derived.Test.YtalcccgialpjgaaN31
set_option linter.all false
namespace Go.Proofs.Ytalcccgialpjgaa
open Go.RowKit
/-! ## SieveSum -/
section
variable (RA : Option Addr) (rc : Nat) (CA : Option Addr) (cc : Nat) (XA : Option Addr) (xc : Nat) (R C : List R2) (X : List (List R2)) (w : World) (hT : TabR w RA CA XA R C X)
include hT
set_option maxRecDepth 20000 in
theorem sound_any (hx : X.length ≤ maxLen) {b : Bool} (hb : b = true ↔ Valid R C X ∧ HasT R C X) : Calls Try.prog 51 #[tabV RA rc CA cc XA xc R C X] w fun e w' => e = .returned (.bool b) ∧ Below w.heap.size w w' := by
 have hgr := fun w1 (h : TabR w1 RA CA XA R C X) => great_any RA rc CA cc XA xc R C X w1 h hx
 have hc := fun w1 (h : TabR w1 RA CA XA R C X) hF => error_any RA rc CA cc XA xc R C X w1 h hF
 unfold tabV at *
 cases h7 : greatB R C X with
 | true =>
  have hf : b = false := by
   cases b with
   | false => rfl
   | true => have := great_fit.2 (hb.1 rfl).1.fit; rw [h7] at this; cases this
  subst hf
  rw [h7] at hgr
  refine fn_v tk (n := 11) (A := []) Try.func51 rfl rfl (Nat.le_of_ble_eq_true rfl) (St.nil (Below.refl _ _)) ?_
  ((try first | apply tr_v tk | apply ot_v tk); (conv => whnf); (repeat ((first | (apply VCall.q; kernel_rfl; (focus (intro w1 hs; first | with_reducible apply hgr w1 (hs.tab hT)))) | (apply VLdN.mk; (focus ((repeat (first | (with_reducible apply ldn_blk) | (with_reducible apply ldn_skip))); done)); exact rfl) | apply VBr.f | (apply VNew.mk; intro g hg)); (conv => whnf))); try (first | apply VStop.mk | apply VCall.stop))
  ((apply VRet.mk); refine ret1 (by first | exact .inl rfl | exact .inr rfl) rfl (by exact rv_tmp rfl) ?_; exact fun w h => ⟨rfl, h.base⟩)
 | false =>
  have hF := great_fit.1 h7
  rw [h7] at hgr
  have hc' := fun w1 h => hc w1 h hF
  by_cases hz : errT R C X = 0
  ·have hf : b = true := hb.2 (errT_zero hz)
   subst hf
   rw [hz] at hc'
   refine fn_v tk (n := 11) (A := []) Try.func51 rfl rfl (Nat.le_of_ble_eq_true rfl) (St.nil (Below.refl _ _)) ?_
   ((try first | apply tr_v tk | apply ot_v tk); (conv => whnf); (repeat ((first | (apply VCall.q; kernel_rfl; (focus (intro w1 hs; first | with_reducible apply hgr w1 (hs.tab hT) | with_reducible apply hc' w1 (hs.tab hT)))) | (apply VLdN.mk; (focus ((repeat (first | (with_reducible apply ldn_blk) | (with_reducible apply ldn_skip))); done)); exact rfl) | apply VBr.t | (apply v_t; omega) | (apply VNew.mk; intro g hg)); (conv => whnf))); try (first | apply VStop.mk | apply VCall.stop))
   ((apply VRet.mk); refine ret1 (by first | exact .inl rfl | exact .inr rfl) rfl (by exact rv_tmp rfl) ?_; exact fun w h => ⟨rfl, h.base⟩)
  ·have hf : b = false := by
    cases b with
    | false => rfl
    | true => exact absurd (errT_ok (hb.1 rfl).1 (hb.1 rfl).2) hz
   subst hf
   generalize errT R C X = z at *
   refine fn_v tk (n := 11) (A := []) Try.func51 rfl rfl (Nat.le_of_ble_eq_true rfl) (St.nil (Below.refl _ _)) ?_
   ((try first | apply tr_v tk | apply ot_v tk); (conv => whnf); (repeat ((first | (apply VCall.q; kernel_rfl; (focus (intro w1 hs; first | with_reducible apply hgr w1 (hs.tab hT) | with_reducible apply hc' w1 (hs.tab hT)))) | (apply VLdN.mk; (focus ((repeat (first | (with_reducible apply ldn_blk) | (with_reducible apply ldn_skip))); done)); exact rfl) | apply VBr.t | (apply v_f; omega) | (apply VNew.mk; intro g hg)); (conv => whnf))); try (first | apply VStop.mk | apply VCall.stop))
   ((apply VRet.mk); refine ret1 (by first | exact .inl rfl | exact .inr rfl) rfl (by exact rv_tmp rfl) ?_; exact fun w h => ⟨rfl, h.base⟩)
set_option maxHeartbeats 4000000 in
set_option maxRecDepth 20000 in
theorem law14_any (hx : X.length ≤ maxLen) (nb : Nat) (hnb : nb < 256) :
  Calls Try.prog 14 #[tabV RA rc CA cc XA xc R C X, .int .u8 (nb : Int)] w fun e w' => e = .returned (.bool true) ∧ Below w.heap.size w w' := by
 by_cases hVH : Valid R C X ∧ HasT R C X
 rotate_left
 ·have hfi := fun w1 (h : TabR w1 RA CA XA R C X) => sound_any RA rc CA cc XA xc R C X w1 h hx (b := false) ⟨fun h => absurd h (by decide), fun h => absurd h hVH⟩
  unfold tabV at *
  refine fn_v tk (n := 166) (A := []) Try.func14 rfl rfl (Nat.le_of_ble_eq_true rfl) (St.nil (Below.refl _ _)) ?_
  ((try first | apply tr_v tk | apply ot_v tk); (conv => whnf); (repeat ((first | (apply VCall.q; kernel_rfl; (focus (intro w1 hs; first | with_reducible apply hfi w1 (hs.tab hT) | with_reducible apply works_any w1))) | (apply VLdN.mk; (focus ((repeat (first | (with_reducible apply ldn_blk) | (with_reducible apply ldn_skip))); done)); exact rfl) | apply VBr.t | (apply VNew.mk; intro g hg)); (conv => whnf))); try (first | apply VStop.mk | apply VCall.stop))
  ((apply VRet.mk); refine ret1 (by first | exact .inl rfl | exact .inr rfl) rfl (by exact rv_tmp rfl) ?_; exact fun w h => ⟨rfl, h.base⟩)
 obtain ⟨hV, hH⟩ := hVH
 have hfi := fun w1 (h : TabR w1 RA CA XA R C X) => sound_any RA rc CA cc XA xc R C X w1 h hx (b := true) ⟨fun _ => ⟨hV, hH⟩, fun _ => rfl⟩
 have hn := hV.r1
 have hn4 := hV.r4
 have hal := fun w1 (h : TabR w1 RA CA XA R C X) => all_any RA rc CA cc XA xc R C X w1 h hV.fit
 rw [allA_ok hV hH] at hal
 have har := all_rows hV hH
 have hale := (allR_ok hV hH).le
 have hmo := fun w1 (h : TabR w1 RA CA XA R C X) many => more_ok RA rc CA cc XA xc R C X w1 h hV hH many
 have hro := fun w1 (h : TabR w1 RA CA XA R C X) (i : Nat) (hi : i < R.length) => row32_any RA rc CA cc XA xc R C X w1 h hV.fit (i : Int)
 obtain ⟨rb, ro, rfl, _⟩ := hT.r.2 (by omega)
 unfold tabV resV at *
 dsimp only at hal
 generalize allR R C X = ar at *
 obtain ⟨a1, a2⟩ := ar
 dsimp only at har hal hale
 have hmod : Int.tmod (nb : Int) 50 = ((nb % 50 : Nat) : Int) := by rw [Int.tmod_eq_emod_of_nonneg (by omega)]; simp
 refine fn_v tk (n := 166) (A := []) Try.func14 rfl rfl (Nat.le_of_ble_eq_true rfl) (St.nil (Below.refl _ _)) ?_
 ((try first | apply tr_v tk | apply ot_v tk); (conv => whnf); (repeat ((first | (apply VCall.q; kernel_rfl; (focus (intro w1 hs; first | with_reducible apply hfi w1 (hs.tab hT) | with_reducible apply hal w1 (hs.tab hT)))) | (apply VLdN.mk; (focus ((repeat (first | (with_reducible apply ldn_blk) | (with_reducible apply ldn_skip))); done)); exact rfl) | apply VBr.f | (apply VNew.mk; intro g hg) | (apply VSt.mk; (focus ((repeat (first | (with_reducible exact At.here) | (with_reducible apply At.there))); done)); exact rfl) | (apply v_wr64; omega) | (apply VNz.mk; omega)); (conv => whnf))); try (first | apply VStop.mk | apply VCall.stop))
 rw [hmod]
 have hmm : nb % 50 < 50 := Nat.mod_lt _ (by decide)
 generalize nb % 50 = mm at *
 clear hmod
 refine ot_callC (X := SlX) (us := []) (vs := []) (fun x => .tuple #[.slice x.B R.length x.c, .int .i64 0]) (fun x => [.own (.slice x.B R.length x.c) 3 1 R.length (i64s (moreL R C X (mm) R.length))]) (fun _ => True) (fun x => mut_one rfl) (by decide) rfl rfl rfl rfl (by kernel_rfl) (evl_of rfl) rfl (fun w1 hs => hmo w1 (hs.tab hT) _) (fun x _ => ?_)
 (dsimp only [List.cons_append, List.nil_append]; apply ot_v tk)
 ((try first | apply tr_v tk | apply ot_v tk); (conv => whnf); (repeat ((first | (apply VLdN.mk; (focus ((repeat (first | (with_reducible apply ldn_blk) | (with_reducible apply ldn_skip))); done)); exact rfl) | (apply VRng.mk; omega)); (conv => whnf))); try (first | apply VStop.mk | apply VCall.stop))
 refine ot_callC (X := SlX) (us := []) (vs := []) (fun x => .tuple #[.slice x.B R.length x.c, .int .i64 0]) (fun x => [.own (.slice x.B R.length x.c) 3 1 R.length (i64s (moreL R C X ((mm : Int) - 1) R.length))]) (fun _ => True) (fun x => mut_one rfl) (by decide) rfl rfl rfl rfl (by kernel_rfl) (evl_of rfl) rfl (fun w1 hs => hmo w1 (hs.tab hT) _) (fun y _ => ?_)
 (dsimp only [List.cons_append, List.nil_append]; apply ot_v tk)
 ((try first | apply tr_v tk | apply ot_v tk); (conv => whnf); (repeat ((first | (apply VLd.mk; (focus ((repeat (first | ((with_reducible apply ld_blk); exact rfl) | (with_reducible apply ld_skip))); done))) | apply VBr.f | (apply v_f; omega)); (conv => whnf))); try (first | apply VStop.mk | apply VCall.stop))
 revert g hg
 intro g6 hg6
 revert g hg
 intro g2 hg2
 refine tr_fact (p := ∃ b, y.B = some ⟨b, 0, none⟩) (fun w' hs => own_some hs (.head _) (by omega)) ?_
 rintro ⟨yb, hyb⟩
 refine tr_fact (p := ∃ b, x.B = some ⟨b, 0, none⟩) (fun w' hs => own_some hs (.tail _ (.head _)) (by omega)) ?_
 rintro ⟨xb, hxb⟩
 obtain ⟨xB, xq⟩ := x
 obtain ⟨yB, yq⟩ := y
 dsimp only at hxb hyb
 subst hxb hyb
 dsimp only
 have hml : ∀ (many : Int) (j : Nat), j < R.length → (i64s (moreL R C X many R.length))[j]? = some (.int .i64 (moreI many (rowR R C X j))) := fun many j hj => by
  unfold moreL i64s
  rw [List.getElem?_map, map_range_at _ hj]; rfl
 refine v_loop (fun gm ds ts A => ds = [] ∧ ∃ j : Nat, j + gm = R.length ∧ A = [.own (.slice (some ⟨yb, 0, none⟩) R.length yq) 3 1 R.length (i64s (moreL R C X ((mm : Int) - 1) R.length)), .own (.slice (some ⟨xb, 0, none⟩) R.length xq) 3 1 R.length (i64s (moreL R C X (mm : Int) R.length)), .blk g6 37 [.int .i64 a1, .int .i64 a2], .blk g2 25 [.slice (some ⟨rb, ro, none⟩) R.length rc, .slice CA C.length cc, .slice XA X.length xc]] ∧ ts = [(2, .pointer (some ⟨g2, 0, none⟩)), (5, .int .i64 (mm : Int)), (6, .pointer (some ⟨g6, 0, none⟩)), (8, .slice (some ⟨xb, 0, none⟩) R.length xq), (10, .slice (some ⟨yb, 0, none⟩) R.length yq), (12, .int .i64 (sm (fun i => (rowR R C X i).1) j)), (13, .int .i64 (sm (fun i => (rowR R C X i).2) j)), (14, .int .i64 (j : Int))]) R.length
  (l := [(2, _), (5, _), (6, _), (8, _), (10, _), (12, .int .i64 (sm (fun i => (rowR R C X i).1) 0)), (13, .int .i64 (sm (fun i => (rowR R C X i).2) 0)), (14, _)]) (B := _) ?_ (List.Sublist.refl _) ⟨rfl, 0, by omega, rfl, rfl⟩ ?_
 ·exact ⟨rfl, rfl, rfl, rfl, rfl, rfl, rfl, rfl, trivial⟩
 rintro gm ds ts A ⟨rfl, j, hj, rfl, rfl⟩
 by_cases hlt : j < R.length
 ·have k2 : ∀ Ch, CellsAt w Ch rb (ro + j * 2) [.int .i64 (rAt R j).1, .int .i64 (rAt R j).2] := rg_cells hT.r hlt (by omega)
  have k3 : ∀ Ch, CellAt w Ch rb (ro + j * 2) (.int .i64 (rAt R j).1) ∧ CellAt w Ch rb (ro + j * 2 + 1) (.int .i64 (rAt R j).2) := fun Ch => rg_cell hT.r hlt (by omega) Ch
  have ex := hml (mm : Int) j hlt
  have ey := hml ((mm : Int) - 1) j hlt
  have hin := rowR_in hH hlt
  have hvr := hV.rR hlt
  have hro' := fun w1 h => hro w1 h j hlt
  have hb1 : 0 ≤ sm (fun i => (rowR R C X i).1) j ∧ sm (fun i => (rowR R C X i).1) j ≤ 48 * j := ⟨sm_nonneg fun i hi => by have := rowR_in hH (show i < R.length by omega); have := hV.rR (show i < R.length by omega); omega, sm_bound fun i hi => by have := rowR_in hH (show i < R.length by omega); have := hV.rR (show i < R.length by omega); omega⟩
  have hb2 : 0 ≤ sm (fun i => (rowR R C X i).2) j ∧ sm (fun i => (rowR R C X i).2) j ≤ 48 * j := ⟨sm_nonneg fun i hi => by have := rowR_in hH (show i < R.length by omega); have := hV.rR (show i < R.length by omega); omega, sm_bound fun i hi => by have := rowR_in hH (show i < R.length by omega); have := hV.rR (show i < R.length by omega); omega⟩
  have s1 : sm (fun i => (rowR R C X i).1) (j + 1) = sm (fun i => (rowR R C X i).1) j + (rowR R C X j).1 := rfl
  have s2 : sm (fun i => (rowR R C X i).2) (j + 1) = sm (fun i => (rowR R C X i).2) j + (rowR R C X j).2 := rfl
  rw [rowA_ok hV hH hlt] at hro'
  generalize hS1 : sm (fun i => (rowR R C X i).1) j = S1 at *
  generalize hS2 : sm (fun i => (rowR R C X i).2) j = S2 at *
  generalize rowR R C X j = rr at *
  obtain ⟨r1, r2⟩ := rr
  dsimp only at hro' hin s1 s2
  have hk1 : moreI (mm : Int) (r1, r2) ≤ moreI ((mm : Int) - 1) (r1, r2) := by unfold moreI; dsimp only; split <;> split <;> (try split) <;> omega
  have hk0 : moreI (mm : Int) (r1, r2) = if (mm : Int) < r1 then 2 else if (mm : Int) < r2 then 1 else 0 := rfl
  generalize moreI (mm : Int) (r1, r2) = v1 at *
  generalize moreI ((mm : Int) - 1) (r1, r2) = v2 at *
  generalize rAt R j = q at *
  obtain ⟨q1, q2⟩ := q
  dsimp only at k2 k3 hin hvr
  have kx : ∀ {A'}, .own (.slice (some ⟨xb, 0, none⟩) R.length xq) 3 1 R.length (i64s (moreL R C X (mm : Int) R.length)) ∈ A' → CellAt w A' xb (0 + j * 1) (.int .i64 v1) := fun {A'} h => by rw [Nat.zero_add, Nat.mul_one]; exact cell_own h ex
  have ky : ∀ {A'}, .own (.slice (some ⟨yb, 0, none⟩) R.length yq) 3 1 R.length (i64s (moreL R C X ((mm : Int) - 1) R.length)) ∈ A' → CellAt w A' yb (0 + j * 1) (.int .i64 v2) := fun {A'} h => by rw [Nat.zero_add, Nat.mul_one]; exact cell_own h ey
  have hv : (r1 > (mm : Int) ∧ v1 = 2) ∨ (¬r1 > (mm : Int) ∧ ¬r2 ≤ (mm : Int) ∧ v1 = 1) ∨ (¬r1 > (mm : Int) ∧ r2 ≤ (mm : Int) ∧ v1 = 0) := by
   rw [hk0]
   split
   ·exact .inl ⟨by omega, rfl⟩
   ·split
    ·exact .inr (.inl ⟨by omega, by omega, rfl⟩)
    ·exact .inr (.inr ⟨by omega, by omega, rfl⟩)
  clear hk0
  rcases hv with ⟨c1, rfl⟩ | ⟨c1, c2, rfl⟩ | ⟨c1, c2, rfl⟩
  all_goals
   ((try first | apply tr_v tk | apply ot_v tk); (conv => whnf); (repeat ((first | ((first | apply VStop.mk | apply VCall.stop); (first | refine tr_region_lex (id := 14) (by kernel_rfl) [.rd, .rd, .rd, .rd, .rd, .rd, .rd, .rd, .rd, .rd, .rd, .rd, .rd, .rd, .rd, .rd, .rd, .rd, .rd, .rd, .rd, .rd, .rd, .rd, .rd, .rd, .rd, .rd, .rd, .rd, .rd] rfl (by kernel_rfl) ?_ | refine tr_region_lex (id := 16) (by kernel_rfl) [.rd, .rd, .rd, .rd, .rd, .rd, .rd, .rd, .rd, .rd] rfl (by kernel_rfl) ?_ | refine tr_region_lex (id := 22) (by kernel_rfl) [.rd, .rd, .rd, .rd, .rd, .rd, .rd, .rd, .rd, .rd, .rd, .rd, .rd, .rd, .rd, .rd, .rd] rfl (by kernel_rfl) ?_); try first | apply ot_v tk | apply tr_v tk) | (apply VIx.mk (j := j); exact rfl; omega) | (apply VLd.mk; first | exact (k3 _).1 | exact (k3 _).2 | exact kx (by (repeat (first | exact List.mem_cons_self | refine List.mem_cons_of_mem _ ?_))) | exact ky (by (repeat (first | exact List.mem_cons_self | refine List.mem_cons_of_mem _ ?_)))) | (apply VCall.q; kernel_rfl; (focus (intro w1 hs; first | with_reducible apply hro' w1 (hs.tab hT)))) | (apply VLd.mk; (focus ((repeat (first | ((with_reducible apply ld_blk); exact rfl) | (with_reducible apply ld_skip))); done))) | (apply VLdN.mk; (focus ((repeat (first | (with_reducible apply ldn_blk) | (with_reducible apply ldn_skip))); done)); exact rfl) | (apply VRng.mk; omega) | apply VBr.t | apply VBr.f | (apply v_t; omega) | (apply v_f; omega) | (apply VNew.mk; intro g hg) | (apply VSt.mk; (focus ((repeat (first | (with_reducible exact At.here) | (with_reducible apply At.there))); done)); exact rfl)); (conv => whnf))); try (first | apply VStop.mk | apply VCall.stop))
   rw [← s1, ← s2]
   exact v_rnd (gm - 1) (by omega) (l := [(2, _), (5, _), (6, _), (8, _), (10, _), (12, _), (13, _), (14, _)]) (B := _) ⟨rfl, rfl, rfl, rfl, rfl, rfl, rfl, rfl, trivial⟩ (.cons _ (List.Sublist.refl _)) ⟨rfl, j + 1, by omega, rfl, rfl⟩
 obtain rfl : j = R.length := by omega
 generalize sm (fun i => (rowR R C X i).1) R.length = S1 at *
 generalize sm (fun i => (rowR R C X i).2) R.length = S2 at *
 ((try first | apply tr_v tk | apply ot_v tk); (conv => whnf); (repeat ((first | (apply VCall.q; kernel_rfl; (focus (intro w1 hs; first | with_reducible apply works_any w1))) | (apply VLd.mk; (focus ((repeat (first | ((with_reducible apply ld_blk); exact rfl) | (with_reducible apply ld_skip))); done))) | apply VBr.t | apply VBr.f | (apply v_t; omega) | (apply v_f; omega)); (conv => whnf))); try (first | apply VStop.mk | apply VCall.stop))
 ((apply VRet.mk); refine ret1 (by first | exact .inl rfl | exact .inr rfl) rfl (by exact rv_tmp rfl) ?_; exact fun w h => ⟨rfl, h.base⟩)
end
end Go.Proofs.Ytalcccgialpjgaa
