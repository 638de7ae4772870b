/- excess: lemmas for the rows of this seat. No conditions. -/
import Derived.Test.YtalcccgialpjgaaN7
set_option linter.all false
namespace Go.Proofs.Ytalcccgialpjgaa
open Go.RowKit
/-! ## excess -/
def conE (g : Nat → Nat → Int) (node : Nat) (x : Nat × Nat) : Int := (if x.2 = node then g x.1 x.2 else 0) - (if x.1 = node then g x.1 x.2 else 0)
def conS (g : Nat → Nat → Int) (node : Nat) : List (Nat × Nat) → Int
 | [] => 0
 | x :: l => conE g node x + conS g node l
theorem conS_snoc (g : Nat → Nat → Int) (node : Nat) (x : Nat × Nat) : ∀ l, conS g node (l ++ [x]) = conS g node l + conE g node x
 | [] => by simp [conS]
 | y :: l => by rw [List.cons_append, conS, conS_snoc g node x l, conS]; omega
theorem conS_sum (g : Nat → Nat → Int) (node N : Nat) : ∀ (l : List (Nat × Nat)), l.Nodup → (∀ x ∈ l, x.1 < N ∧ x.2 < N) → conS g node l = sm (fun u => sm (fun v => if (u, v) ∈ l then conE g node (u, v) else 0) N) N
 | [], _, _ => by
  rw [conS]
  symm
  exact sm_zero fun u _ => sm_zero fun v _ => by simp
 | x :: l, hn, hl => by
  obtain ⟨p, q⟩ := x
  have hn' := List.nodup_cons.1 hn
  have hx := hl _ (.head _)
  have hin : sm (fun v => if (p, v) ∈ (p, q) :: l then conE g node (p, v) else 0) N = sm (fun v => if (p, v) ∈ l then conE g node (p, v) else 0) N + conE g node (p, q) := by
   have := sm_one (g := fun v => if (p, v) ∈ (p, q) :: l then conE g node (p, v) else 0) (f := fun v => if (p, v) ∈ l then conE g node (p, v) else 0) hx.2 fun v hv hne => by
    have : ((p, v) ∈ (p, q) :: l) ↔ (p, v) ∈ l := by simp [hne]
    by_cases h : (p, v) ∈ l
    ·rw [if_pos (this.2 h), if_pos h]
    ·rw [if_neg (fun h' => h (this.1 h')), if_neg h]
   rw [this, if_pos (show (p, q) ∈ (p, q) :: l from .head _), if_neg hn'.1]
   dsimp only
   omega
  have hou := sm_one (g := fun u => sm (fun v => if (u, v) ∈ (p, q) :: l then conE g node (u, v) else 0) N) (f := fun u => sm (fun v => if (u, v) ∈ l then conE g node (u, v) else 0) N) hx.1 fun u hu hne => by
   refine sm_congr fun v _ => ?_
   have : ((u, v) ∈ (p, q) :: l) ↔ (u, v) ∈ l := by simp [hne]
   by_cases h : (u, v) ∈ l
   ·rw [if_pos (this.2 h), if_pos h]
   ·rw [if_neg (fun h' => h (this.1 h')), if_neg h]
  rw [conS, conS_sum g node N l hn'.2 fun x hx => hl x (.tail _ hx), hou, hin]
  dsimp only
  omega
theorem conS_exc {g : Nat → Nat → Int} {node N : Nat} {l : List (Nat × Nat)} (hn : l.Nodup) (hl : ∀ x ∈ l, x.1 < N ∧ x.2 < N) (h0 : ∀ u v, (u, v) ∉ l → g u v = 0) (hnode : node < N) : conS g node l = exc N g node := by
 rw [conS_sum g node N l hn hl]
 have h1 : sm (fun u => sm (fun v => if (u, v) ∈ l then conE g node (u, v) else 0) N) N = sm (fun u => sm (fun v => (if v = node then g u v else 0) - (if u = node then g u v else 0)) N) N := by
  refine sm_congr fun u _ => sm_congr fun v _ => ?_
  split
  ·rfl
  ·rename_i h
   rw [h0 u v h]
   simp
 rw [h1]
 have h2 : ∀ u, sm (fun v => (if v = node then g u v else 0) - (if u = node then g u v else 0)) N = sm (fun v => if v = node then g u v else 0) N - sm (fun v => if u = node then g u v else 0) N := fun u => sm_sub _ _ _
 rw [sm_congr (fun u _ => h2 u), sm_sub]
 unfold exc
 congr 1
 ·refine sm_congr fun u _ => ?_
  rw [sm_only hnode fun i _ hne => by rw [if_neg hne], if_pos rfl]
 ·rw [sm_only hnode fun i _ hne => sm_zero fun v _ => by rw [if_neg hne]]
  exact sm_congr fun v _ => by rw [if_pos rfl]
theorem pairs_len {l : List (Nat × Nat)} (hn : l.Nodup) (hl : ∀ x ∈ l, x.1 < 10 ∧ x.2 < 10) : l.length ≤ 100 := by
 have := List.Nodup.length_le_of_subset hn (l₂ := (List.range 10).flatMap fun u => (List.range 10).map fun v => (u, v)) fun x hx => by
  obtain ⟨u, v⟩ := x
  have := hl _ hx
  exact List.mem_flatMap.2 ⟨u, List.mem_range.2 this.1, List.mem_map.2 ⟨v, List.mem_range.2 this.2, rfl⟩⟩
 have e : ((List.range 10).flatMap fun u => (List.range 10).map fun v => (u, v)).length = 100 := by decide
 omega
theorem conS_bd {g : Nat → Nat → Int} (hg : Small g) (node : Nat) : ∀ l : List (Nat × Nat), -(20000 * (l.length : Int)) ≤ conS g node l ∧ conS g node l ≤ 20000 * (l.length : Int)
 | [] => by simp [conS]
 | x :: l => by
  have h1 := conS_bd hg node l
  have h2 := hg x.1 x.2
  have h3 : -20000 ≤ conE g node x ∧ conE g node x ≤ 20000 := by
   unfold conE
   split <;> split <;> omega
  rw [conS, List.length_cons]
  push_cast
  omega
def wsI (ws : List (Nat × Nat)) : List (Int × Int) := ws.map fun x => ((x.1 : Int), (x.2 : Int))
theorem wsI_mem {ws : List (Nat × Nat)} {u v : Nat} : ((u : Int), (v : Int)) ∈ wsI ws ↔ (u, v) ∈ ws := by
 unfold wsI
 rw [List.mem_map]
 constructor
 ·rintro ⟨⟨a, b⟩, h, e⟩
  simp only [Prod.mk.injEq] at e
  obtain rfl : a = u := by omega
  obtain rfl : b = v := by omega
  exact h
 ·exact fun h => ⟨(u, v), h, rfl⟩
theorem netE_lt {n m u v : Nat} (h : netE n m u v = true) : u < 2 + n + m ∧ v < 2 + n + m := by
 rw [netE_iff] at h
 unfold netP at h
 omega
section
variable (RA : Option Addr) (rc : Nat) (CA : Option Addr) (cc : Nat) (XA : Option Addr) (xc : Nat) (R C : List R2) (X : List (List R2)) (lo hi fl : Nat → Nat → Int) (gn bm fm : Nat) (w : World) (hT : NetAt w RA rc CA cc XA xc R C X lo hi fl gn bm fm) (hG : NetG R.length C.length lo hi fl)
include hT hG
set_option maxHeartbeats 4000000 in
set_option maxRecDepth 20000 in
theorem excess_any (hn : R.length ≤ 4) (hm : C.length ≤ 4) (node : Nat) (hnode : node < 2 + R.length + C.length) : Calls Try.prog 100 #[.pointer (some ⟨gn, 0, none⟩), .int .i64 (node : Int)] w fun e w' => e = .returned (.int .i64 (exc (2 + R.length + C.length) fl node)) ∧ Below w.heap.size w w' := by
 have c1 : ∀ {j u}, (netC RA rc CA cc XA xc R C X bm fm)[j]? = some u → ∀ A, CellAt w A gn j u := fun hu A => CellAt.base (hT.cell _ _ hu)
 obtain ⟨stf, hf⟩ := hT.fm
 obtain ⟨arr, clock, hob, hI⟩ := hf.it
 refine fn_v tk (n := 33) (A := []) Try.func100 rfl rfl (Nat.le_of_ble_eq_true rfl) (St.nil (Below.refl _ _)) ?_
 ((conv => whnf); (repeat ((apply VLd.mk; first | exact c1 rfl _); (conv => whnf))); apply VStop.mk)
 refine ot_rangeB mapF (by decide) rfl rfl rfl rfl (objAt_base hob _) (fun gi hgi => ?_)
 apply ot_v tk
 ((conv => whnf); apply VStop.mk)
 refine v_loop (fun gm ds ts A => ds = [] ∧ ∃ (ws : List (Nat × Nat)) (seen : Array Nat), seen.size + gm = clock ∧ ItOK pairE (keyM (netE R.length C.length) (intV fl)) (wsI ws) arr clock seen ∧ ws.Nodup ∧ (∀ x ∈ ws, netE R.length C.length x.1 x.2 = true) ∧ A = [.obj gi (.mapIter (some fm) clock seen clock)] ∧ ts = [(1, .int .i64 (node : Int)), (5, .int .i64 (conS fl node ws)), (12, .pointer (some ⟨gi, 0, none⟩))]) clock
  (l := [(1, _), (5, _), (12, _)]) (B := _) ?_ (List.Sublist.refl _) ⟨rfl, [], #[], by simp, hI, .nil, by simp, rfl, rfl⟩ ?_
 ·exact ⟨rfl, rfl, rfl, trivial⟩
 clear hI
 rintro gm ds ts A ⟨rfl, ws, seen, hgm, hI, hnd, hws, rfl, rfl⟩
 have hlt : ∀ x ∈ ws, x.1 < 2 + R.length + C.length ∧ x.2 < 2 + R.length + C.length := fun x hx => netE_lt (hws x hx)
 (apply tr_v tk; (conv => whnf); apply VStop.mk)
 refine ot_nextK pairK hI rfl rfl rfl rfl rfl (objAt_base hob _) (A2 := fun s => [.obj gi (.mapIter (some fm) clock s clock)]) (fun s => .here) (fun hall => ?_) (fun e k he hek hkv hkn hI2 => ?_)
 ·have hfin : conS fl node ws = exc (2 + R.length + C.length) fl node := conS_exc hnd hlt (fun u v h => hG.g0 u v (by
   cases hb : netE R.length C.length u v with
   | false => rfl
   | true => exact absurd (wsI_mem.1 (hall _ (intV fl u v) (by rw [keyM_nat, if_pos hb]))) h)) hnode
  rw [hfin]
  apply ot_v tk
  ((conv => whnf); (repeat (apply VBr.f; (conv => whnf))))
  ((apply VRet.mk); refine ret1 (by first | exact .inl rfl | exact .inr rfl) rfl (by exact rv_tmp rfl) ?_; exact fun w h => ⟨rfl, h.base⟩)
 obtain ⟨u, v, rfl, huv, hval⟩ := keyM_some hkv
 rw [hval]
 have hs := hI2.size
 rw [Array.size_push] at hs
 have hnm : (u, v) ∉ ws := fun h => hkn (wsI_mem.2 h)
 have hlen := pairs_len hnd fun x hx => by have := hlt x hx; omega
 have hbd := conS_bd hG.sg node ws
 have hsm := hG.sg u v
 have hnd2 : (ws ++ [(u, v)]).Nodup := List.nodup_append.2 ⟨hnd, by simp, fun a ha b hb e => by
  rw [List.mem_singleton] at hb
  exact hnm (by rw [← hb, ← e]; exact ha)⟩
 have hws2 : ∀ x ∈ ws ++ [(u, v)], netE R.length C.length x.1 x.2 = true := fun x hx => by
  rcases List.mem_append.1 hx with hx | hx
  ·exact hws x hx
  ·rw [List.mem_singleton] at hx; rw [hx]; exact huv
 have hst := conS_snoc fl node (u, v) ws
 have e3 : wsI ws ++ [((u : Int), (v : Int))] = wsI (ws ++ [(u, v)]) := by simp [wsI]
 rw [e3] at hI2
 have hco : conE fl node (u, v) = (if v = node then fl u v else 0) - (if u = node then fl u v else 0) := rfl
 have hne := netE_one huv
 apply ot_v tk
 by_cases h1 : v = node
 ·have h2 : ¬(u = node) := fun e => by
   have h3 : u = v := by omega
   rw [h3] at huv hne
   rw [huv] at hne; cases hne
  rw [if_pos h1, if_neg h2] at hco
  generalize conS fl node ws = s at *
  ((conv => whnf); (repeat ((first | (apply VStop.mk; (refine ot_entryK hI2 rfl rfl rfl rfl (objAt_base hob _) (.head _) he hek ?_; rw [hval]); apply ot_v tk) | (apply VLd.mk; (focus ((repeat (first | ((with_reducible apply ld_blk); exact rfl) | (with_reducible apply ld_skip))); done))) | (apply VRng.mk; omega) | apply VBr.t | apply VBr.f | (apply v_t; omega) | (apply v_f; omega) | (apply VNew.mk; intro g hg) | (apply VSt.mk; (focus ((repeat (first | (with_reducible exact At.here) | (with_reducible apply At.there))); done)); exact rfl)); (conv => whnf))))
  exact v_rnd (gm - 1) (by omega) (l := [(1, _), (5, _), (12, _)]) (B := [_]) ⟨rfl, rfl, rfl, trivial⟩ (.cons _ (List.Sublist.refl _)) ⟨rfl, ws ++ [(u, v)], seen.push e.born, by rw [Array.size_push]; omega, hI2, hnd2, hws2, rfl, by rw [hst, hco, show s + (fl u v - 0) = s + fl u v by omega]⟩
 ·by_cases h2 : u = node
  ·rw [if_neg h1, if_pos h2] at hco
   generalize conS fl node ws = s at *
   ((conv => whnf); (repeat ((first | (apply VStop.mk; (refine ot_entryK hI2 rfl rfl rfl rfl (objAt_base hob _) (.head _) he hek ?_; rw [hval]); apply ot_v tk) | (apply VLd.mk; (focus ((repeat (first | ((with_reducible apply ld_blk); exact rfl) | (with_reducible apply ld_skip))); done))) | (apply VRng.mk; omega) | apply VBr.t | apply VBr.f | (apply v_t; omega) | (apply v_f; omega) | (apply VNew.mk; intro g hg) | (apply VSt.mk; (focus ((repeat (first | (with_reducible exact At.here) | (with_reducible apply At.there))); done)); exact rfl)); (conv => whnf))))
   exact v_rnd (gm - 1) (by omega) (l := [(1, _), (5, _), (12, _)]) (B := [_]) ⟨rfl, rfl, rfl, trivial⟩ (.cons _ (List.Sublist.refl _)) ⟨rfl, ws ++ [(u, v)], seen.push e.born, by rw [Array.size_push]; omega, hI2, hnd2, hws2, rfl, by rw [hst, hco, show s + (0 - fl u v) = s - fl u v by omega]⟩
  ·rw [if_neg h1, if_neg h2] at hco
   generalize conS fl node ws = s at *
   ((conv => whnf); (repeat ((first | (apply VStop.mk; (refine ot_entryK hI2 rfl rfl rfl rfl (objAt_base hob _) (.head _) he hek ?_; rw [hval]); apply ot_v tk) | (apply VLd.mk; (focus ((repeat (first | ((with_reducible apply ld_blk); exact rfl) | (with_reducible apply ld_skip))); done))) | apply VBr.t | apply VBr.f | (apply v_f; omega) | (apply VNew.mk; intro g hg) | (apply VSt.mk; (focus ((repeat (first | (with_reducible exact At.here) | (with_reducible apply At.there))); done)); exact rfl)); (conv => whnf))))
   exact v_rnd (gm - 1) (by omega) (l := [(1, _), (5, _), (12, _)]) (B := [_]) ⟨rfl, rfl, rfl, trivial⟩ (.cons _ (List.Sublist.refl _)) ⟨rfl, ws ++ [(u, v)], seen.push e.born, by rw [Array.size_push]; omega, hI2, hnd2, hws2, rfl, by rw [hst, hco, show s + (0 - 0) = s by omega]⟩
end
end Go.Proofs.Ytalcccgialpjgaa
