/- Lists of lists, one behind the other: lemmas for the rows of this seat. No conditions. -/
import Derived.Laws.StructEq
import Derived.Test.YtiodmphhjgkgjaaGreatP4
set_option linter.all false
namespace Go.Proofs.YtiodmphhjgkgjaaGreat
open Go.RowKit
/-! ## Lists of lists, one behind the other -/
/-- Layer 1: a slice of slices is read. -/
def NestR (w : World) (sz : Nat) (A : Option Addr) (L : List (Nat × List Value)) : Prop :=
 ∃ vs, Reads w w.heap.size 1 A L.length vs ∧ ∀ i (h : i < L.length), ∃ B c, vs[i]? = some (.slice B L[i].1 c) ∧ Reads w w.heap.size sz B L[i].1 L[i].2
def sumN : List (Nat × List Value) → Nat
 | [] => 0
 | p :: L => p.1 + sumN L
def catN : List (Nat × List Value) → List Value
 | [] => []
 | p :: L => p.2 ++ catN L
theorem sumN_append (L M : List (Nat × List Value)) : sumN (L ++ M) = sumN L + sumN M := by
 induction L with
 | nil => simp [sumN]
 | cons p L ih => simp [sumN, ih]; omega
theorem catN_append (L M : List (Nat × List Value)) : catN (L ++ M) = catN L ++ catN M := by
 induction L with
 | nil => simp [catN]
 | cons p L ih => simp [catN, ih]
theorem takeN_snoc {α : Type} (L : List α) (j : Nat) (h : j < L.length) : L.take (j + 1) = L.take j ++ [L[j]] := by
 rw [List.take_add_one, List.getElem?_eq_getElem h]; rfl
theorem sumN_step (L : List (Nat × List Value)) (j : Nat) (h : j < L.length) : sumN (L.take (j + 1)) = sumN (L.take j) + L[j].1 := by
 rw [takeN_snoc L j h, sumN_append]; simp [sumN]
theorem catN_step (L : List (Nat × List Value)) (j : Nat) (h : j < L.length) : catN (L.take (j + 1)) = catN (L.take j) ++ L[j].2 := by
 rw [takeN_snoc L j h, catN_append]; simp [catN]
theorem sumN_take (L : List (Nat × List Value)) (k : Nat) (_ : k ≤ L.length) : sumN (L.take k) ≤ sumN L := by
 have := sumN_append (L.take k) (L.drop k)
 rw [List.take_append_drop] at this
 omega

set_option maxRecDepth 20000 in
/-- slices.Grow of nothing. -/
theorem grow182_any (n : Nat) (hn : n ≤ 1000000) (w : World) : Calls Tryz.prog 182 #[.slice none 0 0, .int .i64 (n : Int)] w (OwnRet 2 1 0 [] w) := by
 refine fn_v tk (n := 27) (A := []) Tryz.func182 rfl rfl (Nat.le_of_ble_eq_true rfl) (St.nil (Below.refl _ _)) ?_
 by_cases h0 : (n : Int) > 0
 ·((conv => whnf); (repeat ((first | (apply VStop.mk; (first | refine ot_cap tk rfl rfl rfl rfl rfl rfl ?_ | refine ot_slice_hi tk rfl rfl rfl rfl rfl rfl rfl rfl (hi := 0) rfl (Nat.zero_le _) ?_ | (refine ot_append_make (m := n) tk (by decide) rfl rfl rfl rfl rfl (by omega) rfl rfl rfl rfl rfl rfl (by omega) (by omega) (by decide) ?_; intro g cap hg hc1 hc2)); apply ot_v tk) | (apply VRng.mk; omega) | apply VBr.t | apply VBr.f | (apply v_t; omega) | (apply v_f; omega) | (refine slist_and (by (repeat (first | exact sl0 _ | exact sl1 _ | refine sl2 _ ?_ | refine sl3 _ ?_))) ?_; first | refine otl_nil ?_ | (refine otl_cons ?_; apply ot_v tk) | skip) | (apply VK.mk; first | (refine otl_cons ?_; apply ot_v tk) | apply ot_v tk)); (conv => whnf))))
  (apply VRet.mk)
  refine ret1 (by first | exact .inl rfl | exact .inr rfl) rfl (by exact rv_tmp rfl) ?_
  intro w1 hs
  refine ⟨⟨_, rfl, rfl, .inr ?_⟩, hs.base⟩
  obtain ⟨h1, _, cur, h3, h4⟩ := hs.all _ (.head _)
  exact ⟨g, cap, cur, rfl, h1, h3, by omega, hc2, h4, by simp⟩
 ·((conv => whnf); (repeat ((first | (apply VStop.mk; refine ot_cap tk rfl rfl rfl rfl rfl rfl ?_; apply ot_v tk) | (apply VRng.mk; omega) | apply VBr.f | (apply v_f; omega) | (refine slist_and (by (repeat (first | exact sl0 _ | exact sl1 _ | refine sl2 _ ?_ | refine sl3 _ ?_))) ?_; first | refine otl_nil ?_ | (refine otl_cons ?_; apply ot_v tk) | skip) | (apply VK.mk; first | (refine otl_cons ?_; apply ot_v tk) | apply ot_v tk)); (conv => whnf))))
  (apply VRet.mk)
  refine ret1 (by first | exact .inl rfl | exact .inr rfl) rfl (by exact rv_tmp rfl) ?_
  exact fun w1 hs => ⟨⟨_, rfl, rfl, .inl ⟨rfl, rfl⟩⟩, hs.base⟩
set_option maxHeartbeats 1000000 in
set_option maxRecDepth 20000 in
theorem concat102_any (Al : Option Addr) (c : Nat) (L : List (Nat × List Value)) (w : World) (h : NestR w 1 Al L) (hl : L.length ≤ 1000) (hs : sumN L ≤ 100000) (h1 : ∀ p ∈ L, ∀ u ∈ p.2, u.oneCell' = true) :
  Calls Tryz.prog 102 #[.slice Al L.length c] w (OwnRet 2 1 (sumN L) (catN L) w) := by
 obtain ⟨vs, hv, hi⟩ := h
 have hsz := fun k (hk : k ≤ L.length) => sumN_take L k hk
 refine fn_v tk (n := 36) (A := []) Tryz.func102 rfl rfl (Nat.le_of_ble_eq_true rfl) (St.nil (Below.refl _ _)) ?_
 ((conv => whnf); (repeat ((first | (refine slist_and (by (repeat (first | exact sl0 _ | exact sl1 _ | refine sl2 _ ?_ | refine sl3 _ ?_))) ?_; first | refine otl_nil ?_ | (refine otl_cons ?_; apply ot_v tk) | skip) | (apply VK.mk; first | (refine otl_cons ?_; apply ot_v tk) | apply ot_v tk)); (conv => whnf))); apply VStop.mk)
 refine v_loop (fun gm ds ts A => ds = [] ∧ A = [] ∧ ∃ j, j + gm = L.length ∧ ts = [(0, .slice Al L.length c), (3, .int .i64 (sumN (L.take j) : Int)), (9, .slice Al L.length c), (10, .int .i64 (L.length : Int)), (11, .int .i64 (j : Int))]) L.length (l := [(0, _), (3, _), (9, _), (10, _), (11, _)]) (B := _) ?_ (List.Sublist.refl _) ⟨rfl, rfl, 0, by omega, rfl⟩ ?_
 ·exact ⟨rfl, rfl, rfl, rfl, rfl, trivial⟩
 rintro gm ds ts A ⟨rfl, rfl, j, hj, rfl⟩
 by_cases hlt : j < L.length
 ·obtain ⟨B, c', e1, hr⟩ := hi j hlt
  obtain ⟨b, o, rfl, _, hcell⟩ := hv.2 (by omega)
  have hc : ∀ A, CellAt w A b (o + j * 1) _ := fun A => CellAt.base (by rw [Nat.mul_one]; exact hcell j _ e1)
  have hst := sumN_step L j hlt
  have hs1 := hsz (j + 1) (by omega)
  have hs0 := hsz j (by omega)
  rw [hst] at hs1
  (apply tr_v tk; (conv => whnf); (repeat ((first | (apply VLd.mk; exact hc _) | (apply VRng.mk; omega) | apply VBr.t | apply VBr.f | (apply v_t; omega) | (apply v_f; omega) | (apply VIx.mk; exact rfl; omega) | (refine slist_and (by (repeat (first | exact sl0 _ | exact sl1 _ | refine sl2 _ ?_ | refine sl3 _ ?_))) ?_; first | refine otl_nil ?_ | (refine otl_cons ?_; apply ot_v tk) | skip) | (apply VK.mk; first | (refine otl_cons ?_; apply ot_v tk) | apply ot_v tk)); (conv => whnf))))
  exact v_rnd (gm - 1) (by omega) (l := [(0, _), (3, _), (9, _), (10, _), (11, _)]) (B := []) ⟨rfl, rfl, rfl, rfl, rfl, trivial⟩ (List.nil_sublist _) ⟨rfl, rfl, j + 1, by omega, by rw [hst]; rfl⟩
 ·obtain rfl : j = L.length := by omega
  rw [List.take_length]
  (apply tr_v tk; (conv => whnf); (repeat ((first | apply VBr.f | (apply v_f; omega) | (refine slist_and (by (repeat (first | exact sl0 _ | exact sl1 _ | refine sl2 _ ?_ | refine sl3 _ ?_))) ?_; first | refine otl_nil ?_ | (refine otl_cons ?_; apply ot_v tk) | skip) | (apply VK.mk; first | (refine otl_cons ?_; apply ot_v tk) | apply ot_v tk)); (conv => whnf))); apply VCall.stop)
  refine ot_call_own (t := 2) (sz := 1) (m := 0) (xs := []) (by decide) rfl rfl rfl (by kernel_rfl) (evl_of rfl) (fun w1 hs => grow182_any (sumN L) (by omega) w1) (fun v0 => ?_)
  (apply ot_v tk; (conv => whnf); (repeat ((first | (refine slist_and (by (repeat (first | exact sl0 _ | exact sl1 _ | refine sl2 _ ?_ | refine sl3 _ ?_))) ?_; first | refine otl_nil ?_ | (refine otl_cons ?_; apply ot_v tk) | skip) | (apply VK.mk; first | (refine otl_cons ?_; apply ot_v tk) | apply ot_v tk)); (conv => whnf))); apply VStop.mk)
  refine v_loop (fun gm ds ts A => ds = [] ∧ ∃ j v, j + gm = L.length ∧ A = [.own v 2 1 (sumN (L.take j)) (catN (L.take j))] ∧ ts = [(6, v), (25, .slice Al L.length c), (26, .int .i64 (L.length : Int)), (27, .int .i64 (j : Int))]) L.length (l := [(6, _), (25, _), (26, _), (27, _)]) (B := [_]) ?_ (by (repeat (first | exact sl0 _ | exact sl1 _ | refine sl2 _ ?_ | refine sl3 _ ?_))) ⟨rfl, 0, v0, by omega, rfl, rfl⟩ ?_
  ·exact ⟨rfl, rfl, rfl, rfl, trivial⟩
  rintro gm ds ts A ⟨rfl, j, v, hj, rfl, rfl⟩
  by_cases hlt : j < L.length
  ·obtain ⟨B, c', e1, hr⟩ := hi j hlt
   obtain ⟨b, o, rfl, _, hcell⟩ := hv.2 (by omega)
   have hc : ∀ A, CellAt w A b (o + j * 1) _ := fun A => CellAt.base (by rw [Nat.mul_one]; exact hcell j _ e1)
   have hst := sumN_step L j hlt
   have hct := catN_step L j hlt
   have hs1 := hsz (j + 1) (by omega)
   rw [hst] at hs1
   (apply tr_v tk; (conv => whnf); (repeat ((first | (apply VLd.mk; exact hc _) | apply VBr.t | (apply v_t; omega) | (apply VIx.mk; exact rfl; omega) | (refine slist_and (by (repeat (first | exact sl0 _ | exact sl1 _ | refine sl2 _ ?_ | refine sl3 _ ?_))) ?_; first | refine otl_nil ?_ | (refine otl_cons ?_; apply ot_v tk) | skip) | (apply VK.mk; first | (refine otl_cons ?_; apply ot_v tk) | apply ot_v tk)); (conv => whnf))); apply VStop.mk)
   refine ot_appendR (sz := 1) (A'v := fun v' => [.own v' 2 1 _ _]) tk rfl rfl rfl rfl rfl rfl rfl rfl rfl rfl (by decide) rfl (fun w1 hs => hs.reads hr) (h1 _ (List.getElem_mem hlt)) (fun v' => by (repeat (first | exact Upd.here | apply Upd.there))) (by omega) (by decide) (fun v' => ?_)
   (apply ot_v tk; (conv => whnf); (repeat ((first | (apply VRng.mk; omega) | (refine slist_and (by (repeat (first | exact sl0 _ | exact sl1 _ | refine sl2 _ ?_ | refine sl3 _ ?_))) ?_; first | refine otl_nil ?_ | (refine otl_cons ?_; apply ot_v tk) | skip) | (apply VK.mk; first | (refine otl_cons ?_; apply ot_v tk) | apply ot_v tk)); (conv => whnf))))
   exact v_rnd (gm - 1) (by omega) (l := [(6, _), (25, _), (26, _), (27, _)]) (B := [_]) ⟨rfl, rfl, rfl, rfl, trivial⟩ (List.Sublist.refl _) ⟨rfl, j + 1, v', by omega, by rw [hst, hct], rfl⟩
  ·obtain rfl : j = L.length := by omega
   rw [List.take_length]
   (apply tr_v tk; (conv => whnf); (repeat ((first | apply VBr.f | (apply v_f; omega) | (refine slist_and (by (repeat (first | exact sl0 _ | exact sl1 _ | refine sl2 _ ?_ | refine sl3 _ ?_))) ?_; first | refine otl_nil ?_ | (refine otl_cons ?_; apply ot_v tk) | skip) | (apply VK.mk; first | (refine otl_cons ?_; apply ot_v tk) | apply ot_v tk)); (conv => whnf))))
   (apply VRet.mk)
   refine ret1 (by first | exact .inl rfl | exact .inr rfl) rfl (by exact rv_tmp rfl) ?_
   exact fun w1 hs => own_ret hs (.head _)
set_option maxRecDepth 20000 in
theorem cloneB_any (a : Addr) (c : Nat) (l : List Int) (w : World) (h : Reads w w.heap.size 1 (some a) l.length (i64s l)) (hl : l.length ≤ 1000) :
  Calls Tryz.prog 100 #[.slice (some a) l.length c] w (OwnRet 2 1 l.length (i64s l) w) := by
 refine fn_v tk (n := 8) (A := []) Tryz.func100 rfl rfl (Nat.le_of_ble_eq_true rfl) (St.nil (Below.refl _ _)) ?_
 ((conv => whnf); (repeat ((first | (apply VStop.mk; (refine ot_eqnil tk rfl rfl rfl rfl rfl rfl rfl ?_); apply ot_v tk) | apply VBr.f | (apply VNew.mk; intro g hg) | (refine slist_and (by (repeat (first | exact sl0 _ | exact sl1 _ | refine sl2 _ ?_ | refine sl3 _ ?_))) ?_; first | refine otl_nil ?_ | (refine otl_cons ?_; apply ot_v tk) | skip) | (apply VK.mk; first | (refine otl_cons ?_; apply ot_v tk) | apply ot_v tk)); (conv => whnf))); apply VStop.mk)
 refine ot_st (B := [.own (.slice (some ⟨g, 0, none⟩) 0 0) 2 1 0 []]) rfl (fun w hs => hs.blk_own (sz := 1) rfl (Nat.zero_le _)) ?_
 refine ot_appendR (sz := 1) (A'v := fun v' => [.own v' 2 1 _ _]) tk rfl rfl rfl rfl rfl rfl rfl rfl rfl rfl (by decide) rfl (fun w1 hs => hs.reads h) (fun u hu => ?_) (fun v' => by (repeat (first | exact Upd.here | apply Upd.there))) (by omega) (by decide) (fun v' => ?_)
 ·unfold i64s at hu
  obtain ⟨x, _, rfl⟩ := List.mem_map.1 hu
  rfl
 apply ot_v tk
 ((conv => whnf); (repeat ((first | (refine slist_and (by (repeat (first | exact sl0 _ | exact sl1 _ | refine sl2 _ ?_ | refine sl3 _ ?_))) ?_; first | refine otl_nil ?_ | (refine otl_cons ?_; apply ot_v tk) | skip) | (apply VK.mk; first | (refine otl_cons ?_; apply ot_v tk) | apply ot_v tk)); (conv => whnf))))
 (apply VRet.mk)
 refine ret1 (.inr rfl) rfl (by exact rv_tmp rfl) fun w' hs => ?_
 rw [Nat.zero_add, List.nil_append] at hs
 exact own_ret hs (.head _)
/-! ## Reverse -/
theorem rAt_ext {l m : List Int} (h : l.length = m.length) (h1 : ∀ k, k < l.length → rAt l k = rAt m k) : l = m := by
 apply List.ext_getElem h
 intro k hk hk'
 have := h1 k hk
 unfold rAt at this
 rwa [List.getElem?_eq_getElem hk, List.getElem?_eq_getElem hk', Option.getD_some, Option.getD_some] at this
theorem rAt_rev {l : List Int} {k : Nat} (hk : k < l.length) : rAt l.reverse k = rAt l (l.length - 1 - k) := by
 unfold rAt
 rw [List.getElem?_reverse hk]
theorem reverse_nil (B : Option Addr) (c : Nat) (w : World) : Calls Tryz.prog 101 #[.slice B 0 c] w fun e w' => e = .returned (.tuple #[]) ∧ Below w.heap.size w w' := by
 refine fn_v tk (n := 28) (A := []) Tryz.func101 rfl rfl (Nat.le_of_ble_eq_true rfl) (St.nil (Below.refl _ _)) ?_
 ((conv => whnf); (repeat ((first | (apply VRng.mk; omega) | (refine slist_and (by (repeat (first | exact sl0 _ | exact sl1 _ | refine sl2 _ ?_ | refine sl3 _ ?_))) ?_; first | refine otl_nil ?_ | (refine otl_cons ?_; apply ot_v tk) | skip) | (apply VK.mk; first | (refine otl_cons ?_; apply ot_v tk) | apply ot_v tk)); (conv => whnf))); apply VStop.mk)
 refine v_loop (fun gm ds ts A => ds = [] ∧ A = [] ∧ ts = [(0, .slice B 0 c), (2, .int .i64 0), (3, .int .i64 (-1))]) 0
  (l := [(0, _), (2, _), (3, _)]) (B := _) ?_ (List.Sublist.refl _) ⟨rfl, rfl, rfl⟩ ?_
 ·exact ⟨rfl, rfl, rfl, trivial⟩
 rintro gm ds ts A ⟨rfl, rfl, rfl⟩
 (apply tr_v tk; (conv => whnf); (repeat ((first | apply VBr.f | (apply v_f; omega) | (refine slist_and (by (repeat (first | exact sl0 _ | exact sl1 _ | refine sl2 _ ?_ | refine sl3 _ ?_))) ?_; first | refine otl_nil ?_ | (refine otl_cons ?_; apply ot_v tk) | skip) | (apply VK.mk; first | (refine otl_cons ?_; apply ot_v tk) | apply ot_v tk)); (conv => whnf))))
 (apply VRet.mk)
 exact ret0 (by first | exact .inl rfl | exact .inr rfl) rfl fun w hs => ⟨rfl, hs.base⟩
set_option maxHeartbeats 2000000 in
set_option maxRecDepth 20000 in
theorem reverse_head {w0 w : World} {R : List Chunk} (g cap : Nat) (l : List Int) (hl : l.length ≤ 1000) (hs : St w0 (.own (.slice (some ⟨g, 0, none⟩) l.length cap) 2 1 l.length (i64s l) :: R) w) :
  Calls Tryz.prog 101 #[.slice (some ⟨g, 0, none⟩) l.length cap] w fun e w' => e = .returned (.tuple #[]) ∧ St w0 (.own (.slice (some ⟨g, 0, none⟩) l.length cap) 2 1 l.length (i64s l.reverse) :: R) w' := by
 refine fn_v tk (n := 28) (A := _) Tryz.func101 rfl rfl (Nat.le_of_ble_eq_true rfl) hs ?_
 have e0 : (l.length : Int) - 1 - ((0 : Nat) : Int) = l.length - 1 := by omega
 ((conv => whnf); (repeat ((first | (apply VRng.mk; omega) | (refine slist_and (by (repeat (first | exact sl0 _ | exact sl1 _ | refine sl2 _ ?_ | refine sl3 _ ?_))) ?_; first | refine otl_nil ?_ | (refine otl_cons ?_; apply ot_v tk) | skip) | (apply VK.mk; first | (refine otl_cons ?_; apply ot_v tk) | apply ot_v tk)); (conv => whnf))); apply VStop.mk)
 refine v_loop (fun gm ds ts A => ds = [] ∧ ∃ (i : Nat) (M : List Int), 2 * i + gm = l.length + 1 ∧ M.length = l.length ∧ (∀ k, k < l.length → rAt M k = if k < i ∨ l.length < k + 1 + i then rAt l (l.length - 1 - k) else rAt l k) ∧ A = .own (.slice (some ⟨g, 0, none⟩) l.length cap) 2 1 l.length (i64s M) :: R ∧ ts = [(0, .slice (some ⟨g, 0, none⟩) l.length cap), (2, .int .i64 (i : Int)), (3, .int .i64 ((l.length : Int) - 1 - i))]) (l.length + 1)
  (l := [(0, _), (2, _), (3, _)]) (B := _) ?_ (List.Sublist.refl _) ⟨rfl, 0, l, by omega, rfl, fun k hk => by rw [if_neg (by omega)], rfl, by rw [e0]⟩ ?_
 ·exact ⟨rfl, rfl, rfl, trivial⟩
 rintro gm ds ts A ⟨rfl, i, M, hi, hM, hall, rfl, rfl⟩
 by_cases hlt : 2 * i + 1 < l.length
 ·have hj : l.length - 1 - i < l.length := by omega
  have hji : ((l.length : Int) - 1 - i) = ((l.length - 1 - i : Nat) : Int) := by omega
  rw [hji]
  generalize hjj : l.length - 1 - i = j at *
  have ci : ∀ {R' : List Chunk}, CellAt w0 (.own (.slice (some ⟨g, 0, none⟩) l.length cap) 2 1 l.length (i64s M) :: R') g (0 + i * 1) (.int .i64 (rAt M i)) := by
   rw [Nat.zero_add, Nat.mul_one]; exact cell_own (.head _) (rAt_get (by omega))
  have cj : ∀ {R' : List Chunk}, CellAt w0 (.own (.slice (some ⟨g, 0, none⟩) l.length cap) 2 1 l.length (i64s M) :: R') g (0 + j * 1) (.int .i64 (rAt M j)) := by
   rw [Nat.zero_add, Nat.mul_one]; exact cell_own (.head _) (rAt_get (by omega))
  (apply tr_v tk; (conv => whnf); (repeat ((first | (apply VStop.mk; refine tr_region_late2 (id := 3) (by kernel_rfl) [] (by (repeat (first | exact sl0 _ | exact sl1 _ | refine sl2 _ ?_ | refine sl3 _ ?_))) [2, 3] [0, 1, 4, 5, 6, 7, 8, 9, 10, 11, 12] 13 [14, 15] [.rd, .rd] [.rd, .rd, .rd, .rd, .rd, .rd, .rd, .rd, .rd, .rd, .rd] [.wr, .wr, .wr] rfl (by kernel_rfl) ?_; apply ot_v tk) | (apply VLd.mk; first | exact cj | exact ci) | (apply VSt.stop; refine ot_store_own (sv := .nilFunc) tk rfl rfl rfl rfl rfl rfl rfl rfl rfl rfl .here (by omega) ?_; apply ot_v tk) | (apply VRng.mk; omega) | apply VBr.t | (apply v_t; omega) | (apply VIx.mk; exact rfl; omega) | (refine slist_and (by (repeat (first | exact sl0 _ | exact sl1 _ | refine sl2 _ ?_ | refine sl3 _ ?_))) ?_; first | refine otl_nil ?_ | (refine otl_cons ?_; apply ot_v tk) | skip) | (apply VK.mk; first | (refine otl_cons ?_; apply ot_v tk) | apply ot_v tk)); (conv => whnf))))
  rw [Nat.zero_add, Nat.mul_one, i64s_set, Nat.zero_add, Nat.mul_one, i64s_set]
  refine v_rnd (gm - 2) (by omega) (l := [(0, _), (2, _), (3, _)]) (B := _) ⟨rfl, rfl, rfl, trivial⟩ (List.Sublist.refl _) ⟨rfl, i + 1, (M.set i (rAt M j)).set j (rAt M i), by omega, by simpa using hM, fun k hk => ?_, rfl, by rw [show (l.length : Int) - 1 - ((i + 1 : Nat) : Int) = (j : Int) - 1 by omega]; rfl⟩
  have hMi := hall i (by omega)
  have hMj := hall j (by omega)
  rw [if_neg (by omega)] at hMi hMj
  rw [rAt_set (by rw [List.length_set]; omega), rAt_set (by omega)]
  by_cases hkj : k = j
  ·rw [if_pos hkj, if_pos (by omega), hMi, hkj, show l.length - 1 - j = i by omega]
  ·rw [if_neg hkj]
   by_cases hki : k = i
   ·rw [if_pos hki, if_pos (by omega), hMj, hki, hjj]
   ·rw [if_neg hki, hall k hk]
    by_cases hc : k < i ∨ l.length < k + 1 + i
    ·rw [if_pos hc, if_pos (by omega)]
    ·rw [if_neg hc, if_neg (by omega)]
 ·have hrev : M = l.reverse := rAt_ext (by rw [hM, List.length_reverse]) (fun k hk => by
   rw [hM] at hk
   rw [hall k hk, rAt_rev hk]
   by_cases hc : k < i ∨ l.length < k + 1 + i
   ·rw [if_pos hc]
   ·rw [if_neg hc, show l.length - 1 - k = k by omega])
  subst hrev
  (apply tr_v tk; (conv => whnf); (repeat ((first | apply VBr.f | (apply v_f; omega) | (refine slist_and (by (repeat (first | exact sl0 _ | exact sl1 _ | refine sl2 _ ?_ | refine sl3 _ ?_))) ?_; first | refine otl_nil ?_ | (refine otl_cons ?_; apply ot_v tk) | skip) | (apply VK.mk; first | (refine otl_cons ?_; apply ot_v tk) | apply ot_v tk)); (conv => whnf))))
  (apply VRet.mk)
  exact ret0 (by first | exact .inl rfl | exact .inr rfl) rfl fun w hs => ⟨rfl, hs⟩
end Go.Proofs.YtiodmphhjgkgjaaGreat
