/- cell: lemmas for the rows of this seat. No conditions. -/
import Derived.Test.YtalcccgialpjgaaN16
import Derived.Test.YtalcccgialpjgaaN17
set_option linter.all false
namespace Go.Proofs.Ytalcccgialpjgaa
open Go.RowKit
/-! ## cell -/
section
variable (RA : Option Addr) (rc : Nat) (CA : Option Addr) (cc : Nat) (XA : Option Addr) (xc : Nat) (R C : List R2) (X : List (List R2)) (w : World) (hT : TabR w RA CA XA R C X)
include hT
theorem cellR_in (hH : HasT R C X) {i k : Nat} (hi : i < R.length) (hk : k < C.length) : (xAt X i k).1 ≤ (cellR R C X i k).1 ∧ (cellR R C X i k).1 ≤ (cellR R C X i k).2 ∧ (cellR R C X i k).2 ≤ (xAt X i k).2 := by
 have hok := cellR_ok hH hi hk
 obtain ⟨f, hf, e1⟩ := hok.lo
 obtain ⟨f', hf', e2⟩ := hok.hi
 have := hf.x i k hi hk
 have := hf'.x i k hi hk
 have := (hok.all _ hok.lo).2
 omega
set_option maxHeartbeats 1000000 in
set_option maxRecDepth 20000 in
theorem cell46_any (hV : Valid R C X) (hH : HasT R C X) (i k : Nat) (hi : i < R.length) (hk : k < C.length) : Calls Try.prog 46 #[tabV RA rc CA cc XA xc R C X, .int .i64 (i : Int), .int .i64 (k : Int)] w fun e w' => e = .returned (.tuple #[.agg #[.int .i64 (cellR R C X i k).1, .int .i64 (cellR R C X i k).2], .bool true]) ∧ Below w.heap.size w w' := by
 have hxl := hV.x
 have hbl := cellR_in RA CA XA R C X w hT hH hi hk
 have hxk := hV.xs _ (List.getElem_mem (show i < X.length by omega))
 obtain ⟨xb, xo, rfl, B, c, hce, hrd⟩ := nest_gen hT.x (show i < X.length by omega)
 obtain ⟨b2, o2, rfl, _⟩ := hrd.2 (by omega)
 have k2 : ∀ Ch, CellsAt w Ch b2 (o2 + k * 2) [.int .i64 (xAt X i k).1, .int .i64 (xAt X i k).2] := by
  have := rg_cells hrd (k := k) (by omega) (by omega)
  unfold xAt
  rw [List.getElem?_eq_getElem (by omega), Option.getD_some]
  exact this
 have hc25 := fun w1 (h : TabR w1 RA CA (some ⟨xb, xo, none⟩) R C X) => cell25_any RA rc CA cc (some ⟨xb, xo, none⟩) xc R C X w1 h hV.fit i k
 have hq : cellA R C X i k = (cellR R C X i k, 0) := by unfold cellA; rw [if_neg (by rw [chk0 hV]; simp), if_neg (by omega), errT_ok hV hH, if_neg (by decide)]; rfl
 rw [hq] at hc25
 unfold resV at hc25
 generalize cellR R C X i k = r at *
 generalize xAt X i k = q at *
 obtain ⟨r1, r2⟩ := r
 obtain ⟨q1, q2⟩ := q
 dsimp only at hbl hc25 k2 ⊢
 unfold tabV at *
 refine fn_v tk (n := 50) (A := []) Try.func46 rfl rfl (Nat.le_of_ble_eq_true rfl) (St.nil (Below.refl _ _)) ?_
 ((conv => whnf); (repeat ((first | (apply VIx.mk (j := i); exact rfl; omega) | (apply VIx.mk (j := k); exact rfl; omega) | (apply VLd.mk; first | exact hce _) | (apply VLdN.mk; (first | exact k2 _); exact rfl) | (apply VCall.q; kernel_rfl; (focus (intro w1 hs; first | with_reducible apply hc25 w1 (hs.tab hT)))) | (apply VLd.mk; (focus ((repeat (first | ((with_reducible apply ld_blk); exact rfl) | (with_reducible apply ld_skip))); done))) | (apply VLdN.mk; (focus ((repeat (first | (with_reducible apply ldn_blk) | (with_reducible apply ldn_skip))); done)); exact rfl) | (apply VNew.mk; intro g hg) | (apply VSt.mk; (focus ((repeat (first | (with_reducible exact At.here) | (with_reducible apply At.there))); done)); exact rfl) | (refine sla ?_; first | refine otl_nil ?_ | (refine otl_cons ?_; apply ot_v tk) | skip) | (apply VK.mk; first | (refine otl_cons ?_; apply ot_v tk) | apply ot_v tk)); (conv => whnf))); apply VStop.mk)
 revert g hg
 intro g10 hg10
 revert g hg
 intro g8 hg8
 (apply tr_v tk; (conv => whnf); (repeat ((first | (apply VStop.mk; refine tr_region_late3 (id := 3) (by kernel_rfl) [.blk g10 37 _, .blk g8 37 _] (by (repeat (first | exact sl0 _ | exact sl1 _ | refine sl2 _ ?_ | refine sl3 _ ?_))) [0, 1, 2, 3, 4, 5, 6, 7, 8, 9, 10, 11, 12, 13, 14, 15, 16, 17, 18, 19, 20, 21, 22, 23] [24] 25 [] [.rd, .rd, .rd, .rd, .rd, .rd, .rd, .rd, .rd, .rd, .rd, .rd, .rd, .rd, .rd, .rd, .rd, .rd, .rd, .rd, .rd, .rd, .rd, .rd] rfl (by kernel_rfl) ?_; apply ot_v tk) | (apply VLd.mk; (focus ((repeat (first | ((with_reducible apply ld_blk); exact rfl) | (with_reducible apply ld_skip))); done))) | (apply VLdN.mk; (focus ((repeat (first | (with_reducible apply ldn_blk) | (with_reducible apply ldn_skip))); done)); exact rfl) | apply VBr.t | (apply v_t; omega) | (apply VSt.mk; (focus ((repeat (first | (with_reducible exact At.here) | (with_reducible apply At.there))); done)); exact rfl) | (refine sla ?_; first | refine otl_nil ?_ | (refine otl_cons ?_; apply ot_v tk) | skip) | (apply VK.mk; first | (refine otl_cons ?_; apply ot_v tk) | apply ot_v tk)); (conv => whnf))))
 (apply VRet.mk)
 refine ret2 (by first | exact .inl rfl | exact .inr rfl) rfl (by exact rv_row tk rfl rfl rfl (by first | exact cells_blk_all (by (repeat (first | exact List.Mem.head _ | assumption | refine List.Mem.tail _ ?_))) | exact cells_row0 (by (repeat (first | exact List.Mem.head _ | assumption | refine List.Mem.tail _ ?_)))) rfl) (by exact rv_tmp rfl) ?_
 exact fun w h => ⟨rfl, h.base⟩
end
/-! ## Given -/
def gvB (by_ : List Int) (t : Nat) : Int := if by_.length = 0 then 0 else by_[t % by_.length]?.getD 0
def givN (m : Nat) (X : List (List R2)) (by_ : List Int) (i k : Nat) : Int := (xAt X i k).1 + gvB by_ (i * m + k) % ((xAt X i k).2 - (xAt X i k).1 + 1)
def givR (m : Nat) (X : List (List R2)) (by_ : List Int) (i k : Nat) : List Int := (List.range k).map fun j => givN m X by_ i j
def givL (m : Nat) (X : List (List R2)) (by_ : List Int) (i : Nat) : List (List Int) := (List.range i).map fun a => givR m X by_ a m
theorem byte_cell {w : World} {n : Nat} {b o : Nat} {l : List Int} (h : Reads w w.heap.size 1 (some ⟨b, o, none⟩) n (l.map (Value.int .u8))) {k : Nat} (hk : k < n) (A : List Chunk) : CellAt w A b (o + k * 1) (.int .u8 (l[k]?.getD 0)) := by
 obtain ⟨b', o', he, _, h1⟩ := h.2 (by omega)
 cases he
 have hl : k < l.length := by have := h.1; simp at this; omega
 rw [Nat.mul_one]
 exact CellAt.base (h1 k _ (by rw [List.getElem?_map, List.getElem?_eq_getElem hl]; rfl))
section
variable (RA : Option Addr) (rc : Nat) (CA : Option Addr) (cc : Nat) (XA : Option Addr) (xc : Nat) (R C : List R2) (X : List (List R2)) (w : World) (hT : TabR w RA CA XA R C X)
include hT
set_option maxHeartbeats 2000000 in
set_option maxRecDepth 20000 in
theorem given_any (hV : Valid R C X) (BA : Option Addr) (bc : Nat) (by_ : List Int) (hby : Reads w w.heap.size 1 BA by_.length (by_.map (Value.int .u8))) (hb20 : by_.length ≤ 1000) (hb : ∀ z ∈ by_, 0 ≤ z ∧ z ≤ 255) :
  Calls Try.prog 44 #[tabV RA rc CA cc XA xc R C X, .slice BA by_.length bc] w fun e w' => ∃ x : NumX, e = .returned (.slice x.x.1 R.length x.x.2) ∧ x.xs.length = R.length ∧ St w (.own (.slice x.x.1 R.length x.x.2) 66 1 R.length (nsVs x.xs (nestI (givL C.length X by_ R.length))) :: nsCh 2 1 x.xs (nestI (givL C.length X by_ R.length))) w' := by
 have hn := hV.r1
 have hn4 := hV.r4
 have hm := hV.c1
 have hm4 := hV.c4
 have hxl := hV.x
 have hgv : ∀ t, 0 ≤ gvB by_ t ∧ gvB by_ t ≤ 255 := fun t => by
  unfold gvB
  by_cases h : by_.length = 0
  ·rw [if_pos h]; omega
  ·rw [if_neg h]
   have hl : t % by_.length < by_.length := Nat.mod_lt _ (by omega)
   rw [List.getElem?_eq_getElem hl, Option.getD_some]
   exact hb _ (List.getElem_mem hl)
 have key : ∀ a b, a < R.length → b < C.length → ∃ xb xo B o c, XA = some ⟨xb, xo, none⟩ ∧ (∀ Ch, CellAt w Ch xb (xo + a * 1) (.slice (some ⟨B, o, none⟩) C.length c)) ∧ ∀ Ch, CellsAt w Ch B (o + b * 2) [.int .i64 (xAt X a b).1, .int .i64 (xAt X a b).2] := fun a b ha hb => by
  have hxk := hV.xs _ (List.getElem_mem (show a < X.length by omega))
  obtain ⟨xb, xo, rfl, B, c, hce, hrd⟩ := nest_gen hT.x (show a < X.length by omega)
  obtain ⟨b2, o2, rfl, _⟩ := hrd.2 (by omega)
  refine ⟨xb, xo, b2, o2, c, rfl, by rw [← hxk]; exact hce, ?_⟩
  have := rg_cells hrd (k := b) (by omega) (by omega)
  unfold xAt
  rw [List.getElem?_eq_getElem (by omega), Option.getD_some]
  exact this
 unfold tabV at *
 refine fn_v tk (n := 66) (A := []) Try.func44 rfl rfl (Nat.le_of_ble_eq_true rfl) (St.nil (Below.refl _ _)) ?_
 ((conv => whnf); (repeat ((apply VNew.mk; intro g hg); (conv => whnf))); apply VStop.mk)
 revert g hg
 intro g2 hg2
 refine tr_own_nil 66 1 ?_
 refine v_loop (fun gm ds ts A => ds = [] ∧ ∃ (i : Nat) (Bo : Option Addr) (co : Nat) (xs : List NsX), i + gm = R.length ∧ xs.length = i ∧
   A.Perm (.own (.slice Bo i co) 66 1 i (nsVs xs (nestI (givL C.length X by_ i))) :: .blk g2 25 [.slice RA R.length rc, .slice CA C.length cc, .slice XA X.length xc] :: nsCh 2 1 xs (nestI (givL C.length X by_ i))) ∧
   ts = [(1, .slice BA by_.length bc), (2, .pointer (some ⟨g2, 0, none⟩)), (5, .slice Bo i co), (6, .int .i64 (if by_.length = 0 then 0 else ((i * C.length : Nat) : Int))), (7, .int .i64 (i : Int))]) R.length
   (l := [(1, _), (2, _), (5, _), (6, .int .i64 (if by_.length = 0 then 0 else ((0 * C.length : Nat) : Int))), (7, _)]) (B := _) ?_ (List.Sublist.refl _) ⟨rfl, 0, none, 0, [], by omega, rfl, .refl _, rfl⟩ ?_
 ·exact ⟨rfl, rfl, rfl, by show some _ = some _; rw [Nat.zero_mul]; split <;> rfl, rfl, trivial⟩
 rintro gm ds ts A ⟨rfl, i, Bo, co, xs, hi, hxs, hA, rfl⟩
 refine tr_perm hA ?_
 clear hA A
 by_cases hlt : i < R.length
 ·(apply tr_v tk; (conv => whnf); (repeat ((first | (apply VLd.mk; (focus ((repeat (first | ((with_reducible apply ld_blk); exact rfl) | (with_reducible apply ld_skip))); done))) | apply VBr.t | (apply v_t; omega)); (conv => whnf))); apply VStop.mk)
  refine tr_own_nil 2 1 ?_
  refine v_loop (fun gm2 ds ts A => ds = [] ∧ ∃ (k : Nat) (Bl : Option Addr) (cl : Nat), k + gm2 = C.length ∧
    A = .own (.slice Bl k cl) 2 1 k (i64s (givR C.length X by_ i k)) :: .own (.slice Bo i co) 66 1 i (nsVs xs (nestI (givL C.length X by_ i))) :: .blk g2 25 [.slice RA R.length rc, .slice CA C.length cc, .slice XA X.length xc] :: nsCh 2 1 xs (nestI (givL C.length X by_ i)) ∧
    ts = [(1, .slice BA by_.length bc), (2, .pointer (some ⟨g2, 0, none⟩)), (5, .slice Bo i co), (6, .int .i64 (if by_.length = 0 then 0 else ((i * C.length + k : Nat) : Int))), (7, .int .i64 (i : Int)), (8, .slice Bl k cl), (9, .int .i64 (k : Int))]) C.length
   (l := [(1, _), (2, _), (5, _), (6, _), (7, _), (8, _), (9, _)]) (B := _) ?_ (List.Sublist.refl _) ⟨rfl, 0, none, 0, by omega, rfl, rfl⟩ ?_
  ·exact ⟨rfl, rfl, rfl, rfl, rfl, rfl, rfl, trivial⟩
  rintro gm2 ds ts A ⟨rfl, k, Bl, cl, hk, rfl, rfl⟩
  by_cases hlt2 : k < C.length
  ·obtain ⟨xb, xo, B, o, c, rfl, k1, k2⟩ := key i k hlt hlt2
   have hst : givR C.length X by_ i (k + 1) = givR C.length X by_ i k ++ [givN C.length X by_ i k] := map_range_step _ k
   have hgn : givN C.length X by_ i k = (xAt X i k).1 + gvB by_ (i * C.length + k) % ((xAt X i k).2 - (xAt X i k).1 + 1) := rfl
   have hgk := hgv (i * C.length + k)
   have hrx := hV.rX hlt hlt2
   have hmul : i * C.length ≤ 16 := by
    have : i * C.length ≤ 4 * 4 := Nat.mul_le_mul (by omega) hm4
    omega
   generalize givR C.length X by_ i k = gl at *
   by_cases h0 : by_.length = 0
   ·have hg0 : gvB by_ (i * C.length + k) = 0 := by unfold gvB; rw [if_pos h0]
    rw [hg0] at hgn
    rw [if_pos h0]
    have htm : Int.tmod 0 ((xAt X i k).2 - (xAt X i k).1 + 1) = 0 % ((xAt X i k).2 - (xAt X i k).1 + 1) := Int.tmod_eq_emod_of_nonneg (Int.le_refl _)
    have htb : Int.tmod 0 ((xAt X i k).2 - (xAt X i k).1 + 1) = 0 := by rw [htm]; simp
    have e9 : i64s gl ++ [.int .i64 ((xAt X i k).1 + Int.tmod 0 ((xAt X i k).2 - (xAt X i k).1 + 1))] = i64s (givR C.length X by_ i (k + 1)) := by rw [hst, hgn, htm]; simp [i64s]
    (apply tr_v tk; (conv => whnf); (repeat ((first | (apply VStop.mk; (first | refine tr_region_draw (id := 10) (by kernel_rfl) [0, 1, 2, 3, 4, 5, 6, 7, 8, 9, 10] [.rd, .rd, .rd, .rd, .rd, .rd, .rd, .rd, .cr, .rd, .wr] rfl (by kernel_rfl) ?_ | refine tr_region_draw (id := 14) (by kernel_rfl) [0, 1, 2, 3, 4, 5, 6, 7, 8, 9, 10, 11, 12, 13, 14] [.rd, .rd, .rd, .rd, .rd, .rd, .rd, .rd, .rd, .rd, .rd, .rd, .cr, .wr, .rd] rfl (by kernel_rfl) ?_ | (refine ot_appendS (sz := 1) (sl := k) (xs := i64s gl) (A'v := fun v' => _ :: _ :: .own v' 2 1 (k + 1) _ :: _) tk rfl rfl rfl rfl rfl rfl rfl rfl rfl rfl (by decide) rfl (cells_blk_all (.head _)) rfl rfl (fun v' => .there (.there .here)) (by omega) (by decide) (fun Bn cn => ?_))); apply ot_v tk) | (apply VIx.mk (j := i); exact rfl; omega) | (apply VIx.mk (j := k); exact rfl; omega) | (apply VLd.mk; first | exact k1 _) | (apply VLdN.mk; (first | exact k2 _); exact rfl) | (apply VLd.mk; (focus ((repeat (first | ((with_reducible apply ld_blk); exact rfl) | (with_reducible apply ld_skip))); done))) | (apply VRng.mk; omega) | apply VBr.t | apply VBr.f | (apply v_t; omega) | (apply v_f; omega) | (apply VNew.mk; intro g hg) | (apply VSt.mk; (focus ((repeat (first | (with_reducible exact At.here) | (with_reducible apply At.there))); done)); exact rfl) | (apply VNz.mk; omega)); (conv => whnf))))
    rw [e9]
    exact v_rnd (gm2 - 1) (by omega) (l := [(1, _), (2, _), (5, _), (6, _), (7, _), (8, _), (9, _)]) (B := _) ⟨rfl, rfl, rfl, by show some _ = some _; rw [if_pos h0], rfl, rfl, rfl, trivial⟩ (.cons _ (.cons _ (List.Sublist.refl _))) ⟨rfl, k + 1, Bn, cn, by omega, rfl, rfl⟩
   ·have hl : (i * C.length + k) % by_.length < by_.length := Nat.mod_lt _ (by omega)
    have hg0 : gvB by_ (i * C.length + k) = by_[(i * C.length + k) % by_.length]?.getD 0 := by unfold gvB; rw [if_neg h0]
    rw [hg0] at hgn hgk
    rw [if_neg h0]
    obtain ⟨bb, bo, rfl, _⟩ := hby.2 (by omega)
    have hbc := byte_cell hby hl
    generalize by_[(i * C.length + k) % by_.length]?.getD 0 = v at *
    have htm2 : Int.tmod ((i * C.length + k : Nat) : Int) (by_.length : Int) = (((i * C.length + k) % by_.length : Nat) : Int) := by
     rw [Int.tmod_eq_emod_of_nonneg (by omega)]; simp
    generalize hat : i * C.length + k = at_ at *
    have htm : Int.tmod v ((xAt X i k).2 - (xAt X i k).1 + 1) = v % ((xAt X i k).2 - (xAt X i k).1 + 1) := Int.tmod_eq_emod_of_nonneg hgk.1
    have htb : 0 ≤ Int.tmod v ((xAt X i k).2 - (xAt X i k).1 + 1) ∧ Int.tmod v ((xAt X i k).2 - (xAt X i k).1 + 1) ≤ 12 := by
     rw [htm]
     have h1 := Int.emod_nonneg v (show (xAt X i k).2 - (xAt X i k).1 + 1 ≠ 0 by omega)
     have h2 := Int.emod_lt_of_pos v (show 0 < (xAt X i k).2 - (xAt X i k).1 + 1 by omega)
     omega
    have e9 : i64s gl ++ [.int .i64 ((xAt X i k).1 + Int.tmod v ((xAt X i k).2 - (xAt X i k).1 + 1))] = i64s (givR C.length X by_ i (k + 1)) := by rw [hst, hgn, htm]; simp [i64s]
    (apply tr_v tk; (conv => whnf); (repeat ((first | (apply VStop.mk; (first | refine tr_region_draw (id := 10) (by kernel_rfl) [0, 1, 2, 3, 4, 5, 6, 7, 8, 9, 10] [.rd, .rd, .rd, .rd, .rd, .rd, .rd, .rd, .cr, .rd, .wr] rfl (by kernel_rfl) ?_ | refine tr_region_draw (id := 14) (by kernel_rfl) [0, 1, 2, 3, 4, 5, 6, 7, 8, 9, 10, 11, 12, 13, 14] [.rd, .rd, .rd, .rd, .rd, .rd, .rd, .rd, .rd, .rd, .rd, .rd, .cr, .wr, .rd] rfl (by kernel_rfl) ?_ | (refine ot_appendS (sz := 1) (sl := k) (xs := i64s gl) (A'v := fun v' => _ :: _ :: .own v' 2 1 (k + 1) _ :: _) tk rfl rfl rfl rfl rfl rfl rfl rfl rfl rfl (by decide) rfl (cells_blk_all (.head _)) rfl rfl (fun v' => .there (.there .here)) (by omega) (by decide) (fun Bn cn => ?_))); apply ot_v tk) | (apply VIx.mk (j := i); exact rfl; omega) | (apply VIx.mk (j := k); exact rfl; omega) | (apply VLd.mk; first | exact k1 _ | exact hbc _) | (apply VLdN.mk; (first | exact k2 _); exact rfl) | (apply VLd.mk; (focus ((repeat (first | ((with_reducible apply ld_blk); exact rfl) | (with_reducible apply ld_skip))); done))) | (apply VRng.mk; omega) | apply VBr.t | (apply v_t; omega) | (apply VNew.mk; intro g hg) | (apply VIx.mk; exact rfl; omega) | (apply VSt.mk; (focus ((repeat (first | (with_reducible exact At.here) | (with_reducible apply At.there))); done)); exact rfl) | (apply v_wr64; omega) | (apply VNz.mk; omega)); (conv => whnf))))
    rw [e9]
    exact v_rnd (gm2 - 1) (by omega) (l := [(1, _), (2, _), (5, _), (6, _), (7, _), (8, _), (9, _)]) (B := _) ⟨rfl, rfl, rfl, by show some _ = some _; rw [if_neg h0, ← hat]; rfl, rfl, rfl, rfl, trivial⟩ (.cons _ (.cons _ (List.Sublist.refl _))) ⟨rfl, k + 1, Bn, cn, by omega, rfl, rfl⟩
  obtain rfl : k = C.length := by omega
  have e1 : givL C.length X by_ (i + 1) = givL C.length X by_ i ++ [givR C.length X by_ i C.length] := map_range_step _ i
  have e2 := congrArg nestI e1
  have el : (givR C.length X by_ i C.length).length = C.length := map_range_len _ _
  have el2 : (givL C.length X by_ i).length = i := map_range_len _ _
  rw [nestI_snoc, el] at e2
  have hxn : xs.length = (nestI (givL C.length X by_ i)).length := by rw [nestI_length, el2]; exact hxs
  have e3 := nsVs_snoc (xs := xs) (S := nestI (givL C.length X by_ i)) (x := (Bl, cl)) (s := (C.length, i64s (givR C.length X by_ i C.length))) hxn
  have e4 := nsCh_snoc (e := 2) (sz := 1) (xs := xs) (S := nestI (givL C.length X by_ i)) (x := (Bl, cl)) (s := (C.length, i64s (givR C.length X by_ i C.length))) hxn
  rw [← e2] at e3 e4
  have e5 : i * C.length + C.length = (i + 1) * C.length := by rw [Nat.add_mul, Nat.one_mul]
  rw [e5]
  (apply tr_v tk; (conv => whnf); (repeat ((first | (apply VStop.mk; (refine ot_appendS (sz := 1) (sl := i) (xs := nsVs xs (nestI (givL C.length X by_ i))) (news := [.slice Bl C.length cl]) (A'v := fun v' => _ :: _ :: .own v' 66 1 (i + 1) _ :: _) tk rfl rfl rfl rfl rfl rfl rfl rfl rfl rfl (by decide) rfl (cells_blk_all (.head _)) rfl rfl (fun v' => .there (.there .here)) (by omega) (by decide) (fun Bm cm => ?_)); apply ot_v tk) | (apply VLd.mk; (focus ((repeat (first | ((with_reducible apply ld_blk); exact rfl) | (with_reducible apply ld_skip))); done))) | (apply VRng.mk; omega) | apply VBr.f | (apply v_f; omega) | (apply VNew.mk; intro g hg)); (conv => whnf))))
  exact v_rnd (gm - 1) (by omega) (l := [(1, _), (2, _), (5, _), (6, _), (7, _)]) (B := _) ⟨rfl, rfl, rfl, rfl, rfl, trivial⟩ (.cons _ (List.Sublist.refl _)) ⟨rfl, i + 1, Bm, cm, xs ++ [(Bl, cl)], by omega, by rw [List.length_append, hxs]; rfl, by rw [e4, e3]; exact (List.perm_append_singleton _ (_ :: _ :: _)).symm, rfl⟩
 obtain rfl : i = R.length := by omega
 (apply tr_v tk; (conv => whnf); (repeat ((first | (apply VLd.mk; (focus ((repeat (first | ((with_reducible apply ld_blk); exact rfl) | (with_reducible apply ld_skip))); done))) | apply VBr.f | (apply v_f; omega)); (conv => whnf))))
 (apply VRet.mk)
 refine ret1 (by first | exact .inl rfl | exact .inr rfl) rfl (by exact rv_tmp rfl) ?_
 exact fun w hs => ⟨⟨(Bo, co), xs⟩, rfl, hxs, hs.sub (.cons_cons _ (.cons _ (List.Sublist.refl _)))⟩
end
end Go.Proofs.Ytalcccgialpjgaa
