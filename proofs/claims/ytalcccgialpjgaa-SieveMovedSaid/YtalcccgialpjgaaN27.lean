/- Helpers of the laws: lemmas for the rows of this seat. No conditions. -/
import Derived.Test.YtalcccgialpjgaaN16
set_option linter.all false
namespace Go.Proofs.Ytalcccgialpjgaa
open Go.RowKit
/-! ## Helpers of the laws -/
theorem rng37 : KeyEnc Try.prog 37 (fun p : Int × Int => .agg #[.int .i64 p.1, .int .i64 p.2]) := pairKeys Try.underlying37 Try.underlying2 Try.underlying2 rfl rfl (by decide) (by decide) (by kernel_rfl)
theorem rng_eq (a b c d : Int) (w : World) : (Op.equal 37 (.agg #[.int .i64 a, .int .i64 b]) (.agg #[.int .i64 c, .int .i64 d])).run Try.prog w = .ok (decide (a = c ∧ b = d)) w := by
 have := rng37.eq (a, b) (c, d) w
 dsimp only at this
 rw [this]
 simp only [Prod.mk.injEq]
theorem rng_same (a b : Int) (w : World) : (Op.equal 37 (.agg #[.int .i64 a, .int .i64 b]) (.agg #[.int .i64 a, .int .i64 b])).run Try.prog w = .ok true w := by
 rw [rng_eq]; simp
section
variable {P : Program} {tab : TT} {w0 : World} {n : Nat} {ds : List Deferred} {ops : List Oper} {o : Oper} {os : List Oper} {ks : List Kind} {ts : TS} {A : List Chunk} {K : TS → List Chunk → Prop} {d : Tmp} {x y z : Operand} {t u : TypeId} {k : IntKind}
def mx (a b : Int) : Int := if b > a then b else a
theorem ot_max3 {ats : Array TypeId} {p q r : Int} (hop : o.op = .call { callee := .builtin .max, args := #[x, y, z], argTypes := ats }) (hd : o.dst = some d) (hw : wantB ops ts o = some true) (hx : evT ts x = some (.int k p)) (hy : evT ts y = some (.int k q)) (hz : evT ts z = some (.int k r))
  (hk : OT P w0 n ds ops os ks.tail ((d, .int k (mx (mx p q) r)) :: ts) A K) : OT P w0 n ds ops (o :: os) ks ts A K :=
 ot_val _ hd hw (fun a w hh => by
  rw [exec_builtin hop, BigFrame.builtin_max]
  simp [hh.ev hx, hh.ev hy, hh.ev hz, Builtin.max_, Builtin.max2, mx]) hk
end
def gM {α : Type} (X : List (List α)) (n0 : Int) : Nat → Int
 | 0 => n0
 | j + 1 => mx (gM X n0 j) ((X[j]?.getD []).length : Int)
theorem mx_le (a b c : Int) : mx a b ≤ c ↔ a ≤ c ∧ b ≤ c := by unfold mx; split <;> omega
theorem gM_le {α : Type} (X : List (List α)) (n0 c : Int) : ∀ j, gM X n0 j ≤ c ↔ n0 ≤ c ∧ ∀ i, i < j → ((X[i]?.getD []).length : Int) ≤ c
 | 0 => by simp [gM]
 | j + 1 => by
  rw [gM, mx_le, gM_le X n0 c j]
  constructor
  ·rintro ⟨⟨h1, h2⟩, h3⟩
   refine ⟨h1, fun i hi => ?_⟩
   by_cases e : i = j
   ·rw [e]; exact h3
   ·exact h2 i (by omega)
  ·rintro ⟨h1, h2⟩
   exact ⟨⟨h1, fun i hi => h2 i (by omega)⟩, h2 j (by omega)⟩
def greatB (R C : List R2) (X : List (List R2)) : Bool := decide (7 < gM X (mx (mx R.length C.length) X.length) X.length)
theorem great_fit {R C : List R2} {X : List (List R2)} : greatB R C X = false ↔ FitT R C X := by
 unfold greatB
 rw [decide_eq_false_iff_not, Int.not_lt, gM_le, mx_le, mx_le]
 constructor
 ·rintro ⟨⟨⟨h1, h2⟩, h3⟩, h4⟩
  refine ⟨by omega, by omega, by omega, fun s hs => ?_⟩
  obtain ⟨i, hi, rfl⟩ := List.mem_iff_getElem.1 hs
  have := h4 i hi
  rw [List.getElem?_eq_getElem hi, Option.getD_some] at this
  omega
 ·rintro ⟨h1, h2, h3, h4⟩
  refine ⟨⟨⟨by omega, by omega⟩, by omega⟩, fun i hi => ?_⟩
  have := h4 _ (List.getElem_mem hi)
  rw [List.getElem?_eq_getElem hi, Option.getD_some]
  omega
def wideB (L : List (List Int)) : Bool := decide (7 < gM L L.length L.length)
theorem wide_fit {L : List (List Int)} : wideB L = false ↔ L.length ≤ 7 ∧ ∀ s ∈ L, s.length ≤ 7 := by
 unfold wideB
 rw [decide_eq_false_iff_not, Int.not_lt, gM_le]
 constructor
 ·rintro ⟨h1, h2⟩
  refine ⟨by omega, fun s hs => ?_⟩
  obtain ⟨i, hi, rfl⟩ := List.mem_iff_getElem.1 hs
  have := h2 i hi
  rw [List.getElem?_eq_getElem hi, Option.getD_some] at this
  omega
 ·rintro ⟨h1, h2⟩
  refine ⟨by omega, fun i hi => ?_⟩
  have := h2 _ (List.getElem_mem hi)
  rw [List.getElem?_eq_getElem hi, Option.getD_some]
  omega
section
variable (RA : Option Addr) (rc : Nat) (CA : Option Addr) (cc : Nat) (XA : Option Addr) (xc : Nat) (R C : List R2) (X : List (List R2)) (w : World) (hT : TabR w RA CA XA R C X)
include hT
set_option maxRecDepth 20000 in
theorem great_any (hx : X.length ≤ maxLen) : Calls Try.prog 16 #[tabV RA rc CA cc XA xc R C X] w fun e w' => e = .returned (.bool (greatB R C X)) ∧ Below w.heap.size w w' := by
 unfold maxLen at hx
 unfold tabV greatB
 refine fn_v tk (n := 32) (A := []) Try.func16 rfl rfl (Nat.le_of_ble_eq_true rfl) (St.nil (Below.refl _ _)) ?_
 ((conv => whnf); (repeat ((first | (apply VStop.mk; (refine ot_max3 rfl rfl rfl rfl rfl rfl ?_); apply ot_v tk) | (apply VLd.mk; (focus ((repeat (first | ((with_reducible apply ld_blk); exact rfl) | (with_reducible apply ld_skip))); done))) | (apply VNew.mk; intro g hg)); (conv => whnf))); apply VStop.mk)
 revert g hg
 intro g1 hg1
 refine v_loop (fun gm ds ts A => ds = [] ∧ ∃ j : Nat, j + gm = X.length ∧ A = [.blk g1 25 [.slice RA R.length rc, .slice CA C.length cc, .slice XA X.length xc]] ∧ ts = [(1, .pointer (some ⟨g1, 0, none⟩)), (3, .int .i64 (gM X (mx (mx R.length C.length) X.length) j)), (4, .int .i64 (j : Int))]) X.length
  (l := [(1, _), (3, .int .i64 (gM X (mx (mx R.length C.length) X.length) 0)), (4, _)]) (B := _) ?_ (List.Sublist.refl _) ⟨rfl, 0, by omega, rfl, rfl⟩ ?_
 ·exact ⟨rfl, rfl, rfl, trivial⟩
 rintro gm ds ts A ⟨rfl, j, hj, rfl, rfl⟩
 by_cases hlt : j < X.length
 ·obtain ⟨xb, xo, rfl, B, c, hce, hrd⟩ := nest_gen hT.x hlt
  have hst : gM X (mx (mx R.length C.length) X.length) (j + 1) = mx (gM X (mx (mx R.length C.length) X.length) j) (X[j].length : Int) := by rw [gM, List.getElem?_eq_getElem hlt, Option.getD_some]
  unfold mx at hst
  generalize hq : gM X (if (X.length : Int) > (if (C.length : Int) > R.length then (C.length : Int) else R.length) then (X.length : Int) else if (C.length : Int) > R.length then (C.length : Int) else R.length) j = q at hst
  have hq' : gM X (mx (mx R.length C.length) X.length) j = q := hq
  rw [hq']
  (apply tr_v tk; (conv => whnf); (repeat ((first | (apply VIx.mk (j := j); exact rfl; omega) | (apply VLd.mk; first | exact hce _) | (apply VLd.mk; (focus ((repeat (first | ((with_reducible apply ld_blk); exact rfl) | (with_reducible apply ld_skip))); done))) | (apply VRng.mk; omega) | apply VBr.t | (apply v_t; omega)); (conv => whnf))))
  rw [← hst]
  exact v_rnd (gm - 1) (by omega) (l := [(1, _), (3, _), (4, _)]) (B := _) ⟨rfl, rfl, rfl, trivial⟩ (List.Sublist.refl _) ⟨rfl, j + 1, by omega, rfl, rfl⟩
 obtain rfl : j = X.length := by omega
 generalize gM X (mx (mx R.length C.length) X.length) X.length = q at *
 (apply tr_v tk; (conv => whnf); (repeat ((first | (apply VLd.mk; (focus ((repeat (first | ((with_reducible apply ld_blk); exact rfl) | (with_reducible apply ld_skip))); done))) | apply VBr.f | (apply v_f; omega) | apply v_d); (conv => whnf))))
 by_cases h : 7 < q
 ·rw [decide_eq_true h]
  ((conv => whnf))
  ((apply VRet.mk); refine ret1 (by first | exact .inl rfl | exact .inr rfl) rfl (by exact rv_tmp rfl) ?_; exact fun w h => ⟨rfl, h.base⟩)
 ·rw [decide_eq_false h]
  ((conv => whnf))
  ((apply VRet.mk); refine ret1 (by first | exact .inl rfl | exact .inr rfl) rfl (by exact rv_tmp rfl) ?_; exact fun w h => ⟨rfl, h.base⟩)
set_option maxRecDepth 20000 in
theorem fine_any (hx : X.length ≤ maxLen) {b : Bool} (hb : b = true ↔ Valid R C X) : Calls Try.prog 42 #[tabV RA rc CA cc XA xc R C X] w fun e w' => e = .returned (.bool b) ∧ Below w.heap.size w w' := by
 have hgr := fun w1 (h : TabR w1 RA CA XA R C X) => great_any RA rc CA cc XA xc R C X w1 h hx
 have hc := fun w1 (h : TabR w1 RA CA XA R C X) hF => refTable_any RA rc CA cc XA xc R C X w1 h hF
 unfold tabV at *
 cases h7 : greatB R C X with
 | true =>
  have hf : b = false := by
   cases b with
   | false => rfl
   | true => have := great_fit.2 (hb.1 rfl).fit; rw [h7] at this; cases this
  subst hf
  rw [h7] at hgr
  refine fn_v tk (n := 11) (A := []) Try.func42 rfl rfl (Nat.le_of_ble_eq_true rfl) (St.nil (Below.refl _ _)) ?_
  ((conv => whnf); (repeat ((first | (apply VCall.q; kernel_rfl; (focus (intro w1 hs; first | with_reducible apply hgr w1 (hs.tab hT)))) | (apply VLdN.mk; (focus ((repeat (first | (with_reducible apply ldn_blk) | (with_reducible apply ldn_skip))); done)); exact rfl) | apply VBr.f | (apply VNew.mk; intro g hg)); (conv => whnf))))
  ((apply VRet.mk); refine ret1 (by first | exact .inl rfl | exact .inr rfl) rfl (by exact rv_tmp rfl) ?_; exact fun w h => ⟨rfl, h.base⟩)
 | false =>
  have hF := great_fit.1 h7
  rw [h7] at hgr
  have hc' := fun w1 h => hc w1 h hF
  by_cases hz : chkTab R C X = 0
  ·have hf : b = true := hb.2 (chk_valid hz)
   subst hf
   rw [hz] at hc'
   refine fn_v tk (n := 11) (A := []) Try.func42 rfl rfl (Nat.le_of_ble_eq_true rfl) (St.nil (Below.refl _ _)) ?_
   ((conv => whnf); (repeat ((first | (apply VCall.q; kernel_rfl; (focus (intro w1 hs; first | with_reducible apply hgr w1 (hs.tab hT) | with_reducible apply hc' w1 (hs.tab hT)))) | (apply VLdN.mk; (focus ((repeat (first | (with_reducible apply ldn_blk) | (with_reducible apply ldn_skip))); done)); exact rfl) | apply VBr.t | (apply v_t; omega) | (apply VNew.mk; intro g hg)); (conv => whnf))))
   ((apply VRet.mk); refine ret1 (by first | exact .inl rfl | exact .inr rfl) rfl (by exact rv_tmp rfl) ?_; exact fun w h => ⟨rfl, h.base⟩)
  ·have hf : b = false := by
    cases b with
    | false => rfl
    | true => exact absurd (chk0 (hb.1 rfl)) hz
   subst hf
   generalize chkTab R C X = z at *
   refine fn_v tk (n := 11) (A := []) Try.func42 rfl rfl (Nat.le_of_ble_eq_true rfl) (St.nil (Below.refl _ _)) ?_
   ((conv => whnf); (repeat ((first | (apply VCall.q; kernel_rfl; (focus (intro w1 hs; first | with_reducible apply hgr w1 (hs.tab hT) | with_reducible apply hc' w1 (hs.tab hT)))) | (apply VLdN.mk; (focus ((repeat (first | (with_reducible apply ldn_blk) | (with_reducible apply ldn_skip))); done)); exact rfl) | apply VBr.t | (apply v_f; omega) | (apply VNew.mk; intro g hg)); (conv => whnf))))
   ((apply VRet.mk); refine ret1 (by first | exact .inl rfl | exact .inr rfl) rfl (by exact rv_tmp rfl) ?_; exact fun w h => ⟨rfl, h.base⟩)
end
set_option maxRecDepth 20000 in
theorem wide_any (NA : Option Addr) (nc : Nat) (L : List (List Int)) (w : World) (hN : NestR w 1 NA (nestI L)) (hx : L.length ≤ maxLen) : Calls Try.prog 17 #[.slice NA L.length nc] w fun e w' => e = .returned (.bool (wideB L)) ∧ Below w.heap.size w w' := by
 unfold maxLen at hx
 unfold wideB
 refine fn_v tk (n := 22) (A := []) Try.func17 rfl rfl (Nat.le_of_ble_eq_true rfl) (St.nil (Below.refl _ _)) ?_
 ((conv => whnf); apply VStop.mk)
 refine v_loop (fun gm ds ts A => ds = [] ∧ ∃ j : Nat, j + gm = L.length ∧ A = [] ∧ ts = [(0, .slice NA L.length nc), (3, .int .i64 (gM L L.length j)), (4, .int .i64 (j : Int))]) L.length
  (l := [(0, _), (3, .int .i64 (gM L L.length 0)), (4, _)]) (B := _) ?_ (List.Sublist.refl _) ⟨rfl, 0, by omega, rfl, rfl⟩ ?_
 ·exact ⟨rfl, rfl, rfl, trivial⟩
 rintro gm ds ts A ⟨rfl, j, hj, rfl, rfl⟩
 by_cases hlt : j < L.length
 ·obtain ⟨xb, xo, rfl, B, c, hce, hrd⟩ := nest_gen hN hlt
  have hst : gM L L.length (j + 1) = mx (gM L L.length j) (L[j].length : Int) := by rw [gM, List.getElem?_eq_getElem hlt, Option.getD_some]
  unfold mx at hst
  generalize gM L L.length j = q at hst ⊢
  (apply tr_v tk; (conv => whnf); (repeat ((first | (apply VIx.mk (j := j); exact rfl; omega) | (apply VLd.mk; first | exact hce _) | (apply VRng.mk; omega) | apply VBr.t | (apply v_t; omega)); (conv => whnf))))
  rw [← hst]
  exact v_rnd (gm - 1) (by omega) (l := [(0, _), (3, _), (4, _)]) (B := _) ⟨rfl, rfl, rfl, trivial⟩ (List.Sublist.refl _) ⟨rfl, j + 1, by omega, rfl, rfl⟩
 obtain rfl : j = L.length := by omega
 generalize gM L L.length L.length = q at *
 (apply tr_v tk; (conv => whnf); (repeat ((first | apply VBr.f | (apply v_f; omega) | apply v_d); (conv => whnf))))
 by_cases h : 7 < q
 ·rw [decide_eq_true h]
  ((conv => whnf))
  ((apply VRet.mk); refine ret1 (by first | exact .inl rfl | exact .inr rfl) rfl (by exact rv_tmp rfl) ?_; exact fun w h => ⟨rfl, h.base⟩)
 ·rw [decide_eq_false h]
  ((conv => whnf))
  ((apply VRet.mk); refine ret1 (by first | exact .inl rfl | exact .inr rfl) rfl (by exact rv_tmp rfl) ?_; exact fun w h => ⟨rfl, h.base⟩)
/-! ## Lists that are the same -/
set_option maxRecDepth 20000 in
theorem ints_any (A1 : Option Addr) (c1 : Nat) (A2 : Option Addr) (c2 : Nat) (l : List Int) (w : World) (h1 : Reads w w.heap.size 1 A1 l.length (i64s l)) (h2 : Reads w w.heap.size 1 A2 l.length (i64s l)) (hm : l.length ≤ maxLen) :
  Calls Try.prog 38 #[.slice A1 l.length c1, .slice A2 l.length c2] w fun e w' => e = .returned (.bool true) ∧ Below w.heap.size w w' := by
 unfold maxLen at hm
 refine fn_v tk (n := 26) (A := []) Try.func38 rfl rfl (Nat.le_of_ble_eq_true rfl) (St.nil (Below.refl _ _)) ?_
 ((conv => whnf); (repeat ((first | apply VBr.f | (apply v_f; omega)); (conv => whnf))); apply VStop.mk)
 refine v_loop (fun gm ds ts A => ds = [] ∧ A = [] ∧ ∃ j : Nat, j + gm = l.length ∧ ts = [(0, .slice A1 l.length c1), (1, .slice A2 l.length c2), (5, .int .i64 (j : Int))]) l.length (l := [(0, _), (1, _), (5, _)]) (B := _) ?_ (List.Sublist.refl _) ⟨rfl, rfl, 0, by omega, rfl⟩ ?_
 ·exact ⟨rfl, rfl, rfl, trivial⟩
 rintro gm ds ts A ⟨rfl, rfl, j, hj, rfl⟩
 by_cases hlt : j < l.length
 ·obtain ⟨b, o, rfl, _⟩ := h1.2 (by omega)
  obtain ⟨b2, o2, rfl, _⟩ := h2.2 (by omega)
  have k1 := int_cell h1 hlt
  have k2 := int_cell h2 hlt
  generalize l[j]?.getD 0 = x at *
  (apply tr_v tk; (conv => whnf); (repeat ((first | (apply VStop.mk; refine tr_region_draw (id := 6) (by kernel_rfl) [0, 1, 2, 3, 4, 5, 6, 7, 8] [.rd, .rd, .rd, .rd, .rd, .rd, .rd, .rd, .rd] rfl (by kernel_rfl) ?_; apply ot_v tk) | (apply VIx.mk (j := j); exact rfl; omega) | (apply VLd.mk; first | exact k1 _ | exact k2 _) | (apply VRng.mk; omega) | apply VBr.t | apply VBr.f | (apply v_t; omega) | (apply v_f; omega)); (conv => whnf))))
  exact v_rnd (gm - 1) (by omega) (l := [(0, _), (1, _), (5, _)]) (B := []) ⟨rfl, rfl, rfl, trivial⟩ (List.nil_sublist _) ⟨rfl, rfl, j + 1, by omega, rfl⟩
 obtain rfl : j = l.length := by omega
 (apply tr_v tk; (conv => whnf); (repeat ((first | apply VBr.f | (apply v_f; omega)); (conv => whnf))))
 ((apply VRet.mk); refine ret1 (by first | exact .inl rfl | exact .inr rfl) rfl (by exact rv_tmp rfl) ?_; exact fun w h => ⟨rfl, h.base⟩)
set_option maxRecDepth 20000 in
theorem equal_any (A1 : Option Addr) (c1 : Nat) (A2 : Option Addr) (c2 : Nat) (l : List R2) (w : World) (h1 : Reads w w.heap.size 2 A1 l.length (rgC l)) (h2 : Reads w w.heap.size 2 A2 l.length (rgC l)) (hm : l.length ≤ maxLen) :
  Calls Try.prog 84 #[.slice A1 l.length c1, .slice A2 l.length c2] w fun e w' => e = .returned (.bool true) ∧ Below w.heap.size w w' := by
 unfold maxLen at hm
 refine fn_v tk (n := 26) (A := []) Try.func84 rfl rfl (Nat.le_of_ble_eq_true rfl) (St.nil (Below.refl _ _)) ?_
 ((conv => whnf); (repeat ((first | apply VBr.f | (apply v_f; omega)); (conv => whnf))); apply VStop.mk)
 refine v_loop (fun gm ds ts A => ds = [] ∧ A = [] ∧ ∃ j : Nat, j + gm = l.length ∧ ts = [(0, .slice A1 l.length c1), (1, .slice A2 l.length c2), (5, .int .i64 (j : Int))]) l.length (l := [(0, _), (1, _), (5, _)]) (B := _) ?_ (List.Sublist.refl _) ⟨rfl, rfl, 0, by omega, rfl⟩ ?_
 ·exact ⟨rfl, rfl, rfl, trivial⟩
 rintro gm ds ts A ⟨rfl, rfl, j, hj, rfl⟩
 by_cases hlt : j < l.length
 ·obtain ⟨b, o, rfl, _⟩ := h1.2 (by omega)
  obtain ⟨b2, o2, rfl, _⟩ := h2.2 (by omega)
  have k1 := rg_cells h1 hlt (by omega)
  have k2 := rg_cells h2 hlt (by omega)
  generalize rAt l j = x at *
  (apply tr_v tk; (conv => whnf); (repeat ((first | (apply VStop.mk; refine tr_region_draw (id := 6) (by kernel_rfl) [0, 1, 2, 3, 4, 5, 6, 7, 8] [.rd, .rd, .rd, .rd, .rd, .rd, .rd, .rd, .rd] rfl (by kernel_rfl) ?_; apply ot_v tk) | (apply VIx.mk (j := j); exact rfl; omega) | (apply VLdN.mk; (first | exact k1 _ | exact k2 _); exact rfl) | (apply VEq.mk true; kernel_rfl; exact rng_same x.1 x.2) | (apply VRng.mk; omega) | apply VBr.t | apply VBr.f | (apply v_t; omega)); (conv => whnf))))
  exact v_rnd (gm - 1) (by omega) (l := [(0, _), (1, _), (5, _)]) (B := []) ⟨rfl, rfl, rfl, trivial⟩ (List.nil_sublist _) ⟨rfl, rfl, j + 1, by omega, rfl⟩
 obtain rfl : j = l.length := by omega
 (apply tr_v tk; (conv => whnf); (repeat ((first | apply VBr.f | (apply v_f; omega)); (conv => whnf))))
 ((apply VRet.mk); refine ret1 (by first | exact .inl rfl | exact .inr rfl) rfl (by exact rv_tmp rfl) ?_; exact fun w h => ⟨rfl, h.base⟩)
set_option maxRecDepth 20000 in
theorem longs_any (A1 : Option Addr) (c1 : Nat) (A2 : Option Addr) (c2 : Nat) (L : List (List Int)) (w : World) (h1 : NestR w 1 A1 (nestI L)) (h2 : NestR w 1 A2 (nestI L)) (hm : L.length ≤ maxLen) (hs : ∀ s ∈ L, s.length ≤ maxLen) :
  Calls Try.prog 27 #[.slice A1 L.length c1, .slice A2 L.length c2] w fun e w' => e = .returned (.bool true) ∧ Below w.heap.size w w' := by
 unfold maxLen at hm hs
 refine fn_v tk (n := 53) (A := []) Try.func27 rfl rfl (Nat.le_of_ble_eq_true rfl) (St.nil (Below.refl _ _)) ?_
 ((conv => whnf); (repeat ((first | apply VBr.f | (apply v_f; omega)); (conv => whnf))); apply VStop.mk)
 refine v_loop (fun gm ds ts A => ds = [] ∧ A = [] ∧ ∃ j : Nat, j + gm = L.length ∧ ts = [(0, .slice A1 L.length c1), (1, .slice A2 L.length c2), (5, .int .i64 (j : Int))]) L.length (l := [(0, _), (1, _), (5, _)]) (B := _) ?_ (List.Sublist.refl _) ⟨rfl, rfl, 0, by omega, rfl⟩ ?_
 ·exact ⟨rfl, rfl, rfl, trivial⟩
 rintro gm ds ts A ⟨rfl, rfl, j, hj, rfl⟩
 by_cases hlt : j < L.length
 ·obtain ⟨b, o, rfl, B1, k1, e1, r1⟩ := nest_gen h1 hlt
  obtain ⟨b2, o2, rfl, B2, k2, e2, r2⟩ := nest_gen h2 hlt
  have hsl := hs _ (List.getElem_mem hlt)
  generalize L[j] = s at *
  (apply tr_v tk; (conv => whnf); (repeat ((first | (apply VStop.mk; refine tr_region_draw (id := 6) (by kernel_rfl) [0, 1, 2, 3, 4, 5, 6, 7, 8, 9, 10] [.rd, .rd, .rd, .rd, .rd, .rd, .rd, .rd, .rd, .rd, .rd] rfl (by kernel_rfl) ?_; apply ot_v tk) | (apply VIx.mk (j := j); exact rfl; omega) | (apply VLd.mk; first | exact e1 _ | exact e2 _) | apply VBr.t | apply VBr.f | (apply v_t; omega) | (apply v_f; omega)); (conv => whnf))); apply VStop.mk)
  refine v_loop (fun gm2 ds ts A => ds = [] ∧ A = [] ∧ ∃ k : Nat, k + gm2 = s.length ∧ ts = [(0, .slice (some ⟨b, o, none⟩) L.length c1), (1, .slice (some ⟨b2, o2, none⟩) L.length c2), (5, .int .i64 (j : Int)), (6, .int .i64 (k : Int))]) s.length (l := [(0, _), (1, _), (5, _), (6, _)]) (B := _) ?_ (List.Sublist.refl _) ⟨rfl, rfl, 0, by omega, rfl⟩ ?_
  ·exact ⟨rfl, rfl, rfl, rfl, trivial⟩
  rintro gm2 ds ts A ⟨rfl, rfl, k, hk, rfl⟩
  by_cases hlt2 : k < s.length
  ·obtain ⟨b3, o3, rfl, _⟩ := r1.2 (by omega)
   obtain ⟨b4, o4, rfl, _⟩ := r2.2 (by omega)
   have q1 := int_cell r1 hlt2
   have q2 := int_cell r2 hlt2
   generalize s[k]?.getD 0 = x at *
   (apply tr_v tk; (conv => whnf); (repeat ((first | (apply VStop.mk; refine tr_region_draw (id := 11) (by kernel_rfl) [0, 1, 2, 3, 4, 5, 6, 7, 8, 9, 10, 11, 12, 13, 14] [.rd, .rd, .rd, .rd, .rd, .rd, .rd, .rd, .rd, .rd, .rd, .rd, .rd, .rd, .rd] rfl (by kernel_rfl) ?_; apply ot_v tk) | (apply VIx.mk (j := j); exact rfl; omega) | (apply VIx.mk (j := k); exact rfl; omega) | (apply VLd.mk; first | exact e1 _ | exact e2 _ | exact q1 _ | exact q2 _) | (apply VRng.mk; omega) | apply VBr.t | apply VBr.f | (apply v_t; omega) | (apply v_f; omega)); (conv => whnf))))
   exact v_rnd (gm2 - 1) (by omega) (l := [(0, _), (1, _), (5, _), (6, _)]) (B := []) ⟨rfl, rfl, rfl, rfl, trivial⟩ (List.nil_sublist _) ⟨rfl, rfl, k + 1, by omega, rfl⟩
  obtain rfl : k = s.length := by omega
  (apply tr_v tk; (conv => whnf); (repeat ((first | (apply VIx.mk (j := j); exact rfl; omega) | (apply VLd.mk; first | exact e1 _ | exact e2 _) | (apply VRng.mk; omega) | apply VBr.f | (apply v_f; omega)); (conv => whnf))))
  exact v_rnd (gm - 1) (by omega) (l := [(0, _), (1, _), (5, _)]) (B := []) ⟨rfl, rfl, rfl, trivial⟩ (List.nil_sublist _) ⟨rfl, rfl, j + 1, by omega, rfl⟩
 obtain rfl : j = L.length := by omega
 (apply tr_v tk; (conv => whnf); (repeat ((first | apply VBr.f | (apply v_f; omega)); (conv => whnf))))
 ((apply VRet.mk); refine ret1 (by first | exact .inl rfl | exact .inr rfl) rfl (by exact rv_tmp rfl) ?_; exact fun w h => ⟨rfl, h.base⟩)
set_option maxRecDepth 20000 in
theorem same_any (RA : Option Addr) (rc : Nat) (CA : Option Addr) (cc : Nat) (XA : Option Addr) (xc : Nat) (RA2 : Option Addr) (rc2 : Nat) (CA2 : Option Addr) (cc2 : Nat) (XA2 : Option Addr) (xc2 : Nat) (R C : List R2) (X : List (List R2)) (w : World) (hT : TabR w RA CA XA R C X) (hT2 : TabR w RA2 CA2 XA2 R C X) (hr : R.length ≤ maxLen) (hc : C.length ≤ maxLen) (hm : X.length ≤ maxLen) (hs : ∀ s ∈ X, s.length ≤ maxLen) :
  Calls Try.prog 41 #[tabV RA rc CA cc XA xc R C X, tabV RA2 rc2 CA2 cc2 XA2 xc2 R C X] w fun e w' => e = .returned (.bool true) ∧ Below w.heap.size w w' := by
 have er : ∀ {A1 w1}, St w A1 w1 → _ := fun {A1 w1} (hs : St w A1 w1) => equal_any RA rc RA2 rc2 R w1 (hs.reads hT.r) (hs.reads hT2.r) hr
 have ec : ∀ {A1 w1}, St w A1 w1 → _ := fun {A1 w1} (hs : St w A1 w1) => equal_any CA cc CA2 cc2 C w1 (hs.reads hT.c) (hs.reads hT2.c) hc
 unfold tabV maxLen at *
 refine fn_v tk (n := 48) (A := []) Try.func41 rfl rfl (Nat.le_of_ble_eq_true rfl) (St.nil (Below.refl _ _)) ?_
 ((conv => whnf); (repeat ((first | (apply VCall.q; kernel_rfl; (focus (intro w1 hs; first | with_reducible apply er hs | with_reducible apply ec hs))) | (apply VLd.mk; (focus ((repeat (first | ((with_reducible apply ld_blk); exact rfl) | (with_reducible apply ld_skip))); done))) | apply VBr.f | (apply v_f; omega) | (apply VNew.mk; intro g hg)); (conv => whnf))); apply VStop.mk)
 revert g hg
 intro g3 hg3
 revert g hg
 intro g2 hg2
 refine v_loop (fun gm ds ts A => ds = [] ∧ ∃ j : Nat, j + gm = X.length ∧ A = [.blk g3 25 [.slice RA2 R.length rc2, .slice CA2 C.length cc2, .slice XA2 X.length xc2], .blk g2 25 [.slice RA R.length rc, .slice CA C.length cc, .slice XA X.length xc]] ∧ ts = [(2, .pointer (some ⟨g2, 0, none⟩)), (3, .pointer (some ⟨g3, 0, none⟩)), (5, .int .i64 (j : Int))]) X.length (l := [(2, _), (3, _), (5, _)]) (B := _) ?_ (List.Sublist.refl _) ⟨rfl, 0, by omega, rfl, rfl⟩ ?_
 ·exact ⟨rfl, rfl, rfl, trivial⟩
 rintro gm ds ts A ⟨rfl, j, hj, rfl, rfl⟩
 by_cases hlt : j < X.length
 ·obtain ⟨b, o, rfl, B1, k1, e1, r1⟩ := nest_gen hT.x hlt
  obtain ⟨b2, o2, rfl, B2, k2, e2, r2⟩ := nest_gen hT2.x hlt
  have hsl := hs _ (List.getElem_mem hlt)
  have ex : ∀ {A1 w1}, St w A1 w1 → _ := fun {A1 w1} (hs : St w A1 w1) => equal_any B1 k1 B2 k2 X[j] w1 (hs.reads r1) (hs.reads r2) (by unfold maxLen; omega)
  generalize X[j].length = n at *
  (apply tr_v tk; (conv => whnf); (repeat ((first | ((first | apply VStop.mk | apply VCall.stop); refine tr_region_draw (id := 6) (by kernel_rfl) [0, 1, 2, 3, 4, 5, 6, 7, 8, 9, 10, 11] [.rd, .rd, .rd, .rd, .rd, .rd, .rd, .rd, .rd, .rd, .cr, .rd] rfl (by kernel_rfl) ?_; apply ot_v tk) | (apply VIx.mk (j := j); exact rfl; omega) | (apply VLd.mk; first | exact e1 _ | exact e2 _) | (apply VCall.q; kernel_rfl; (focus (intro w1 hs; first | with_reducible apply ex hs))) | (apply VLd.mk; (focus ((repeat (first | ((with_reducible apply ld_blk); exact rfl) | (with_reducible apply ld_skip))); done))) | (apply VRng.mk; omega) | apply VBr.t | apply VBr.f | (apply v_t; omega)); (conv => whnf))))
  exact v_rnd (gm - 1) (by omega) (l := [(2, _), (3, _), (5, _)]) (B := _) ⟨rfl, rfl, rfl, trivial⟩ (List.Sublist.refl _) ⟨rfl, j + 1, by omega, rfl, rfl⟩
 obtain rfl : j = X.length := by omega
 (apply tr_v tk; (conv => whnf); (repeat ((first | (apply VLd.mk; (focus ((repeat (first | ((with_reducible apply ld_blk); exact rfl) | (with_reducible apply ld_skip))); done))) | apply VBr.f | (apply v_f; omega)); (conv => whnf))))
 ((apply VRet.mk); refine ret1 (by first | exact .inl rfl | exact .inr rfl) rfl (by exact rv_tmp rfl) ?_; exact fun w h => ⟨rfl, h.base⟩)
/-! ## Small helpers of the laws -/
theorem to_any (a b : Int) (w : World) : Calls Try.prog 48 #[.int .i64 a, .int .i64 b] w fun e w' => e = .returned (.agg #[.int .i64 a, .int .i64 b]) ∧ Below w.heap.size w w' := by
 refine fn_v tk (n := 8) (A := []) Try.func48 rfl rfl (Nat.le_of_ble_eq_true rfl) (St.nil (Below.refl _ _)) ?_
 ((conv => whnf); (repeat ((first | (apply VNew.mk; intro g hg) | (apply VSt.mk; (focus ((repeat (first | (with_reducible exact At.here) | (with_reducible apply At.there))); done)); exact rfl)); (conv => whnf))))
 ((apply VRet.mk); refine ret1 (by first | exact .inl rfl | exact .inr rfl) rfl (by exact rv_row tk rfl rfl rfl (by first | exact cells_blk_all (by (repeat (first | exact List.Mem.head _ | assumption | refine List.Mem.tail _ ?_))) | exact cells_row0 (by (repeat (first | exact List.Mem.head _ | assumption | refine List.Mem.tail _ ?_)))) rfl) ?_; exact fun w h => ⟨rfl, h.base⟩)
theorem lists_any (v : Value) (w : World) (A : Option Addr) (n c : Nat) (hv : v = .slice A n c) : Calls Try.prog 53 #[v] w fun e w' => e = .returned v ∧ Below w.heap.size w w' := by
 subst hv
 refine fn_v tk (n := 4) (A := []) Try.func53 rfl rfl (Nat.le_of_ble_eq_true rfl) (St.nil (Below.refl _ _)) ?_
 ((conv => whnf))
 ((apply VRet.mk); refine ret1 (by first | exact .inl rfl | exact .inr rfl) rfl (by exact rv_tmp rfl) ?_; exact fun w h => ⟨rfl, h.base⟩)
theorem longsV_any (A : Option Addr) (n c : Nat) (w : World) : Calls Try.prog 54 #[.slice A n c] w fun e w' => e = .returned (.slice A n c) ∧ Below w.heap.size w w' := by
 refine fn_v tk (n := 4) (A := []) Try.func54 rfl rfl (Nat.le_of_ble_eq_true rfl) (St.nil (Below.refl _ _)) ?_
 ((conv => whnf))
 ((apply VRet.mk); refine ret1 (by first | exact .inl rfl | exact .inr rfl) rfl (by exact rv_tmp rfl) ?_; exact fun w h => ⟨rfl, h.base⟩)
theorem of_any (A : Option Addr) (n c : Nat) (w : World) : Calls Try.prog 55 #[.slice A n c] w fun e w' => e = .returned (.slice A n c) ∧ Below w.heap.size w w' := by
 refine fn_v tk (n := 4) (A := []) Try.func55 rfl rfl (Nat.le_of_ble_eq_true rfl) (St.nil (Below.refl _ _)) ?_
 ((conv => whnf))
 ((apply VRet.mk); refine ret1 (by first | exact .inl rfl | exact .inr rfl) rfl (by exact rv_tmp rfl) ?_; exact fun w h => ⟨rfl, h.base⟩)
theorem ranges_any (A : Option Addr) (n c : Nat) (w : World) : Calls Try.prog 57 #[.slice A n c] w fun e w' => e = .returned (.slice A n c) ∧ Below w.heap.size w w' := by
 refine fn_v tk (n := 4) (A := []) Try.func57 rfl rfl (Nat.le_of_ble_eq_true rfl) (St.nil (Below.refl _ _)) ?_
 ((conv => whnf))
 ((apply VRet.mk); refine ret1 (by first | exact .inl rfl | exact .inr rfl) rfl (by exact rv_tmp rfl) ?_; exact fun w h => ⟨rfl, h.base⟩)
theorem table_any (A : Option Addr) (n c : Nat) (A2 : Option Addr) (n2 c2 : Nat) (A3 : Option Addr) (n3 c3 : Nat) (w : World) : Calls Try.prog 56 #[.slice A n c, .slice A2 n2 c2, .slice A3 n3 c3] w fun e w' => e = .returned (.agg #[.slice A n c, .slice A2 n2 c2, .slice A3 n3 c3]) ∧ Below w.heap.size w w' := by
 refine fn_v tk (n := 11) (A := []) Try.func56 rfl rfl (Nat.le_of_ble_eq_true rfl) (St.nil (Below.refl _ _)) ?_
 ((conv => whnf); (repeat ((first | (apply VNew.mk; intro g hg) | (apply VSt.mk; (focus ((repeat (first | (with_reducible exact At.here) | (with_reducible apply At.there))); done)); exact rfl)); (conv => whnf))))
 ((apply VRet.mk); refine ret1 (by first | exact .inl rfl | exact .inr rfl) rfl (by exact rv_row tk rfl rfl rfl (by first | exact cells_blk_all (by (repeat (first | exact List.Mem.head _ | assumption | refine List.Mem.tail _ ?_))) | exact cells_row0 (by (repeat (first | exact List.Mem.head _ | assumption | refine List.Mem.tail _ ?_)))) rfl) ?_; exact fun w h => ⟨rfl, h.base⟩)
end Go.Proofs.Ytalcccgialpjgaa
