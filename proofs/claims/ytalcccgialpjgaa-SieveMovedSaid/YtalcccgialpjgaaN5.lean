/- Maps of pairs of numbers: lemmas for the rows of this seat. No conditions. -/
import Derived.Test.YtalcccgialpjgaaKeys
import Derived.Test.YtalcccgialpjgaaN4
import Derived.Test.YtalcccgialpjgaaV8
set_option linter.all false
namespace Go.Proofs.Ytalcccgialpjgaa
open Go.RowKit
/-! ## Maps of pairs of numbers -/
def pairE (p : Int × Int) : Value := .agg #[.int .i64 p.1, .int .i64 p.2]
theorem pairK : KeyEnc Try.prog 98 pairE := pairKeys Try.underlying98 Try.underlying3 Try.underlying3 rfl rfl (by decide) (by decide) (by kernel_rfl)
theorem mapB : Try.prog.underlying 100 = some (.map 98 37) := Try.underlying100
theorem mapF : Try.prog.underlying 101 = some (.map 98 2) := Try.underlying101
theorem zv2 : ∀ w, (zeroValue 2).run Try.prog w = .ok (.int .i64 0) w := fun w => by kernel_rfl
theorem zv37 : ∀ w, (zeroValue 37).run Try.prog w = .ok (.agg #[.int .i64 0, .int .i64 0]) w := fun w => by kernel_rfl
def mapN (f : Nat → Nat → Option Value) : Int × Int → Option Value := fun p => if 0 ≤ p.1 ∧ 0 ≤ p.2 then f p.1.toNat p.2.toNat else none
theorem mapN_nat (f : Nat → Nat → Option Value) (u v : Nat) : mapN f ((u : Int), (v : Int)) = f u v := by
 unfold mapN
 rw [if_pos ⟨by simp, by simp⟩]; simp
theorem mapN_upd (f : Nat → Nat → Option Value) (u v : Nat) (x : Value) : updM (mapN f) ((u : Int), (v : Int)) x = mapN fun a b => if a = u ∧ b = v then some x else f a b := by
 funext p
 obtain ⟨p, q⟩ := p
 unfold updM mapN
 by_cases h : (p, q) = ((u : Int), (v : Int))
 ·rw [if_pos h]
  simp only [Prod.mk.injEq] at h
  obtain ⟨rfl, rfl⟩ := h
  rw [if_pos ⟨by simp, by simp⟩]; dsimp only; rw [if_pos ⟨by simp, by simp⟩]
 ·rw [if_neg h]
  simp only [Prod.mk.injEq] at h
  dsimp only
  split
  ·rw [if_neg (by omega)]
  ·rfl
theorem mapN_del (f : Nat → Nat → Option Value) (u v : Nat) : delM (mapN f) ((u : Int), (v : Int)) = mapN fun a b => if a = u ∧ b = v then none else f a b := by
 funext p
 obtain ⟨p, q⟩ := p
 unfold delM mapN
 by_cases h : (p, q) = ((u : Int), (v : Int))
 ·rw [if_pos h]
  simp only [Prod.mk.injEq] at h
  obtain ⟨rfl, rfl⟩ := h
  rw [if_pos ⟨by simp, by simp⟩]; dsimp only; rw [if_pos ⟨by simp, by simp⟩]
 ·rw [if_neg h]
  simp only [Prod.mk.injEq] at h
  dsimp only
  split
  ·rw [if_neg (by omega)]
  ·rfl
theorem mapN_some {f : Nat → Nat → Option Value} {p : Int × Int} {x : Value} (h : mapN f p = some x) : ∃ u v : Nat, p = ((u : Int), (v : Int)) ∧ f u v = some x := by
 obtain ⟨p, q⟩ := p
 unfold mapN at h
 split at h
 ·rename_i h1
  exact ⟨p.toNat, q.toNat, by simp only [Prod.mk.injEq]; dsimp only at h1; omega, h⟩
 ·cases h
theorem mapN_congr {f g : Nat → Nat → Option Value} (h : ∀ u v, f u v = g u v) : mapN f = mapN g := by
 have : f = g := by funext u v; exact h u v
 rw [this]
/-- The keys that are there, and what they show. -/
def keyM (e : Nat → Nat → Bool) (h : Nat → Nat → Value) : Int × Int → Option Value := mapN fun u v => if e u v = true then some (h u v) else none
theorem keyM_nat (e : Nat → Nat → Bool) (h : Nat → Nat → Value) (u v : Nat) : keyM e h ((u : Int), (v : Int)) = if e u v = true then some (h u v) else none := mapN_nat _ _ _
theorem keyM_upd (e : Nat → Nat → Bool) (h h' : Nat → Nat → Value) (u v : Nat) (x : Value) (hx : x = h' u v) (ho : ∀ a b, ¬(a = u ∧ b = v) → e a b = true → h a b = h' a b) : updM (keyM e h) ((u : Int), (v : Int)) x = keyM (fun a b => e a b || decide (a = u ∧ b = v)) h' := by
 unfold keyM
 rw [mapN_upd]
 refine mapN_congr fun a b => ?_
 by_cases hc : a = u ∧ b = v
 ·rw [if_pos hc, if_pos (by simp [hc]), hx, hc.1, hc.2]
 ·rw [if_neg hc]
  dsimp only
  have h1 : (e a b || decide (a = u ∧ b = v)) = e a b := by rw [decide_eq_false hc, Bool.or_false]
  simp only [h1]
  split
  ·rw [ho a b hc ‹_›]
  ·rfl
theorem keyM_some {e : Nat → Nat → Bool} {h : Nat → Nat → Value} {p : Int × Int} {x : Value} (hs : keyM e h p = some x) : ∃ u v : Nat, p = ((u : Int), (v : Int)) ∧ e u v = true ∧ x = h u v := by
 obtain ⟨u, v, h1, h2⟩ := mapN_some hs
 refine ⟨u, v, h1, ?_⟩
 split at h2
 ·exact ⟨‹_›, by cases h2; rfl⟩
 ·cases h2
theorem keyM_congr {e e' : Nat → Nat → Bool} {h h' : Nat → Nat → Value} (he : ∀ u v, e u v = e' u v) (hh : ∀ u v, e u v = true → h u v = h' u v) : keyM e h = keyM e' h' := by
 refine mapN_congr fun u v => ?_
 rw [← he]
 split
 ·rw [hh u v ‹_›]
 ·rfl
def rngV (lo hi : Nat → Nat → Int) (u v : Nat) : Value := .agg #[.int .i64 (lo u v), .int .i64 (hi u v)]
def intV (g : Nat → Nat → Int) (u v : Nat) : Value := .int .i64 (g u v)
/-! ## The net of a table -/
/-- Its edges: from the sink to the source, from it to the rows, from them to the columns, and from these to the sink. -/
def netP (n m u v : Nat) : Prop := (u = 1 ∧ v = 0) ∨ (u = 0 ∧ 2 ≤ v ∧ v < 2 + n) ∨ (2 ≤ u ∧ u < 2 + n ∧ 2 + n ≤ v ∧ v < 2 + n + m) ∨ (2 + n ≤ u ∧ u < 2 + n + m ∧ v = 1)
instance (n m u v : Nat) : Decidable (netP n m u v) := by unfold netP; infer_instance
def netE (n m u v : Nat) : Bool := decide (netP n m u v)
theorem netE_iff {n m u v : Nat} : netE n m u v = true ↔ netP n m u v := by unfold netE; exact decide_eq_true_iff
def bdT (R C : List R2) (X : List (List R2)) (u v : Nat) : R2 := if u = 1 then (0, 192) else if u = 0 then rAt R (v - 2) else if v = 1 then rAt C (u - 2 - R.length) else xAt X (u - 2) (v - 2 - R.length)
def netLo (R C : List R2) (X : List (List R2)) (u v : Nat) : Int := if netE R.length C.length u v = true then (bdT R C X u v).1 else 0
def netHi (R C : List R2) (X : List (List R2)) (u v : Nat) : Int := if netE R.length C.length u v = true then (bdT R C X u v).2 else 0
def bdV (R C : List R2) (X : List (List R2)) (u v : Nat) : Value := .agg #[.int .i64 (bdT R C X u v).1, .int .i64 (bdT R C X u v).2]
theorem bdV_net (R C : List R2) (X : List (List R2)) : keyM (netE R.length C.length) (bdV R C X) = keyM (netE R.length C.length) (rngV (netLo R C X) (netHi R C X)) :=
 keyM_congr (fun _ _ => rfl) fun u v h => by unfold bdV rngV netLo netHi; rw [if_pos h, if_pos h]
section
variable (RA : Option Addr) (rc : Nat) (CA : Option Addr) (cc : Nat) (XA : Option Addr) (xc : Nat) (R C : List R2) (X : List (List R2))
def netC (bm fm : Nat) : List Value := [.slice RA R.length rc, .slice CA C.length cc, .slice XA X.length xc, .map (some bm), .map (some fm)]
set_option maxRecDepth 20000 in
theorem row_any (gn i : Nat) (w : World) (hi : i ≤ 1000) : Calls Try.prog 70 #[.pointer (some ⟨gn, 0, none⟩), .int .i64 (i : Int)] w fun e w' => e = .returned (.int .i64 ((2 + i : Nat) : Int)) ∧ Below w.heap.size w w' := by
 have h2 : ((2 + i : Nat) : Int) = 2 + (i : Int) := by omega
 rw [h2]
 refine fn_v tk (n := 7) (A := []) Try.func70 rfl rfl (Nat.le_of_ble_eq_true rfl) (St.nil (Below.refl _ _)) ?_
 ((conv => whnf); (repeat ((apply VRng.mk; omega); (conv => whnf))))
 ((apply VRet.mk); refine ret1 (by first | exact .inl rfl | exact .inr rfl) rfl (by exact rv_tmp rfl) ?_; exact fun w h => ⟨rfl, h.base⟩)
set_option maxRecDepth 20000 in
theorem column_any (gn i : Nat) (w : World) (hc : w.cell? ⟨gn, 0, none⟩ = some (.slice RA R.length rc)) (hi : i ≤ 1000) (hr : R.length ≤ 1000) : Calls Try.prog 71 #[.pointer (some ⟨gn, 0, none⟩), .int .i64 (i : Int)] w fun e w' => e = .returned (.int .i64 ((2 + R.length + i : Nat) : Int)) ∧ Below w.heap.size w w' := by
 have h2 : ((2 + R.length + i : Nat) : Int) = 2 + (R.length : Int) + (i : Int) := by omega
 rw [h2]
 have c1 : ∀ A, CellAt w A gn 0 _ := fun A => CellAt.base hc
 refine fn_v tk (n := 14) (A := []) Try.func71 rfl rfl (Nat.le_of_ble_eq_true rfl) (St.nil (Below.refl _ _)) ?_
 ((conv => whnf); (repeat ((first | (apply VLd.mk; first | exact c1 _) | (apply VRng.mk; omega)); (conv => whnf))))
 ((apply VRet.mk); refine ret1 (by first | exact .inl rfl | exact .inr rfl) rfl (by exact rv_tmp rfl) ?_; exact fun w h => ⟨rfl, h.base⟩)
set_option maxRecDepth 20000 in
theorem nodes_any (gn : Nat) (w : World) (hc : w.cell? ⟨gn, 0, none⟩ = some (.slice RA R.length rc)) (hc1 : w.cell? ⟨gn, 1, none⟩ = some (.slice CA C.length cc)) (hr : R.length ≤ 1000) (hr1 : C.length ≤ 1000) : Calls Try.prog 101 #[.pointer (some ⟨gn, 0, none⟩)] w fun e w' => e = .returned (.int .i64 ((2 + R.length + C.length : Nat) : Int)) ∧ Below w.heap.size w w' := by
 have h2 : ((2 + R.length + C.length : Nat) : Int) = 2 + (R.length : Int) + (C.length : Int) := by omega
 rw [h2]
 have c1 : ∀ A, CellAt w A gn 0 _ := fun A => CellAt.base hc
 have c2 : ∀ A, CellAt w A gn 1 _ := fun A => CellAt.base hc1
 refine fn_v tk (n := 17) (A := []) Try.func101 rfl rfl (Nat.le_of_ble_eq_true rfl) (St.nil (Below.refl _ _)) ?_
 ((conv => whnf); (repeat ((first | (apply VStop.mk; refine tr_region_lex (id := 1) (by kernel_rfl) [.rd, .rd, .rd, .rd, .rd, .rd, .rd, .rd, .rd, .rd, .rd, .rd, .rd, .rd, .rd] rfl (by kernel_rfl) ?_; apply ot_v tk) | (apply VLd.mk; first | exact c1 _ | exact c2 _) | (apply VRng.mk; omega)); (conv => whnf))))
 ((apply VRet.mk); refine ret1 (by first | exact .inl rfl | exact .inr rfl) rfl (by exact rv_tmp rfl) ?_; exact fun w h => ⟨rfl, h.base⟩)
end
theorem keyM_del (e : Nat → Nat → Bool) (h : Nat → Nat → Value) (u v : Nat) : delM (keyM e h) ((u : Int), (v : Int)) = keyM (fun a b => e a b && !decide (a = u ∧ b = v)) h := by
 unfold keyM
 rw [mapN_del]
 refine mapN_congr fun a b => ?_
 by_cases hc : a = u ∧ b = v
 ·rw [if_pos hc, if_neg (by simp [hc])]
 ·rw [if_neg hc]
  have h1 : (e a b && !decide (a = u ∧ b = v)) = e a b := by rw [decide_eq_false hc]; simp
  simp only [h1]
/-- A net in memory. -/
structure NetAt (w : World) (RA : Option Addr) (rc : Nat) (CA : Option Addr) (cc : Nat) (XA : Option Addr) (xc : Nat) (R C : List R2) (X : List (List R2)) (lo hi g : Nat → Nat → Int) (gn bm fm : Nat) : Prop where
 cell : ∀ j u, (netC RA rc CA cc XA xc R C X bm fm)[j]? = some u → w.cell? ⟨gn, j, none⟩ = some u
 bm : ∃ st, MapP pairE (keyM (netE R.length C.length) (rngV lo hi)) st w.heap[bm]?
 fm : ∃ st, MapP pairE (keyM (netE R.length C.length) (intV g)) st w.heap[fm]?
/-- Numbers that are small. -/
def Small (f : Nat → Nat → Int) : Prop := ∀ u v, -10000 ≤ f u v ∧ f u v ≤ 10000
/-- What flows, and may flow, only along edges. -/
structure NetG (n m : Nat) (lo hi g : Nat → Nat → Int) : Prop where
 g0 : ∀ u v, netE n m u v = false → g u v = 0
 lo0 : ∀ u v, netE n m u v = false → lo u v = 0
 hi0 : ∀ u v, netE n m u v = false → hi u v = 0
 sg : Small g
 slo : Small lo
 shi : Small hi
theorem netE_one {n m u v : Nat} (h : netE n m u v = true) : netE n m v u = false := by
 rw [netE_iff] at h
 cases hb : netE n m v u with
 | false => rfl
 | true =>
  rw [netE_iff] at hb
  unfold netP at *; omega
theorem NetG.res {n m : Nat} {lo hi g : Nat → Nat → Int} (h : NetG n m lo hi g) {u v : Nat} (he : netE n m u v = true) : res lo hi g u v = hi u v - g u v ∧ res lo hi g v u = g u v - lo u v := by
 have h1 := netE_one he
 have h2 := h.g0 _ _ h1
 have h3 := h.lo0 _ _ h1
 have h4 := h.hi0 _ _ h1
 unfold Proofs.Ytalcccgialpjgaa.res
 omega
theorem NetG.edge {n m : Nat} {lo hi g : Nat → Nat → Int} (h : NetG n m lo hi g) {u v : Nat} (hr : 0 < Proofs.Ytalcccgialpjgaa.res lo hi g u v) : netE n m u v = true ∨ netE n m v u = true := by
 by_cases h1 : netE n m u v = true
 ·exact .inl h1
 by_cases h2 : netE n m v u = true
 ·exact .inr h2
 have h1 : netE n m u v = false := by simpa using h1
 have h2 : netE n m v u = false := by simpa using h2
 have := h.g0 _ _ h1
 have := h.hi0 _ _ h1
 have := h.g0 _ _ h2
 have := h.lo0 _ _ h2
 unfold Proofs.Ytalcccgialpjgaa.res at hr
 omega
/-! ## newNet -/
structure NetX where
 gn : Nat
 bm : Nat
 fm : Nat
 st : List (Nat × (Int × Int))
theorem bdV_row (R C : List R2) (X : List (List R2)) (i : Nat) : bdV R C X 0 (2 + i) = .agg #[.int .i64 (rAt R i).1, .int .i64 (rAt R i).2] := by
 unfold bdV bdT
 rw [if_neg (by omega), if_pos rfl, show 2 + i - 2 = i by omega]
theorem bdV_cell (R C : List R2) (X : List (List R2)) (i k : Nat) : bdV R C X (2 + i) (2 + R.length + k) = .agg #[.int .i64 (xAt X i k).1, .int .i64 (xAt X i k).2] := by
 unfold bdV bdT
 rw [if_neg (by omega), if_neg (by omega), if_neg (by omega), show 2 + i - 2 = i by omega, show 2 + R.length + k - 2 - R.length = k by omega]
theorem bdV_col (R C : List R2) (X : List (List R2)) (k : Nat) (h : 1 ≤ R.length) : bdV R C X (2 + R.length + k) 1 = .agg #[.int .i64 (rAt C k).1, .int .i64 (rAt C k).2] := by
 unfold bdV bdT
 rw [if_neg (by omega), if_neg (by omega), if_pos rfl, show 2 + R.length + k - 2 - R.length = k by omega]
theorem dec_or {b : Bool} {p : Prop} [Decidable p] {q r : Prop} (hb : b = true ↔ q) (hr : (q ∨ p) ↔ r) : (b || decide p) = true ↔ r := by
 rw [Bool.or_eq_true, decide_eq_true_eq, hb, hr]
section
variable (RA : Option Addr) (rc : Nat) (CA : Option Addr) (cc : Nat) (XA : Option Addr) (xc : Nat) (R C : List R2) (X : List (List R2)) (w : World) (hT : TabR w RA CA XA R C X)
include hT
set_option maxHeartbeats 4000000 in
set_option maxRecDepth 20000 in
theorem newNet_any (hV : Valid R C X) : Calls Try.prog 99 #[tabV RA rc CA cc XA xc R C X] w fun e w' => ∃ x : NetX, e = .returned (.pointer (some ⟨x.gn, 0, none⟩)) ∧ St w [.blk x.gn 103 (netC RA rc CA cc XA xc R C X x.bm x.fm), .prd x.bm (MapP pairE (keyM (netE R.length C.length) (bdV R C X)) x.st), .prd x.fm (MapP pairE (fun _ => none) [])] w' := by
 unfold tabV
 have hn := hV.r1
 have hn4 := hV.r4
 have hm := hV.c1
 have hm4 := hV.c4
 obtain ⟨rb, ro, rfl, _⟩ := hT.r.2 (by omega)
 obtain ⟨cb, co, rfl, _⟩ := hT.c.2 (by omega)
 have hx := hV.x
 obtain ⟨xb, xo, rfl, _⟩ := (show ∃ xb xo, XA = some ⟨xb, xo, none⟩ ∧ True by
  obtain ⟨b, o, he, _⟩ := nest_gen hT.x (show 0 < X.length by omega)
  exact ⟨b, o, he, trivial⟩)
 refine fn_v tk (n := 82) (A := []) Try.func99 rfl rfl (Nat.le_of_ble_eq_true rfl) (St.nil (Below.refl _ _)) ?_
 ((conv => whnf); (repeat ((first | (apply VLdN.mk; (focus ((repeat (first | (with_reducible apply ldn_blk) | (with_reducible apply ldn_skip))); done)); exact rfl) | (apply VNew.mk; intro g hg)); (conv => whnf))); apply VStop.mk)
 revert g hg
 intro gt hgt
 refine ot_makeMapF pairE (by decide) rfl rfl rfl (fun bm hbm => ?_)
 refine ot_makeMapF pairE (by decide) rfl rfl rfl (fun fm hfm => ?_)
 apply ot_v tk
 ((conv => whnf); (repeat ((first | (apply VLd.mk; (focus ((repeat (first | ((with_reducible apply ld_blk); exact rfl) | (with_reducible apply ld_skip))); done))) | (apply VNew.mk; intro g hg)); (conv => whnf))); apply VStop.mk)
 refine ot_updF (k := ((1 : Int), (0 : Int))) pairK mapB rfl rfl rfl rfl rfl (by exact rfl) (by exact rfl) (.there (.there .here)) ?_
 have hnil : (fun _ => none : Int × Int → Option Value) = keyM (fun _ _ => false) (bdV R C X) := by
  funext p
  unfold keyM mapN
  split <;> rfl
 have h0 := keyM_upd (fun _ _ => false) (bdV R C X) (bdV R C X) 1 0 (.agg #[.int .i64 0, .int .i64 192]) rfl fun _ _ _ h => by cases h
 rw [← hnil] at h0
 change updM _ ((1 : Int), (0 : Int)) _ = _ at h0
 rw [h0]
 apply ot_v tk
 ((conv => whnf); (repeat ((apply VLd.mk; (focus ((repeat (first | ((with_reducible apply ld_blk); exact rfl) | (with_reducible apply ld_skip))); done))); (conv => whnf))); apply VStop.mk)
 revert g hg
 intro gn hgn
 refine v_loop (fun gm ds ts A => ds = [] ∧ ∃ i e, i + gm = R.length ∧ (∀ u v, e u v = true ↔ ((u = 1 ∧ v = 0) ∨ (u = 0 ∧ 2 ≤ v ∧ v < 2 + i) ∨ (2 ≤ u ∧ u < 2 + i ∧ 2 + R.length ≤ v ∧ v < 2 + R.length + C.length))) ∧ A = [.blk gn 103 [.slice (some ⟨rb, ro, none⟩) R.length rc, .slice (some ⟨cb, co, none⟩) C.length cc, .slice (some ⟨xb, xo, none⟩) X.length xc, .map (some bm), .map (some fm)], .prd fm (MapP pairE (fun _ => none) []), .prd bm (MapP pairE (keyM e (bdV R C X)) []), .blk gt 25 [.slice (some ⟨rb, ro, none⟩) R.length rc, .slice (some ⟨cb, co, none⟩) C.length cc, .slice (some ⟨xb, xo, none⟩) X.length xc]] ∧ ts = [(1, .pointer (some ⟨gt, 0, none⟩)), (3, .pointer (some ⟨gn, 0, none⟩)), (22, .slice (some ⟨rb, ro, none⟩) R.length rc), (23, .int .i64 (R.length : Int)), (24, .int .i64 (i : Int))]) R.length
  (l := [(1, _), (3, _), (22, _), (23, _), (24, _)]) (B := _) ?_ (List.Sublist.refl _) ⟨rfl, 0, (fun a b => false || decide (a = 1 ∧ b = 0)), by omega, fun u v => (by dsimp only; rw [Bool.false_or, decide_eq_true_eq]; omega), rfl, rfl⟩ ?_
 ·exact ⟨rfl, rfl, rfl, rfl, rfl, trivial⟩
 clear h0
 rintro gm ds ts A ⟨rfl, i, e, hi, hE, rfl, rfl⟩
 by_cases hlt : i < R.length
 ·have hrc := hT.row hlt
  have hix : i < X.length := by omega
  have hxl := hV.xs _ (List.getElem_mem hix)
  obtain ⟨b, o, he, B, c, hce, hrd⟩ := nest_gen hT.x hix
  cases he
  obtain ⟨b2, o2, rfl, _⟩ := hrd.2 (by omega)
  have hro := fun w1 => row_any gn i w1 (by omega)
  have hk1 := keyM_upd e (bdV R C X) (bdV R C X) 0 (2 + i) _ (bdV_row R C X i).symm fun _ _ _ _ => rfl
  (apply tr_v tk; (conv => whnf); (repeat ((first | ((first | apply VStop.mk | apply VCall.stop); (first | refine tr_region_draw (id := 6) (by kernel_rfl) [0, 1, 2, 3, 4, 5, 8, 6, 7, 9] [.rd, .rd, .rd, .rd, .rd, .rd, .rd, .cr, .rd, .wr] rfl (by kernel_rfl) ?_ | (refine ot_updF (k := (((0 : Nat) : Int), ((2 + i : Nat) : Int))) pairK mapB rfl rfl rfl rfl rfl (by exact rfl) (by exact rfl) (.there (.there (.there .here))) ?_)); apply ot_v tk) | (apply VIx.mk (j := i); exact rfl; omega) | (apply VLdN.mk; (first | exact hrc _); exact rfl) | (apply VLd.mk; first | exact hce _) | (apply VCall.q; kernel_rfl; (focus (intro w1 hs; first | with_reducible apply hro w1))) | (apply VLd.mk; (focus ((repeat (first | ((with_reducible apply ld_blk); exact rfl) | (with_reducible apply ld_skip))); done))) | (apply VLdN.mk; (focus ((repeat (first | (with_reducible apply ldn_blk) | (with_reducible apply ldn_skip))); done)); exact rfl) | apply VBr.t | (apply v_t; omega) | (apply VNew.mk; intro g hg) | (apply VSt.mk; (focus ((repeat (first | (with_reducible exact At.here) | (with_reducible apply At.there))); done)); exact rfl)); (conv => whnf))); apply VStop.mk)
  rw [hk1]
  refine v_loop (fun gm ds ts A => ds = [] ∧ ∃ k e, k + gm = C.length ∧ (∀ u v, e u v = true ↔ ((u = 1 ∧ v = 0) ∨ (u = 0 ∧ 2 ≤ v ∧ v < 2 + i + 1) ∨ (2 ≤ u ∧ u < 2 + i ∧ 2 + R.length ≤ v ∧ v < 2 + R.length + C.length) ∨ (u = 2 + i ∧ 2 + R.length ≤ v ∧ v < 2 + R.length + k))) ∧ A = [.blk gn 103 [.slice (some ⟨rb, ro, none⟩) R.length rc, .slice (some ⟨cb, co, none⟩) C.length cc, .slice (some ⟨xb, xo, none⟩) X.length xc, .map (some bm), .map (some fm)], .prd fm (MapP pairE (fun _ => none) []), .prd bm (MapP pairE (keyM e (bdV R C X)) []), .blk gt 25 [.slice (some ⟨rb, ro, none⟩) R.length rc, .slice (some ⟨cb, co, none⟩) C.length cc, .slice (some ⟨xb, xo, none⟩) X.length xc]] ∧ ts = [(1, .pointer (some ⟨gt, 0, none⟩)), (3, .pointer (some ⟨gn, 0, none⟩)), (22, .slice (some ⟨rb, ro, none⟩) R.length rc), (23, .int .i64 (R.length : Int)), (24, .int .i64 (i : Int)), (4, .int .i64 (i : Int)), (42, .slice (some ⟨b2, o2, none⟩) X[i].length c), (43, .int .i64 (X[i].length : Int)), (44, .int .i64 (k : Int))]) C.length
   (l := [(1, _), (3, _), (22, _), (23, _), (24, _), (4, _), (42, _), (43, _), (44, _)]) (B := [_, _, _, _]) ?_ (.cons _ (List.Sublist.refl _)) ⟨rfl, 0, (fun a b => e a b || decide (a = 0 ∧ b = 2 + i)), by omega, fun u v => (dec_or (hE u v) (by omega)), rfl, rfl⟩ ?_
  ·exact ⟨rfl, rfl, rfl, rfl, rfl, rfl, rfl, rfl, rfl, trivial⟩
  clear hk1 hE e
  rintro gm2 ds ts A ⟨rfl, k, e, hk, hE, rfl, rfl⟩
  by_cases hkt : k < C.length
  ·have hcx := rg_cells hrd (show k < X[i].length by omega) (by omega)
   have hxi : rAt X[i] k = xAt X i k := by unfold xAt; rw [List.getElem?_eq_getElem hix, Option.getD_some]
   rw [hxi] at hcx
   have hco := fun w1 h => column_any (some ⟨rb, ro, none⟩) rc R gn k w1 h (by omega) (by omega)
   have hk1 := keyM_upd e (bdV R C X) (bdV R C X) (2 + i) (2 + R.length + k) _ (bdV_cell R C X i k).symm fun _ _ _ _ => rfl
   (apply tr_v tk; (conv => whnf); (repeat ((first | ((first | apply VStop.mk | apply VCall.stop); (first | refine tr_region_draw (id := 10) (by kernel_rfl) [0, 1, 2, 3, 4, 5, 7, 8, 11, 6, 9, 10, 12] [.rd, .rd, .rd, .rd, .rd, .rd, .rd, .rd, .rd, .cr, .cr, .rd, .wr] rfl (by kernel_rfl) ?_ | (refine ot_updF (k := (((2 + i : Nat) : Int), ((2 + R.length + k : Nat) : Int))) pairK mapB rfl rfl rfl rfl rfl (by exact rfl) (by exact rfl) (.there (.there (.there .here))) ?_)); apply ot_v tk) | (apply VIx.mk (j := k); exact rfl; omega) | (apply VLdN.mk; (first | exact hcx _); exact rfl) | (apply VCall.q; kernel_rfl; (focus (intro w1 hs; first | with_reducible apply hro w1 | ((with_reducible apply hco w1); exact cell_blk (by (repeat (first | exact List.Mem.head _ | assumption | refine List.Mem.tail _ ?_))) rfl w1 hs)))) | (apply VLd.mk; (focus ((repeat (first | ((with_reducible apply ld_blk); exact rfl) | (with_reducible apply ld_skip))); done))) | (apply VLdN.mk; (focus ((repeat (first | (with_reducible apply ldn_blk) | (with_reducible apply ldn_skip))); done)); exact rfl) | (apply VRng.mk; omega) | apply VBr.t | (apply v_t; omega) | (apply VNew.mk; intro g hg) | (apply VSt.mk; (focus ((repeat (first | (with_reducible exact At.here) | (with_reducible apply At.there))); done)); exact rfl)); (conv => whnf))))
   rw [hk1]
   exact v_rnd (gm2 - 1) (by omega) (l := [(1, _), (3, _), (22, _), (23, _), (24, _), (4, _), (42, _), (43, _), (44, _)]) (B := [_, _, _, _]) ⟨rfl, rfl, rfl, rfl, rfl, rfl, rfl, rfl, rfl, trivial⟩ (.cons _ (List.Sublist.refl _)) ⟨rfl, k + 1, (fun a b => e a b || decide (a = 2 + i ∧ b = 2 + R.length + k)), by omega, fun u v => (dec_or (hE u v) (by omega)), rfl, rfl⟩
  ·obtain rfl : C.length = k := by omega
   (apply tr_v tk; (conv => whnf); (repeat ((first | (apply VRng.mk; omega) | apply VBr.f | (apply v_f; omega)); (conv => whnf))))
   exact v_rnd (gm - 1) (by omega) (l := [(1, _), (3, _), (22, _), (23, _), (24, _)]) (B := [_, _, _, _]) ⟨rfl, rfl, rfl, rfl, rfl, trivial⟩ (List.Sublist.refl _) ⟨rfl, i + 1, e, by omega, fun u v => (by rw [hE u v]; omega), rfl, rfl⟩
 ·obtain rfl : i = R.length := by omega
  (apply tr_v tk; (conv => whnf); (repeat ((first | (apply VLd.mk; (focus ((repeat (first | ((with_reducible apply ld_blk); exact rfl) | (with_reducible apply ld_skip))); done))) | apply VBr.f | (apply v_f; omega)); (conv => whnf))); apply VStop.mk)
  clear hi hlt
  refine v_loop (fun gm ds ts A => ds = [] ∧ ∃ k e, k + gm = C.length ∧ (∀ u v, e u v = true ↔ ((u = 1 ∧ v = 0) ∨ (u = 0 ∧ 2 ≤ v ∧ v < 2 + R.length) ∨ (2 ≤ u ∧ u < 2 + R.length ∧ 2 + R.length ≤ v ∧ v < 2 + R.length + C.length) ∨ (2 + R.length ≤ u ∧ u < 2 + R.length + k ∧ v = 1))) ∧ A = [.blk gn 103 [.slice (some ⟨rb, ro, none⟩) R.length rc, .slice (some ⟨cb, co, none⟩) C.length cc, .slice (some ⟨xb, xo, none⟩) X.length xc, .map (some bm), .map (some fm)], .prd fm (MapP pairE (fun _ => none) []), .prd bm (MapP pairE (keyM e (bdV R C X)) []), .blk gt 25 [.slice (some ⟨rb, ro, none⟩) R.length rc, .slice (some ⟨cb, co, none⟩) C.length cc, .slice (some ⟨xb, xo, none⟩) X.length xc]] ∧ ts = [(1, .pointer (some ⟨gt, 0, none⟩)), (3, .pointer (some ⟨gn, 0, none⟩)), (64, .slice (some ⟨cb, co, none⟩) C.length cc), (65, .int .i64 (C.length : Int)), (66, .int .i64 (k : Int))]) C.length
   (l := [(1, _), (3, _), (64, _), (65, _), (66, _)]) (B := [_, _, _, _]) ?_ (List.Sublist.refl _) ⟨rfl, 0, e, by omega, fun u v => (by rw [hE u v]; omega), rfl, rfl⟩ ?_
  ·exact ⟨rfl, rfl, rfl, rfl, rfl, trivial⟩
  clear hE e
  rintro gm2 ds ts A ⟨rfl, k, e, hk, hE, rfl, rfl⟩
  by_cases hkt : k < C.length
  ·have hcx := hT.col hkt
   have hco := fun w1 h => column_any (some ⟨rb, ro, none⟩) rc R gn k w1 h (by omega) (by omega)
   have hk1 := keyM_upd e (bdV R C X) (bdV R C X) (2 + R.length + k) 1 _ (bdV_col R C X k hn).symm fun _ _ _ _ => rfl
   (apply tr_v tk; (conv => whnf); (repeat ((first | ((first | apply VStop.mk | apply VCall.stop); (first | refine tr_region_draw (id := 16) (by kernel_rfl) [0, 1, 2, 3, 4, 5, 8, 6, 7, 9] [.rd, .rd, .rd, .rd, .rd, .rd, .rd, .cr, .rd, .wr] rfl (by kernel_rfl) ?_ | (refine ot_updF (k := (((2 + R.length + k : Nat) : Int), ((1 : Nat) : Int))) pairK mapB rfl rfl rfl rfl rfl (by exact rfl) (by exact rfl) (.there (.there (.there .here))) ?_)); apply ot_v tk) | (apply VIx.mk (j := k); exact rfl; omega) | (apply VLdN.mk; (first | exact hcx _); exact rfl) | (apply VCall.q; kernel_rfl; (focus (intro w1 hs; first | ((with_reducible apply hco w1); exact cell_blk (by (repeat (first | exact List.Mem.head _ | assumption | refine List.Mem.tail _ ?_))) rfl w1 hs)))) | (apply VLd.mk; (focus ((repeat (first | ((with_reducible apply ld_blk); exact rfl) | (with_reducible apply ld_skip))); done))) | (apply VLdN.mk; (focus ((repeat (first | (with_reducible apply ldn_blk) | (with_reducible apply ldn_skip))); done)); exact rfl) | (apply VRng.mk; omega) | apply VBr.t | (apply v_t; omega) | (apply VNew.mk; intro g hg) | (apply VSt.mk; (focus ((repeat (first | (with_reducible exact At.here) | (with_reducible apply At.there))); done)); exact rfl)); (conv => whnf))))
   rw [hk1]
   exact v_rnd (gm2 - 1) (by omega) (l := [(1, _), (3, _), (64, _), (65, _), (66, _)]) (B := [_, _, _, _]) ⟨rfl, rfl, rfl, rfl, rfl, trivial⟩ (.cons _ (List.Sublist.refl _)) ⟨rfl, k + 1, (fun a b => e a b || decide (a = 2 + R.length + k ∧ b = 1)), by omega, fun u v => (dec_or (hE u v) (by omega)), rfl, rfl⟩
  ·obtain rfl : C.length = k := by omega
   have he : e = netE R.length C.length := by
    funext u v
    rw [Bool.eq_iff_iff, hE u v, netE_iff]
    rfl
   subst he
   (apply tr_v tk; (conv => whnf); (repeat ((first | apply VBr.f | (apply v_f; omega)); (conv => whnf))))
   (apply VRet.mk)
   refine ret1 (by first | exact .inl rfl | exact .inr rfl) rfl (by exact rv_tmp rfl) ?_
   exact fun w hs => ⟨⟨gn, bm, fm, []⟩, rfl, Pick.st (by ((try dsimp only); repeat (first | exact Pick.nil | ((apply Pick.cons); (focus (repeat (first | exact Rem.here | apply Rem.there)); done))))) hs⟩
end
end Go.Proofs.Ytalcccgialpjgaa
