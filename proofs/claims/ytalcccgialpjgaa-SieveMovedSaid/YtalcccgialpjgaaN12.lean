/- best; the greatest and the least along an edge: lemmas for the rows of this seat. No conditions. -/
import Derived.Test.YtalcccgialpjgaaN11
set_option linter.all false
namespace Go.Proofs.Ytalcccgialpjgaa
open Go.RowKit
/-! ## best; the greatest and the least along an edge -/
def iAt (l : List Int) (k : Nat) : Int := l[k]?.getD 0
theorem iAt_cell {w : World} {n : Nat} {b o : Nat} {l : List Int} (h : Reads w w.heap.size 1 (some ⟨b, o, none⟩) n (i64s l)) {k : Nat} (hk : k < n) (A : List Chunk) : CellAt w A b (o + k * 1) (.int .i64 (iAt l k)) := int_cell h hk A
/-- The least of several, the first of those that are equal. -/
def bestP : List Int → Int
 | [] => 0
 | a :: l => l.foldl (fun o x => if x < o then x else o) a
theorem bestP_one (a : Int) : bestP [a] = a := rfl
theorem bestP_two (a b : Int) : bestP [a, b] = if b < a then b else a := rfl
set_option maxRecDepth 20000 in
theorem less_any (a b : Int) (w : World) : Calls Try.prog 95 #[.int .i64 a, .int .i64 b] w fun e w' => e = .returned (.bool (decide (a < b))) ∧ Below w.heap.size w w' := by
 refine fn_v tk (n := 8) (A := []) Try.func95 rfl rfl (Nat.le_of_ble_eq_true rfl) (St.nil (Below.refl _ _)) ?_
 ((conv => whnf); (repeat (apply v_d; (conv => whnf))))
 ((apply VRet.mk); refine ret1 (by first | exact .inl rfl | exact .inr rfl) rfl (by exact rv_tmp rfl) ?_; exact fun w h => ⟨rfl, h.base⟩)
set_option maxRecDepth 20000 in
theorem best_any (b o cap : Nat) (l : List Int) (w : World) (h : Reads w w.heap.size 1 (some ⟨b, o, none⟩) l.length (i64s l)) (hl : 1 ≤ l.length) (hm : l.length ≤ 1000) (hc : l.length ≤ cap) :
  Calls Try.prog 94 #[.slice (some ⟨b, o, none⟩) l.length cap, .func (.func 95) #[] #[]] w fun e w' => e = .returned (.int .i64 (bestP l)) ∧ Below w.heap.size w w' := by
 have hcell := fun {k} (hk : k < l.length) A => iAt_cell h hk A
 have h0 := hcell hl
 rw [Nat.zero_mul, Nat.add_zero] at h0
 refine fn_v tk (n := 25) (A := []) Try.func94 rfl rfl (Nat.le_of_ble_eq_true rfl) (St.nil (Below.refl _ _)) ?_
 ((conv => whnf); (repeat ((first | (apply VLd.mk; exact h0 _) | (apply VIx.mk (j := 0); exact rfl; omega)); (conv => whnf))); apply VStop.mk)
 refine ot_slice_lo tk rfl rfl rfl rfl rfl rfl rfl rfl (lo := 1) rfl hl ?_
 obtain ⟨AD, hAD, hAD2⟩ : ∃ AD : Addr, AD = (if cap = 1 then ⟨b, o, none⟩ else ⟨b, o + 1 * Try.t2.size, none⟩) ∧ (2 ≤ l.length → AD = ⟨b, o + 1, none⟩) := ⟨_, rfl, fun h => by rw [if_neg (by omega)]; rfl⟩
 rw [← hAD]
 clear hAD
 have hb0 : iAt l 0 = bestP (l.take (0 + 1)) := by
  cases l with
  | nil => simp at hl
  | cons a l => rfl
 rw [hb0]
 apply ot_v tk
 ((conv => whnf); apply VStop.mk)
 refine v_loop (fun gm ds ts A => ds = [] ∧ A = [] ∧ ∃ j, j + gm = l.length - 1 ∧ ts = [(1, .func (.func 95) #[] #[]), (5, .int .i64 (bestP (l.take (j + 1)))), (12, .slice (some AD) (l.length - 1) (cap - 1)), (13, .int .i64 ((l.length - 1 : Nat) : Int)), (14, .int .i64 (j : Int))]) (l.length - 1) (l := [(1, _), (5, _), (12, _), (13, _), (14, _)]) (B := _) ?_ (List.Sublist.refl _) ⟨rfl, rfl, 0, by omega, rfl⟩ ?_
 ·exact ⟨rfl, rfl, rfl, rfl, rfl, trivial⟩
 rintro gm ds ts A ⟨rfl, rfl, j, hj, rfl⟩
 by_cases hlt : j + 1 < l.length
 ·obtain rfl := hAD2 (by omega)
  have hx := hcell hlt
  have e1 : (o + 1) + j * 1 = o + (j + 1) * 1 := by omega
  have hst : bestP (l.take (j + 1 + 1)) = if iAt l (j + 1) < bestP (l.take (j + 1)) then iAt l (j + 1) else bestP (l.take (j + 1)) := by
   have h1 : l.take (j + 1 + 1) = l.take (j + 1) ++ [iAt l (j + 1)] := by
    rw [List.take_add_one, List.getElem?_eq_getElem hlt]
    unfold iAt
    rw [List.getElem?_eq_getElem hlt]; rfl
   rw [h1]
   cases l with
   | nil => simp at hl
   | cons a l => 
    rw [List.take_succ_cons, List.cons_append]
    show List.foldl _ _ (_ ++ _) = _
    rw [List.foldl_append]
    rfl
  have hf := fun w1 => less_any (iAt l (j + 1)) (bestP (l.take (j + 1))) w1
  generalize iAt l (j + 1) = x at *
  generalize bestP (l.take (j + 1)) = y at *
  by_cases hxy : x < y
  ·rw [if_pos hxy] at hst
   rw [decide_eq_true hxy] at hf
   (apply tr_v tk; (conv => whnf); (repeat ((first | (apply VIx.mk (j := j); exact rfl; omega) | (apply VLd.mk; rw [e1]; exact hx _) | (apply VCall.q; kernel_rfl; (focus (intro w1 hs; first | with_reducible apply hf w1))) | (apply VRng.mk; omega) | apply VBr.t | (apply v_t; omega)); (conv => whnf))))
   exact v_rnd (gm - 1) (by omega) (l := [(1, _), (5, _), (12, _), (13, _), (14, _)]) (B := []) ⟨rfl, rfl, rfl, rfl, rfl, trivial⟩ (List.nil_sublist _) ⟨rfl, rfl, j + 1, by omega, by rw [hst]; rfl⟩
  ·rw [if_neg hxy] at hst
   rw [decide_eq_false hxy] at hf
   (apply tr_v tk; (conv => whnf); (repeat ((first | (apply VIx.mk (j := j); exact rfl; omega) | (apply VLd.mk; rw [e1]; exact hx _) | (apply VCall.q; kernel_rfl; (focus (intro w1 hs; first | with_reducible apply hf w1))) | (apply VRng.mk; omega) | apply VBr.t | apply VBr.f | (apply v_t; omega)); (conv => whnf))))
   exact v_rnd (gm - 1) (by omega) (l := [(1, _), (5, _), (12, _), (13, _), (14, _)]) (B := []) ⟨rfl, rfl, rfl, rfl, rfl, trivial⟩ (List.nil_sublist _) ⟨rfl, rfl, j + 1, by omega, by rw [hst]; rfl⟩
 ·rw [List.take_of_length_le (show l.length ≤ j + 1 by omega)]
  (apply tr_v tk; (conv => whnf); (repeat ((first | apply VBr.f | (apply v_f; omega)); (conv => whnf))))
  ((apply VRet.mk); refine ret1 (by first | exact .inl rfl | exact .inr rfl) rfl (by exact rv_tmp rfl) ?_; exact fun w h => ⟨rfl, h.base⟩)
/-! ### plainly -/
/-- A way that leaves out an edge, and this edge back. -/
theorem greedy_step {n m : Nat} {lo hi fl : Nat → Nat → Int} (hB : Bnds n m lo hi) (hg0 : ∀ u v, netE n m u v = false → fl u v = 0) (hc : Circ (2 + n + m) lo hi fl) {seen : Nat → Int} {f t : Nat} (hf : f < 2 + n + m) (ht : t < 2 + n + m) (he : netE n m t f = true ∨ netE n m f t = true) {a : Int} {l : List (Nat × Nat)} (hw : WayS seen f t l) (hal : Along n m lo hi fl a l) (ha : 0 < a) (har : a ≤ res lo hi fl t f) (hno : ∀ x ∈ l, Far x (t, f)) :
  (∀ u v, netE n m u v = false → pushE (netE n m) a (l.foldl (pushE (netE n m) a) fl) (t, f) u v = 0) ∧ Circ (2 + n + m) lo hi (pushE (netE n m) a (l.foldl (pushE (netE n m) a) fl) (t, f)) ∧ res lo hi (pushE (netE n m) a (l.foldl (pushE (netE n m) a) fl) (t, f)) t f = res lo hi fl t f - a ∧ (∀ u v, (u = t ∧ v = f) ∨ (u = f ∧ v = t) → l.foldl (pushE (netE n m) a) fl u v = fl u v) := by
 have hfl : Flow n m lo hi fl := ⟨hg0, hc.inb⟩
 have hf1 := Along.flow hB (by omega) hfl hal
 have hsame : ∀ (l : List (Nat × Nat)) (g : Nat → Nat → Int), (∀ x ∈ l, Far x (t, f)) → ∀ u v, (u = t ∧ v = f) ∨ (u = f ∧ v = t) → l.foldl (pushE (netE n m) a) g u v = g u v := by
  intro l
  induction l with
  | nil => exact fun _ _ _ _ _ => rfl
  | cons x l ih =>
   intro g hx u v huv
   rw [List.foldl_cons, ih _ (fun y hy => hx y (.tail _ hy)) u v huv]
   obtain ⟨h1, h2⟩ := hx x (.head _)
   obtain ⟨x1, x2⟩ := x
   simp only [ne_eq, Prod.mk.injEq] at h1 h2
   unfold pushE
   dsimp only
   split
   ·dsimp only; rw [if_neg (by omega)]
   ·dsimp only; rw [if_neg (by omega)]
 have hs := hsame l fl hno
 have hne : t ≠ f := by
  rintro rfl
  rcases he with h | h <;> (have := netE_one h; rw [h] at this; cases this)
 have hr1 : res lo hi (l.foldl (pushE (netE n m) a) fl) t f = res lo hi fl t f := by
  unfold res
  rw [hs t f (.inl ⟨rfl, rfl⟩), hs f t (.inr ⟨rfl, rfl⟩)]
 refine ⟨pushE_g0 hf1.g0 he, ⟨inB_pushE hB.ok (by omega) hf1.inb ht hf (by rw [hr1]; exact har) he, fun v hv => ?_⟩, ?_, hs⟩
 ·have h1 := exc_pushE (e := netE n m) (a := a) (g := l.foldl (pushE (netE n m) a) fl) ht hf v hv
  have h2 := exc_way (e := netE n m) (a := a) (g := fl) hw.way (fun x hx => ⟨(hal.lt x hx).1, (hal.lt x hx).2.1⟩) v hv
  have h3 := hc.exc v hv
  rw [h1, h2, h3]
  split <;> split <;> omega
 ·generalize l.foldl (pushE (netE n m) a) fl = g1 at hs ⊢
  rcases he with h | h
  ·have h1 := netE_one h
   have e1 : pushE (netE n m) a g1 (t, f) t f = fl t f + a := by
    unfold pushE
    rw [if_pos h]
    dsimp only
    rw [if_pos ⟨rfl, rfl⟩, hs t f (.inl ⟨rfl, rfl⟩)]
   have e2 : pushE (netE n m) a g1 (t, f) f t = fl f t := by
    unfold pushE
    rw [if_pos h]
    dsimp only
    rw [if_neg (by omega), hs f t (.inr ⟨rfl, rfl⟩)]
   unfold res
   rw [e1, e2]; omega
  ·have h1 := netE_one h
   have hq : ¬(netE n m t f = true) := by rw [h1]; simp
   have e1 : pushE (netE n m) a g1 (t, f) f t = fl f t - a := by
    unfold pushE
    rw [if_neg hq]
    dsimp only
    rw [if_pos ⟨rfl, rfl⟩, hs f t (.inr ⟨rfl, rfl⟩)]
   have e2 : pushE (netE n m) a g1 (t, f) t f = fl t f := by
    unfold pushE
    rw [if_neg hq]
    dsimp only
    rw [if_neg (by omega), hs t f (.inl ⟨rfl, rfl⟩)]
   unfold res
   rw [e1, e2]; omega
/-- Nothing more can go round. -/
def Spent (n m : Nat) (lo hi fl : Nat → Nat → Int) (f t : Nat) : Prop := res lo hi fl t f ≤ 0 ∨ ∃ S : Nat → Bool, S f = true ∧ S t = false ∧ ShutBut (2 + n + m) lo hi fl S t f
theorem Spent.most {n m : Nat} {lo hi fl g : Nat → Nat → Int} (hB : Bnds n m lo hi) {p q : Nat} (he : netE n m p q = true) (hc : Circ (2 + n + m) lo hi fl) (hc' : Circ (2 + n + m) lo hi g) (h : Spent n m lo hi fl q p) : g p q ≤ fl p q := by
 have hlt := netE_lt he
 have h1 := netE_one he
 have b1 := hc.inb p q hlt.1 hlt.2
 have b2 := hc'.inb p q hlt.1 hlt.2
 have b3 := hc.inb q p hlt.2 hlt.1
 have z1 := hB.lo0 _ _ h1
 have z2 := hB.hi0 _ _ h1
 rcases h with h | ⟨S, s1, s2, hs⟩
 ·unfold res at h; omega
 ·exact hc.most hc' hlt.1 hlt.2 hs s1 s2 ⟨z1, z2⟩
theorem Spent.least {n m : Nat} {lo hi fl g : Nat → Nat → Int} (hB : Bnds n m lo hi) {p q : Nat} (he : netE n m p q = true) (hc : Circ (2 + n + m) lo hi fl) (hc' : Circ (2 + n + m) lo hi g) (h : Spent n m lo hi fl p q) : fl p q ≤ g p q := by
 have hlt := netE_lt he
 have h1 := netE_one he
 have b1 := hc.inb p q hlt.1 hlt.2
 have b2 := hc'.inb p q hlt.1 hlt.2
 have b3 := hc.inb q p hlt.2 hlt.1
 have z1 := hB.lo0 _ _ h1
 have z2 := hB.hi0 _ _ h1
 rcases h with h | ⟨S, s1, s2, hs⟩
 ·unfold res at h; omega
 ·refine hc.least hc' hlt.1 hlt.2 (S := S) (fun u v hu hv hsu hsv h3 h4 => hs u v hu hv hsu hsv h4 h3) s1 s2 ⟨z1, z2⟩
/-! ## span -/
/- frame -/
structure GrX where
 fl : Nat → Nat → Int
 st : List (Nat × (Int × Int))
section
variable {RA : Option Addr} {rc : Nat} {CA : Option Addr} {cc : Nat} {XA : Option Addr} {xc : Nat} {R C : List R2} {X : List (List R2)} {lo hi : Nat → Nat → Int} {gn bm fm : Nat}
set_option maxHeartbeats 4000000 in
set_option maxRecDepth 20000 in
theorem greedy_any (hn : R.length ≤ 4) (hm : C.length ≤ 4) (hB : Bnds R.length C.length lo hi) {fl0 : Nat → Nat → Int} (hg0 : ∀ u v, netE R.length C.length u v = false → fl0 u v = 0) (hc0 : Circ (2 + R.length + C.length) lo hi fl0) {p q : Nat} (he : netE R.length C.length p q = true) {f t : Nat} {dec : Bool} (hd : (dec = true ∧ f = p ∧ t = q) ∨ (dec = false ∧ f = q ∧ t = p))
  {w0 w : World} {stb st0 : List (Nat × (Int × Int))} {rest : List Chunk} {g2 g3 : Nat} {c4 : Chunk} (hs : St w0 (c4 :: .blk g3 98 [.int .i64 (p : Int), .int .i64 (q : Int)] :: .blk g2 93 [.pointer (some ⟨gn, 0, none⟩)] :: netA (netC RA rc CA cc XA xc R C X bm fm) gn bm (keyM (netE R.length C.length) (rngV lo hi)) stb fm (keyM (netE R.length C.length) (intV fl0)) st0 rest) w) :
  Calls Try.prog 91 #[.int .i64 (f : Int), .int .i64 (t : Int), .pointer (some ⟨g2, 0, none⟩), .pointer (some ⟨g3, 0, none⟩)] w fun e w' => ∃ x : GrX, e = .returned (.tuple #[]) ∧ ((∀ u v, netE R.length C.length u v = false → x.fl u v = 0) ∧ Circ (2 + R.length + C.length) lo hi x.fl ∧ Spent R.length C.length lo hi x.fl f t) ∧
   St w0 (c4 :: .blk g3 98 [.int .i64 (p : Int), .int .i64 (q : Int)] :: .blk g2 93 [.pointer (some ⟨gn, 0, none⟩)] :: netA (netC RA rc CA cc XA xc R C X bm fm) gn bm (keyM (netE R.length C.length) (rngV lo hi)) stb fm (keyM (netE R.length C.length) (intV x.fl)) x.st rest) w' := by
 have hN : 2 + R.length + C.length ≤ 10 := by omega
 have hpq := netE_lt he
 have heb := netE_one he
 have hne : p ≠ q := by
  rintro rfl
  rw [he] at heb; cases heb
 have hft : f < 2 + R.length + C.length ∧ t < 2 + R.length + C.length := by rcases hd with ⟨_, rfl, rfl⟩ | ⟨_, rfl, rfl⟩ <;> omega
 have het : netE R.length C.length t f = true ∨ netE R.length C.length f t = true := by
  rcases hd with ⟨_, rfl, rfl⟩ | ⟨_, rfl, rfl⟩
  ·exact .inr he
  ·exact .inl he
 generalize hnc : netC RA rc CA cc XA xc R C X bm fm = nc at *
 have c1 : ∀ {j u A1}, .blk gn 103 nc ∈ A1 → nc[j]? = some u → CellAt w0 A1 gn j u := fun hm hu => cell_blk hm hu
 have nc1 : nc[3]? = some (.map (some bm)) := by rw [← hnc]; rfl
 have nc2 : nc[4]? = some (.map (some fm)) := by rw [← hnc]; rfl
 refine fn_v tk (n := 72) (A := _) Try.func91 rfl rfl (Nat.le_of_ble_eq_true rfl) hs ?_
 ((conv => whnf); apply VStop.mk)
 have hin0 := hc0.inb t f hft.2 hft.1
 have hin1 := hc0.inb f t hft.1 hft.2
 refine v_loop (fun gm ds ts A => ds = [] ∧ ∃ (fl : Nat → Nat → Int) (st : List (Nat × (Int × Int))), (gm : Int) = res lo hi fl t f ∧ (∀ u v, netE R.length C.length u v = false → fl u v = 0) ∧ Circ (2 + R.length + C.length) lo hi fl ∧ A = c4 :: .blk g3 98 [.int .i64 (p : Int), .int .i64 (q : Int)] :: .blk g2 93 [.pointer (some ⟨gn, 0, none⟩)] :: netA nc gn bm (keyM (netE R.length C.length) (rngV lo hi)) stb fm (keyM (netE R.length C.length) (intV fl)) st rest ∧ ts = [(0, .int .i64 (f : Int)), (1, .int .i64 (t : Int)), (2, .pointer (some ⟨g2, 0, none⟩)), (3, .pointer (some ⟨g3, 0, none⟩))]) (res lo hi fl0 t f).toNat
  (l := [(0, _), (1, _), (2, _), (3, _)]) (B := _) ?_ (List.Sublist.refl _) ⟨rfl, fl0, st0, by unfold res at *; omega, hg0, hc0, rfl, rfl⟩ ?_
 ·exact ⟨rfl, rfl, rfl, rfl, trivial⟩
 clear hin0 hin1 hg0 hc0
 rintro gm ds ts A ⟨rfl, fl, st, hgm, hg0, hc, rfl, rfl⟩
 have hflw : Flow R.length C.length lo hi fl := ⟨hg0, hc.inb⟩
 have hG := hflw.net hB
 have hF := fun pre => netF_of (RA := RA) (rc := rc) (CA := CA) (cc := cc) (XA := XA) (xc := xc) (R := R) (C := C) (X := X) (lo := lo) (hi := hi) (gn := gn) (bm := bm) (fm := fm) (stb := stb) (rest := rest) pre
 rw [hnc] at hF
 have hway := fun (fb : Nat) (w1 : World) hA hR => way_any RA rc CA cc XA xc R C X lo hi fl gn bm fm w1 hA hG hn hm fb 0 1 [f] hR (by simp) (fun x hx => by rw [List.mem_singleton] at hx; rw [hx]; exact hft.1) (by simp) p q
 (apply tr_v tk; (conv => whnf); (repeat ((first | (apply VLd.mk; (focus ((repeat (first | ((with_reducible apply ld_blk); exact rfl) | (with_reducible apply ld_skip))); done))) | (apply VLdN.mk; (focus ((repeat (first | (with_reducible apply ldn_blk) | (with_reducible apply ldn_skip))); done)); exact rfl) | (apply VNew.mk; intro g hg)); (conv => whnf))); apply VCall.stop)
 revert g hg
 intro g1 hg1
 refine ot_callQ (X := Nat → Int) (us := []) (vs := []) (fun seen => .agg (fnC seen 10).toArray) (fun seen => WayOK (2 + R.length + C.length) (lessM (fun u v => decide (0 < res lo hi fl u v)) p q) [f] seen) (by decide) rfl rfl rfl rfl (by kernel_rfl) (evl_of rfl) rfl (fun w1 hs => hway _ w1 ((hF [_, _, _, _]).at_ (fl := fl) (st := st) (List.Sublist.refl _) hs) (hs.blk_reads (.head _) rfl)) (fun seen hseen => ?_)
 apply ot_v tk
 have hL1 : ∀ u v, lessM (fun u v => decide (0 < res lo hi fl u v)) p q u v = true → 0 < res lo hi fl u v := fun u v h => by
  unfold lessM at h
  simp only [Bool.and_eq_true, decide_eq_true_eq] at h
  exact h.1.1
 have hL2 : ∀ u v, lessM (fun u v => decide (0 < res lo hi fl u v)) p q u v = true → Far (u, v) (t, f) := fun u v h => by
  unfold lessM at h
  simp only [Bool.and_eq_true, decide_eq_true_eq, Bool.not_eq_true', decide_eq_false_iff_not] at h
  obtain ⟨⟨_, h1⟩, h2⟩ := h
  unfold Far
  simp only [ne_eq, Prod.mk.injEq]
  rcases hd with ⟨_, rfl, rfl⟩ | ⟨_, rfl, rfl⟩ <;> omega
 have hL3 : ∀ u v, ¬(u = t ∧ v = f) → ¬(u = f ∧ v = t) → lessM (fun u v => decide (0 < res lo hi fl u v)) p q u v = false → res lo hi fl u v ≤ 0 := fun u v h1 h2 h => Int.not_lt.1 fun hp => by
  unfold lessM at h
  dsimp only at h
  rw [decide_eq_true hp] at h
  have e1 : decide (u = p ∧ v = q) = false := decide_eq_false (by rcases hd with ⟨_, rfl, rfl⟩ | ⟨_, rfl, rfl⟩ <;> omega)
  have e2 : decide (u = q ∧ v = p) = false := decide_eq_false (by rcases hd with ⟨_, rfl, rfl⟩ | ⟨_, rfl, rfl⟩ <;> omega)
  rw [e1, e2] at h
  simp at h
 have hseen0 := hseen
 obtain ⟨rk0, w1', w2', w3', w4'⟩ := hseen0
 have hsf := w1' f (List.mem_singleton.2 rfl)
 by_cases hz : seen t = 0
 ·have hsp : Spent R.length C.length lo hi fl f t := .inr ⟨setOf seen, by unfold setOf; exact decide_eq_true (by omega), by unfold setOf; exact decide_eq_false (by omega), fun u v hu hv hsu hsv h1 h2 => by
   unfold setOf at hsu hsv
   simp only [decide_eq_true_eq, decide_eq_false_iff_not, ne_eq, Decidable.not_not] at hsu hsv
   refine hL3 u v h1 h2 ?_
   cases hb : lessM (fun u v => decide (0 < res lo hi fl u v)) p q u v with
   | false => rfl
   | true => exact absurd hsv (w3' u v hu hv hsu hb)⟩
  ((conv => whnf); (repeat ((first | (apply VIx.mk (j := t); exact rfl; omega) | (apply VLd.mk; first | exact cell_fnC (f := seen) (n := 10) (by (repeat (first | with_unfolding_all exact List.Mem.head _ | assumption | with_unfolding_all refine List.Mem.tail _ ?_))) (by omega)) | apply VBr.t | (apply v_t; omega) | (apply VNew.mk; intro g hg) | (apply VSt.mk; (focus ((repeat (first | (with_reducible exact At.here) | (with_reducible apply At.there))); done)); exact rfl)); (conv => whnf))))
  (apply VRet.mk)
  exact ret0 (by first | exact .inl rfl | exact .inr rfl) rfl fun w hs => ⟨⟨fl, st⟩, rfl, ⟨hg0, hc, hsp⟩, hs.sub (.cons _ (.cons _ (List.Sublist.refl _)))⟩
 have hlb := keyM_nat (netE R.length C.length) (rngV lo hi) p q
 rw [if_pos he] at hlb
 have hlf := keyM_nat (netE R.length C.length) (intV fl) p q
 rw [if_pos he] at hlf
 have s1 := hG.sg p q
 have s2 := hG.slo p q
 have s3 := hG.shi p q
 have hrs := hG.res he
 obtain ⟨rk, hback⟩ := hseen.back
 have hseen1 : -1 ≤ seen t ∧ seen t ≤ 100 := by
  rcases w2' t hft.2 hz with h | ⟨x, x1, x2, _⟩
  ·rw [List.mem_singleton] at h
   rw [h, hsf]; omega
  ·omega
 by_cases hmu : res lo hi fl t f ≤ 0
 ·have hsp : Spent R.length C.length lo hi fl f t := .inl hmu
  rcases hd with ⟨rfl, rfl, rfl⟩ | ⟨rfl, rfl, rfl⟩
  all_goals
   ((conv => whnf); (repeat ((first | (apply VStop.mk; (first | refine tr_region_lex (id := 2) (by kernel_rfl) [.rd, .rd, .rd, .rd, .rd, .rd, .rd, .rd, .rd, .rd, .rd, .rd, .rd, .rd, .rd] rfl (by kernel_rfl) ?_ | refine tr_region_lex (id := 4) (by kernel_rfl) [.rd, .rd, .rd, .rd, .rd, .rd, .rd, .rd, .rd, .rd, .rd, .rd, .rd, .rd, .rd] rfl (by kernel_rfl) ?_ | (refine ot_look_v hlb pairK mapB zv37 rfl rfl rfl rfl (by exact rfl) (mapAt_mem (by (repeat (first | with_unfolding_all exact List.Mem.head _ | assumption | with_unfolding_all refine List.Mem.tail _ ?_)))) ?_) | (refine ot_look_v hlf pairK mapF zv2 rfl rfl rfl rfl (by exact rfl) (mapAt_mem (by (repeat (first | with_unfolding_all exact List.Mem.head _ | assumption | with_unfolding_all refine List.Mem.tail _ ?_)))) ?_)); apply ot_v tk) | (apply VIx.mk (j := t); exact rfl; omega) | (apply VLd.mk; first | exact cell_fnC (f := seen) (n := 10) (by (repeat (first | with_unfolding_all exact List.Mem.head _ | assumption | with_unfolding_all refine List.Mem.tail _ ?_))) (by omega) | exact c1 (by (repeat (first | with_unfolding_all exact List.Mem.head _ | assumption | with_unfolding_all refine List.Mem.tail _ ?_))) nc1 | exact c1 (by (repeat (first | with_unfolding_all exact List.Mem.head _ | assumption | with_unfolding_all refine List.Mem.tail _ ?_))) nc2) | (apply VLd.mk; (focus ((repeat (first | ((with_reducible apply ld_blk); exact rfl) | (with_reducible apply ld_skip))); done))) | (apply VLdN.mk; (focus ((repeat (first | (with_reducible apply ldn_blk) | (with_reducible apply ldn_skip))); done)); exact rfl) | (apply VRng.mk; omega) | apply VBr.t | apply VBr.f | (apply v_t; omega) | (apply v_f; omega) | (apply VNew.mk; intro g hg) | (apply VSt.mk; (focus ((repeat (first | (with_reducible exact At.here) | (with_reducible apply At.there))); done)); exact rfl)); (conv => whnf))))
   (apply VRet.mk)
   exact ret0 (by first | exact .inl rfl | exact .inr rfl) rfl fun w hs => ⟨⟨fl, st⟩, rfl, ⟨hg0, hc, hsp⟩, hs.sub (.cons _ (.cons _ (List.Sublist.refl _)))⟩
 have hmx : 0 < res lo hi fl t f ∧ res lo hi fl t f ≤ 1000000 := by
  rcases hd with ⟨_, h1, h2⟩ | ⟨_, h1, h2⟩
  ·rw [h1, h2] at hmu ⊢; omega
  ·rw [h1, h2] at hmu ⊢; omega
 have hpu := fun (g6 g1 : Nat) {w1 : World} (hs : St w0 (.blk g6 109 (fnC seen 10) :: .blk g1 3 [.int .i64 (f : Int)] :: c4 :: .blk g3 98 [.int .i64 (p : Int), .int .i64 (q : Int)] :: .blk g2 93 [.pointer (some ⟨gn, 0, none⟩)] :: netA nc gn bm (keyM (netE R.length C.length) (rngV lo hi)) stb fm (keyM (netE R.length C.length) (intV fl)) st rest) w1) => push_any (hF [.blk g6 109 (fnC seen 10), .blk g1 3 [.int .i64 (f : Int)], c4, .blk g3 98 [.int .i64 (p : Int), .int .i64 (q : Int)], .blk g2 93 [.pointer (some ⟨gn, 0, none⟩)]]) hn hm hB hflw (st := st) hs hseen hL1 t hft.2 hz (res lo hi fl t f) hmx.1 hmx.2
 rcases hd with ⟨_, h1, h2⟩ | ⟨_, h1, h2⟩
 ·have hme : fl p q - lo p q = res lo hi fl t f := by rw [h1, h2]; omega
  ((conv => whnf); (repeat ((first | ((first | apply VStop.mk | apply VCall.stop); (first | refine tr_region_lex (id := 2) (by kernel_rfl) [.rd, .rd, .rd, .rd, .rd, .rd, .rd, .rd, .rd, .rd, .rd, .rd, .rd, .rd, .rd] rfl (by kernel_rfl) ?_ | refine tr_region_lex (id := 4) (by kernel_rfl) [.rd, .rd, .rd, .rd, .rd, .rd, .rd, .rd, .rd, .rd, .rd, .rd, .rd, .rd, .rd] rfl (by kernel_rfl) ?_ | (refine ot_look_v hlb pairK mapB zv37 rfl rfl rfl rfl (by exact rfl) (mapAt_mem (by (repeat (first | with_unfolding_all exact List.Mem.head _ | assumption | with_unfolding_all refine List.Mem.tail _ ?_)))) ?_) | (refine ot_look_v hlf pairK mapF zv2 rfl rfl rfl rfl (by exact rfl) (mapAt_mem (by (repeat (first | with_unfolding_all exact List.Mem.head _ | assumption | with_unfolding_all refine List.Mem.tail _ ?_)))) ?_)); apply ot_v tk) | (apply VIx.mk (j := t); exact rfl; omega) | (apply VLd.mk; first | exact cell_fnC (f := seen) (n := 10) (by (repeat (first | with_unfolding_all exact List.Mem.head _ | assumption | with_unfolding_all refine List.Mem.tail _ ?_))) (by omega) | exact c1 (by (repeat (first | with_unfolding_all exact List.Mem.head _ | assumption | with_unfolding_all refine List.Mem.tail _ ?_))) nc1 | exact c1 (by (repeat (first | with_unfolding_all exact List.Mem.head _ | assumption | with_unfolding_all refine List.Mem.tail _ ?_))) nc2) | (apply VLd.mk; (focus ((repeat (first | ((with_reducible apply ld_blk); exact rfl) | (with_reducible apply ld_skip))); done))) | (apply VLdN.mk; (focus ((repeat (first | (with_reducible apply ldn_blk) | (with_reducible apply ldn_skip))); done)); exact rfl) | (apply VRng.mk; omega) | apply VBr.t | apply VBr.f | (apply v_t; omega) | (apply v_f; omega) | (apply VNew.mk; intro g hg) | (apply VSt.mk; (focus ((repeat (first | (with_reducible exact At.here) | (with_reducible apply At.there))); done)); exact rfl)); (conv => whnf))); apply VCall.stop)
  rw [hme]
  revert g hg
  intro g6 hg6
  refine ot_callW (X := Int × (Nat → Nat → Int) × List (Nat × (Int × Int))) (us := []) (vs := []) (fun x => .int .i64 x.1) (fun x => .blk g6 109 (fnC seen 10) :: .blk g1 3 [.int .i64 (f : Int)] :: c4 :: .blk g3 98 [.int .i64 (p : Int), .int .i64 (q : Int)] :: .blk g2 93 [.pointer (some ⟨gn, 0, none⟩)] :: netA nc gn bm (keyM (netE R.length C.length) (rngV lo hi)) stb fm (keyM (netE R.length C.length) (intV x.2.1)) x.2.2 rest)
   (fun x => ∃ r l, WayS seen r t l ∧ r ∈ [f] ∧ Along R.length C.length lo hi fl x.1 l ∧ 0 < x.1 ∧ x.1 ≤ res lo hi fl t f ∧ x.2.1 = l.foldl (pushE (netE R.length C.length) x.1) fl) rfl rfl rfl rfl rfl (by kernel_rfl) (evl_of rfl) rfl (fun w1 hs => hpu g6 g1 hs) ?_
  rintro ⟨a, fl', st'⟩ ⟨r', l', hws', hr', hal, ha0, ha1, hfl'⟩
  dsimp only at hal ha0 ha1 hfl' ⊢
  obtain rfl := List.mem_singleton.1 hr'
  obtain ⟨r2, l2, hws2, _, hl2⟩ := hback t hft.2 hz
  obtain ⟨_, rfl⟩ := hws2.uniq hws'
  have hgs := greedy_step hB hg0 hc hft.1 hft.2 het hws' hal ha0 ha1 fun x hx => hL2 x.1 x.2 (hl2 x hx).2.2.1
  rw [← hfl'] at hgs
  obtain ⟨hg0', hc', hre, hsm⟩ := hgs
  have hpe := hsm p q (by omega)
  have hlf' := keyM_nat (netE R.length C.length) (intV fl') p q
  rw [if_pos he] at hlf'
  have hset := keyM_set (g := fl') he (fl' p q + -a)
  have hpd : pushE (netE R.length C.length) a fl' (t, r') = fun u v => if u = p ∧ v = q then fl' p q + -a else fl' u v := by
   unfold pushE
   dsimp only
   rw [if_neg (by rw [h1, h2, heb]; simp)]
   funext u v
   by_cases h : u = p ∧ v = q
   ·rw [if_pos (by omega), if_pos h, h.1, h.2]; omega
   ·rw [if_neg (by omega), if_neg h]
  rw [← hpd] at hset
  have s4 := (Flow.net hB ⟨hg0', hc'.inb⟩).sg p q
  apply ot_v tk
  ((conv => whnf); (repeat ((first | (apply VStop.mk; refine tr_region_treeV (id := 9) (by kernel_rfl) [.blk g3 98 _, .blk g2 93 _, .blk gn 103 nc] (by (repeat (first | exact hsub _ _ | exact List.nil_sublist _ | exact List.Sublist.refl _ | refine List.Sublist.cons_cons _ ?_ | refine List.Sublist.cons _ ?_))) [0, 1, 2, 3, 4, 6] [5, 7, 8, 9, 10] [.rd, .rd, .rd, .rd, .rd, .rd] (fun i => [.wr, .wr, .wr, .wr, .wr, .wr, .wr, .wr, .wr, .wr, .wr].getD i .wr) _ rfl rfl (by kernel_rfl) ?_; apply ot_v tk) | (apply VLd.mk; exact c1 (by (repeat (first | with_unfolding_all exact List.Mem.head _ | assumption | with_unfolding_all refine List.Mem.tail _ ?_))) nc2) | (apply VLd.mk; (focus ((repeat (first | ((with_reducible apply ld_blk); exact rfl) | (with_reducible apply ld_skip))); done))) | (apply VLdN.mk; (focus ((repeat (first | (with_reducible apply ldn_blk) | (with_reducible apply ldn_skip))); done)); exact rfl) | (apply VRng.mk; omega) | apply VBr.t | (apply v_t; omega)); (conv => whnf))))
  refine ox2 5 8 ?_ ?_
  ·(refine ot_look_v hlf' pairK mapF zv2 rfl rfl rfl rfl (by exact rfl) (mapAt_mem (by (repeat (first | with_unfolding_all exact List.Mem.head _ | assumption | with_unfolding_all refine List.Mem.tail _ ?_)))) ?_; refine ot_nil ?_; refine slist_and (by (repeat (first | exact hsub _ _ | exact List.nil_sublist _ | exact List.Sublist.refl _ | refine List.Sublist.cons_cons _ ?_ | refine List.Sublist.cons _ ?_))) ?_)
   refine ox2 7 8 ?_ ?_
   ·(apply ot_v tk; (conv => whnf); (apply VRng.mk; rw [hpe]; omega; (conv => whnf)); refine slist_and (by (repeat (first | exact hsub _ _ | exact List.nil_sublist _ | exact List.Sublist.refl _ | refine List.Sublist.cons_cons _ ?_ | refine List.Sublist.cons _ ?_))) ?_)
    refine ox1 8 ?_
    (refine ot_entryS (k := ((p : Int), (q : Int))) (A'v := fun s => _ :: _ :: _ :: _ :: _ :: _ :: _ :: .prd fm (MapP pairE (keyM (netE R.length C.length) (intV fl')) ((s, ((p : Int), (q : Int))) :: st')) :: _) hlf' pairK mapF zv2 rfl rfl rfl rfl rfl (by exact rfl) (fun s => .there (.there (.there (.there (.there (.there (.there .here))))))) (fun v1 s1 => ?_); refine ot_nil ?_; refine slist_and (by (repeat (first | exact hsub _ _ | exact List.nil_sublist _ | exact List.Sublist.refl _ | refine List.Sublist.cons_cons _ ?_ | refine List.Sublist.cons _ ?_))) ?_)
    refine ox1 9 ?_
    (apply ot_v tk; (conv => whnf); refine slist_and (by (repeat (first | exact hsub _ _ | exact List.nil_sublist _ | exact List.Sublist.refl _ | refine List.Sublist.cons_cons _ ?_ | refine List.Sublist.cons _ ?_))) ?_)
    refine ox1 10 ?_
    (refine ot_estoreF (k := ((p : Int), (q : Int))) (A' := _ :: _ :: _ :: _ :: _ :: _ :: _ :: .prd fm (MapP pairE (keyM (netE R.length C.length) (intV (pushE (netE R.length C.length) a fl' (t, r')))) ((s1, ((p : Int), (q : Int))) :: st')) :: _) pairK rfl rfl rfl rfl rfl (by exact rfl) (by exact rfl) (.head _) (by rw [hset]; exact .there (.there (.there (.there (.there (.there (.there .here))))))) ?_; refine ot_nil ?_; refine slist_and (by (repeat (first | exact hsub _ _ | exact List.nil_sublist _ | exact List.Sublist.refl _ | refine List.Sublist.cons_cons _ ?_ | refine List.Sublist.cons _ ?_))) ?_)
    refine VT.mk (otx_end ?_)
    exact v_rnd (res lo hi (pushE (netE R.length C.length) a fl' (t, r')) t r').toNat (by omega) (l := [(0, _), (1, _), (2, _), (3, _)]) (B := _) ⟨rfl, rfl, rfl, rfl, trivial⟩ (.cons _ (.cons _ (List.Sublist.refl _))) ⟨rfl, _, _, by omega, hg0', hc', rfl, rfl⟩
   ·(refine ot_entryS (k := ((p : Int), (q : Int))) (A'v := fun s => _ :: _ :: _ :: _ :: _ :: _ :: _ :: .prd fm (MapP pairE (keyM (netE R.length C.length) (intV fl')) ((s, ((p : Int), (q : Int))) :: st')) :: _) hlf' pairK mapF zv2 rfl rfl rfl rfl rfl (by exact rfl) (fun s => .there (.there (.there (.there (.there (.there (.there .here))))))) (fun v1 s1 => ?_); refine ot_nil ?_; refine slist_and (by (repeat (first | exact hsub _ _ | exact List.nil_sublist _ | exact List.Sublist.refl _ | refine List.Sublist.cons_cons _ ?_ | refine List.Sublist.cons _ ?_))) ?_)
    refine ox2 7 9 ?_ ?_
    ·(apply ot_v tk; (conv => whnf); (apply VRng.mk; rw [hpe]; omega; (conv => whnf)); refine slist_and (by (repeat (first | exact hsub _ _ | exact List.nil_sublist _ | exact List.Sublist.refl _ | refine List.Sublist.cons_cons _ ?_ | refine List.Sublist.cons _ ?_))) ?_)
     refine ox1 9 ?_
     (apply ot_v tk; (conv => whnf); refine slist_and (by (repeat (first | exact hsub _ _ | exact List.nil_sublist _ | exact List.Sublist.refl _ | refine List.Sublist.cons_cons _ ?_ | refine List.Sublist.cons _ ?_))) ?_)
     refine ox1 10 ?_
     (refine ot_estoreF (k := ((p : Int), (q : Int))) (A' := _ :: _ :: _ :: _ :: _ :: _ :: _ :: .prd fm (MapP pairE (keyM (netE R.length C.length) (intV (pushE (netE R.length C.length) a fl' (t, r')))) ((s1, ((p : Int), (q : Int))) :: st')) :: _) pairK rfl rfl rfl rfl rfl (by exact rfl) (by exact rfl) (.head _) (by rw [hset]; exact .there (.there (.there (.there (.there (.there (.there .here))))))) ?_; refine ot_nil ?_; refine slist_and (by (repeat (first | exact hsub _ _ | exact List.nil_sublist _ | exact List.Sublist.refl _ | refine List.Sublist.cons_cons _ ?_ | refine List.Sublist.cons _ ?_))) ?_)
     refine VT.mk (otx_end ?_)
     exact v_rnd (res lo hi (pushE (netE R.length C.length) a fl' (t, r')) t r').toNat (by omega) (l := [(0, _), (1, _), (2, _), (3, _)]) (B := _) ⟨rfl, rfl, rfl, rfl, trivial⟩ (.cons _ (.cons _ (List.Sublist.refl _))) ⟨rfl, _, _, by omega, hg0', hc', rfl, rfl⟩
    ·(apply ot_v tk; (conv => whnf); refine slist_and (by (repeat (first | exact hsub _ _ | exact List.nil_sublist _ | exact List.Sublist.refl _ | refine List.Sublist.cons_cons _ ?_ | refine List.Sublist.cons _ ?_))) ?_)
     refine ox1 7 ?_
     (apply ot_v tk; (conv => whnf); (apply VRng.mk; rw [hpe]; omega; (conv => whnf)); refine slist_and (by (repeat (first | exact hsub _ _ | exact List.nil_sublist _ | exact List.Sublist.refl _ | refine List.Sublist.cons_cons _ ?_ | refine List.Sublist.cons _ ?_))) ?_)
     refine ox1 10 ?_
     (refine ot_estoreF (k := ((p : Int), (q : Int))) (A' := _ :: _ :: _ :: _ :: _ :: _ :: _ :: .prd fm (MapP pairE (keyM (netE R.length C.length) (intV (pushE (netE R.length C.length) a fl' (t, r')))) ((s1, ((p : Int), (q : Int))) :: st')) :: _) pairK rfl rfl rfl rfl rfl (by exact rfl) (by exact rfl) (.head _) (by rw [hset]; exact .there (.there (.there (.there (.there (.there (.there .here))))))) ?_; refine ot_nil ?_; refine slist_and (by (repeat (first | exact hsub _ _ | exact List.nil_sublist _ | exact List.Sublist.refl _ | refine List.Sublist.cons_cons _ ?_ | refine List.Sublist.cons _ ?_))) ?_)
     refine VT.mk (otx_end ?_)
     exact v_rnd (res lo hi (pushE (netE R.length C.length) a fl' (t, r')) t r').toNat (by omega) (l := [(0, _), (1, _), (2, _), (3, _)]) (B := _) ⟨rfl, rfl, rfl, rfl, trivial⟩ (.cons _ (.cons _ (List.Sublist.refl _))) ⟨rfl, _, _, by omega, hg0', hc', rfl, rfl⟩
  ·(refine ot_entryS (k := ((p : Int), (q : Int))) (A'v := fun s => _ :: _ :: _ :: _ :: _ :: _ :: _ :: .prd fm (MapP pairE (keyM (netE R.length C.length) (intV fl')) ((s, ((p : Int), (q : Int))) :: st')) :: _) hlf' pairK mapF zv2 rfl rfl rfl rfl rfl (by exact rfl) (fun s => .there (.there (.there (.there (.there (.there (.there .here))))))) (fun v1 s1 => ?_); refine ot_nil ?_; refine slist_and (by (repeat (first | exact hsub _ _ | exact List.nil_sublist _ | exact List.Sublist.refl _ | refine List.Sublist.cons_cons _ ?_ | refine List.Sublist.cons _ ?_))) ?_)
   refine ox2 5 9 ?_ ?_
   ·(refine ot_look_v hlf' pairK mapF zv2 rfl rfl rfl rfl (by exact rfl) (mapAt_mem (by (repeat (first | with_unfolding_all exact List.Mem.head _ | assumption | with_unfolding_all refine List.Mem.tail _ ?_)))) ?_; refine ot_nil ?_; refine slist_and (by (repeat (first | exact hsub _ _ | exact List.nil_sublist _ | exact List.Sublist.refl _ | refine List.Sublist.cons_cons _ ?_ | refine List.Sublist.cons _ ?_))) ?_)
    refine ox2 7 9 ?_ ?_
    ·(apply ot_v tk; (conv => whnf); (apply VRng.mk; rw [hpe]; omega; (conv => whnf)); refine slist_and (by (repeat (first | exact hsub _ _ | exact List.nil_sublist _ | exact List.Sublist.refl _ | refine List.Sublist.cons_cons _ ?_ | refine List.Sublist.cons _ ?_))) ?_)
     refine ox1 9 ?_
     (apply ot_v tk; (conv => whnf); refine slist_and (by (repeat (first | exact hsub _ _ | exact List.nil_sublist _ | exact List.Sublist.refl _ | refine List.Sublist.cons_cons _ ?_ | refine List.Sublist.cons _ ?_))) ?_)
     refine ox1 10 ?_
     (refine ot_estoreF (k := ((p : Int), (q : Int))) (A' := _ :: _ :: _ :: _ :: _ :: _ :: _ :: .prd fm (MapP pairE (keyM (netE R.length C.length) (intV (pushE (netE R.length C.length) a fl' (t, r')))) ((s1, ((p : Int), (q : Int))) :: st')) :: _) pairK rfl rfl rfl rfl rfl (by exact rfl) (by exact rfl) (.head _) (by rw [hset]; exact .there (.there (.there (.there (.there (.there (.there .here))))))) ?_; refine ot_nil ?_; refine slist_and (by (repeat (first | exact hsub _ _ | exact List.nil_sublist _ | exact List.Sublist.refl _ | refine List.Sublist.cons_cons _ ?_ | refine List.Sublist.cons _ ?_))) ?_)
     refine VT.mk (otx_end ?_)
     exact v_rnd (res lo hi (pushE (netE R.length C.length) a fl' (t, r')) t r').toNat (by omega) (l := [(0, _), (1, _), (2, _), (3, _)]) (B := _) ⟨rfl, rfl, rfl, rfl, trivial⟩ (.cons _ (.cons _ (List.Sublist.refl _))) ⟨rfl, _, _, by omega, hg0', hc', rfl, rfl⟩
    ·(apply ot_v tk; (conv => whnf); refine slist_and (by (repeat (first | exact hsub _ _ | exact List.nil_sublist _ | exact List.Sublist.refl _ | refine List.Sublist.cons_cons _ ?_ | refine List.Sublist.cons _ ?_))) ?_)
     refine ox1 7 ?_
     (apply ot_v tk; (conv => whnf); (apply VRng.mk; rw [hpe]; omega; (conv => whnf)); refine slist_and (by (repeat (first | exact hsub _ _ | exact List.nil_sublist _ | exact List.Sublist.refl _ | refine List.Sublist.cons_cons _ ?_ | refine List.Sublist.cons _ ?_))) ?_)
     refine ox1 10 ?_
     (refine ot_estoreF (k := ((p : Int), (q : Int))) (A' := _ :: _ :: _ :: _ :: _ :: _ :: _ :: .prd fm (MapP pairE (keyM (netE R.length C.length) (intV (pushE (netE R.length C.length) a fl' (t, r')))) ((s1, ((p : Int), (q : Int))) :: st')) :: _) pairK rfl rfl rfl rfl rfl (by exact rfl) (by exact rfl) (.head _) (by rw [hset]; exact .there (.there (.there (.there (.there (.there (.there .here))))))) ?_; refine ot_nil ?_; refine slist_and (by (repeat (first | exact hsub _ _ | exact List.nil_sublist _ | exact List.Sublist.refl _ | refine List.Sublist.cons_cons _ ?_ | refine List.Sublist.cons _ ?_))) ?_)
     refine VT.mk (otx_end ?_)
     exact v_rnd (res lo hi (pushE (netE R.length C.length) a fl' (t, r')) t r').toNat (by omega) (l := [(0, _), (1, _), (2, _), (3, _)]) (B := _) ⟨rfl, rfl, rfl, rfl, trivial⟩ (.cons _ (.cons _ (List.Sublist.refl _))) ⟨rfl, _, _, by omega, hg0', hc', rfl, rfl⟩
   ·(apply ot_v tk; (conv => whnf); refine slist_and (by (repeat (first | exact hsub _ _ | exact List.nil_sublist _ | exact List.Sublist.refl _ | refine List.Sublist.cons_cons _ ?_ | refine List.Sublist.cons _ ?_))) ?_)
    refine ox1 5 ?_
    (refine ot_look_v hlf' pairK mapF zv2 rfl rfl rfl rfl (by exact rfl) (mapAt_mem (by (repeat (first | with_unfolding_all exact List.Mem.head _ | assumption | with_unfolding_all refine List.Mem.tail _ ?_)))) ?_; refine ot_nil ?_; refine slist_and (by (repeat (first | exact hsub _ _ | exact List.nil_sublist _ | exact List.Sublist.refl _ | refine List.Sublist.cons_cons _ ?_ | refine List.Sublist.cons _ ?_))) ?_)
    refine ox1 7 ?_
    (apply ot_v tk; (conv => whnf); (apply VRng.mk; rw [hpe]; omega; (conv => whnf)); refine slist_and (by (repeat (first | exact hsub _ _ | exact List.nil_sublist _ | exact List.Sublist.refl _ | refine List.Sublist.cons_cons _ ?_ | refine List.Sublist.cons _ ?_))) ?_)
    refine ox1 10 ?_
    (refine ot_estoreF (k := ((p : Int), (q : Int))) (A' := _ :: _ :: _ :: _ :: _ :: _ :: _ :: .prd fm (MapP pairE (keyM (netE R.length C.length) (intV (pushE (netE R.length C.length) a fl' (t, r')))) ((s1, ((p : Int), (q : Int))) :: st')) :: _) pairK rfl rfl rfl rfl rfl (by exact rfl) (by exact rfl) (.head _) (by rw [hset]; exact .there (.there (.there (.there (.there (.there (.there .here))))))) ?_; refine ot_nil ?_; refine slist_and (by (repeat (first | exact hsub _ _ | exact List.nil_sublist _ | exact List.Sublist.refl _ | refine List.Sublist.cons_cons _ ?_ | refine List.Sublist.cons _ ?_))) ?_)
    refine VT.mk (otx_end ?_)
    exact v_rnd (res lo hi (pushE (netE R.length C.length) a fl' (t, r')) t r').toNat (by omega) (l := [(0, _), (1, _), (2, _), (3, _)]) (B := _) ⟨rfl, rfl, rfl, rfl, trivial⟩ (.cons _ (.cons _ (List.Sublist.refl _))) ⟨rfl, _, _, by omega, hg0', hc', rfl, rfl⟩
 ·have hme : hi p q - fl p q = res lo hi fl t f := by rw [h1, h2]; omega
  ((conv => whnf); (repeat ((first | ((first | apply VStop.mk | apply VCall.stop); (first | refine tr_region_lex (id := 2) (by kernel_rfl) [.rd, .rd, .rd, .rd, .rd, .rd, .rd, .rd, .rd, .rd, .rd, .rd, .rd, .rd, .rd] rfl (by kernel_rfl) ?_ | (refine ot_look_v hlb pairK mapB zv37 rfl rfl rfl rfl (by exact rfl) (mapAt_mem (by (repeat (first | with_unfolding_all exact List.Mem.head _ | assumption | with_unfolding_all refine List.Mem.tail _ ?_)))) ?_) | (refine ot_look_v hlf pairK mapF zv2 rfl rfl rfl rfl (by exact rfl) (mapAt_mem (by (repeat (first | with_unfolding_all exact List.Mem.head _ | assumption | with_unfolding_all refine List.Mem.tail _ ?_)))) ?_)); apply ot_v tk) | (apply VIx.mk (j := t); exact rfl; omega) | (apply VLd.mk; first | exact cell_fnC (f := seen) (n := 10) (by (repeat (first | with_unfolding_all exact List.Mem.head _ | assumption | with_unfolding_all refine List.Mem.tail _ ?_))) (by omega) | exact c1 (by (repeat (first | with_unfolding_all exact List.Mem.head _ | assumption | with_unfolding_all refine List.Mem.tail _ ?_))) nc1 | exact c1 (by (repeat (first | with_unfolding_all exact List.Mem.head _ | assumption | with_unfolding_all refine List.Mem.tail _ ?_))) nc2) | (apply VLd.mk; (focus ((repeat (first | ((with_reducible apply ld_blk); exact rfl) | (with_reducible apply ld_skip))); done))) | (apply VLdN.mk; (focus ((repeat (first | (with_reducible apply ldn_blk) | (with_reducible apply ldn_skip))); done)); exact rfl) | (apply VRng.mk; omega) | apply VBr.f | (apply v_f; omega) | (apply VNew.mk; intro g hg) | (apply VSt.mk; (focus ((repeat (first | (with_reducible exact At.here) | (with_reducible apply At.there))); done)); exact rfl)); (conv => whnf))); apply VCall.stop)
  rw [hme]
  revert g hg
  intro g6 hg6
  refine ot_callW (X := Int × (Nat → Nat → Int) × List (Nat × (Int × Int))) (us := []) (vs := []) (fun x => .int .i64 x.1) (fun x => .blk g6 109 (fnC seen 10) :: .blk g1 3 [.int .i64 (f : Int)] :: c4 :: .blk g3 98 [.int .i64 (p : Int), .int .i64 (q : Int)] :: .blk g2 93 [.pointer (some ⟨gn, 0, none⟩)] :: netA nc gn bm (keyM (netE R.length C.length) (rngV lo hi)) stb fm (keyM (netE R.length C.length) (intV x.2.1)) x.2.2 rest)
   (fun x => ∃ r l, WayS seen r t l ∧ r ∈ [f] ∧ Along R.length C.length lo hi fl x.1 l ∧ 0 < x.1 ∧ x.1 ≤ res lo hi fl t f ∧ x.2.1 = l.foldl (pushE (netE R.length C.length) x.1) fl) rfl rfl rfl rfl rfl (by kernel_rfl) (evl_of rfl) rfl (fun w1 hs => hpu g6 g1 hs) ?_
  rintro ⟨a, fl', st'⟩ ⟨r', l', hws', hr', hal, ha0, ha1, hfl'⟩
  dsimp only at hal ha0 ha1 hfl' ⊢
  obtain rfl := List.mem_singleton.1 hr'
  obtain ⟨r2, l2, hws2, _, hl2⟩ := hback t hft.2 hz
  obtain ⟨_, rfl⟩ := hws2.uniq hws'
  have hgs := greedy_step hB hg0 hc hft.1 hft.2 het hws' hal ha0 ha1 fun x hx => hL2 x.1 x.2 (hl2 x hx).2.2.1
  rw [← hfl'] at hgs
  obtain ⟨hg0', hc', hre, hsm⟩ := hgs
  have hpe := hsm p q (by omega)
  have hlf' := keyM_nat (netE R.length C.length) (intV fl') p q
  rw [if_pos he] at hlf'
  have hset := keyM_set (g := fl') he (fl' p q + a)
  have hpd : pushE (netE R.length C.length) a fl' (t, r') = fun u v => if u = p ∧ v = q then fl' p q + a else fl' u v := by
   unfold pushE
   dsimp only
   rw [if_pos (by rw [h1, h2]; exact he)]
   funext u v
   by_cases h : u = p ∧ v = q
   ·rw [if_pos (by omega), if_pos h, h.1, h.2]
   ·rw [if_neg (by omega), if_neg h]
  rw [← hpd] at hset
  have s4 := (Flow.net hB ⟨hg0', hc'.inb⟩).sg p q
  apply ot_v tk
  ((conv => whnf); (repeat ((first | (apply VStop.mk; refine tr_region_treeV (id := 9) (by kernel_rfl) [.blk g3 98 _, .blk g2 93 _, .blk gn 103 nc] (by (repeat (first | exact hsub _ _ | exact List.nil_sublist _ | exact List.Sublist.refl _ | refine List.Sublist.cons_cons _ ?_ | refine List.Sublist.cons _ ?_))) [0, 1, 2, 3, 4, 6] [5, 7, 8, 9, 10] [.rd, .rd, .rd, .rd, .rd, .rd] (fun i => [.wr, .wr, .wr, .wr, .wr, .wr, .wr, .wr, .wr, .wr, .wr].getD i .wr) _ rfl rfl (by kernel_rfl) ?_; apply ot_v tk) | (apply VLd.mk; exact c1 (by (repeat (first | with_unfolding_all exact List.Mem.head _ | assumption | with_unfolding_all refine List.Mem.tail _ ?_))) nc2) | (apply VLd.mk; (focus ((repeat (first | ((with_reducible apply ld_blk); exact rfl) | (with_reducible apply ld_skip))); done))) | (apply VLdN.mk; (focus ((repeat (first | (with_reducible apply ldn_blk) | (with_reducible apply ldn_skip))); done)); exact rfl) | apply VBr.f | (apply v_f; omega)); (conv => whnf))))
  refine ox2 5 8 ?_ ?_
  ·(refine ot_look_v hlf' pairK mapF zv2 rfl rfl rfl rfl (by exact rfl) (mapAt_mem (by (repeat (first | with_unfolding_all exact List.Mem.head _ | assumption | with_unfolding_all refine List.Mem.tail _ ?_)))) ?_; refine ot_nil ?_; refine slist_and (by (repeat (first | exact hsub _ _ | exact List.nil_sublist _ | exact List.Sublist.refl _ | refine List.Sublist.cons_cons _ ?_ | refine List.Sublist.cons _ ?_))) ?_)
   refine ox2 7 8 ?_ ?_
   ·(apply ot_v tk; (conv => whnf); (apply VRng.mk; rw [hpe]; omega; (conv => whnf)); refine slist_and (by (repeat (first | exact hsub _ _ | exact List.nil_sublist _ | exact List.Sublist.refl _ | refine List.Sublist.cons_cons _ ?_ | refine List.Sublist.cons _ ?_))) ?_)
    refine ox1 8 ?_
    (refine ot_entryS (k := ((p : Int), (q : Int))) (A'v := fun s => _ :: _ :: _ :: _ :: _ :: _ :: _ :: .prd fm (MapP pairE (keyM (netE R.length C.length) (intV fl')) ((s, ((p : Int), (q : Int))) :: st')) :: _) hlf' pairK mapF zv2 rfl rfl rfl rfl rfl (by exact rfl) (fun s => .there (.there (.there (.there (.there (.there (.there .here))))))) (fun v1 s1 => ?_); refine ot_nil ?_; refine slist_and (by (repeat (first | exact hsub _ _ | exact List.nil_sublist _ | exact List.Sublist.refl _ | refine List.Sublist.cons_cons _ ?_ | refine List.Sublist.cons _ ?_))) ?_)
    refine ox1 9 ?_
    (apply ot_v tk; (conv => whnf); refine slist_and (by (repeat (first | exact hsub _ _ | exact List.nil_sublist _ | exact List.Sublist.refl _ | refine List.Sublist.cons_cons _ ?_ | refine List.Sublist.cons _ ?_))) ?_)
    refine ox1 10 ?_
    (refine ot_estoreF (k := ((p : Int), (q : Int))) (A' := _ :: _ :: _ :: _ :: _ :: _ :: _ :: .prd fm (MapP pairE (keyM (netE R.length C.length) (intV (pushE (netE R.length C.length) a fl' (t, r')))) ((s1, ((p : Int), (q : Int))) :: st')) :: _) pairK rfl rfl rfl rfl rfl (by exact rfl) (by exact rfl) (.head _) (by rw [hset]; exact .there (.there (.there (.there (.there (.there (.there .here))))))) ?_; refine ot_nil ?_; refine slist_and (by (repeat (first | exact hsub _ _ | exact List.nil_sublist _ | exact List.Sublist.refl _ | refine List.Sublist.cons_cons _ ?_ | refine List.Sublist.cons _ ?_))) ?_)
    refine VT.mk (otx_end ?_)
    exact v_rnd (res lo hi (pushE (netE R.length C.length) a fl' (t, r')) t r').toNat (by omega) (l := [(0, _), (1, _), (2, _), (3, _)]) (B := _) ⟨rfl, rfl, rfl, rfl, trivial⟩ (.cons _ (.cons _ (List.Sublist.refl _))) ⟨rfl, _, _, by omega, hg0', hc', rfl, rfl⟩
   ·(refine ot_entryS (k := ((p : Int), (q : Int))) (A'v := fun s => _ :: _ :: _ :: _ :: _ :: _ :: _ :: .prd fm (MapP pairE (keyM (netE R.length C.length) (intV fl')) ((s, ((p : Int), (q : Int))) :: st')) :: _) hlf' pairK mapF zv2 rfl rfl rfl rfl rfl (by exact rfl) (fun s => .there (.there (.there (.there (.there (.there (.there .here))))))) (fun v1 s1 => ?_); refine ot_nil ?_; refine slist_and (by (repeat (first | exact hsub _ _ | exact List.nil_sublist _ | exact List.Sublist.refl _ | refine List.Sublist.cons_cons _ ?_ | refine List.Sublist.cons _ ?_))) ?_)
    refine ox2 7 9 ?_ ?_
    ·(apply ot_v tk; (conv => whnf); (apply VRng.mk; rw [hpe]; omega; (conv => whnf)); refine slist_and (by (repeat (first | exact hsub _ _ | exact List.nil_sublist _ | exact List.Sublist.refl _ | refine List.Sublist.cons_cons _ ?_ | refine List.Sublist.cons _ ?_))) ?_)
     refine ox1 9 ?_
     (apply ot_v tk; (conv => whnf); refine slist_and (by (repeat (first | exact hsub _ _ | exact List.nil_sublist _ | exact List.Sublist.refl _ | refine List.Sublist.cons_cons _ ?_ | refine List.Sublist.cons _ ?_))) ?_)
     refine ox1 10 ?_
     (refine ot_estoreF (k := ((p : Int), (q : Int))) (A' := _ :: _ :: _ :: _ :: _ :: _ :: _ :: .prd fm (MapP pairE (keyM (netE R.length C.length) (intV (pushE (netE R.length C.length) a fl' (t, r')))) ((s1, ((p : Int), (q : Int))) :: st')) :: _) pairK rfl rfl rfl rfl rfl (by exact rfl) (by exact rfl) (.head _) (by rw [hset]; exact .there (.there (.there (.there (.there (.there (.there .here))))))) ?_; refine ot_nil ?_; refine slist_and (by (repeat (first | exact hsub _ _ | exact List.nil_sublist _ | exact List.Sublist.refl _ | refine List.Sublist.cons_cons _ ?_ | refine List.Sublist.cons _ ?_))) ?_)
     refine VT.mk (otx_end ?_)
     exact v_rnd (res lo hi (pushE (netE R.length C.length) a fl' (t, r')) t r').toNat (by omega) (l := [(0, _), (1, _), (2, _), (3, _)]) (B := _) ⟨rfl, rfl, rfl, rfl, trivial⟩ (.cons _ (.cons _ (List.Sublist.refl _))) ⟨rfl, _, _, by omega, hg0', hc', rfl, rfl⟩
    ·(apply ot_v tk; (conv => whnf); refine slist_and (by (repeat (first | exact hsub _ _ | exact List.nil_sublist _ | exact List.Sublist.refl _ | refine List.Sublist.cons_cons _ ?_ | refine List.Sublist.cons _ ?_))) ?_)
     refine ox1 7 ?_
     (apply ot_v tk; (conv => whnf); (apply VRng.mk; rw [hpe]; omega; (conv => whnf)); refine slist_and (by (repeat (first | exact hsub _ _ | exact List.nil_sublist _ | exact List.Sublist.refl _ | refine List.Sublist.cons_cons _ ?_ | refine List.Sublist.cons _ ?_))) ?_)
     refine ox1 10 ?_
     (refine ot_estoreF (k := ((p : Int), (q : Int))) (A' := _ :: _ :: _ :: _ :: _ :: _ :: _ :: .prd fm (MapP pairE (keyM (netE R.length C.length) (intV (pushE (netE R.length C.length) a fl' (t, r')))) ((s1, ((p : Int), (q : Int))) :: st')) :: _) pairK rfl rfl rfl rfl rfl (by exact rfl) (by exact rfl) (.head _) (by rw [hset]; exact .there (.there (.there (.there (.there (.there (.there .here))))))) ?_; refine ot_nil ?_; refine slist_and (by (repeat (first | exact hsub _ _ | exact List.nil_sublist _ | exact List.Sublist.refl _ | refine List.Sublist.cons_cons _ ?_ | refine List.Sublist.cons _ ?_))) ?_)
     refine VT.mk (otx_end ?_)
     exact v_rnd (res lo hi (pushE (netE R.length C.length) a fl' (t, r')) t r').toNat (by omega) (l := [(0, _), (1, _), (2, _), (3, _)]) (B := _) ⟨rfl, rfl, rfl, rfl, trivial⟩ (.cons _ (.cons _ (List.Sublist.refl _))) ⟨rfl, _, _, by omega, hg0', hc', rfl, rfl⟩
  ·(refine ot_entryS (k := ((p : Int), (q : Int))) (A'v := fun s => _ :: _ :: _ :: _ :: _ :: _ :: _ :: .prd fm (MapP pairE (keyM (netE R.length C.length) (intV fl')) ((s, ((p : Int), (q : Int))) :: st')) :: _) hlf' pairK mapF zv2 rfl rfl rfl rfl rfl (by exact rfl) (fun s => .there (.there (.there (.there (.there (.there (.there .here))))))) (fun v1 s1 => ?_); refine ot_nil ?_; refine slist_and (by (repeat (first | exact hsub _ _ | exact List.nil_sublist _ | exact List.Sublist.refl _ | refine List.Sublist.cons_cons _ ?_ | refine List.Sublist.cons _ ?_))) ?_)
   refine ox2 5 9 ?_ ?_
   ·(refine ot_look_v hlf' pairK mapF zv2 rfl rfl rfl rfl (by exact rfl) (mapAt_mem (by (repeat (first | with_unfolding_all exact List.Mem.head _ | assumption | with_unfolding_all refine List.Mem.tail _ ?_)))) ?_; refine ot_nil ?_; refine slist_and (by (repeat (first | exact hsub _ _ | exact List.nil_sublist _ | exact List.Sublist.refl _ | refine List.Sublist.cons_cons _ ?_ | refine List.Sublist.cons _ ?_))) ?_)
    refine ox2 7 9 ?_ ?_
    ·(apply ot_v tk; (conv => whnf); (apply VRng.mk; rw [hpe]; omega; (conv => whnf)); refine slist_and (by (repeat (first | exact hsub _ _ | exact List.nil_sublist _ | exact List.Sublist.refl _ | refine List.Sublist.cons_cons _ ?_ | refine List.Sublist.cons _ ?_))) ?_)
     refine ox1 9 ?_
     (apply ot_v tk; (conv => whnf); refine slist_and (by (repeat (first | exact hsub _ _ | exact List.nil_sublist _ | exact List.Sublist.refl _ | refine List.Sublist.cons_cons _ ?_ | refine List.Sublist.cons _ ?_))) ?_)
     refine ox1 10 ?_
     (refine ot_estoreF (k := ((p : Int), (q : Int))) (A' := _ :: _ :: _ :: _ :: _ :: _ :: _ :: .prd fm (MapP pairE (keyM (netE R.length C.length) (intV (pushE (netE R.length C.length) a fl' (t, r')))) ((s1, ((p : Int), (q : Int))) :: st')) :: _) pairK rfl rfl rfl rfl rfl (by exact rfl) (by exact rfl) (.head _) (by rw [hset]; exact .there (.there (.there (.there (.there (.there (.there .here))))))) ?_; refine ot_nil ?_; refine slist_and (by (repeat (first | exact hsub _ _ | exact List.nil_sublist _ | exact List.Sublist.refl _ | refine List.Sublist.cons_cons _ ?_ | refine List.Sublist.cons _ ?_))) ?_)
     refine VT.mk (otx_end ?_)
     exact v_rnd (res lo hi (pushE (netE R.length C.length) a fl' (t, r')) t r').toNat (by omega) (l := [(0, _), (1, _), (2, _), (3, _)]) (B := _) ⟨rfl, rfl, rfl, rfl, trivial⟩ (.cons _ (.cons _ (List.Sublist.refl _))) ⟨rfl, _, _, by omega, hg0', hc', rfl, rfl⟩
    ·(apply ot_v tk; (conv => whnf); refine slist_and (by (repeat (first | exact hsub _ _ | exact List.nil_sublist _ | exact List.Sublist.refl _ | refine List.Sublist.cons_cons _ ?_ | refine List.Sublist.cons _ ?_))) ?_)
     refine ox1 7 ?_
     (apply ot_v tk; (conv => whnf); (apply VRng.mk; rw [hpe]; omega; (conv => whnf)); refine slist_and (by (repeat (first | exact hsub _ _ | exact List.nil_sublist _ | exact List.Sublist.refl _ | refine List.Sublist.cons_cons _ ?_ | refine List.Sublist.cons _ ?_))) ?_)
     refine ox1 10 ?_
     (refine ot_estoreF (k := ((p : Int), (q : Int))) (A' := _ :: _ :: _ :: _ :: _ :: _ :: _ :: .prd fm (MapP pairE (keyM (netE R.length C.length) (intV (pushE (netE R.length C.length) a fl' (t, r')))) ((s1, ((p : Int), (q : Int))) :: st')) :: _) pairK rfl rfl rfl rfl rfl (by exact rfl) (by exact rfl) (.head _) (by rw [hset]; exact .there (.there (.there (.there (.there (.there (.there .here))))))) ?_; refine ot_nil ?_; refine slist_and (by (repeat (first | exact hsub _ _ | exact List.nil_sublist _ | exact List.Sublist.refl _ | refine List.Sublist.cons_cons _ ?_ | refine List.Sublist.cons _ ?_))) ?_)
     refine VT.mk (otx_end ?_)
     exact v_rnd (res lo hi (pushE (netE R.length C.length) a fl' (t, r')) t r').toNat (by omega) (l := [(0, _), (1, _), (2, _), (3, _)]) (B := _) ⟨rfl, rfl, rfl, rfl, trivial⟩ (.cons _ (.cons _ (List.Sublist.refl _))) ⟨rfl, _, _, by omega, hg0', hc', rfl, rfl⟩
   ·(apply ot_v tk; (conv => whnf); refine slist_and (by (repeat (first | exact hsub _ _ | exact List.nil_sublist _ | exact List.Sublist.refl _ | refine List.Sublist.cons_cons _ ?_ | refine List.Sublist.cons _ ?_))) ?_)
    refine ox1 5 ?_
    (refine ot_look_v hlf' pairK mapF zv2 rfl rfl rfl rfl (by exact rfl) (mapAt_mem (by (repeat (first | with_unfolding_all exact List.Mem.head _ | assumption | with_unfolding_all refine List.Mem.tail _ ?_)))) ?_; refine ot_nil ?_; refine slist_and (by (repeat (first | exact hsub _ _ | exact List.nil_sublist _ | exact List.Sublist.refl _ | refine List.Sublist.cons_cons _ ?_ | refine List.Sublist.cons _ ?_))) ?_)
    refine ox1 7 ?_
    (apply ot_v tk; (conv => whnf); (apply VRng.mk; rw [hpe]; omega; (conv => whnf)); refine slist_and (by (repeat (first | exact hsub _ _ | exact List.nil_sublist _ | exact List.Sublist.refl _ | refine List.Sublist.cons_cons _ ?_ | refine List.Sublist.cons _ ?_))) ?_)
    refine ox1 10 ?_
    (refine ot_estoreF (k := ((p : Int), (q : Int))) (A' := _ :: _ :: _ :: _ :: _ :: _ :: _ :: .prd fm (MapP pairE (keyM (netE R.length C.length) (intV (pushE (netE R.length C.length) a fl' (t, r')))) ((s1, ((p : Int), (q : Int))) :: st')) :: _) pairK rfl rfl rfl rfl rfl (by exact rfl) (by exact rfl) (.head _) (by rw [hset]; exact .there (.there (.there (.there (.there (.there (.there .here))))))) ?_; refine ot_nil ?_; refine slist_and (by (repeat (first | exact hsub _ _ | exact List.nil_sublist _ | exact List.Sublist.refl _ | refine List.Sublist.cons_cons _ ?_ | refine List.Sublist.cons _ ?_))) ?_)
    refine VT.mk (otx_end ?_)
    exact v_rnd (res lo hi (pushE (netE R.length C.length) a fl' (t, r')) t r').toNat (by omega) (l := [(0, _), (1, _), (2, _), (3, _)]) (B := _) ⟨rfl, rfl, rfl, rfl, trivial⟩ (.cons _ (.cons _ (List.Sublist.refl _))) ⟨rfl, _, _, by omega, hg0', hc', rfl, rfl⟩
end
end Go.Proofs.Ytalcccgialpjgaa
