/- span, walked: lemmas for the rows of this seat. No conditions. -/
import Derived.Test.YtalcccgialpjgaaN12
set_option linter.all false
namespace Go.Proofs.Ytalcccgialpjgaa
open Go.RowKit
/-! ## span, walked -/
structure SpanX where
 hi : Int
 fl : Nat → Nat → Int
 st : List (Nat × (Int × Int))
section
variable {RA : Option Addr} {rc : Nat} {CA : Option Addr} {cc : Nat} {XA : Option Addr} {xc : Nat} {R C : List R2} {X : List (List R2)} {lo hi : Nat → Nat → Int} {gn bm fm : Nat}
set_option maxHeartbeats 4000000 in
set_option maxRecDepth 20000 in
theorem span_any (hn : R.length ≤ 4) (hm : C.length ≤ 4) (hB : Bnds R.length C.length lo hi) {fl0 : Nat → Nat → Int} (hg0 : ∀ u v, netE R.length C.length u v = false → fl0 u v = 0) (hc0 : Circ (2 + R.length + C.length) lo hi fl0) {p q : Nat} (he : netE R.length C.length p q = true)
  {w0 w : World} {stb st0 : List (Nat × (Int × Int))} {rest : List Chunk} (hs : St w0 (netA (netC RA rc CA cc XA xc R C X bm fm) gn bm (keyM (netE R.length C.length) (rngV lo hi)) stb fm (keyM (netE R.length C.length) (intV fl0)) st0 rest) w) :
  Calls Try.prog 72 #[.pointer (some ⟨gn, 0, none⟩), .agg #[.int .i64 (p : Int), .int .i64 (q : Int)]] w fun e w' => ∃ x : SpanX, e = .returned (.agg #[.int .i64 (x.fl p q), .int .i64 x.hi]) ∧
   ((∀ u v, netE R.length C.length u v = false → x.fl u v = 0) ∧ Circ (2 + R.length + C.length) lo hi x.fl ∧ (∀ g, Circ (2 + R.length + C.length) lo hi g → x.fl p q ≤ g p q ∧ g p q ≤ x.hi) ∧ ∃ g, Circ (2 + R.length + C.length) lo hi g ∧ g p q = x.hi) ∧
   St w0 (netA (netC RA rc CA cc XA xc R C X bm fm) gn bm (keyM (netE R.length C.length) (rngV lo hi)) stb fm (keyM (netE R.length C.length) (intV x.fl)) x.st rest) w' := by
 have hgr := fun {fl0 : Nat → Nat → Int} hg0 hc0 {f t : Nat} {dec : Bool} hd {w : World} {st0 : List (Nat × (Int × Int))} {g2 g3 : Nat} {c4 : Chunk} => greedy_any (RA := RA) (rc := rc) (CA := CA) (cc := cc) (XA := XA) (xc := xc) (R := R) (C := C) (X := X) (lo := lo) (hi := hi) (gn := gn) (bm := bm) (fm := fm) hn hm hB (fl0 := fl0) hg0 hc0 he (f := f) (t := t) (dec := dec) hd (w0 := w0) (w := w) (stb := stb) (st0 := st0) (rest := rest) (g2 := g2) (g3 := g3) (c4 := c4)
 generalize hnc : netC RA rc CA cc XA xc R C X bm fm = nc at *
 have c1 : ∀ {j u A1}, .blk gn 103 nc ∈ A1 → nc[j]? = some u → CellAt w0 A1 gn j u := fun hm hu => cell_blk hm hu
 have nc2 : nc[4]? = some (.map (some fm)) := by rw [← hnc]; rfl
 refine fn_v tk (n := 37) (A := _) Try.func72 rfl rfl (Nat.le_of_ble_eq_true rfl) hs ?_
 ((conv => whnf); (repeat ((first | (apply VLd.mk; (focus ((repeat (first | ((with_reducible apply ld_blk); exact rfl) | (with_reducible apply ld_skip))); done))) | (apply VNew.mk; intro g hg)); (conv => whnf))); apply VCall.stop)
 rename_i g2 hg2 g3 hg3
 revert g hg
 intro g4 hg4
 refine ot_callW (X := GrX) (us := []) (vs := [.pointer (some ⟨g2, 0, none⟩), .pointer (some ⟨g3, 0, none⟩)]) (fun _ => .tuple #[]) (fun x => .blk g4 37 [.int .i64 0, .int .i64 0] :: .blk g3 98 [.int .i64 (p : Int), .int .i64 (q : Int)] :: .blk g2 93 [.pointer (some ⟨gn, 0, none⟩)] :: netA nc gn bm (keyM (netE R.length C.length) (rngV lo hi)) stb fm (keyM (netE R.length C.length) (intV x.fl)) x.st rest) _ rfl rfl rfl rfl rfl (by kernel_rfl) (evl_of rfl) rfl (fun w1 hs => hgr (dec := false) hg0 hc0 (.inr ⟨rfl, rfl, rfl⟩) hs) ?_
 rintro ⟨fl1, st1⟩ ⟨hg1, hc1, hsp1⟩
 dsimp only at hg1 hc1 hsp1 ⊢
 have hlf1 := keyM_nat (netE R.length C.length) (intV fl1) p q
 rw [if_pos he] at hlf1
 apply ot_v tk
 ((conv => whnf); (repeat ((first | ((first | apply VStop.mk | apply VCall.stop); (first | refine tr_region_lex (id := 3) (by kernel_rfl) [.rd, .rd, .rd, .rd, .rd, .rd, .rd] rfl (by kernel_rfl) ?_ | (refine ot_look_v hlf1 pairK mapF zv2 rfl rfl rfl rfl (by exact rfl) (mapAt_mem (by (repeat (first | with_unfolding_all exact List.Mem.head _ | assumption | with_unfolding_all refine List.Mem.tail _ ?_)))) ?_)); apply ot_v tk) | (apply VLd.mk; first | exact c1 (by (repeat (first | with_unfolding_all exact List.Mem.head _ | assumption | with_unfolding_all refine List.Mem.tail _ ?_))) nc2) | (apply VLd.mk; (focus ((repeat (first | ((with_reducible apply ld_blk); exact rfl) | (with_reducible apply ld_skip))); done))) | (apply VLdN.mk; (focus ((repeat (first | (with_reducible apply ldn_blk) | (with_reducible apply ldn_skip))); done)); exact rfl)); (conv => whnf))); apply VCall.stop)
 refine ot_callW (X := GrX) (us := []) (vs := [.pointer (some ⟨g2, 0, none⟩), .pointer (some ⟨g3, 0, none⟩)]) (fun _ => .tuple #[]) (fun x => .blk g4 37 [.int .i64 0, .int .i64 0] :: .blk g3 98 [.int .i64 (p : Int), .int .i64 (q : Int)] :: .blk g2 93 [.pointer (some ⟨gn, 0, none⟩)] :: netA nc gn bm (keyM (netE R.length C.length) (rngV lo hi)) stb fm (keyM (netE R.length C.length) (intV x.fl)) x.st rest) _ rfl rfl rfl rfl rfl (by kernel_rfl) (evl_of rfl) rfl (fun w1 hs => hgr (dec := true) hg1 hc1 (.inl ⟨rfl, rfl, rfl⟩) hs) ?_
 rintro ⟨fl2, st2⟩ ⟨hg2', hc2, hsp2⟩
 dsimp only at hg2' hc2 hsp2 ⊢
 have hlf2 := keyM_nat (netE R.length C.length) (intV fl2) p q
 rw [if_pos he] at hlf2
 have hle : fl2 p q ≤ fl1 p q := Spent.least hB he hc2 hc1 hsp2
 have hbe : ∀ (g : Nat) (w1 : World) (A' : List Chunk), St w0 (.blk g 2 [.int .i64 (fl2 p q), .int .i64 (fl1 p q)] :: A') w1 → Calls Try.prog 94 #[.slice (some ⟨g, 0, none⟩) 2 2, .func (.func 95) #[] #[]] w1 fun e w' => e = .returned (.int .i64 (fl2 p q)) ∧ Below w1.heap.size w1 w' := fun g w1 A' hs => by
  have := best_any g 0 2 [fl2 p q, fl1 p q] w1 (hs.blk_reads (.head _) rfl) (by simp) (by simp) (by simp)
  rw [bestP_two, if_neg (by omega)] at this
  exact this
 apply ot_v tk
 ((conv => whnf); (repeat ((first | ((first | apply VStop.mk | apply VCall.stop); (first | refine tr_region_draw (id := 5) (by kernel_rfl) [0, 1, 2, 3, 4, 5, 6, 9, 7, 8, 10, 11] [.rd, .rd, .rd, .rd, .rd, .rd, .rd, .rd, .cr, .cr, .rd, .wr] rfl (by kernel_rfl) ?_ | (refine ot_look_v hlf2 pairK mapF zv2 rfl rfl rfl rfl (by exact rfl) (mapAt_mem (by (repeat (first | with_unfolding_all exact List.Mem.head _ | assumption | with_unfolding_all refine List.Mem.tail _ ?_)))) ?_)); apply ot_v tk) | (apply VLd.mk; first | exact c1 (by (repeat (first | with_unfolding_all exact List.Mem.head _ | assumption | with_unfolding_all refine List.Mem.tail _ ?_))) nc2) | (apply VCall.q; kernel_rfl; (focus (intro w1 hs; first | with_reducible apply hbe _ w1 _ hs))) | (apply VLd.mk; (focus ((repeat (first | ((with_reducible apply ld_blk); exact rfl) | (with_reducible apply ld_skip))); done))) | (apply VLdN.mk; (focus ((repeat (first | (with_reducible apply ldn_blk) | (with_reducible apply ldn_skip))); done)); exact rfl) | (apply VNew.mk; intro g hg) | (apply VSt.mk; (focus ((repeat (first | (with_reducible exact At.here) | (with_reducible apply At.there))); done)); exact rfl)); (conv => whnf))))
 (apply VRet.mk)
 refine ret1 (by first | exact .inl rfl | exact .inr rfl) rfl (by exact rv_row tk rfl rfl rfl (by first | exact cells_blk_all (by (repeat (first | exact List.Mem.head _ | assumption | refine List.Mem.tail _ ?_))) | exact cells_row0 (by (repeat (first | exact List.Mem.head _ | assumption | refine List.Mem.tail _ ?_)))) rfl) ?_
 exact fun w hs => ⟨⟨fl1 p q, fl2, st2⟩, rfl, ⟨hg2', hc2, fun g hg => ⟨Spent.least hB he hc2 hg hsp2, Spent.most hB he hc1 hg hsp1⟩, fl1, hc1, rfl⟩, hs.sub (.cons _ (.cons _ (.cons _ (.cons _ (List.Sublist.refl _)))))⟩
end
/-! ## proof -/
theorem iAt_get {l : List Int} {k : Nat} (h : k < l.length) : (i64s l)[k]? = some (.int .i64 (iAt l k)) := by
 unfold i64s iAt
 rw [List.getElem?_map, List.getElem?_eq_getElem h]; rfl
theorem eqItems_ints {P : Program} {d : Nat} {e : TypeId} (he : P.underlying e = some (.int .i64)) {xs ys : List Int} (w : World) {j : Nat} (hne : iAt xs j ≠ iAt ys j) : ∀ (is : List Nat), (∀ i ∈ is, i < xs.length ∧ i < ys.length) → j ∈ is →
  (Op.eqItems (d + 1) e 1 (i64s xs).toArray (i64s ys).toArray is).run P w = .ok false w
 | [], _, h => by cases h
 | i :: is, hi, h => by
  obtain ⟨h1, h2⟩ := hi i (.head _)
  have g1 : (part e (i64s xs).toArray (i * 1)).run P w = .ok (.int .i64 (iAt xs i)) w := run_part_int he _ _ w _ (by rw [Nat.mul_one, List.getElem?_toArray]; exact iAt_get h1)
  have g2 : (part e (i64s ys).toArray (i * 1)).run P w = .ok (.int .i64 (iAt ys i)) w := run_part_int he _ _ w _ (by rw [Nat.mul_one, List.getElem?_toArray]; exact iAt_get h2)
  have g3 := run_equalIn_int (P := P) (w := w) d e .i64 .i64 (iAt xs i) (iAt ys i) he
  simp only [Op.eqItems, Sem.run_bind, g1, g2, g3, Result.andThen_ok]
  by_cases hij : iAt xs i = iAt ys i
  ·have hjs : j ∈ is := by
    rcases List.mem_cons.1 h with rfl | h
    ·exact absurd hij hne
    ·exact h
   have := eqItems_ints (d := d) he w hne is (fun x hx => hi x (.tail _ hx)) hjs
   simpa [hij] using this
  ·simp [hij]
theorem eq_ints_no {P : Program} {t e : TypeId} {n : Nat} {xs ys : List Int} (hu : P.underlying t = some (.array n e)) (he : P.underlying e = some (.int .i64)) {ie : TI} (hie : TIok P e ie) (h1 : ie.size = 1) (hx : xs.length = n) (hy : ys.length = n) {j : Nat} (hj : j < n) (hne : iAt xs j ≠ iAt ys j) :
  ∀ w, (Op.equal t (.agg (i64s xs).toArray) (.agg (i64s ys).toArray)).run P w = .ok false w := fun w => by
 obtain ⟨i, hi⟩ : ∃ i, P.info? e = some i := by
  obtain ⟨j, z, hj, _⟩ := hie.info
  exact ⟨j, hj⟩
 have hi2 : P.cellsOf e = 1 := by rw [hie.size, h1]
 show (Op.equalIn (9999 + 1) t _ _).run P w = _
 rw [run_equalIn_array w 9999 _ _ hu hi, hi2]
 exact eqItems_ints (d := 9998) he w hne _ (fun i hi => by rw [List.mem_range] at hi; omega) (List.mem_range.2 hj)
def rowL (n : Nat) (p : Nat → Bool) : List Nat := (List.range n).filter p
theorem rowL_step (p : Nat → Bool) (k : Nat) : rowL (k + 1) p = if p k = true then rowL k p ++ [k] else rowL k p := by
 unfold rowL
 rw [List.range_succ, List.filter_append]
 cases h : p k <;> simp [h]
theorem rowL_len (n : Nat) (p : Nat → Bool) : (rowL n p).length ≤ n := by
 have := List.length_filter_le p (List.range n)
 rw [List.length_range] at this
 exact this
theorem fnC_ints (f : Nat → Int) (n : Nat) : fnC f n = i64s ((List.range n).map f) := by
 unfold fnC i64s
 rw [List.map_map]; rfl
def inSt (seen : Nat → Int) (v : Nat) : Bool := decide (0 < seen v)
set_option maxRecDepth 20000 in
theorem in_any {w0 : World} {A : List Chunk} (seen : Nat → Int) (g3 v : Nat) (hv : v < 10) {b : Bool} (hb : inSt seen v = b) (h1 : .blk g3 109 (fnC seen 10) ∈ A) (w : World) (hs : St w0 A w) :
  Calls Try.prog 102 #[.int .i64 (v : Int), .pointer (some ⟨g3, 0, none⟩)] w fun e w' => e = .returned (.bool b) ∧ Below w.heap.size w w' := by
 subst hb
 unfold inSt
 have c1 : ∀ B, CellAt w B g3 (0 + v * 1) (.int .i64 (seen v)) := fun B => CellAt.base (cell_fnC h1 hv w hs)
 refine fn_v tk (n := 8) (A := []) Try.func102 rfl rfl (Nat.le_of_ble_eq_true rfl) (St.nil (Below.refl _ _)) ?_
 by_cases h : 0 < seen v
 ·rw [decide_eq_true h]
  ((conv => whnf); (repeat ((first | (apply VIx.mk (j := v); exact rfl; omega) | (apply VLd.mk; first | exact c1 _) | (apply v_t; omega)); (conv => whnf))))
  ((apply VRet.mk); refine ret1 (by first | exact .inl rfl | exact .inr rfl) rfl (by exact rv_tmp rfl) ?_; exact fun w h => ⟨rfl, h.base⟩)
 ·rw [decide_eq_false h]
  ((conv => whnf); (repeat ((first | (apply VIx.mk (j := v); exact rfl; omega) | (apply VLd.mk; first | exact c1 _) | (apply v_f; omega)); (conv => whnf))))
  ((apply VRet.mk); refine ret1 (by first | exact .inl rfl | exact .inr rfl) rfl (by exact rv_tmp rfl) ?_; exact fun w h => ⟨rfl, h.base⟩)
/-- The rows, the columns and the side that marks show. -/
def prRows (n : Nat) (seen : Nat → Int) : List Nat := rowL n fun i => inSt seen (2 + i) != inSt seen 0
def prCols (n m : Nat) (seen : Nat → Int) : List Nat := rowL m fun k => (inSt seen (2 + n + k) != inSt seen 0) && (inSt seen 0 == inSt seen 1)
def prSide (seen : Nat → Int) : Int := if inSt seen 0 = true then 0 else 1
structure PrX where
 B1 : Option Addr
 c1 : Nat
 B2 : Option Addr
 c2 : Nat
def proofV (B1 : Option Addr) (c1 n1 : Nat) (B2 : Option Addr) (c2 n2 : Nat) (side : Int) : Value := .agg #[.slice B1 n1 c1, .slice B2 n2 c2, .int .i64 side]
theorem bool_ne (a b : Bool) : (a != b) = !(a == b) := rfl
section
variable {P : Program} {tab : TT} {w0 : World} {n : Nat} {ds : List Deferred} {ops : List Oper} {o : Oper} {os : List Oper} {ks : List Kind} {ts : TS} {A : List Chunk} {K : TS → List Chunk → Prop} {d : Tmp} {x y : Operand} {t u : TypeId}
theorem ot_neb {p q : Bool} (hT : P.underlying t = some .bool) (hop : o.op = .binOp .neq t x y u) (hd : o.dst = some d) (hw : wantB ops ts o = some true) (hx : evT ts x = some (.bool p)) (hy : evT ts y = some (.bool q))
  (hk : OT P w0 n ds ops os ks.tail ((d, .bool (p != q)) :: ts) A K) : OT P w0 n ds ops (o :: os) ks ts A K :=
 ot_val _ hd hw (fun a w hd' => by
  have e1 : (eqGuard .neq t x y (.bool p) (.bool q)).run P w = .ok () w := by simp [eqGuard, Sem.run_bind]
  have e2 : (binOp .neq t (.bool p) (.bool q)).run P w = .ok (.bool (p != q)) w := by cases p <;> cases q <;> simp [binOp, run_equal_bool w t _ _ hT]
  simp only [execOp, hop, hd'.ev hx, hd'.ev hy, Sem.run_bind, e1, e2, Result.andThen_ok, Sem.run_pure]) hk
end
section
variable {RA : Option Addr} {rc : Nat} {CA : Option Addr} {cc : Nat} {XA : Option Addr} {xc : Nat} {R C : List R2} {X : List (List R2)} {lo hi : Nat → Nat → Int} {gn bm fm : Nat}
set_option maxHeartbeats 4000000 in
set_option maxRecDepth 20000 in
theorem proof_any (hn : R.length ≤ 4) (hm : C.length ≤ 4) (seen : Nat → Int) (hs1 : ∃ v, v < 10 ∧ seen v ≠ 0) (w : World) (hc : w.cell? ⟨gn, 0, none⟩ = some (.slice RA R.length rc)) (hc1 : w.cell? ⟨gn, 1, none⟩ = some (.slice CA C.length cc)) :
  Calls Try.prog 82 #[.pointer (some ⟨gn, 0, none⟩), .agg (fnC seen 10).toArray] w fun e w' => ∃ x : PrX, e = .returned (proofV x.B1 x.c1 (prRows R.length seen).length x.B2 x.c2 (prCols R.length C.length seen).length (prSide seen)) ∧ True ∧
   St w [.own (.slice x.B1 (prRows R.length seen).length x.c1) 3 1 (prRows R.length seen).length (natV (prRows R.length seen)), .own (.slice x.B2 (prCols R.length C.length seen).length x.c2) 3 1 (prCols R.length C.length seen).length (natV (prCols R.length C.length seen))] w' := by
 obtain ⟨v0, hv0, hne⟩ := hs1
 have k1 : ∀ A, CellAt w A gn 0 _ := fun A => CellAt.base hc
 have k2 : ∀ A, CellAt w A gn 1 _ := fun A => CellAt.base hc1
 have heq : ∀ w, (Op.equal 109 (.agg (fnC seen 10).toArray) (.agg (fnC (fun _ => 0) 10).toArray)).run Try.prog w = .ok false w := by
  rw [fnC_ints, fnC_ints]
  exact eq_ints_no (n := 10) (j := v0) Try.underlying109 Try.underlying3 Try.ti3 rfl (by simp) (by simp) hv0 (by
   unfold iAt
   rw [List.getElem?_map, List.getElem?_map, List.getElem?_range hv0]
   simpa using hne)
 have hro := fun w1 i (h : i ≤ 1000) => row_any gn i w1 h
 have hco := fun w1 i h (h' : i ≤ 1000) => column_any RA rc R gn i w1 h h' (by omega)
 have hcl0 : ∀ {A : List Chunk} {w1 : World}, St w A w1 → w1.cell? ⟨gn, 0, none⟩ = some (.slice RA R.length rc) := fun hs => k1 _ _ hs
 have hin := fun {A : List Chunk} {w1 : World} (g3 v : Nat) (hv : v < 10) {b : Bool} (hb : inSt seen v = b) (hs : St w A w1) h1 => in_any seen g3 v hv hb h1 w1 hs
 obtain ⟨b0, hb0⟩ : ∃ b0, inSt seen 0 = b0 := ⟨_, rfl⟩
 obtain ⟨b1, hb1⟩ : ∃ b1, inSt seen 1 = b1 := ⟨_, rfl⟩
 have hside : prSide seen = if b0 = true then 0 else 1 := by unfold prSide; rw [hb0]
 have hrows : prRows R.length seen = rowL R.length fun i => inSt seen (2 + i) != b0 := by unfold prRows; rw [hb0]
 have hcols : prCols R.length C.length seen = rowL C.length fun k => (inSt seen (2 + R.length + k) != b0) && (b0 == b1) := by unfold prCols; rw [hb0, hb1]
 rw [hside, hrows, hcols]
 have hin0 : ∀ {A : List Chunk} {w1 : World} (g3 : Nat), St w A w1 → .blk g3 109 (fnC seen 10) ∈ A → Calls Try.prog 102 #[.int .i64 0, .pointer (some ⟨g3, 0, none⟩)] w1 fun e w' => e = .returned (.bool b0) ∧ Below w1.heap.size w1 w' := fun g3 hs h1 => hin g3 0 (by decide) hb0 hs h1
 have hin1 : ∀ {A : List Chunk} {w1 : World} (g3 : Nat), St w A w1 → .blk g3 109 (fnC seen 10) ∈ A → Calls Try.prog 102 #[.int .i64 1, .pointer (some ⟨g3, 0, none⟩)] w1 fun e w' => e = .returned (.bool b1) ∧ Below w1.heap.size w1 w' := fun g3 hs h1 => hin g3 1 (by decide) hb1 hs h1
 refine fn_v tk (n := 74) (A := []) Try.func82 rfl rfl (Nat.le_of_ble_eq_true rfl) (St.nil (Below.refl _ _)) ?_
 revert hb0 hb1 hside hrows hcols hin0 hin1
 cases b0 <;> cases b1 <;> intro hb0 hb1 _ _ _ hin0 hin1
 ·have hq0 : (if false = true then (0 : Int) else 1) = 1 := rfl
  rw [hq0]
  ((conv => whnf); (repeat ((first | ((first | apply VStop.mk | apply VCall.stop); (refine ot_buildZ tk rfl rfl rfl rfl rfl ⟨_, rfl⟩ ?_); apply ot_v tk) | (apply VLdN.mk; exact cells_blk_all (by (repeat (first | with_unfolding_all exact List.Mem.head _ | assumption | with_unfolding_all refine List.Mem.tail _ ?_))); exact rfl) | (apply VEq.mk false; kernel_rfl; exact heq) | (apply VCall.q; kernel_rfl; (focus (intro w1 hs; first | ((with_reducible apply hin0 _ hs); (repeat (first | with_unfolding_all exact List.Mem.head _ | assumption | with_unfolding_all refine List.Mem.tail _ ?_)))))) | (apply VLd.mk; (focus ((repeat (first | ((with_reducible apply ld_blk); exact rfl) | ((with_reducible apply ld_row); exact rfl) | ((with_reducible apply ld_row0); exact rfl) | (with_reducible assumption) | (with_reducible exact CellAt.base (by assumption)) | (with_reducible apply ld_skip))); done))) | apply VBr.f | (apply VNew.mk; intro g hg) | (apply VSt.mk; (focus ((repeat (first | (with_reducible exact At.here) | (with_reducible apply At.there))); done)); exact rfl)); (conv => whnf))); apply VStop.mk)
  rename_i g3 hg3 g4 hg4
  revert g hg
  intro g5 hg5
  refine tr_own_nil 3 1 ?_
  refine v_loop (fun gm ds ts A => ds = [] ∧ ∃ k B1 c1, k + gm = R.length ∧ A = .own (.slice B1 (rowL k fun i => inSt seen (2 + i) != false).length c1) 3 1 (rowL k fun i => inSt seen (2 + i) != false).length (natV (rowL k fun i => inSt seen (2 + i) != false)) :: .blk g5 44 [.slice B1 (rowL k fun i => inSt seen (2 + i) != false).length c1, .slice none 0 0, .int .i64 1] :: .blk g4 44 [.slice none 0 0, .slice none 0 0, .int .i64 0] :: [.blk g3 109 (fnC seen 10)] ∧ ts = [(0, .pointer (some ⟨gn, 0, none⟩)), (4, .pointer (some ⟨g4, 0, none⟩)), (5, .pointer (some ⟨g5, 0, none⟩)), (6, .func (.func 102) #[] #[.pointer (some ⟨g3, 0, none⟩)]), (7, .bool false), (25, .int .i64 (R.length : Int)), (26, .int .i64 (k : Int))]) R.length
   (l := [(0, _), (4, _), (5, _), (6, _), (7, _), (25, _), (26, _)]) (B := _) ?_ (List.Sublist.refl _) ⟨rfl, 0, none, 0, by omega, rfl, rfl⟩ ?_
  ·exact ⟨rfl, rfl, rfl, rfl, rfl, rfl, rfl, trivial⟩
  rintro gm ds ts A ⟨rfl, k, B1, c1, hk, rfl, rfl⟩
  by_cases hlt : k < R.length
  ·have hst := rowL_step (fun i => inSt seen (2 + i) != false) k
   have hll := rowL_len k fun i => inSt seen (2 + i) != false
   generalize rowL k (fun i => inSt seen (2 + i) != false) = rl at *
   cases hbk : inSt seen (2 + k)
   ·rw [if_neg (by simp [hbk])] at hst
    (apply tr_v tk; (conv => whnf); (repeat ((first | ((first | apply VStop.mk | apply VCall.stop); (refine ot_neb Try.underlying4 rfl rfl rfl rfl rfl ?_); apply ot_v tk) | (apply VCall.q; kernel_rfl; (focus (intro w1 hs; first | with_reducible apply hro w1 k (by omega) | ((with_reducible apply hin _ (2 + k) (by omega) hbk hs); (repeat (first | with_unfolding_all exact List.Mem.head _ | assumption | with_unfolding_all refine List.Mem.tail _ ?_)))))) | (apply VRng.mk; omega) | apply VBr.t | apply VBr.f | (apply v_t; omega)); (conv => whnf))))
    exact v_rnd (gm - 1) (by omega) (l := [(0, _), (4, _), (5, _), (6, _), (7, _), (25, _), (26, _)]) (B := _) ⟨rfl, rfl, rfl, rfl, rfl, rfl, rfl, trivial⟩ (List.Sublist.refl _) ⟨rfl, k + 1, B1, c1, by omega, by rw [hst], rfl⟩
   ·rw [if_pos (by simp [hbk])] at hst
    have e1 : natV rl ++ [.int .i64 (k : Int)] = natV (rl ++ [k]) := by simp [natV]
    have e2 : rl.length + 1 = (rl ++ [k]).length := by simp
    (apply tr_v tk; (conv => whnf); (repeat ((first | ((first | apply VStop.mk | apply VCall.stop); (first | (refine ot_neb Try.underlying4 rfl rfl rfl rfl rfl ?_) | (refine ot_appendS (sz := 1) (sl := rl.length) (xs := natV rl) (A'v := fun v' => _ :: .own v' 3 1 (rl.length + 1) _ :: _) tk rfl rfl rfl rfl rfl rfl rfl rfl rfl rfl (by decide) rfl (cells_blk_all (.head _)) rfl rfl (fun v' => .there .here) (by omega) (by decide) (fun Bn cn => ?_))); apply ot_v tk) | (apply VCall.q; kernel_rfl; (focus (intro w1 hs; first | with_reducible apply hro w1 k (by omega) | ((with_reducible apply hin _ (2 + k) (by omega) hbk hs); (repeat (first | with_unfolding_all exact List.Mem.head _ | assumption | with_unfolding_all refine List.Mem.tail _ ?_)))))) | (apply VLd.mk; (focus ((repeat (first | ((with_reducible apply ld_blk); exact rfl) | (with_reducible apply ld_skip))); done))) | (apply VRng.mk; omega) | apply VBr.t | (apply v_t; omega) | (apply VNew.mk; intro g hg) | (apply VSt.mk; (focus ((repeat (first | (with_reducible exact At.here) | (with_reducible apply At.there))); done)); exact rfl)); (conv => whnf))))
    rw [e1]
    exact v_rnd (gm - 1) (by omega) (l := [(0, _), (4, _), (5, _), (6, _), (7, _), (25, _), (26, _)]) (B := _) ⟨rfl, rfl, rfl, rfl, rfl, rfl, rfl, trivial⟩ (.cons _ (List.Sublist.refl _)) ⟨rfl, k + 1, Bn, cn, by omega, by rw [hst, ← e2], rfl⟩
  obtain rfl : k = R.length := by omega
  generalize (rowL R.length fun i => inSt seen (2 + i) != false) = rl at *
  clear hk hlt
  (apply tr_v tk; (conv => whnf); (repeat ((first | (apply VLd.mk; (focus ((repeat (first | ((with_reducible apply ld_blk); exact rfl) | ((with_reducible apply ld_row); exact rfl) | ((with_reducible apply ld_row0); exact rfl) | (with_reducible assumption) | (with_reducible exact CellAt.base (by assumption)) | (with_reducible apply ld_skip))); done))) | apply VBr.f | (apply v_f; omega)); (conv => whnf))); apply VStop.mk)
  refine tr_own_nil 3 1 ?_
  refine v_loop (fun gm ds ts A => ds = [] ∧ ∃ k B2 c2, k + gm = C.length ∧ A = .own (.slice B2 (rowL k (fun k => (inSt seen (2 + R.length + k) != false) && (false == false))).length c2) 3 1 (rowL k (fun k => (inSt seen (2 + R.length + k) != false) && (false == false))).length (natV (rowL k (fun k => (inSt seen (2 + R.length + k) != false) && (false == false)))) :: .own (.slice B1 rl.length c1) 3 1 rl.length (natV rl) :: .blk g5 44 [.slice B1 rl.length c1, .slice B2 (rowL k (fun k => (inSt seen (2 + R.length + k) != false) && (false == false))).length c2, .int .i64 1] :: .blk g4 44 [.slice none 0 0, .slice none 0 0, .int .i64 0] :: [.blk g3 109 (fnC seen 10)] ∧ ts = [(0, .pointer (some ⟨gn, 0, none⟩)), (4, .pointer (some ⟨g4, 0, none⟩)), (5, .pointer (some ⟨g5, 0, none⟩)), (6, .func (.func 102) #[] #[.pointer (some ⟨g3, 0, none⟩)]), (7, .bool false), (48, .int .i64 (C.length : Int)), (49, .int .i64 (k : Int))]) C.length
   (l := [(0, _), (4, _), (5, _), (6, _), (7, _), (48, _), (49, _)]) (B := _) ?_ (List.Sublist.refl _) ⟨rfl, 0, none, 0, by omega, rfl, rfl⟩ ?_
  ·exact ⟨rfl, rfl, rfl, rfl, rfl, rfl, rfl, trivial⟩
  rintro gm ds ts A ⟨rfl, k, B2, c2, hk, rfl, rfl⟩
  by_cases hlt : k < C.length
  ·have hst := rowL_step (fun k => (inSt seen (2 + R.length + k) != false) && (false == false)) k
   have hll := rowL_len k (fun k => (inSt seen (2 + R.length + k) != false) && (false == false))
   generalize rowL k (fun k => (inSt seen (2 + R.length + k) != false) && (false == false)) = r2 at *
   cases hbk : inSt seen (2 + R.length + k)
   ·rw [if_neg (by simp [hbk])] at hst
    (apply tr_v tk; (conv => whnf); (repeat ((first | ((first | apply VStop.mk | apply VCall.stop); (refine ot_neb Try.underlying4 rfl rfl rfl rfl rfl ?_); apply ot_v tk) | (apply VCall.q; kernel_rfl; (focus (intro w1 hs; first | with_reducible apply hco w1 k (hcl0 hs) (by omega) | ((with_reducible apply hin _ (2 + R.length + k) (by omega) hbk hs); (repeat (first | with_unfolding_all exact List.Mem.head _ | assumption | with_unfolding_all refine List.Mem.tail _ ?_)))))) | (apply VRng.mk; omega) | apply VBr.t | apply VBr.f | (apply v_t; omega)); (conv => whnf))))
    exact v_rnd (gm - 1) (by omega) (l := [(0, _), (4, _), (5, _), (6, _), (7, _), (48, _), (49, _)]) (B := _) ⟨rfl, rfl, rfl, rfl, rfl, rfl, rfl, trivial⟩ (List.Sublist.refl _) ⟨rfl, k + 1, B2, c2, by omega, by rw [hst], rfl⟩
   ·rw [if_pos (by simp [hbk])] at hst
    have e1 : natV r2 ++ [.int .i64 (k : Int)] = natV (r2 ++ [k]) := by simp [natV]
    have e2 : r2.length + 1 = (r2 ++ [k]).length := by simp
    (apply tr_v tk; (conv => whnf); (repeat ((first | ((first | apply VStop.mk | apply VCall.stop); (first | (refine ot_neb Try.underlying4 rfl rfl rfl rfl rfl ?_) | (refine ot_eqb Try.underlying4 rfl rfl rfl rfl rfl ?_) | (refine ot_appendS (sz := 1) (sl := r2.length) (xs := natV r2) (A'v := fun v' => _ :: .own v' 3 1 (r2.length + 1) _ :: _) tk rfl rfl rfl rfl rfl rfl rfl rfl rfl rfl (by decide) rfl (cells_blk_all (.head _)) rfl rfl (fun v' => .there .here) (by omega) (by decide) (fun Bn cn => ?_))); apply ot_v tk) | (apply VCall.q; kernel_rfl; (focus (intro w1 hs; first | with_reducible apply hco w1 k (hcl0 hs) (by omega) | ((with_reducible apply hin _ (2 + R.length + k) (by omega) hbk hs); (repeat (first | with_unfolding_all exact List.Mem.head _ | assumption | with_unfolding_all refine List.Mem.tail _ ?_))) | ((with_reducible apply hin0 _ hs); (repeat (first | with_unfolding_all exact List.Mem.head _ | assumption | with_unfolding_all refine List.Mem.tail _ ?_))) | ((with_reducible apply hin1 _ hs); (repeat (first | with_unfolding_all exact List.Mem.head _ | assumption | with_unfolding_all refine List.Mem.tail _ ?_)))))) | (apply VLd.mk; (focus ((repeat (first | ((with_reducible apply ld_blk); exact rfl) | (with_reducible apply ld_skip))); done))) | (apply VRng.mk; omega) | apply VBr.t | (apply v_t; omega) | (apply VNew.mk; intro g hg) | (apply VSt.mk; (focus ((repeat (first | (with_reducible exact At.here) | (with_reducible apply At.there))); done)); exact rfl)); (conv => whnf))))
    rw [e1]
    exact v_rnd (gm - 1) (by omega) (l := [(0, _), (4, _), (5, _), (6, _), (7, _), (48, _), (49, _)]) (B := _) ⟨rfl, rfl, rfl, rfl, rfl, rfl, rfl, trivial⟩ (.cons _ (List.Sublist.refl _)) ⟨rfl, k + 1, Bn, cn, by omega, by rw [hst, ← e2], rfl⟩
  obtain rfl : k = C.length := by omega
  (apply tr_v tk; (conv => whnf); (repeat ((first | (apply VLdN.mk; exact cells_blk_all (by (repeat (first | with_unfolding_all exact List.Mem.head _ | assumption | with_unfolding_all refine List.Mem.tail _ ?_))); exact rfl) | apply VBr.f | (apply v_f; omega) | (apply VSt.mk; (focus ((repeat (first | (with_reducible exact At.here) | (with_reducible apply At.there))); done)); exact rfl)); (conv => whnf))))
  (apply VRet.mk)
  refine ret1 (by first | exact .inl rfl | exact .inr rfl) rfl (by exact rv_row tk rfl rfl rfl (by first | exact cells_blk_all (by (repeat (first | exact List.Mem.head _ | assumption | refine List.Mem.tail _ ?_))) | exact cells_row0 (by (repeat (first | exact List.Mem.head _ | assumption | refine List.Mem.tail _ ?_)))) rfl) ?_
  exact fun w hs => ⟨⟨B1, c1, B2, c2⟩, rfl, trivial, Pick.st (by ((try dsimp only); repeat (first | exact Pick.nil | ((apply Pick.cons); (focus (repeat (first | exact Rem.here | apply Rem.there)); done))))) hs⟩
 ·have hq0 : (if false = true then (0 : Int) else 1) = 1 := rfl
  rw [hq0]
  ((conv => whnf); (repeat ((first | ((first | apply VStop.mk | apply VCall.stop); (refine ot_buildZ tk rfl rfl rfl rfl rfl ⟨_, rfl⟩ ?_); apply ot_v tk) | (apply VLdN.mk; exact cells_blk_all (by (repeat (first | with_unfolding_all exact List.Mem.head _ | assumption | with_unfolding_all refine List.Mem.tail _ ?_))); exact rfl) | (apply VEq.mk false; kernel_rfl; exact heq) | (apply VCall.q; kernel_rfl; (focus (intro w1 hs; first | ((with_reducible apply hin0 _ hs); (repeat (first | with_unfolding_all exact List.Mem.head _ | assumption | with_unfolding_all refine List.Mem.tail _ ?_)))))) | (apply VLd.mk; (focus ((repeat (first | ((with_reducible apply ld_blk); exact rfl) | ((with_reducible apply ld_row); exact rfl) | ((with_reducible apply ld_row0); exact rfl) | (with_reducible assumption) | (with_reducible exact CellAt.base (by assumption)) | (with_reducible apply ld_skip))); done))) | apply VBr.f | (apply VNew.mk; intro g hg) | (apply VSt.mk; (focus ((repeat (first | (with_reducible exact At.here) | (with_reducible apply At.there))); done)); exact rfl)); (conv => whnf))); apply VStop.mk)
  rename_i g3 hg3 g4 hg4
  revert g hg
  intro g5 hg5
  refine tr_own_nil 3 1 ?_
  refine v_loop (fun gm ds ts A => ds = [] ∧ ∃ k B1 c1, k + gm = R.length ∧ A = .own (.slice B1 (rowL k fun i => inSt seen (2 + i) != false).length c1) 3 1 (rowL k fun i => inSt seen (2 + i) != false).length (natV (rowL k fun i => inSt seen (2 + i) != false)) :: .blk g5 44 [.slice B1 (rowL k fun i => inSt seen (2 + i) != false).length c1, .slice none 0 0, .int .i64 1] :: .blk g4 44 [.slice none 0 0, .slice none 0 0, .int .i64 0] :: [.blk g3 109 (fnC seen 10)] ∧ ts = [(0, .pointer (some ⟨gn, 0, none⟩)), (4, .pointer (some ⟨g4, 0, none⟩)), (5, .pointer (some ⟨g5, 0, none⟩)), (6, .func (.func 102) #[] #[.pointer (some ⟨g3, 0, none⟩)]), (7, .bool false), (25, .int .i64 (R.length : Int)), (26, .int .i64 (k : Int))]) R.length
   (l := [(0, _), (4, _), (5, _), (6, _), (7, _), (25, _), (26, _)]) (B := _) ?_ (List.Sublist.refl _) ⟨rfl, 0, none, 0, by omega, rfl, rfl⟩ ?_
  ·exact ⟨rfl, rfl, rfl, rfl, rfl, rfl, rfl, trivial⟩
  rintro gm ds ts A ⟨rfl, k, B1, c1, hk, rfl, rfl⟩
  by_cases hlt : k < R.length
  ·have hst := rowL_step (fun i => inSt seen (2 + i) != false) k
   have hll := rowL_len k fun i => inSt seen (2 + i) != false
   generalize rowL k (fun i => inSt seen (2 + i) != false) = rl at *
   cases hbk : inSt seen (2 + k)
   ·rw [if_neg (by simp [hbk])] at hst
    (apply tr_v tk; (conv => whnf); (repeat ((first | ((first | apply VStop.mk | apply VCall.stop); (refine ot_neb Try.underlying4 rfl rfl rfl rfl rfl ?_); apply ot_v tk) | (apply VCall.q; kernel_rfl; (focus (intro w1 hs; first | with_reducible apply hro w1 k (by omega) | ((with_reducible apply hin _ (2 + k) (by omega) hbk hs); (repeat (first | with_unfolding_all exact List.Mem.head _ | assumption | with_unfolding_all refine List.Mem.tail _ ?_)))))) | (apply VRng.mk; omega) | apply VBr.t | apply VBr.f | (apply v_t; omega)); (conv => whnf))))
    exact v_rnd (gm - 1) (by omega) (l := [(0, _), (4, _), (5, _), (6, _), (7, _), (25, _), (26, _)]) (B := _) ⟨rfl, rfl, rfl, rfl, rfl, rfl, rfl, trivial⟩ (List.Sublist.refl _) ⟨rfl, k + 1, B1, c1, by omega, by rw [hst], rfl⟩
   ·rw [if_pos (by simp [hbk])] at hst
    have e1 : natV rl ++ [.int .i64 (k : Int)] = natV (rl ++ [k]) := by simp [natV]
    have e2 : rl.length + 1 = (rl ++ [k]).length := by simp
    (apply tr_v tk; (conv => whnf); (repeat ((first | ((first | apply VStop.mk | apply VCall.stop); (first | (refine ot_neb Try.underlying4 rfl rfl rfl rfl rfl ?_) | (refine ot_appendS (sz := 1) (sl := rl.length) (xs := natV rl) (A'v := fun v' => _ :: .own v' 3 1 (rl.length + 1) _ :: _) tk rfl rfl rfl rfl rfl rfl rfl rfl rfl rfl (by decide) rfl (cells_blk_all (.head _)) rfl rfl (fun v' => .there .here) (by omega) (by decide) (fun Bn cn => ?_))); apply ot_v tk) | (apply VCall.q; kernel_rfl; (focus (intro w1 hs; first | with_reducible apply hro w1 k (by omega) | ((with_reducible apply hin _ (2 + k) (by omega) hbk hs); (repeat (first | with_unfolding_all exact List.Mem.head _ | assumption | with_unfolding_all refine List.Mem.tail _ ?_)))))) | (apply VLd.mk; (focus ((repeat (first | ((with_reducible apply ld_blk); exact rfl) | (with_reducible apply ld_skip))); done))) | (apply VRng.mk; omega) | apply VBr.t | (apply v_t; omega) | (apply VNew.mk; intro g hg) | (apply VSt.mk; (focus ((repeat (first | (with_reducible exact At.here) | (with_reducible apply At.there))); done)); exact rfl)); (conv => whnf))))
    rw [e1]
    exact v_rnd (gm - 1) (by omega) (l := [(0, _), (4, _), (5, _), (6, _), (7, _), (25, _), (26, _)]) (B := _) ⟨rfl, rfl, rfl, rfl, rfl, rfl, rfl, trivial⟩ (.cons _ (List.Sublist.refl _)) ⟨rfl, k + 1, Bn, cn, by omega, by rw [hst, ← e2], rfl⟩
  obtain rfl : k = R.length := by omega
  generalize (rowL R.length fun i => inSt seen (2 + i) != false) = rl at *
  clear hk hlt
  (apply tr_v tk; (conv => whnf); (repeat ((first | (apply VLd.mk; (focus ((repeat (first | ((with_reducible apply ld_blk); exact rfl) | ((with_reducible apply ld_row); exact rfl) | ((with_reducible apply ld_row0); exact rfl) | (with_reducible assumption) | (with_reducible exact CellAt.base (by assumption)) | (with_reducible apply ld_skip))); done))) | apply VBr.f | (apply v_f; omega)); (conv => whnf))); apply VStop.mk)
  refine tr_own_nil 3 1 ?_
  refine v_loop (fun gm ds ts A => ds = [] ∧ ∃ k B2 c2, k + gm = C.length ∧ A = .own (.slice B2 (rowL k (fun k => (inSt seen (2 + R.length + k) != false) && (false == true))).length c2) 3 1 (rowL k (fun k => (inSt seen (2 + R.length + k) != false) && (false == true))).length (natV (rowL k (fun k => (inSt seen (2 + R.length + k) != false) && (false == true)))) :: .own (.slice B1 rl.length c1) 3 1 rl.length (natV rl) :: .blk g5 44 [.slice B1 rl.length c1, .slice B2 (rowL k (fun k => (inSt seen (2 + R.length + k) != false) && (false == true))).length c2, .int .i64 1] :: .blk g4 44 [.slice none 0 0, .slice none 0 0, .int .i64 0] :: [.blk g3 109 (fnC seen 10)] ∧ ts = [(0, .pointer (some ⟨gn, 0, none⟩)), (4, .pointer (some ⟨g4, 0, none⟩)), (5, .pointer (some ⟨g5, 0, none⟩)), (6, .func (.func 102) #[] #[.pointer (some ⟨g3, 0, none⟩)]), (7, .bool false), (48, .int .i64 (C.length : Int)), (49, .int .i64 (k : Int))]) C.length
   (l := [(0, _), (4, _), (5, _), (6, _), (7, _), (48, _), (49, _)]) (B := _) ?_ (List.Sublist.refl _) ⟨rfl, 0, none, 0, by omega, rfl, rfl⟩ ?_
  ·exact ⟨rfl, rfl, rfl, rfl, rfl, rfl, rfl, trivial⟩
  rintro gm ds ts A ⟨rfl, k, B2, c2, hk, rfl, rfl⟩
  by_cases hlt : k < C.length
  ·have hst := rowL_step (fun k => (inSt seen (2 + R.length + k) != false) && (false == true)) k
   have hll := rowL_len k (fun k => (inSt seen (2 + R.length + k) != false) && (false == true))
   generalize rowL k (fun k => (inSt seen (2 + R.length + k) != false) && (false == true)) = r2 at *
   cases hbk : inSt seen (2 + R.length + k)
   ·rw [if_neg (by simp [hbk])] at hst
    (apply tr_v tk; (conv => whnf); (repeat ((first | ((first | apply VStop.mk | apply VCall.stop); (refine ot_neb Try.underlying4 rfl rfl rfl rfl rfl ?_); apply ot_v tk) | (apply VCall.q; kernel_rfl; (focus (intro w1 hs; first | with_reducible apply hco w1 k (hcl0 hs) (by omega) | ((with_reducible apply hin _ (2 + R.length + k) (by omega) hbk hs); (repeat (first | with_unfolding_all exact List.Mem.head _ | assumption | with_unfolding_all refine List.Mem.tail _ ?_)))))) | (apply VRng.mk; omega) | apply VBr.t | apply VBr.f | (apply v_t; omega)); (conv => whnf))))
    exact v_rnd (gm - 1) (by omega) (l := [(0, _), (4, _), (5, _), (6, _), (7, _), (48, _), (49, _)]) (B := _) ⟨rfl, rfl, rfl, rfl, rfl, rfl, rfl, trivial⟩ (List.Sublist.refl _) ⟨rfl, k + 1, B2, c2, by omega, by rw [hst], rfl⟩
   ·rw [if_neg (by simp [hbk])] at hst
    (apply tr_v tk; (conv => whnf); (repeat ((first | ((first | apply VStop.mk | apply VCall.stop); (first | (refine ot_neb Try.underlying4 rfl rfl rfl rfl rfl ?_) | (refine ot_eqb Try.underlying4 rfl rfl rfl rfl rfl ?_)); apply ot_v tk) | (apply VCall.q; kernel_rfl; (focus (intro w1 hs; first | with_reducible apply hco w1 k (hcl0 hs) (by omega) | ((with_reducible apply hin _ (2 + R.length + k) (by omega) hbk hs); (repeat (first | with_unfolding_all exact List.Mem.head _ | assumption | with_unfolding_all refine List.Mem.tail _ ?_))) | ((with_reducible apply hin0 _ hs); (repeat (first | with_unfolding_all exact List.Mem.head _ | assumption | with_unfolding_all refine List.Mem.tail _ ?_))) | ((with_reducible apply hin1 _ hs); (repeat (first | with_unfolding_all exact List.Mem.head _ | assumption | with_unfolding_all refine List.Mem.tail _ ?_)))))) | (apply VRng.mk; omega) | apply VBr.t | apply VBr.f | (apply v_t; omega)); (conv => whnf))))
    exact v_rnd (gm - 1) (by omega) (l := [(0, _), (4, _), (5, _), (6, _), (7, _), (48, _), (49, _)]) (B := _) ⟨rfl, rfl, rfl, rfl, rfl, rfl, rfl, trivial⟩ (List.Sublist.refl _) ⟨rfl, k + 1, B2, c2, by omega, by rw [hst], rfl⟩
  obtain rfl : k = C.length := by omega
  (apply tr_v tk; (conv => whnf); (repeat ((first | (apply VLdN.mk; exact cells_blk_all (by (repeat (first | with_unfolding_all exact List.Mem.head _ | assumption | with_unfolding_all refine List.Mem.tail _ ?_))); exact rfl) | apply VBr.f | (apply v_f; omega) | (apply VSt.mk; (focus ((repeat (first | (with_reducible exact At.here) | (with_reducible apply At.there))); done)); exact rfl)); (conv => whnf))))
  (apply VRet.mk)
  refine ret1 (by first | exact .inl rfl | exact .inr rfl) rfl (by exact rv_row tk rfl rfl rfl (by first | exact cells_blk_all (by (repeat (first | exact List.Mem.head _ | assumption | refine List.Mem.tail _ ?_))) | exact cells_row0 (by (repeat (first | exact List.Mem.head _ | assumption | refine List.Mem.tail _ ?_)))) rfl) ?_
  exact fun w hs => ⟨⟨B1, c1, B2, c2⟩, rfl, trivial, Pick.st (by ((try dsimp only); repeat (first | exact Pick.nil | ((apply Pick.cons); (focus (repeat (first | exact Rem.here | apply Rem.there)); done))))) hs⟩
 ·have hq0 : (if true = true then (0 : Int) else 1) = 0 := rfl
  rw [hq0]
  ((conv => whnf); (repeat ((first | ((first | apply VStop.mk | apply VCall.stop); (refine ot_buildZ tk rfl rfl rfl rfl rfl ⟨_, rfl⟩ ?_); apply ot_v tk) | (apply VLdN.mk; exact cells_blk_all (by (repeat (first | with_unfolding_all exact List.Mem.head _ | assumption | with_unfolding_all refine List.Mem.tail _ ?_))); exact rfl) | (apply VEq.mk false; kernel_rfl; exact heq) | (apply VCall.q; kernel_rfl; (focus (intro w1 hs; first | ((with_reducible apply hin0 _ hs); (repeat (first | with_unfolding_all exact List.Mem.head _ | assumption | with_unfolding_all refine List.Mem.tail _ ?_)))))) | (apply VLd.mk; (focus ((repeat (first | ((with_reducible apply ld_blk); exact rfl) | ((with_reducible apply ld_row); exact rfl) | ((with_reducible apply ld_row0); exact rfl) | (with_reducible assumption) | (with_reducible exact CellAt.base (by assumption)) | (with_reducible apply ld_skip))); done))) | apply VBr.t | apply VBr.f | (apply VNew.mk; intro g hg) | (apply VSt.mk; (focus ((repeat (first | (with_reducible exact At.here) | (with_reducible apply At.there))); done)); exact rfl)); (conv => whnf))); apply VStop.mk)
  rename_i g3 hg3 g4 hg4
  revert g hg
  intro g5 hg5
  refine tr_own_nil 3 1 ?_
  refine v_loop (fun gm ds ts A => ds = [] ∧ ∃ k B1 c1, k + gm = R.length ∧ A = .own (.slice B1 (rowL k fun i => inSt seen (2 + i) != true).length c1) 3 1 (rowL k fun i => inSt seen (2 + i) != true).length (natV (rowL k fun i => inSt seen (2 + i) != true)) :: .blk g5 44 [.slice B1 (rowL k fun i => inSt seen (2 + i) != true).length c1, .slice none 0 0, .int .i64 0] :: .blk g4 44 [.slice none 0 0, .slice none 0 0, .int .i64 0] :: [.blk g3 109 (fnC seen 10)] ∧ ts = [(0, .pointer (some ⟨gn, 0, none⟩)), (4, .pointer (some ⟨g4, 0, none⟩)), (5, .pointer (some ⟨g5, 0, none⟩)), (6, .func (.func 102) #[] #[.pointer (some ⟨g3, 0, none⟩)]), (7, .bool true), (25, .int .i64 (R.length : Int)), (26, .int .i64 (k : Int))]) R.length
   (l := [(0, _), (4, _), (5, _), (6, _), (7, _), (25, _), (26, _)]) (B := _) ?_ (List.Sublist.refl _) ⟨rfl, 0, none, 0, by omega, rfl, rfl⟩ ?_
  ·exact ⟨rfl, rfl, rfl, rfl, rfl, rfl, rfl, trivial⟩
  rintro gm ds ts A ⟨rfl, k, B1, c1, hk, rfl, rfl⟩
  by_cases hlt : k < R.length
  ·have hst := rowL_step (fun i => inSt seen (2 + i) != true) k
   have hll := rowL_len k fun i => inSt seen (2 + i) != true
   generalize rowL k (fun i => inSt seen (2 + i) != true) = rl at *
   cases hbk : inSt seen (2 + k)
   ·rw [if_pos (by simp [hbk])] at hst
    have e1 : natV rl ++ [.int .i64 (k : Int)] = natV (rl ++ [k]) := by simp [natV]
    have e2 : rl.length + 1 = (rl ++ [k]).length := by simp
    (apply tr_v tk; (conv => whnf); (repeat ((first | ((first | apply VStop.mk | apply VCall.stop); (first | (refine ot_neb Try.underlying4 rfl rfl rfl rfl rfl ?_) | (refine ot_appendS (sz := 1) (sl := rl.length) (xs := natV rl) (A'v := fun v' => _ :: .own v' 3 1 (rl.length + 1) _ :: _) tk rfl rfl rfl rfl rfl rfl rfl rfl rfl rfl (by decide) rfl (cells_blk_all (.head _)) rfl rfl (fun v' => .there .here) (by omega) (by decide) (fun Bn cn => ?_))); apply ot_v tk) | (apply VCall.q; kernel_rfl; (focus (intro w1 hs; first | with_reducible apply hro w1 k (by omega) | ((with_reducible apply hin _ (2 + k) (by omega) hbk hs); (repeat (first | with_unfolding_all exact List.Mem.head _ | assumption | with_unfolding_all refine List.Mem.tail _ ?_)))))) | (apply VLd.mk; (focus ((repeat (first | ((with_reducible apply ld_blk); exact rfl) | (with_reducible apply ld_skip))); done))) | (apply VRng.mk; omega) | apply VBr.t | (apply v_t; omega) | (apply VNew.mk; intro g hg) | (apply VSt.mk; (focus ((repeat (first | (with_reducible exact At.here) | (with_reducible apply At.there))); done)); exact rfl)); (conv => whnf))))
    rw [e1]
    exact v_rnd (gm - 1) (by omega) (l := [(0, _), (4, _), (5, _), (6, _), (7, _), (25, _), (26, _)]) (B := _) ⟨rfl, rfl, rfl, rfl, rfl, rfl, rfl, trivial⟩ (.cons _ (List.Sublist.refl _)) ⟨rfl, k + 1, Bn, cn, by omega, by rw [hst, ← e2], rfl⟩
   ·rw [if_neg (by simp [hbk])] at hst
    (apply tr_v tk; (conv => whnf); (repeat ((first | ((first | apply VStop.mk | apply VCall.stop); (refine ot_neb Try.underlying4 rfl rfl rfl rfl rfl ?_); apply ot_v tk) | (apply VCall.q; kernel_rfl; (focus (intro w1 hs; first | with_reducible apply hro w1 k (by omega) | ((with_reducible apply hin _ (2 + k) (by omega) hbk hs); (repeat (first | with_unfolding_all exact List.Mem.head _ | assumption | with_unfolding_all refine List.Mem.tail _ ?_)))))) | (apply VRng.mk; omega) | apply VBr.t | apply VBr.f | (apply v_t; omega)); (conv => whnf))))
    exact v_rnd (gm - 1) (by omega) (l := [(0, _), (4, _), (5, _), (6, _), (7, _), (25, _), (26, _)]) (B := _) ⟨rfl, rfl, rfl, rfl, rfl, rfl, rfl, trivial⟩ (List.Sublist.refl _) ⟨rfl, k + 1, B1, c1, by omega, by rw [hst], rfl⟩
  obtain rfl : k = R.length := by omega
  generalize (rowL R.length fun i => inSt seen (2 + i) != true) = rl at *
  clear hk hlt
  (apply tr_v tk; (conv => whnf); (repeat ((first | (apply VLd.mk; (focus ((repeat (first | ((with_reducible apply ld_blk); exact rfl) | ((with_reducible apply ld_row); exact rfl) | ((with_reducible apply ld_row0); exact rfl) | (with_reducible assumption) | (with_reducible exact CellAt.base (by assumption)) | (with_reducible apply ld_skip))); done))) | apply VBr.f | (apply v_f; omega)); (conv => whnf))); apply VStop.mk)
  refine tr_own_nil 3 1 ?_
  refine v_loop (fun gm ds ts A => ds = [] ∧ ∃ k B2 c2, k + gm = C.length ∧ A = .own (.slice B2 (rowL k (fun k => (inSt seen (2 + R.length + k) != true) && (true == false))).length c2) 3 1 (rowL k (fun k => (inSt seen (2 + R.length + k) != true) && (true == false))).length (natV (rowL k (fun k => (inSt seen (2 + R.length + k) != true) && (true == false)))) :: .own (.slice B1 rl.length c1) 3 1 rl.length (natV rl) :: .blk g5 44 [.slice B1 rl.length c1, .slice B2 (rowL k (fun k => (inSt seen (2 + R.length + k) != true) && (true == false))).length c2, .int .i64 0] :: .blk g4 44 [.slice none 0 0, .slice none 0 0, .int .i64 0] :: [.blk g3 109 (fnC seen 10)] ∧ ts = [(0, .pointer (some ⟨gn, 0, none⟩)), (4, .pointer (some ⟨g4, 0, none⟩)), (5, .pointer (some ⟨g5, 0, none⟩)), (6, .func (.func 102) #[] #[.pointer (some ⟨g3, 0, none⟩)]), (7, .bool true), (48, .int .i64 (C.length : Int)), (49, .int .i64 (k : Int))]) C.length
   (l := [(0, _), (4, _), (5, _), (6, _), (7, _), (48, _), (49, _)]) (B := _) ?_ (List.Sublist.refl _) ⟨rfl, 0, none, 0, by omega, rfl, rfl⟩ ?_
  ·exact ⟨rfl, rfl, rfl, rfl, rfl, rfl, rfl, trivial⟩
  rintro gm ds ts A ⟨rfl, k, B2, c2, hk, rfl, rfl⟩
  by_cases hlt : k < C.length
  ·have hst := rowL_step (fun k => (inSt seen (2 + R.length + k) != true) && (true == false)) k
   have hll := rowL_len k (fun k => (inSt seen (2 + R.length + k) != true) && (true == false))
   generalize rowL k (fun k => (inSt seen (2 + R.length + k) != true) && (true == false)) = r2 at *
   cases hbk : inSt seen (2 + R.length + k)
   ·rw [if_neg (by simp [hbk])] at hst
    (apply tr_v tk; (conv => whnf); (repeat ((first | ((first | apply VStop.mk | apply VCall.stop); (first | (refine ot_neb Try.underlying4 rfl rfl rfl rfl rfl ?_) | (refine ot_eqb Try.underlying4 rfl rfl rfl rfl rfl ?_)); apply ot_v tk) | (apply VCall.q; kernel_rfl; (focus (intro w1 hs; first | with_reducible apply hco w1 k (hcl0 hs) (by omega) | ((with_reducible apply hin _ (2 + R.length + k) (by omega) hbk hs); (repeat (first | with_unfolding_all exact List.Mem.head _ | assumption | with_unfolding_all refine List.Mem.tail _ ?_))) | ((with_reducible apply hin0 _ hs); (repeat (first | with_unfolding_all exact List.Mem.head _ | assumption | with_unfolding_all refine List.Mem.tail _ ?_))) | ((with_reducible apply hin1 _ hs); (repeat (first | with_unfolding_all exact List.Mem.head _ | assumption | with_unfolding_all refine List.Mem.tail _ ?_)))))) | (apply VRng.mk; omega) | apply VBr.t | apply VBr.f | (apply v_t; omega)); (conv => whnf))))
    exact v_rnd (gm - 1) (by omega) (l := [(0, _), (4, _), (5, _), (6, _), (7, _), (48, _), (49, _)]) (B := _) ⟨rfl, rfl, rfl, rfl, rfl, rfl, rfl, trivial⟩ (List.Sublist.refl _) ⟨rfl, k + 1, B2, c2, by omega, by rw [hst], rfl⟩
   ·rw [if_neg (by simp [hbk])] at hst
    (apply tr_v tk; (conv => whnf); (repeat ((first | ((first | apply VStop.mk | apply VCall.stop); (refine ot_neb Try.underlying4 rfl rfl rfl rfl rfl ?_); apply ot_v tk) | (apply VCall.q; kernel_rfl; (focus (intro w1 hs; first | with_reducible apply hco w1 k (hcl0 hs) (by omega) | ((with_reducible apply hin _ (2 + R.length + k) (by omega) hbk hs); (repeat (first | with_unfolding_all exact List.Mem.head _ | assumption | with_unfolding_all refine List.Mem.tail _ ?_)))))) | (apply VRng.mk; omega) | apply VBr.t | apply VBr.f | (apply v_t; omega)); (conv => whnf))))
    exact v_rnd (gm - 1) (by omega) (l := [(0, _), (4, _), (5, _), (6, _), (7, _), (48, _), (49, _)]) (B := _) ⟨rfl, rfl, rfl, rfl, rfl, rfl, rfl, trivial⟩ (List.Sublist.refl _) ⟨rfl, k + 1, B2, c2, by omega, by rw [hst], rfl⟩
  obtain rfl : k = C.length := by omega
  (apply tr_v tk; (conv => whnf); (repeat ((first | (apply VLdN.mk; exact cells_blk_all (by (repeat (first | with_unfolding_all exact List.Mem.head _ | assumption | with_unfolding_all refine List.Mem.tail _ ?_))); exact rfl) | apply VBr.f | (apply v_f; omega) | (apply VSt.mk; (focus ((repeat (first | (with_reducible exact At.here) | (with_reducible apply At.there))); done)); exact rfl)); (conv => whnf))))
  (apply VRet.mk)
  refine ret1 (by first | exact .inl rfl | exact .inr rfl) rfl (by exact rv_row tk rfl rfl rfl (by first | exact cells_blk_all (by (repeat (first | exact List.Mem.head _ | assumption | refine List.Mem.tail _ ?_))) | exact cells_row0 (by (repeat (first | exact List.Mem.head _ | assumption | refine List.Mem.tail _ ?_)))) rfl) ?_
  exact fun w hs => ⟨⟨B1, c1, B2, c2⟩, rfl, trivial, Pick.st (by ((try dsimp only); repeat (first | exact Pick.nil | ((apply Pick.cons); (focus (repeat (first | exact Rem.here | apply Rem.there)); done))))) hs⟩
 ·have hq0 : (if true = true then (0 : Int) else 1) = 0 := rfl
  rw [hq0]
  ((conv => whnf); (repeat ((first | ((first | apply VStop.mk | apply VCall.stop); (refine ot_buildZ tk rfl rfl rfl rfl rfl ⟨_, rfl⟩ ?_); apply ot_v tk) | (apply VLdN.mk; exact cells_blk_all (by (repeat (first | with_unfolding_all exact List.Mem.head _ | assumption | with_unfolding_all refine List.Mem.tail _ ?_))); exact rfl) | (apply VEq.mk false; kernel_rfl; exact heq) | (apply VCall.q; kernel_rfl; (focus (intro w1 hs; first | ((with_reducible apply hin0 _ hs); (repeat (first | with_unfolding_all exact List.Mem.head _ | assumption | with_unfolding_all refine List.Mem.tail _ ?_)))))) | (apply VLd.mk; (focus ((repeat (first | ((with_reducible apply ld_blk); exact rfl) | ((with_reducible apply ld_row); exact rfl) | ((with_reducible apply ld_row0); exact rfl) | (with_reducible assumption) | (with_reducible exact CellAt.base (by assumption)) | (with_reducible apply ld_skip))); done))) | apply VBr.t | apply VBr.f | (apply VNew.mk; intro g hg) | (apply VSt.mk; (focus ((repeat (first | (with_reducible exact At.here) | (with_reducible apply At.there))); done)); exact rfl)); (conv => whnf))); apply VStop.mk)
  rename_i g3 hg3 g4 hg4
  revert g hg
  intro g5 hg5
  refine tr_own_nil 3 1 ?_
  refine v_loop (fun gm ds ts A => ds = [] ∧ ∃ k B1 c1, k + gm = R.length ∧ A = .own (.slice B1 (rowL k fun i => inSt seen (2 + i) != true).length c1) 3 1 (rowL k fun i => inSt seen (2 + i) != true).length (natV (rowL k fun i => inSt seen (2 + i) != true)) :: .blk g5 44 [.slice B1 (rowL k fun i => inSt seen (2 + i) != true).length c1, .slice none 0 0, .int .i64 0] :: .blk g4 44 [.slice none 0 0, .slice none 0 0, .int .i64 0] :: [.blk g3 109 (fnC seen 10)] ∧ ts = [(0, .pointer (some ⟨gn, 0, none⟩)), (4, .pointer (some ⟨g4, 0, none⟩)), (5, .pointer (some ⟨g5, 0, none⟩)), (6, .func (.func 102) #[] #[.pointer (some ⟨g3, 0, none⟩)]), (7, .bool true), (25, .int .i64 (R.length : Int)), (26, .int .i64 (k : Int))]) R.length
   (l := [(0, _), (4, _), (5, _), (6, _), (7, _), (25, _), (26, _)]) (B := _) ?_ (List.Sublist.refl _) ⟨rfl, 0, none, 0, by omega, rfl, rfl⟩ ?_
  ·exact ⟨rfl, rfl, rfl, rfl, rfl, rfl, rfl, trivial⟩
  rintro gm ds ts A ⟨rfl, k, B1, c1, hk, rfl, rfl⟩
  by_cases hlt : k < R.length
  ·have hst := rowL_step (fun i => inSt seen (2 + i) != true) k
   have hll := rowL_len k fun i => inSt seen (2 + i) != true
   generalize rowL k (fun i => inSt seen (2 + i) != true) = rl at *
   cases hbk : inSt seen (2 + k)
   ·rw [if_pos (by simp [hbk])] at hst
    have e1 : natV rl ++ [.int .i64 (k : Int)] = natV (rl ++ [k]) := by simp [natV]
    have e2 : rl.length + 1 = (rl ++ [k]).length := by simp
    (apply tr_v tk; (conv => whnf); (repeat ((first | ((first | apply VStop.mk | apply VCall.stop); (first | (refine ot_neb Try.underlying4 rfl rfl rfl rfl rfl ?_) | (refine ot_appendS (sz := 1) (sl := rl.length) (xs := natV rl) (A'v := fun v' => _ :: .own v' 3 1 (rl.length + 1) _ :: _) tk rfl rfl rfl rfl rfl rfl rfl rfl rfl rfl (by decide) rfl (cells_blk_all (.head _)) rfl rfl (fun v' => .there .here) (by omega) (by decide) (fun Bn cn => ?_))); apply ot_v tk) | (apply VCall.q; kernel_rfl; (focus (intro w1 hs; first | with_reducible apply hro w1 k (by omega) | ((with_reducible apply hin _ (2 + k) (by omega) hbk hs); (repeat (first | with_unfolding_all exact List.Mem.head _ | assumption | with_unfolding_all refine List.Mem.tail _ ?_)))))) | (apply VLd.mk; (focus ((repeat (first | ((with_reducible apply ld_blk); exact rfl) | (with_reducible apply ld_skip))); done))) | (apply VRng.mk; omega) | apply VBr.t | (apply v_t; omega) | (apply VNew.mk; intro g hg) | (apply VSt.mk; (focus ((repeat (first | (with_reducible exact At.here) | (with_reducible apply At.there))); done)); exact rfl)); (conv => whnf))))
    rw [e1]
    exact v_rnd (gm - 1) (by omega) (l := [(0, _), (4, _), (5, _), (6, _), (7, _), (25, _), (26, _)]) (B := _) ⟨rfl, rfl, rfl, rfl, rfl, rfl, rfl, trivial⟩ (.cons _ (List.Sublist.refl _)) ⟨rfl, k + 1, Bn, cn, by omega, by rw [hst, ← e2], rfl⟩
   ·rw [if_neg (by simp [hbk])] at hst
    (apply tr_v tk; (conv => whnf); (repeat ((first | ((first | apply VStop.mk | apply VCall.stop); (refine ot_neb Try.underlying4 rfl rfl rfl rfl rfl ?_); apply ot_v tk) | (apply VCall.q; kernel_rfl; (focus (intro w1 hs; first | with_reducible apply hro w1 k (by omega) | ((with_reducible apply hin _ (2 + k) (by omega) hbk hs); (repeat (first | with_unfolding_all exact List.Mem.head _ | assumption | with_unfolding_all refine List.Mem.tail _ ?_)))))) | (apply VRng.mk; omega) | apply VBr.t | apply VBr.f | (apply v_t; omega)); (conv => whnf))))
    exact v_rnd (gm - 1) (by omega) (l := [(0, _), (4, _), (5, _), (6, _), (7, _), (25, _), (26, _)]) (B := _) ⟨rfl, rfl, rfl, rfl, rfl, rfl, rfl, trivial⟩ (List.Sublist.refl _) ⟨rfl, k + 1, B1, c1, by omega, by rw [hst], rfl⟩
  obtain rfl : k = R.length := by omega
  generalize (rowL R.length fun i => inSt seen (2 + i) != true) = rl at *
  clear hk hlt
  (apply tr_v tk; (conv => whnf); (repeat ((first | (apply VLd.mk; (focus ((repeat (first | ((with_reducible apply ld_blk); exact rfl) | ((with_reducible apply ld_row); exact rfl) | ((with_reducible apply ld_row0); exact rfl) | (with_reducible assumption) | (with_reducible exact CellAt.base (by assumption)) | (with_reducible apply ld_skip))); done))) | apply VBr.f | (apply v_f; omega)); (conv => whnf))); apply VStop.mk)
  refine tr_own_nil 3 1 ?_
  refine v_loop (fun gm ds ts A => ds = [] ∧ ∃ k B2 c2, k + gm = C.length ∧ A = .own (.slice B2 (rowL k (fun k => (inSt seen (2 + R.length + k) != true) && (true == true))).length c2) 3 1 (rowL k (fun k => (inSt seen (2 + R.length + k) != true) && (true == true))).length (natV (rowL k (fun k => (inSt seen (2 + R.length + k) != true) && (true == true)))) :: .own (.slice B1 rl.length c1) 3 1 rl.length (natV rl) :: .blk g5 44 [.slice B1 rl.length c1, .slice B2 (rowL k (fun k => (inSt seen (2 + R.length + k) != true) && (true == true))).length c2, .int .i64 0] :: .blk g4 44 [.slice none 0 0, .slice none 0 0, .int .i64 0] :: [.blk g3 109 (fnC seen 10)] ∧ ts = [(0, .pointer (some ⟨gn, 0, none⟩)), (4, .pointer (some ⟨g4, 0, none⟩)), (5, .pointer (some ⟨g5, 0, none⟩)), (6, .func (.func 102) #[] #[.pointer (some ⟨g3, 0, none⟩)]), (7, .bool true), (48, .int .i64 (C.length : Int)), (49, .int .i64 (k : Int))]) C.length
   (l := [(0, _), (4, _), (5, _), (6, _), (7, _), (48, _), (49, _)]) (B := _) ?_ (List.Sublist.refl _) ⟨rfl, 0, none, 0, by omega, rfl, rfl⟩ ?_
  ·exact ⟨rfl, rfl, rfl, rfl, rfl, rfl, rfl, trivial⟩
  rintro gm ds ts A ⟨rfl, k, B2, c2, hk, rfl, rfl⟩
  by_cases hlt : k < C.length
  ·have hst := rowL_step (fun k => (inSt seen (2 + R.length + k) != true) && (true == true)) k
   have hll := rowL_len k (fun k => (inSt seen (2 + R.length + k) != true) && (true == true))
   generalize rowL k (fun k => (inSt seen (2 + R.length + k) != true) && (true == true)) = r2 at *
   cases hbk : inSt seen (2 + R.length + k)
   ·rw [if_pos (by simp [hbk])] at hst
    have e1 : natV r2 ++ [.int .i64 (k : Int)] = natV (r2 ++ [k]) := by simp [natV]
    have e2 : r2.length + 1 = (r2 ++ [k]).length := by simp
    (apply tr_v tk; (conv => whnf); (repeat ((first | ((first | apply VStop.mk | apply VCall.stop); (first | (refine ot_neb Try.underlying4 rfl rfl rfl rfl rfl ?_) | (refine ot_eqb Try.underlying4 rfl rfl rfl rfl rfl ?_) | (refine ot_appendS (sz := 1) (sl := r2.length) (xs := natV r2) (A'v := fun v' => _ :: .own v' 3 1 (r2.length + 1) _ :: _) tk rfl rfl rfl rfl rfl rfl rfl rfl rfl rfl (by decide) rfl (cells_blk_all (.head _)) rfl rfl (fun v' => .there .here) (by omega) (by decide) (fun Bn cn => ?_))); apply ot_v tk) | (apply VCall.q; kernel_rfl; (focus (intro w1 hs; first | with_reducible apply hco w1 k (hcl0 hs) (by omega) | ((with_reducible apply hin _ (2 + R.length + k) (by omega) hbk hs); (repeat (first | with_unfolding_all exact List.Mem.head _ | assumption | with_unfolding_all refine List.Mem.tail _ ?_))) | ((with_reducible apply hin0 _ hs); (repeat (first | with_unfolding_all exact List.Mem.head _ | assumption | with_unfolding_all refine List.Mem.tail _ ?_))) | ((with_reducible apply hin1 _ hs); (repeat (first | with_unfolding_all exact List.Mem.head _ | assumption | with_unfolding_all refine List.Mem.tail _ ?_)))))) | (apply VLd.mk; (focus ((repeat (first | ((with_reducible apply ld_blk); exact rfl) | (with_reducible apply ld_skip))); done))) | (apply VRng.mk; omega) | apply VBr.t | (apply v_t; omega) | (apply VNew.mk; intro g hg) | (apply VSt.mk; (focus ((repeat (first | (with_reducible exact At.here) | (with_reducible apply At.there))); done)); exact rfl)); (conv => whnf))))
    rw [e1]
    exact v_rnd (gm - 1) (by omega) (l := [(0, _), (4, _), (5, _), (6, _), (7, _), (48, _), (49, _)]) (B := _) ⟨rfl, rfl, rfl, rfl, rfl, rfl, rfl, trivial⟩ (.cons _ (List.Sublist.refl _)) ⟨rfl, k + 1, Bn, cn, by omega, by rw [hst, ← e2], rfl⟩
   ·rw [if_neg (by simp [hbk])] at hst
    (apply tr_v tk; (conv => whnf); (repeat ((first | ((first | apply VStop.mk | apply VCall.stop); (refine ot_neb Try.underlying4 rfl rfl rfl rfl rfl ?_); apply ot_v tk) | (apply VCall.q; kernel_rfl; (focus (intro w1 hs; first | with_reducible apply hco w1 k (hcl0 hs) (by omega) | ((with_reducible apply hin _ (2 + R.length + k) (by omega) hbk hs); (repeat (first | with_unfolding_all exact List.Mem.head _ | assumption | with_unfolding_all refine List.Mem.tail _ ?_)))))) | (apply VRng.mk; omega) | apply VBr.t | apply VBr.f | (apply v_t; omega)); (conv => whnf))))
    exact v_rnd (gm - 1) (by omega) (l := [(0, _), (4, _), (5, _), (6, _), (7, _), (48, _), (49, _)]) (B := _) ⟨rfl, rfl, rfl, rfl, rfl, rfl, rfl, trivial⟩ (List.Sublist.refl _) ⟨rfl, k + 1, B2, c2, by omega, by rw [hst], rfl⟩
  obtain rfl : k = C.length := by omega
  (apply tr_v tk; (conv => whnf); (repeat ((first | (apply VLdN.mk; exact cells_blk_all (by (repeat (first | with_unfolding_all exact List.Mem.head _ | assumption | with_unfolding_all refine List.Mem.tail _ ?_))); exact rfl) | apply VBr.f | (apply v_f; omega) | (apply VSt.mk; (focus ((repeat (first | (with_reducible exact At.here) | (with_reducible apply At.there))); done)); exact rfl)); (conv => whnf))))
  (apply VRet.mk)
  refine ret1 (by first | exact .inl rfl | exact .inr rfl) rfl (by exact rv_row tk rfl rfl rfl (by first | exact cells_blk_all (by (repeat (first | exact List.Mem.head _ | assumption | refine List.Mem.tail _ ?_))) | exact cells_row0 (by (repeat (first | exact List.Mem.head _ | assumption | refine List.Mem.tail _ ?_)))) rfl) ?_
  exact fun w hs => ⟨⟨B1, c1, B2, c2⟩, rfl, trivial, Pick.st (by ((try dsimp only); repeat (first | exact Pick.nil | ((apply Pick.cons); (focus (repeat (first | exact Rem.here | apply Rem.there)); done))))) hs⟩
end
end Go.Proofs.Ytalcccgialpjgaa
