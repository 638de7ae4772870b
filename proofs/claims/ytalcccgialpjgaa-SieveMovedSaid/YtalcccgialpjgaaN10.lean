/- Ways back, by marks; what push does, plainly: lemmas for the rows of this seat. No conditions. -/
import Derived.Test.YtalcccgialpjgaaN6
import Derived.Test.YtalcccgialpjgaaN9
set_option linter.all false
namespace Go.Proofs.Ytalcccgialpjgaa
open Go.RowKit
/-! ## Ways back, by marks; what push does, plainly -/
inductive WayS (seen : Nat → Int) (root : Nat) : Nat → List (Nat × Nat) → Prop
 | stop (h : seen root = (root : Int) + 1) : WayS seen root root []
 | step {v p : Nat} {l : List (Nat × Nat)} (h1 : seen v = (p : Int) + 1) (h2 : p ≠ v) (h : WayS seen root p l) : WayS seen root v ((p, v) :: l)
theorem WayS.uniq {seen : Nat → Int} {r r' : Nat} {l l' : List (Nat × Nat)} {v : Nat} (h : WayS seen r v l) : WayS seen r' v l' → r = r' ∧ l = l' := by
 induction h generalizing l' with
 | stop h =>
  intro h'
  cases h' with
  | stop => exact ⟨rfl, rfl⟩
  | step h1 h2 _ => exact absurd (by omega) h2
 | step h1 h2 h ih =>
  intro h'
  cases h' with
  | stop h => exact absurd (by omega) h2
  | @step _ p' l2 h1' h2' h' =>
   rename_i p l1
   obtain rfl : p = p' := by omega
   obtain ⟨e1, e2⟩ := ih h'
   exact ⟨e1, by rw [e2]⟩
theorem WayS.way {seen : Nat → Int} {r : Nat} : ∀ {l : List (Nat × Nat)} {v : Nat}, WayS seen r v l → Way (fun v => (seen v - 1).toNat) r v l
 | _, _, .stop _ => .stop
 | _, v, .step (p := p) h1 h2 h => by
  have e : (fun v => (seen v - 1).toNat) v = p := by dsimp only; omega
  have := h.way
  rw [← e] at this ⊢
  exact .step this
theorem WayOK.back {N : Nat} {L : Nat → Nat → Bool} {frm : List Nat} {seen : Nat → Int} (h : WayOK N L frm seen) : ∃ rk : Nat → Nat, ∀ v, v < N → seen v ≠ 0 → ∃ r l, WayS seen r v l ∧ r ∈ frm ∧ ∀ x ∈ l, x.1 < N ∧ x.2 < N ∧ L x.1 x.2 = true ∧ rk x.1 < rk x.2 := by
 obtain ⟨rk, h1, h2, h3, h4⟩ := h
 refine ⟨rk, ?_⟩
 have key : ∀ k v, rk v = k → v < N → seen v ≠ 0 → ∃ r l, WayS seen r v l ∧ r ∈ frm ∧ ∀ x ∈ l, x.1 < N ∧ x.2 < N ∧ L x.1 x.2 = true ∧ rk x.1 < rk x.2 := by
  intro k
  induction k using Nat.strongRecOn with
  | _ k ih =>
   intro v hk hv hs
   rcases h2 v hv hs with hf | ⟨p, p1, p2, p3, p4, p5⟩
   ·exact ⟨v, [], .stop (h1 v hf), hf, by simp⟩
   ·obtain ⟨r, l, g1, g2, g3⟩ := ih (rk p) (by omega) p rfl p1 p4
    refine ⟨r, _, .step p2 (by rintro rfl; omega) g1, g2, fun x hx => ?_⟩
    rcases List.mem_cons.1 hx with rfl | hx
    ·exact ⟨p1, hv, p3, p5⟩
    ·exact g3 x hx
 exact fun v => key _ v rfl
/-- Bounds along edges only. -/
structure Bnds (n m : Nat) (lo hi : Nat → Nat → Int) : Prop where
 lo0 : ∀ u v, netE n m u v = false → lo u v = 0
 hi0 : ∀ u v, netE n m u v = false → hi u v = 0
 slo : Small lo
 shi : Small hi
/-- What flows keeps to the bounds. -/
structure Flow (n m : Nat) (lo hi g : Nat → Nat → Int) : Prop where
 g0 : ∀ u v, netE n m u v = false → g u v = 0
 inb : inB (2 + n + m) lo hi g
theorem Bnds.ok {n m : Nat} {lo hi : Nat → Nat → Int} (h : Bnds n m lo hi) : NetOK (2 + n + m) (netE n m) lo hi := ⟨fun u v he => ⟨h.lo0 u v he, h.hi0 u v he⟩, fun u v he => netE_one he⟩
theorem Flow.net {n m : Nat} {lo hi g : Nat → Nat → Int} (hB : Bnds n m lo hi) (h : Flow n m lo hi g) : NetG n m lo hi g :=
 ⟨h.g0, hB.lo0, hB.hi0, fun u v => by
  cases he : netE n m u v with
  | false => rw [h.g0 u v he]; omega
  | true =>
   have := netE_lt he
   have := h.inb u v this.1 this.2
   have := hB.slo u v
   have := hB.shi u v
   omega, hB.slo, hB.shi⟩
theorem pushE_g0 {n m : Nat} {a : Int} {g : Nat → Nat → Int} (h : ∀ u v, netE n m u v = false → g u v = 0) {x : Nat × Nat} (hx : netE n m x.1 x.2 = true ∨ netE n m x.2 x.1 = true) : ∀ u v, netE n m u v = false → pushE (netE n m) a g x u v = 0 := by
 intro u v he
 unfold pushE
 by_cases h1 : netE n m x.1 x.2 = true
 ·rw [if_pos h1]
  split
  ·rename_i h2
   rw [h2.1, h2.2, h1] at he; cases he
  ·exact h u v he
 ·rw [if_neg h1]
  have h1' : netE n m x.2 x.1 = true := by rcases hx with h | h; exact absurd h h1; exact h
  split
  ·rename_i h2
   rw [h2.1, h2.2, h1'] at he; cases he
  ·exact h u v he
/-- As much as can, along a way. -/
def roomS (lo hi g : Nat → Nat → Int) (most : Int) (l : List (Nat × Nat)) : Int := l.foldl (fun a x => min a (res lo hi g x.1 x.2)) most
theorem roomS_le (lo hi g : Nat → Nat → Int) : ∀ (l : List (Nat × Nat)) (most : Int), roomS lo hi g most l ≤ most ∧ ∀ x ∈ l, roomS lo hi g most l ≤ res lo hi g x.1 x.2
 | [], most => ⟨Int.le_refl _, by simp⟩
 | y :: l, most => by
  have h := roomS_le lo hi g l (min most (res lo hi g y.1 y.2))
  have e : roomS lo hi g most (y :: l) = roomS lo hi g (min most (res lo hi g y.1 y.2)) l := rfl
  rw [e]
  refine ⟨by omega, fun x hx => ?_⟩
  rcases List.mem_cons.1 hx with rfl | hx
  ·omega
  ·exact h.2 x hx
theorem roomS_pos (lo hi g : Nat → Nat → Int) : ∀ (l : List (Nat × Nat)) (most : Int), 0 < most → (∀ x ∈ l, 0 < res lo hi g x.1 x.2) → 0 < roomS lo hi g most l
 | [], most, h, _ => h
 | y :: l, most, h, hl => by
  have e : roomS lo hi g most (y :: l) = roomS lo hi g (min most (res lo hi g y.1 y.2)) l := rfl
  rw [e]
  have := hl y (.head _)
  exact roomS_pos lo hi g l _ (by omega) fun x hx => hl x (.tail _ hx)
/-- Each edge of a way can still take so much. -/
structure Along (n m : Nat) (lo hi g : Nat → Nat → Int) (a : Int) (l : List (Nat × Nat)) : Prop where
 far : l.Pairwise Far
 lt : ∀ x ∈ l, x.1 < 2 + n + m ∧ x.2 < 2 + n + m ∧ a ≤ res lo hi g x.1 x.2 ∧ (netE n m x.1 x.2 = true ∨ netE n m x.2 x.1 = true)
theorem Along.flow {n m : Nat} {lo hi : Nat → Nat → Int} {a : Int} (hB : Bnds n m lo hi) (ha : 0 ≤ a) : ∀ {l : List (Nat × Nat)} {g : Nat → Nat → Int}, Flow n m lo hi g → Along n m lo hi g a l → Flow n m lo hi (l.foldl (pushE (netE n m) a) g)
 | [], _, h, _ => h
 | x :: l, g, h, hl => by
  have h0 := hl.lt x (.head _)
  have hp' := List.pairwise_cons.1 hl.far
  rw [List.foldl_cons]
  refine Along.flow hB ha ⟨pushE_g0 h.g0 h0.2.2.2, inB_pushE hB.ok ha h.inb h0.1 h0.2.1 h0.2.2.1 h0.2.2.2⟩ ⟨hp'.2, fun y hy => ?_⟩
  have := hl.lt y (.tail _ hy)
  rw [res_pushE (hp'.1 y hy)]
  exact this
theorem Along.take {n m : Nat} {lo hi g : Nat → Nat → Int} {a : Int} {l : List (Nat × Nat)} (h : Along n m lo hi g a l) (k : Nat) : Along n m lo hi g a (l.take k) :=
 ⟨h.far.sublist (List.take_sublist k l), fun x hx => h.lt x (List.mem_of_mem_take hx)⟩
theorem take_snoc2 {l : List (Nat × Nat)} {k : Nat} (h : k < l.length) (g : Nat → Nat → Int) (n m : Nat) (a : Int) : (l.take (k + 1)).foldl (pushE (netE n m) a) g = pushE (netE n m) a ((l.take k).foldl (pushE (netE n m) a) g) l[k] := by
 rw [List.take_add_one, List.getElem?_eq_getElem h, Option.toList_some, List.foldl_append]
 rfl
def pairC : List (Nat × Nat) → List Value
 | [] => []
 | x :: l => .int .i64 (x.1 : Int) :: .int .i64 (x.2 : Int) :: pairC l
theorem pairC_append (l m : List (Nat × Nat)) : pairC (l ++ m) = pairC l ++ pairC m := by
 induction l with
 | nil => rfl
 | cons x l ih => simp [pairC, ih]
theorem pairC_length (l : List (Nat × Nat)) : (pairC l).length = l.length * 2 := by
 induction l with
 | nil => rfl
 | cons x l ih => simp [pairC, ih]; omega
theorem pairC_get : ∀ (l : List (Nat × Nat)) (k : Nat) (hk : k < l.length), (pairC l)[k * 2]? = some (.int .i64 (l[k].1 : Int)) ∧ (pairC l)[k * 2 + 1]? = some (.int .i64 (l[k].2 : Int))
 | x :: l, 0, _ => ⟨rfl, rfl⟩
 | x :: l, k + 1, h => by
  have := pairC_get l k (by simpa using h)
  rw [show (k + 1) * 2 = k * 2 + 2 by omega, show k * 2 + 2 + 1 = k * 2 + 1 + 2 by omega]
  exact this
theorem own_pair {w0 : World} {A : List Chunk} {b cap k : Nat} {l : List (Nat × Nat)} (h : .own (.slice (some ⟨b, 0, none⟩) l.length cap) 98 2 l.length (pairC l) ∈ A) (hk : k < l.length) : CellsAt w0 A b (0 + k * 2) [.int .i64 (l[k].1 : Int), .int .i64 (l[k].2 : Int)] := by
 intro w hs j u hu
 obtain ⟨b', o', he, _, h1⟩ := (hs.own_rd h).2 (by omega)
 cases he
 have hg := pairC_get l k hk
 have hj : j < 2 := (List.getElem?_eq_some_iff.1 hu).1
 rw [Nat.add_assoc]
 refine h1 _ u ?_
 match j, hj with
 | 0, _ => rw [Nat.add_zero, hg.1]; exact hu
 | 1, _ => rw [hg.2]; exact hu
/-! ## push -/
/- frame -/
theorem min_if (p q : Int) : (if q < p then q else p) = min p q := by split <;> omega
theorem Pick.there_ {B A : List Chunk} {a : Chunk} (h : Pick B A) : Pick B (a :: A) := by
 induction h with
 | nil => exact .nil
 | cons h _ ih => exact .cons (.there h) ih
theorem Pick.of_sub {B A : List Chunk} (h : B.Sublist A) : Pick B A := by
 induction h with
 | slnil => exact .nil
 | cons a h ih => exact ih.there_
 | cons_cons a h ih => exact .cons .here ih
theorem keyM_set {e : Nat → Nat → Bool} {g : Nat → Nat → Int} {u v : Nat} (he : e u v = true) (y : Int) : updM (keyM e (intV g)) ((u : Int), (v : Int)) (.int .i64 y) = keyM e (intV fun a b => if a = u ∧ b = v then y else g a b) := by
 rw [keyM_upd e (intV g) (intV fun a b => if a = u ∧ b = v then y else g a b) u v (.int .i64 y) (by unfold intV; dsimp only; rw [if_pos ⟨rfl, rfl⟩]) fun a b h _ => by unfold intV; dsimp only; rw [if_neg h]]
 refine keyM_congr (fun a b => ?_) fun _ _ _ => rfl
 by_cases h : a = u ∧ b = v
 ·rw [h.1, h.2, he]; rfl
 ·rw [decide_eq_false h, Bool.or_false]
/-- A caller's own net, whatever flows. -/
structure NetF (RA : Option Addr) (rc : Nat) (CA : Option Addr) (cc : Nat) (XA : Option Addr) (xc : Nat) (R C : List R2) (X : List (List R2)) (lo hi : Nat → Nat → Int) (gn bm fm : Nat) (A : (Nat → Nat → Int) → List (Nat × (Int × Int)) → List Chunk) : Prop where
 gn : ∀ fl st, .blk gn 103 (netC RA rc CA cc XA xc R C X bm fm) ∈ A fl st
 bm : ∀ fl st, ∃ stb, .prd bm (MapP pairE (keyM (netE R.length C.length) (rngV lo hi)) stb) ∈ A fl st
 fm : ∀ fl st fl' st', Upd (.prd fm (MapP pairE (keyM (netE R.length C.length) (intV fl)) st)) (.prd fm (MapP pairE (keyM (netE R.length C.length) (intV fl')) st')) (A fl st) (A fl' st')
set_option maxRecDepth 20000 in
theorem room_any {w0 : World} {A : List Chunk} (L : Nat → Nat → Bool) (h : Nat → Nat → Int) (g9 gl u v : Nat) (st : List (Nat × (Int × Int))) (hL : L u v = true) (h1 : .blk g9 101 [.map (some gl)] ∈ A) (h2 : .prd gl (MapP pairE (LM L h) st) ∈ A) (w : World) (hs : St w0 A w) :
  Calls Try.prog 108 #[.agg #[.int .i64 (u : Int), .int .i64 (v : Int)], .pointer (some ⟨g9, 0, none⟩)] w fun e w' => e = .returned (.int .i64 (h u v)) ∧ Below w.heap.size w w' := by
 have hlk : LM L h ((u : Int), (v : Int)) = some (.int .i64 (h u v)) := by unfold LM; rw [keyM_nat, if_pos hL]; rfl
 have c1 : ∀ B, CellAt w B g9 0 (.map (some gl)) := fun B => CellAt.base (cell_blk (cs := [_]) h1 rfl w hs)
 obtain ⟨_, h3, h4⟩ := hs.all _ h2
 have m1 : ∀ B, MapAt w B gl pairE (LM L h) := mapAt_base h4 h3
 refine fn_v tk (n := 7) (A := []) Try.func108 rfl rfl (Nat.le_of_ble_eq_true rfl) (St.nil (Below.refl _ _)) ?_
 ((conv => whnf); (repeat ((first | (apply VStop.mk; (refine ot_look_v hlk pairK mapF zv2 rfl rfl rfl rfl (by exact rfl) (m1 _) ?_); apply ot_v tk) | (apply VLd.mk; first | exact c1 _) | (apply VLdN.mk; (focus ((repeat (first | (with_reducible apply ldn_blk) | (with_reducible apply ldn_skip))); done)); exact rfl) | (apply VNew.mk; intro g hg)); (conv => whnf))))
 ((apply VRet.mk); refine ret1 (by first | exact .inl rfl | exact .inr rfl) rfl (by exact rv_tmp rfl) ?_; exact fun w h => ⟨rfl, h.base⟩)
section
variable {RA : Option Addr} {rc : Nat} {CA : Option Addr} {cc : Nat} {XA : Option Addr} {xc : Nat} {R C : List R2} {X : List (List R2)} {lo hi : Nat → Nat → Int} {gn bm fm : Nat} {A : (Nat → Nat → Int) → List (Nat × (Int × Int)) → List Chunk} (hF : NetF RA rc CA cc XA xc R C X lo hi gn bm fm A)
include hF
theorem NetF.at_ {fl : Nat → Nat → Int} {st : List (Nat × (Int × Int))} {w0 w : World} {B : List Chunk} (hB : (A fl st).Sublist B) (hs : St w0 B w) : NetAt w RA rc CA cc XA xc R C X lo hi fl gn bm fm := by
 obtain ⟨stb, hb⟩ := hF.bm fl st
 exact ⟨fun j u hu => cell_blk (hB.subset (hF.gn fl st)) hu w hs, ⟨stb, (hs.all _ (hB.subset hb)).2.2⟩, ⟨st, (hs.all _ (hB.subset (hF.fm fl st fl st).mem)).2.2⟩⟩
theorem NetF.cells {fl : Nat → Nat → Int} {st : List (Nat × (Int × Int))} {w0 : World} {B : List Chunk} (hB : (A fl st).Sublist B) {j : Nat} {u : Value} (hu : (netC RA rc CA cc XA xc R C X bm fm)[j]? = some u) : CellAt w0 B gn j u := cell_blk (hB.subset (hF.gn fl st)) hu
theorem NetF.bmap {fl : Nat → Nat → Int} {st : List (Nat × (Int × Int))} {w0 : World} {B : List Chunk} (hB : (A fl st).Sublist B) : MapAt w0 B bm pairE (keyM (netE R.length C.length) (rngV lo hi)) := by
 obtain ⟨stb, hb⟩ := hF.bm fl st
 exact mapAt_mem (hB.subset hb)
theorem NetF.fmap {fl : Nat → Nat → Int} {st : List (Nat × (Int × Int))} {w0 : World} {B : List Chunk} (hB : (A fl st).Sublist B) : MapAt w0 B fm pairE (keyM (netE R.length C.length) (intV fl)) :=
 mapAt_mem (hB.subset (hF.fm fl st fl st).mem)
set_option maxHeartbeats 4000000 in
set_option maxRecDepth 20000 in
theorem push_any (hn : R.length ≤ 4) (hm : C.length ≤ 4) (hB : Bnds R.length C.length lo hi) {fl : Nat → Nat → Int} (hfl : Flow R.length C.length lo hi fl) {w0 w : World} {st : List (Nat × (Int × Int))} (hs : St w0 (A fl st) w) {L : Nat → Nat → Bool} {frm : List Nat} {seen : Nat → Int} (hw : WayOK (2 + R.length + C.length) L frm seen) (hL : ∀ u v, L u v = true → 0 < res lo hi fl u v)
  (zt : Nat) (hz : zt < 2 + R.length + C.length) (hzs : seen zt ≠ 0) (most : Int) (hm1 : 0 < most) (hm2 : most ≤ 1000000) :
  Calls Try.prog 93 #[.pointer (some ⟨gn, 0, none⟩), .agg (fnC seen 10).toArray, .int .i64 (zt : Int), .int .i64 most] w fun e w' => ∃ x : Int × (Nat → Nat → Int) × List (Nat × (Int × Int)), e = .returned (.int .i64 x.1) ∧
   (∃ r l, WayS seen r zt l ∧ r ∈ frm ∧ Along R.length C.length lo hi fl x.1 l ∧ 0 < x.1 ∧ x.1 ≤ most ∧ x.2.1 = l.foldl (pushE (netE R.length C.length) x.1) fl) ∧ St w0 (A x.2.1 x.2.2) w' := by
 obtain ⟨rk, hback⟩ := hw.back
 obtain ⟨r, l, hws, hrf, hl⟩ := hback zt hz hzs
 have hG := hfl.net hB
 have hfar : l.Pairwise Far := way_far hws.way (rk := rk) fun x hx => (hl x hx).2.2.2
 have hnd : l.Nodup := hfar.imp fun h => h.1
 have hll := pairs_len hnd fun x hx => by have := hl x hx; omega
 have hpos : ∀ x ∈ l, 0 < res lo hi fl x.1 x.2 := fun x hx => hL _ _ (hl x hx).2.2.1
 have hleft := fun w1 (h : NetAt w1 RA rc CA cc XA xc R C X lo hi fl gn bm fm) => left_any RA rc CA cc XA xc R C X lo hi fl gn bm fm w1 h hG
 refine fn_v tk (n := 96) (A := A fl st) Try.func93 rfl rfl (Nat.le_of_ble_eq_true rfl) hs ?_
 ((conv => whnf); (repeat ((apply VNew.mk; intro g hg); (conv => whnf))); apply VCall.stop)
 revert g hg
 intro g5 hg5
 change OT _ _ _ _ _ _ _ _ (.blk g5 109 (fnC seen 10) :: _) _
 refine ot_callC (X := Nat) (us := []) (vs := []) (fun g => .map (some g)) (fun g => [.prd g (MapP pairE (leftM lo hi fl) [])]) (fun _ => True) (fun g c hc => by simp at hc; subst hc; rfl) (by decide) rfl rfl rfl rfl (by kernel_rfl) (evl_of rfl) rfl (fun w1 hs => hleft w1 (hF.at_ (.cons _ (List.Sublist.refl _)) hs)) (fun gl _ => ?_)
 (dsimp only [List.cons_append, List.nil_append]; apply ot_v tk)
 ((conv => whnf); (repeat ((first | (apply VNew.mk; intro g hg) | (apply VSt.mk; (focus ((repeat (first | (with_reducible exact At.here) | (with_reducible apply At.there))); done)); exact rfl)); (conv => whnf))); apply VStop.mk)
 revert g hg
 intro g9 hg9
 refine tr_own_nil 98 2 ?_
 refine v_loop (fun gm ds ts AA => ds = [] ∧ ∃ (k at_ : Nat) (B : Option Addr) (cap : Nat), k + gm = l.length ∧ WayS seen r at_ (l.drop k) ∧ at_ < 2 + R.length + C.length ∧ AA = .own (.slice B k cap) 98 2 k (pairC (l.take k)) :: .blk g9 101 [.map (some gl)] :: .prd gl (MapP pairE (LM (fun u v => decide (0 < res lo hi fl u v)) (res lo hi fl)) []) :: .blk g5 109 (fnC seen 10) :: A fl st ∧ ts = [(0, .pointer (some ⟨gn, 0, none⟩)), (3, .int .i64 most), (5, .pointer (some ⟨g5, 0, none⟩)), (9, .pointer (some ⟨g9, 0, none⟩)), (10, .slice B k cap), (11, .int .i64 (at_ : Int))]) l.length
  (l := [(0, _), (3, _), (5, _), (9, _), (10, _), (11, _)]) (B := _) ?_ (List.Sublist.refl _) ⟨rfl, 0, zt, none, 0, by omega, hws, hz, rfl, rfl⟩ ?_
 ·exact ⟨rfl, rfl, rfl, rfl, rfl, rfl, trivial⟩
 rintro gm ds ts AA ⟨rfl, k, at_, B, cap, hk, hwk, hat, rfl, rfl⟩
 by_cases hlt : k < l.length
 ·have hdr := List.drop_eq_getElem_cons hlt
  have htk : l.take (k + 1) = l.take k ++ [l[k]] := by rw [List.take_add_one, List.getElem?_eq_getElem hlt]; rfl
  rw [hdr] at hwk
  generalize l[k] = x at *
  generalize hd2 : l.drop (k + 1) = l2 at *
  cases hwk with
  | @step _ p _ h1 h2 hwk =>
  have hp := (hl (p, at_) (by
   have : (p, at_) ∈ l.drop k := by rw [hdr]; exact .head _
   exact List.mem_of_mem_drop this)).1
  have e1 : seen at_ - 1 = (p : Int) := by omega
  have hpc : pairC (l.take k) ++ [.int .i64 (p : Int), .int .i64 (at_ : Int)] = pairC (l.take (k + 1)) := by rw [htk, pairC_append]; rfl
  (apply tr_v tk; (conv => whnf); (repeat ((first | (apply VStop.mk; (rw [e1]; refine ot_appendS (sz := 2) (sl := k) (xs := pairC (l.take k)) (A'v := fun v' => _ :: .own v' 98 2 (k + 1) _ :: _) tk rfl rfl rfl rfl rfl rfl rfl rfl rfl rfl (by decide) rfl (cells_blk_all (.head _)) rfl rfl (fun v' => .there .here) (by omega) (by decide) (fun Bn cn => ?_)); apply ot_v tk) | (apply VIx.mk (j := at_); exact rfl; omega) | (apply VLd.mk; first | exact cell_fnC (by (repeat (first | with_unfolding_all exact List.Mem.head _ | assumption | with_unfolding_all refine List.Mem.tail _ ?_))) (by omega)) | (apply VRng.mk; omega) | apply VBr.t | (apply v_t; omega) | (apply VNew.mk; intro g hg)); (conv => whnf))))
  rw [e1, hpc]
  exact v_rnd (gm - 1) (by omega) (l := [(0, _), (3, _), (5, _), (9, _), (10, _), (11, _)]) (B := _) ⟨rfl, rfl, rfl, rfl, rfl, rfl, trivial⟩ (.cons _ (List.Sublist.refl _)) ⟨rfl, k + 1, p, Bn, cn, by omega, by rw [hd2]; exact hwk, hp, rfl, rfl⟩
 obtain rfl : k = l.length := by omega
 rw [List.drop_length] at hwk
 rw [List.take_length]
 cases hwk with
 | stop hroot =>
 (apply tr_v tk; (conv => whnf); (repeat ((first | (apply VIx.mk (j := r); exact rfl; omega) | (apply VLd.mk; first | exact cell_fnC (by (repeat (first | with_unfolding_all exact List.Mem.head _ | assumption | with_unfolding_all refine List.Mem.tail _ ?_))) (by omega)) | (apply VRng.mk; omega) | apply VBr.f | (apply v_f; omega)); (conv => whnf))); apply VStop.mk)
 refine tr_fact (p := 0 < l.length → ∃ b, B = some ⟨b, 0, none⟩) (fun w1 hs => by
  obtain ⟨B', c', e, h⟩ := own_form (hs.all _ (.head _))
  cases e
  exact h) fun hBf => ?_
 clear hk hlt hat
 have hgets : ∀ {k}, k < l.length → ∃ b, B = some ⟨b, 0, none⟩ := fun h => hBf (by omega)
 refine v_loop (fun gm ds ts AA => ds = [] ∧ ∃ k, k + gm = l.length ∧ AA = .own (.slice B l.length cap) 98 2 l.length (pairC l) :: .blk g9 101 [.map (some gl)] :: .prd gl (MapP pairE (LM (fun u v => decide (0 < res lo hi fl u v)) (res lo hi fl)) []) :: .blk g5 109 (fnC seen 10) :: A fl st ∧ ts = [(0, .pointer (some ⟨gn, 0, none⟩)), (3, .int .i64 (roomS lo hi fl most (l.take k))), (10, .slice B l.length cap), (12, .func (.func 108) #[] #[.pointer (some ⟨g9, 0, none⟩)]), (42, .slice B l.length cap), (43, .int .i64 (l.length : Int)), (44, .int .i64 (k : Int))]) l.length
  (l := [(0, _), (3, _), (10, _), (12, _), (42, _), (43, _), (44, _)]) (B := _) ?_ (List.Sublist.refl _) ⟨rfl, 0, by omega, rfl, rfl⟩ ?_
 ·exact ⟨rfl, rfl, rfl, rfl, rfl, rfl, rfl, trivial⟩
 rintro gm2 ds ts AA ⟨rfl, k, hk, rfl, rfl⟩
 by_cases hlt : k < l.length
 ·obtain ⟨b, rfl⟩ := hgets hlt
  have htk : l.take (k + 1) = l.take k ++ [l[k]] := by rw [List.take_add_one, List.getElem?_eq_getElem hlt]; rfl
  have hrs : roomS lo hi fl most (l.take (k + 1)) = min (roomS lo hi fl most (l.take k)) (res lo hi fl l[k].1 l[k].2) := by
   unfold roomS
   rw [htk, List.foldl_append]; rfl
  have hpo := hpos _ (List.getElem_mem hlt)
  have hro : ∀ {w1 : World} {A1 : List Chunk}, St w0 A1 w1 → .blk g9 101 [.map (some gl)] ∈ A1 → .prd gl (MapP pairE (LM (fun u v => decide (0 < res lo hi fl u v)) (res lo hi fl)) []) ∈ A1 → _ := fun {w1 A1} hs h1 h2 => room_any (fun u v => decide (0 < res lo hi fl u v)) (res lo hi fl) g9 gl l[k].1 l[k].2 [] (decide_eq_true hpo) h1 h2 w1 hs
  (apply tr_v tk; (conv => whnf); (repeat ((first | (apply VIx.mk (j := k); exact rfl; omega) | (apply VLdN.mk; exact own_pair (by (repeat (first | with_unfolding_all exact List.Mem.head _ | assumption | with_unfolding_all refine List.Mem.tail _ ?_))) hlt; exact rfl) | (apply VCall.q; kernel_rfl; (focus (intro w1 hs; first | ((with_reducible apply hro hs); (focus (repeat (first | with_unfolding_all exact List.Mem.head _ | assumption | with_unfolding_all refine List.Mem.tail _ ?_))); (repeat (first | with_unfolding_all exact List.Mem.head _ | assumption | with_unfolding_all refine List.Mem.tail _ ?_)))))) | (apply VLdN.mk; (focus ((repeat (first | (with_reducible apply ldn_blk) | (with_reducible apply ldn_skip))); done)); exact rfl) | (apply VRng.mk; omega) | apply VBr.t | (apply v_t; omega) | (apply VNew.mk; intro g hg) | (apply VSt.mk; (focus ((repeat (first | (with_reducible exact At.here) | (with_reducible apply At.there))); done)); exact rfl)); (conv => whnf))))
  exact v_rnd (gm2 - 1) (by omega) (l := [(0, _), (3, _), (10, _), (12, _), (42, _), (43, _), (44, _)]) (B := _) ⟨rfl, rfl, rfl, rfl, rfl, rfl, rfl, trivial⟩ (.cons _ (List.Sublist.refl _)) ⟨rfl, k + 1, by omega, rfl, by rw [hrs, ← min_if]; rfl⟩
 obtain rfl : k = l.length := by omega
 rw [List.take_length]
 clear hk hlt
 have hale := roomS_le lo hi fl l most
 have ha0 := roomS_pos lo hi fl l most hm1 hpos
 generalize roomS lo hi fl most l = a at *
 have hal : Along R.length C.length lo hi fl a l := ⟨hfar, fun x hx => by
  have h1 := hl x hx
  exact ⟨h1.1, h1.2.1, hale.2 x hx, hG.edge (hpos x hx)⟩⟩
 (apply tr_v tk; (conv => whnf); (repeat ((first | apply VBr.f | (apply v_f; omega)); (conv => whnf))); apply VStop.mk)
 refine v_loop (fun gm ds ts AA => ds = [] ∧ ∃ k st', k + gm = l.length ∧ AA = .own (.slice B l.length cap) 98 2 l.length (pairC l) :: .blk g9 101 [.map (some gl)] :: .prd gl (MapP pairE (LM (fun u v => decide (0 < res lo hi fl u v)) (res lo hi fl)) []) :: .blk g5 109 (fnC seen 10) :: A ((l.take k).foldl (pushE (netE R.length C.length) a) fl) st' ∧ ts = [(0, .pointer (some ⟨gn, 0, none⟩)), (3, .int .i64 a), (54, .slice B l.length cap), (55, .int .i64 (l.length : Int)), (56, .int .i64 (k : Int))]) l.length
  (l := [(0, _), (3, _), (54, _), (55, _), (56, _)]) (B := _) ?_ (List.Sublist.refl _) ⟨rfl, 0, st, by omega, rfl, rfl⟩ ?_
 ·exact ⟨rfl, rfl, rfl, rfl, rfl, trivial⟩
 rintro gm2 ds ts AA ⟨rfl, k, st', hk, rfl, rfl⟩
 by_cases hlt : k < l.length
 ·obtain ⟨b, rfl⟩ := hgets hlt
  have hsn := take_snoc2 hlt fl R.length C.length a
  have hxl := hl _ (List.getElem_mem hlt)
  have hfk := Along.flow hB (by omega) hfl (hal.take k)
  have hGk := (hfk.net hB).sg
  generalize (l.take k).foldl (pushE (netE R.length C.length) a) fl = fk at *
  have hxe := hal.lt _ (List.getElem_mem hlt)
  have hsub : ∀ fl st, [.blk gn 103 (netC RA rc CA cc XA xc R C X bm fm)].Sublist (A fl st) := fun fl st => List.singleton_sublist.2 (hF.gn fl st)
  have hxa : ∀ {A1}, .own (.slice (some ⟨b, 0, none⟩) l.length cap) 98 2 l.length (pairC l) ∈ A1 → CellsAt w0 A1 b (0 + k * 2) [.int .i64 (l[k].1 : Int), .int .i64 (l[k].2 : Int)] := fun h => own_pair h hlt
  generalize l[k] = x at *
  obtain ⟨u, v⟩ := x
  dsimp only at hxl hxe hxa
  have hbl := keyM_nat (netE R.length C.length) (rngV lo hi) u v
  have hsm := hGk u v
  have hsm' := hGk v u
  refine tr_seqK ?_
  (apply tr_v tk; (conv => whnf); (repeat ((apply v_t; omega); (conv => whnf))); apply VStop.mk)
  refine tr_seqK ?_
  (apply tr_v tk; (conv => whnf); (repeat (apply VBr.t; (conv => whnf))); apply VStop.mk)
  refine tr_cut (fun st2 => ([(0, .pointer (some ⟨gn, 0, none⟩)), (3, .int .i64 a), (54, .slice (some ⟨b, 0, none⟩) l.length cap), (55, .int .i64 (l.length : Int)), (56, .int .i64 (k : Int))], .own (.slice (some ⟨b, 0, none⟩) l.length cap) 98 2 l.length (pairC l) :: .blk g9 101 [.map (some gl)] :: .prd gl (MapP pairE (LM (fun u v => decide (0 < res lo hi fl u v)) (res lo hi fl)) []) :: .blk g5 109 (fnC seen 10) :: A (pushE (netE R.length C.length) a fk (u, v)) st2)) ?_ (fun st2 => ?_)
  rotate_left
  ·(apply tr_v tk; (conv => whnf); (repeat ((apply VRng.mk; omega); (conv => whnf))))
   exact v_rnd (gm2 - 1) (by omega) (l := [(0, _), (3, _), (54, _), (55, _), (56, _)]) (B := _) ⟨rfl, rfl, rfl, rfl, rfl, trivial⟩ (List.Sublist.refl _) ⟨rfl, k + 1, st2, by omega, by rw [hsn], rfl⟩
  by_cases he : netE R.length C.length u v = true
  ·rw [if_pos he] at hbl
   have hlk := keyM_nat (netE R.length C.length) (intV fk) u v
   rw [if_pos he] at hlk
   have hset := keyM_set (g := fk) he (fk u v + a)
   have hpe : pushE (netE R.length C.length) a fk (u, v) = fun p q => if p = u ∧ q = v then fk u v + a else fk p q := by
    unfold pushE
    rw [if_pos he]
    funext p q
    by_cases h : p = u ∧ q = v
    ·rw [if_pos h, if_pos h, h.1, h.2]
    ·rw [if_neg h, if_neg h]
   rw [← hpe] at hset
   (apply tr_v tk; (conv => whnf); (repeat ((first | (apply VStop.mk; (first | refine tr_region_treeV (id := 16) (by kernel_rfl) (.blk g 98 _ :: A fk st') (by (repeat (first | exact hsub _ _ | exact List.nil_sublist _ | exact List.Sublist.refl _ | refine List.Sublist.cons_cons _ ?_ | refine List.Sublist.cons _ ?_))) [0, 1, 2, 3, 4, 5, 6, 7, 8] [9, 10, 11] [.rd, .rd, .rd, .rd, .rd, .rd, .rd, .rd, .rd] (fun i => [.wr, .wr, .wr, .wr, .wr, .wr, .wr, .wr, .wr, .cr, .wr, .wr].getD i .wr) _ rfl rfl (by kernel_rfl) ?_ | (refine ot_look_yes hbl pairK mapB zv37 rfl rfl rfl rfl (by exact rfl) (hF.bmap (.cons _ (List.Sublist.refl _))) ?_)); apply ot_v tk) | (apply VIx.mk (j := k); exact rfl; omega) | (apply VLdN.mk; exact hxa (by (repeat (first | with_unfolding_all exact List.Mem.head _ | assumption | with_unfolding_all refine List.Mem.tail _ ?_))); exact rfl) | (apply VLd.mk; exact hF.cells (.cons _ (List.Sublist.refl _)) rfl) | (apply VLdN.mk; (focus ((repeat (first | (with_reducible apply ldn_blk) | (with_reducible apply ldn_skip))); done)); exact rfl) | (apply VNew.mk; intro g hg) | (apply VSt.mk; (focus ((repeat (first | (with_reducible exact At.here) | (with_reducible apply At.there))); done)); exact rfl)); (conv => whnf))))
   refine ox1 9 ?_
   (apply ot_v tk; (conv => whnf); (apply VNew.mk; intro g17 hg17; (conv => whnf)); refine slist_and (by (repeat (first | exact hsub _ _ | exact List.nil_sublist _ | exact List.Sublist.refl _ | refine List.Sublist.cons_cons _ ?_ | refine List.Sublist.cons _ ?_))) ?_)
   refine ox1 10 ?_
   (apply ot_v tk; (conv => whnf); (apply VSt.mk; (focus (repeat (first | exact At.here | apply At.there)); done); exact rfl; (conv => whnf)); refine slist_and (by (repeat (first | exact hsub _ _ | exact List.nil_sublist _ | exact List.Sublist.refl _ | refine List.Sublist.cons_cons _ ?_ | refine List.Sublist.cons _ ?_))) ?_)
   refine ox1 11 ?_
   (apply ot_v tk; (conv => whnf); refine slist_and (by (repeat (first | exact hsub _ _ | exact List.nil_sublist _ | exact List.Sublist.refl _ | refine List.Sublist.cons_cons _ ?_ | refine List.Sublist.cons _ ?_))) ?_)
   refine VT.mk (otx_end ?_)
   skip
   ((conv => whnf); (repeat ((first | (apply VStop.mk; refine tr_region_treeV (id := 18) (by kernel_rfl) [.blk g 98 _, .blk gn 103 _] (by (repeat (first | exact hsub _ _ | exact List.nil_sublist _ | exact List.Sublist.refl _ | refine List.Sublist.cons_cons _ ?_ | refine List.Sublist.cons _ ?_))) [0, 1, 2, 3, 4, 6] [5, 7, 8, 9, 10] [.rd, .rd, .rd, .rd, .rd, .rd] (fun i => [.wr, .wr, .wr, .wr, .wr, .wr, .wr, .wr, .wr, .wr, .wr].getD i .wr) _ rfl rfl (by kernel_rfl) ?_; apply ot_v tk) | (apply VLd.mk; exact cell_blk (.tail _ (.head _)) rfl) | (apply VLdN.mk; (focus ((repeat (first | (with_reducible apply ldn_blk) | (with_reducible apply ldn_skip))); done)); exact rfl) | apply VBr.t); (conv => whnf))))
   refine ox2 5 8 ?_ ?_
   ·(refine ot_look_v hlk pairK mapF zv2 rfl rfl rfl rfl (by exact rfl) (hF.fmap (.cons _ (.cons _ (.cons _ (.cons _ (.cons _ (.cons _ (List.Sublist.refl _)))))))) ?_; refine ot_nil ?_; refine slist_and (by (repeat (first | exact hsub _ _ | exact List.nil_sublist _ | exact List.Sublist.refl _ | refine List.Sublist.cons_cons _ ?_ | refine List.Sublist.cons _ ?_))) ?_)
    refine ox2 7 8 ?_ ?_
    ·(apply ot_v tk; (conv => whnf); (apply VRng.mk; omega; (conv => whnf)); refine slist_and (by (repeat (first | exact hsub _ _ | exact List.nil_sublist _ | exact List.Sublist.refl _ | refine List.Sublist.cons_cons _ ?_ | refine List.Sublist.cons _ ?_))) ?_)
     refine ox1 8 ?_
     (refine ot_entryS (k := ((u : Int), (v : Int))) (A'v := fun s => _ :: _ :: _ :: _ :: _ :: _ :: A fk ((s, ((u : Int), (v : Int))) :: st')) hlk pairK mapF zv2 rfl rfl rfl rfl rfl (by exact rfl) (fun s => .there (.there (.there (.there (.there (.there (hF.fm _ _ _ _))))))) (fun v1 s1 => ?_); refine ot_nil ?_; refine slist_and (by (repeat (first | exact hsub _ _ | exact List.nil_sublist _ | exact List.Sublist.refl _ | refine List.Sublist.cons_cons _ ?_ | refine List.Sublist.cons _ ?_))) ?_)
     refine ox1 9 ?_
     (apply ot_v tk; (conv => whnf); refine slist_and (by (repeat (first | exact hsub _ _ | exact List.nil_sublist _ | exact List.Sublist.refl _ | refine List.Sublist.cons_cons _ ?_ | refine List.Sublist.cons _ ?_))) ?_)
     refine ox1 10 ?_
     (refine ot_estoreF (k := ((u : Int), (v : Int))) (A' := _ :: _ :: _ :: _ :: _ :: _ :: A (pushE (netE R.length C.length) a fk (u, v)) ((s1, ((u : Int), (v : Int))) :: st')) pairK rfl rfl rfl rfl rfl (by exact rfl) (by exact rfl) (.head _) (by rw [hset]; exact .there (.there (.there (.there (.there (.there (hF.fm _ _ _ _))))))) ?_; refine ot_nil ?_; refine slist_and (by (repeat (first | exact hsub _ _ | exact List.nil_sublist _ | exact List.Sublist.refl _ | refine List.Sublist.cons_cons _ ?_ | refine List.Sublist.cons _ ?_))) ?_)
     refine VT.mk (otx_end ?_)
     exact VJ.mk _ rfl ⟨rfl, rfl, rfl, rfl, rfl, trivial⟩ (Pick.of_sub (.cons _ (.cons _ (List.Sublist.refl _))))
    ·(refine ot_entryS (k := ((u : Int), (v : Int))) (A'v := fun s => _ :: _ :: _ :: _ :: _ :: _ :: A fk ((s, ((u : Int), (v : Int))) :: st')) hlk pairK mapF zv2 rfl rfl rfl rfl rfl (by exact rfl) (fun s => .there (.there (.there (.there (.there (.there (hF.fm _ _ _ _))))))) (fun v1 s1 => ?_); refine ot_nil ?_; refine slist_and (by (repeat (first | exact hsub _ _ | exact List.nil_sublist _ | exact List.Sublist.refl _ | refine List.Sublist.cons_cons _ ?_ | refine List.Sublist.cons _ ?_))) ?_)
     refine ox2 7 9 ?_ ?_
     ·(apply ot_v tk; (conv => whnf); (apply VRng.mk; omega; (conv => whnf)); refine slist_and (by (repeat (first | exact hsub _ _ | exact List.nil_sublist _ | exact List.Sublist.refl _ | refine List.Sublist.cons_cons _ ?_ | refine List.Sublist.cons _ ?_))) ?_)
      refine ox1 9 ?_
      (apply ot_v tk; (conv => whnf); refine slist_and (by (repeat (first | exact hsub _ _ | exact List.nil_sublist _ | exact List.Sublist.refl _ | refine List.Sublist.cons_cons _ ?_ | refine List.Sublist.cons _ ?_))) ?_)
      refine ox1 10 ?_
      (refine ot_estoreF (k := ((u : Int), (v : Int))) (A' := _ :: _ :: _ :: _ :: _ :: _ :: A (pushE (netE R.length C.length) a fk (u, v)) ((s1, ((u : Int), (v : Int))) :: st')) pairK rfl rfl rfl rfl rfl (by exact rfl) (by exact rfl) (.head _) (by rw [hset]; exact .there (.there (.there (.there (.there (.there (hF.fm _ _ _ _))))))) ?_; refine ot_nil ?_; refine slist_and (by (repeat (first | exact hsub _ _ | exact List.nil_sublist _ | exact List.Sublist.refl _ | refine List.Sublist.cons_cons _ ?_ | refine List.Sublist.cons _ ?_))) ?_)
      refine VT.mk (otx_end ?_)
      exact VJ.mk _ rfl ⟨rfl, rfl, rfl, rfl, rfl, trivial⟩ (Pick.of_sub (.cons _ (.cons _ (List.Sublist.refl _))))
     ·(apply ot_v tk; (conv => whnf); refine slist_and (by (repeat (first | exact hsub _ _ | exact List.nil_sublist _ | exact List.Sublist.refl _ | refine List.Sublist.cons_cons _ ?_ | refine List.Sublist.cons _ ?_))) ?_)
      refine ox1 7 ?_
      (apply ot_v tk; (conv => whnf); (apply VRng.mk; omega; (conv => whnf)); refine slist_and (by (repeat (first | exact hsub _ _ | exact List.nil_sublist _ | exact List.Sublist.refl _ | refine List.Sublist.cons_cons _ ?_ | refine List.Sublist.cons _ ?_))) ?_)
      refine ox1 10 ?_
      (refine ot_estoreF (k := ((u : Int), (v : Int))) (A' := _ :: _ :: _ :: _ :: _ :: _ :: A (pushE (netE R.length C.length) a fk (u, v)) ((s1, ((u : Int), (v : Int))) :: st')) pairK rfl rfl rfl rfl rfl (by exact rfl) (by exact rfl) (.head _) (by rw [hset]; exact .there (.there (.there (.there (.there (.there (hF.fm _ _ _ _))))))) ?_; refine ot_nil ?_; refine slist_and (by (repeat (first | exact hsub _ _ | exact List.nil_sublist _ | exact List.Sublist.refl _ | refine List.Sublist.cons_cons _ ?_ | refine List.Sublist.cons _ ?_))) ?_)
      refine VT.mk (otx_end ?_)
      exact VJ.mk _ rfl ⟨rfl, rfl, rfl, rfl, rfl, trivial⟩ (Pick.of_sub (.cons _ (.cons _ (List.Sublist.refl _))))
   ·(refine ot_entryS (k := ((u : Int), (v : Int))) (A'v := fun s => _ :: _ :: _ :: _ :: _ :: _ :: A fk ((s, ((u : Int), (v : Int))) :: st')) hlk pairK mapF zv2 rfl rfl rfl rfl rfl (by exact rfl) (fun s => .there (.there (.there (.there (.there (.there (hF.fm _ _ _ _))))))) (fun v1 s1 => ?_); refine ot_nil ?_; refine slist_and (by (repeat (first | exact hsub _ _ | exact List.nil_sublist _ | exact List.Sublist.refl _ | refine List.Sublist.cons_cons _ ?_ | refine List.Sublist.cons _ ?_))) ?_)
    refine ox2 5 9 ?_ ?_
    ·(refine ot_look_v hlk pairK mapF zv2 rfl rfl rfl rfl (by exact rfl) (hF.fmap (.cons _ (.cons _ (.cons _ (.cons _ (.cons _ (.cons _ (List.Sublist.refl _)))))))) ?_; refine ot_nil ?_; refine slist_and (by (repeat (first | exact hsub _ _ | exact List.nil_sublist _ | exact List.Sublist.refl _ | refine List.Sublist.cons_cons _ ?_ | refine List.Sublist.cons _ ?_))) ?_)
     refine ox2 7 9 ?_ ?_
     ·(apply ot_v tk; (conv => whnf); (apply VRng.mk; omega; (conv => whnf)); refine slist_and (by (repeat (first | exact hsub _ _ | exact List.nil_sublist _ | exact List.Sublist.refl _ | refine List.Sublist.cons_cons _ ?_ | refine List.Sublist.cons _ ?_))) ?_)
      refine ox1 9 ?_
      (apply ot_v tk; (conv => whnf); refine slist_and (by (repeat (first | exact hsub _ _ | exact List.nil_sublist _ | exact List.Sublist.refl _ | refine List.Sublist.cons_cons _ ?_ | refine List.Sublist.cons _ ?_))) ?_)
      refine ox1 10 ?_
      (refine ot_estoreF (k := ((u : Int), (v : Int))) (A' := _ :: _ :: _ :: _ :: _ :: _ :: A (pushE (netE R.length C.length) a fk (u, v)) ((s1, ((u : Int), (v : Int))) :: st')) pairK rfl rfl rfl rfl rfl (by exact rfl) (by exact rfl) (.head _) (by rw [hset]; exact .there (.there (.there (.there (.there (.there (hF.fm _ _ _ _))))))) ?_; refine ot_nil ?_; refine slist_and (by (repeat (first | exact hsub _ _ | exact List.nil_sublist _ | exact List.Sublist.refl _ | refine List.Sublist.cons_cons _ ?_ | refine List.Sublist.cons _ ?_))) ?_)
      refine VT.mk (otx_end ?_)
      exact VJ.mk _ rfl ⟨rfl, rfl, rfl, rfl, rfl, trivial⟩ (Pick.of_sub (.cons _ (.cons _ (List.Sublist.refl _))))
     ·(apply ot_v tk; (conv => whnf); refine slist_and (by (repeat (first | exact hsub _ _ | exact List.nil_sublist _ | exact List.Sublist.refl _ | refine List.Sublist.cons_cons _ ?_ | refine List.Sublist.cons _ ?_))) ?_)
      refine ox1 7 ?_
      (apply ot_v tk; (conv => whnf); (apply VRng.mk; omega; (conv => whnf)); refine slist_and (by (repeat (first | exact hsub _ _ | exact List.nil_sublist _ | exact List.Sublist.refl _ | refine List.Sublist.cons_cons _ ?_ | refine List.Sublist.cons _ ?_))) ?_)
      refine ox1 10 ?_
      (refine ot_estoreF (k := ((u : Int), (v : Int))) (A' := _ :: _ :: _ :: _ :: _ :: _ :: A (pushE (netE R.length C.length) a fk (u, v)) ((s1, ((u : Int), (v : Int))) :: st')) pairK rfl rfl rfl rfl rfl (by exact rfl) (by exact rfl) (.head _) (by rw [hset]; exact .there (.there (.there (.there (.there (.there (hF.fm _ _ _ _))))))) ?_; refine ot_nil ?_; refine slist_and (by (repeat (first | exact hsub _ _ | exact List.nil_sublist _ | exact List.Sublist.refl _ | refine List.Sublist.cons_cons _ ?_ | refine List.Sublist.cons _ ?_))) ?_)
      refine VT.mk (otx_end ?_)
      exact VJ.mk _ rfl ⟨rfl, rfl, rfl, rfl, rfl, trivial⟩ (Pick.of_sub (.cons _ (.cons _ (List.Sublist.refl _))))
    ·(apply ot_v tk; (conv => whnf); refine slist_and (by (repeat (first | exact hsub _ _ | exact List.nil_sublist _ | exact List.Sublist.refl _ | refine List.Sublist.cons_cons _ ?_ | refine List.Sublist.cons _ ?_))) ?_)
     refine ox1 5 ?_
     (refine ot_look_v hlk pairK mapF zv2 rfl rfl rfl rfl (by exact rfl) (hF.fmap (.cons _ (.cons _ (.cons _ (.cons _ (.cons _ (.cons _ (List.Sublist.refl _)))))))) ?_; refine ot_nil ?_; refine slist_and (by (repeat (first | exact hsub _ _ | exact List.nil_sublist _ | exact List.Sublist.refl _ | refine List.Sublist.cons_cons _ ?_ | refine List.Sublist.cons _ ?_))) ?_)
     refine ox1 7 ?_
     (apply ot_v tk; (conv => whnf); (apply VRng.mk; omega; (conv => whnf)); refine slist_and (by (repeat (first | exact hsub _ _ | exact List.nil_sublist _ | exact List.Sublist.refl _ | refine List.Sublist.cons_cons _ ?_ | refine List.Sublist.cons _ ?_))) ?_)
     refine ox1 10 ?_
     (refine ot_estoreF (k := ((u : Int), (v : Int))) (A' := _ :: _ :: _ :: _ :: _ :: _ :: A (pushE (netE R.length C.length) a fk (u, v)) ((s1, ((u : Int), (v : Int))) :: st')) pairK rfl rfl rfl rfl rfl (by exact rfl) (by exact rfl) (.head _) (by rw [hset]; exact .there (.there (.there (.there (.there (.there (hF.fm _ _ _ _))))))) ?_; refine ot_nil ?_; refine slist_and (by (repeat (first | exact hsub _ _ | exact List.nil_sublist _ | exact List.Sublist.refl _ | refine List.Sublist.cons_cons _ ?_ | refine List.Sublist.cons _ ?_))) ?_)
     refine VT.mk (otx_end ?_)
     exact VJ.mk _ rfl ⟨rfl, rfl, rfl, rfl, rfl, trivial⟩ (Pick.of_sub (.cons _ (.cons _ (List.Sublist.refl _))))
  ·have he2 : netE R.length C.length v u = true := by rcases hxe.2.2.2 with h | h; exact absurd h he; exact h
   rw [if_neg he] at hbl
   have hlk := keyM_nat (netE R.length C.length) (intV fk) v u
   rw [if_pos he2] at hlk
   have hset := keyM_set (g := fk) he2 (fk v u - a)
   have hpe : pushE (netE R.length C.length) a fk (u, v) = fun p q => if p = v ∧ q = u then fk v u - a else fk p q := by
    unfold pushE
    rw [if_neg he]
    funext p q
    dsimp only
    by_cases h : p = v ∧ q = u
    ·rw [if_pos h, if_pos h, h.1, h.2]
    ·rw [if_neg h, if_neg h]
   rw [← hpe] at hset
   (apply tr_v tk; (conv => whnf); (repeat ((first | (apply VStop.mk; (first | refine tr_region_treeV (id := 16) (by kernel_rfl) (.blk g 98 _ :: A fk st') (by (repeat (first | exact hsub _ _ | exact List.nil_sublist _ | exact List.Sublist.refl _ | refine List.Sublist.cons_cons _ ?_ | refine List.Sublist.cons _ ?_))) [0, 1, 2, 3, 4, 5, 6, 7, 8] [9, 10, 11] [.rd, .rd, .rd, .rd, .rd, .rd, .rd, .rd, .rd] (fun i => [.wr, .wr, .wr, .wr, .wr, .wr, .wr, .wr, .wr, .cr, .wr, .wr].getD i .wr) _ rfl rfl (by kernel_rfl) ?_ | (refine ot_look_no (k := ((u : Int), (v : Int))) hbl pairK mapB zv37 rfl rfl rfl rfl (by exact rfl) (hF.bmap (.cons _ (List.Sublist.refl _))) ?_)); apply ot_v tk) | (apply VIx.mk (j := k); exact rfl; omega) | (apply VLdN.mk; exact hxa (by (repeat (first | with_unfolding_all exact List.Mem.head _ | assumption | with_unfolding_all refine List.Mem.tail _ ?_))); exact rfl) | (apply VLd.mk; exact hF.cells (.cons _ (List.Sublist.refl _)) rfl) | (apply VLdN.mk; (focus ((repeat (first | (with_reducible apply ldn_blk) | (with_reducible apply ldn_skip))); done)); exact rfl) | (apply VNew.mk; intro g hg) | (apply VSt.mk; (focus ((repeat (first | (with_reducible exact At.here) | (with_reducible apply At.there))); done)); exact rfl)); (conv => whnf))))
   refine ox1 9 ?_
   (apply ot_v tk; (conv => whnf); (apply VNew.mk; intro g17 hg17; (conv => whnf)); refine slist_and (by (repeat (first | exact hsub _ _ | exact List.nil_sublist _ | exact List.Sublist.refl _ | refine List.Sublist.cons_cons _ ?_ | refine List.Sublist.cons _ ?_))) ?_)
   refine ox1 10 ?_
   (apply ot_v tk; (conv => whnf); (apply VSt.mk; (focus (repeat (first | exact At.here | apply At.there)); done); exact rfl; (conv => whnf)); refine slist_and (by (repeat (first | exact hsub _ _ | exact List.nil_sublist _ | exact List.Sublist.refl _ | refine List.Sublist.cons_cons _ ?_ | refine List.Sublist.cons _ ?_))) ?_)
   refine ox1 11 ?_
   (apply ot_v tk; (conv => whnf); refine slist_and (by (repeat (first | exact hsub _ _ | exact List.nil_sublist _ | exact List.Sublist.refl _ | refine List.Sublist.cons_cons _ ?_ | refine List.Sublist.cons _ ?_))) ?_)
   refine VT.mk (otx_end ?_)
   skip
   ((conv => whnf); (repeat ((first | (apply VStop.mk; refine tr_region_treeV (id := 19) (by kernel_rfl) [.blk g 98 _, .blk gn 103 _] (by (repeat (first | exact hsub _ _ | exact List.nil_sublist _ | exact List.Sublist.refl _ | refine List.Sublist.cons_cons _ ?_ | refine List.Sublist.cons _ ?_))) [0, 1, 2, 3, 4, 5, 6, 7, 8, 10] [9, 11, 12, 13, 14] [.rd, .rd, .rd, .rd, .rd, .rd, .rd, .rd, .rd, .rd] (fun i => [.wr, .wr, .wr, .wr, .wr, .wr, .wr, .wr, .wr, .wr, .wr, .wr, .wr, .wr, .wr].getD i .wr) _ rfl rfl (by kernel_rfl) ?_; apply ot_v tk) | (apply VLd.mk; exact cell_blk (.tail _ (.head _)) rfl) | (apply VLd.mk; (focus ((repeat (first | ((with_reducible apply ld_blk); exact rfl) | (with_reducible apply ld_skip))); done))) | apply VBr.f); (conv => whnf))))
   refine ox2 9 12 ?_ ?_
   ·(refine ot_look_v hlk pairK mapF zv2 rfl rfl rfl rfl (by exact rfl) (hF.fmap (.cons _ (.cons _ (.cons _ (.cons _ (.cons _ (.cons _ (List.Sublist.refl _)))))))) ?_; refine ot_nil ?_; refine slist_and (by (repeat (first | exact hsub _ _ | exact List.nil_sublist _ | exact List.Sublist.refl _ | refine List.Sublist.cons_cons _ ?_ | refine List.Sublist.cons _ ?_))) ?_)
    refine ox2 11 12 ?_ ?_
    ·(apply ot_v tk; (conv => whnf); (apply VRng.mk; omega; (conv => whnf)); refine slist_and (by (repeat (first | exact hsub _ _ | exact List.nil_sublist _ | exact List.Sublist.refl _ | refine List.Sublist.cons_cons _ ?_ | refine List.Sublist.cons _ ?_))) ?_)
     refine ox1 12 ?_
     (refine ot_entryS (k := ((v : Int), (u : Int))) (A'v := fun s => _ :: _ :: _ :: _ :: _ :: _ :: A fk ((s, ((v : Int), (u : Int))) :: st')) hlk pairK mapF zv2 rfl rfl rfl rfl rfl (by exact rfl) (fun s => .there (.there (.there (.there (.there (.there (hF.fm _ _ _ _))))))) (fun v1 s1 => ?_); refine ot_nil ?_; refine slist_and (by (repeat (first | exact hsub _ _ | exact List.nil_sublist _ | exact List.Sublist.refl _ | refine List.Sublist.cons_cons _ ?_ | refine List.Sublist.cons _ ?_))) ?_)
     refine ox1 13 ?_
     (apply ot_v tk; (conv => whnf); refine slist_and (by (repeat (first | exact hsub _ _ | exact List.nil_sublist _ | exact List.Sublist.refl _ | refine List.Sublist.cons_cons _ ?_ | refine List.Sublist.cons _ ?_))) ?_)
     refine ox1 14 ?_
     (refine ot_estoreF (k := ((v : Int), (u : Int))) (A' := _ :: _ :: _ :: _ :: _ :: _ :: A (pushE (netE R.length C.length) a fk (u, v)) ((s1, ((v : Int), (u : Int))) :: st')) pairK rfl rfl rfl rfl rfl (by exact rfl) (by exact rfl) (.head _) (by rw [hset]; exact .there (.there (.there (.there (.there (.there (hF.fm _ _ _ _))))))) ?_; refine ot_nil ?_; refine slist_and (by (repeat (first | exact hsub _ _ | exact List.nil_sublist _ | exact List.Sublist.refl _ | refine List.Sublist.cons_cons _ ?_ | refine List.Sublist.cons _ ?_))) ?_)
     refine VT.mk (otx_end ?_)
     exact VJ.mk _ rfl ⟨rfl, rfl, rfl, rfl, rfl, trivial⟩ (Pick.of_sub (.cons _ (.cons _ (List.Sublist.refl _))))
    ·(refine ot_entryS (k := ((v : Int), (u : Int))) (A'v := fun s => _ :: _ :: _ :: _ :: _ :: _ :: A fk ((s, ((v : Int), (u : Int))) :: st')) hlk pairK mapF zv2 rfl rfl rfl rfl rfl (by exact rfl) (fun s => .there (.there (.there (.there (.there (.there (hF.fm _ _ _ _))))))) (fun v1 s1 => ?_); refine ot_nil ?_; refine slist_and (by (repeat (first | exact hsub _ _ | exact List.nil_sublist _ | exact List.Sublist.refl _ | refine List.Sublist.cons_cons _ ?_ | refine List.Sublist.cons _ ?_))) ?_)
     refine ox2 11 13 ?_ ?_
     ·(apply ot_v tk; (conv => whnf); (apply VRng.mk; omega; (conv => whnf)); refine slist_and (by (repeat (first | exact hsub _ _ | exact List.nil_sublist _ | exact List.Sublist.refl _ | refine List.Sublist.cons_cons _ ?_ | refine List.Sublist.cons _ ?_))) ?_)
      refine ox1 13 ?_
      (apply ot_v tk; (conv => whnf); refine slist_and (by (repeat (first | exact hsub _ _ | exact List.nil_sublist _ | exact List.Sublist.refl _ | refine List.Sublist.cons_cons _ ?_ | refine List.Sublist.cons _ ?_))) ?_)
      refine ox1 14 ?_
      (refine ot_estoreF (k := ((v : Int), (u : Int))) (A' := _ :: _ :: _ :: _ :: _ :: _ :: A (pushE (netE R.length C.length) a fk (u, v)) ((s1, ((v : Int), (u : Int))) :: st')) pairK rfl rfl rfl rfl rfl (by exact rfl) (by exact rfl) (.head _) (by rw [hset]; exact .there (.there (.there (.there (.there (.there (hF.fm _ _ _ _))))))) ?_; refine ot_nil ?_; refine slist_and (by (repeat (first | exact hsub _ _ | exact List.nil_sublist _ | exact List.Sublist.refl _ | refine List.Sublist.cons_cons _ ?_ | refine List.Sublist.cons _ ?_))) ?_)
      refine VT.mk (otx_end ?_)
      exact VJ.mk _ rfl ⟨rfl, rfl, rfl, rfl, rfl, trivial⟩ (Pick.of_sub (.cons _ (.cons _ (List.Sublist.refl _))))
     ·(apply ot_v tk; (conv => whnf); refine slist_and (by (repeat (first | exact hsub _ _ | exact List.nil_sublist _ | exact List.Sublist.refl _ | refine List.Sublist.cons_cons _ ?_ | refine List.Sublist.cons _ ?_))) ?_)
      refine ox1 11 ?_
      (apply ot_v tk; (conv => whnf); (apply VRng.mk; omega; (conv => whnf)); refine slist_and (by (repeat (first | exact hsub _ _ | exact List.nil_sublist _ | exact List.Sublist.refl _ | refine List.Sublist.cons_cons _ ?_ | refine List.Sublist.cons _ ?_))) ?_)
      refine ox1 14 ?_
      (refine ot_estoreF (k := ((v : Int), (u : Int))) (A' := _ :: _ :: _ :: _ :: _ :: _ :: A (pushE (netE R.length C.length) a fk (u, v)) ((s1, ((v : Int), (u : Int))) :: st')) pairK rfl rfl rfl rfl rfl (by exact rfl) (by exact rfl) (.head _) (by rw [hset]; exact .there (.there (.there (.there (.there (.there (hF.fm _ _ _ _))))))) ?_; refine ot_nil ?_; refine slist_and (by (repeat (first | exact hsub _ _ | exact List.nil_sublist _ | exact List.Sublist.refl _ | refine List.Sublist.cons_cons _ ?_ | refine List.Sublist.cons _ ?_))) ?_)
      refine VT.mk (otx_end ?_)
      exact VJ.mk _ rfl ⟨rfl, rfl, rfl, rfl, rfl, trivial⟩ (Pick.of_sub (.cons _ (.cons _ (List.Sublist.refl _))))
   ·(refine ot_entryS (k := ((v : Int), (u : Int))) (A'v := fun s => _ :: _ :: _ :: _ :: _ :: _ :: A fk ((s, ((v : Int), (u : Int))) :: st')) hlk pairK mapF zv2 rfl rfl rfl rfl rfl (by exact rfl) (fun s => .there (.there (.there (.there (.there (.there (hF.fm _ _ _ _))))))) (fun v1 s1 => ?_); refine ot_nil ?_; refine slist_and (by (repeat (first | exact hsub _ _ | exact List.nil_sublist _ | exact List.Sublist.refl _ | refine List.Sublist.cons_cons _ ?_ | refine List.Sublist.cons _ ?_))) ?_)
    refine ox2 9 13 ?_ ?_
    ·(refine ot_look_v hlk pairK mapF zv2 rfl rfl rfl rfl (by exact rfl) (hF.fmap (.cons _ (.cons _ (.cons _ (.cons _ (.cons _ (.cons _ (List.Sublist.refl _)))))))) ?_; refine ot_nil ?_; refine slist_and (by (repeat (first | exact hsub _ _ | exact List.nil_sublist _ | exact List.Sublist.refl _ | refine List.Sublist.cons_cons _ ?_ | refine List.Sublist.cons _ ?_))) ?_)
     refine ox2 11 13 ?_ ?_
     ·(apply ot_v tk; (conv => whnf); (apply VRng.mk; omega; (conv => whnf)); refine slist_and (by (repeat (first | exact hsub _ _ | exact List.nil_sublist _ | exact List.Sublist.refl _ | refine List.Sublist.cons_cons _ ?_ | refine List.Sublist.cons _ ?_))) ?_)
      refine ox1 13 ?_
      (apply ot_v tk; (conv => whnf); refine slist_and (by (repeat (first | exact hsub _ _ | exact List.nil_sublist _ | exact List.Sublist.refl _ | refine List.Sublist.cons_cons _ ?_ | refine List.Sublist.cons _ ?_))) ?_)
      refine ox1 14 ?_
      (refine ot_estoreF (k := ((v : Int), (u : Int))) (A' := _ :: _ :: _ :: _ :: _ :: _ :: A (pushE (netE R.length C.length) a fk (u, v)) ((s1, ((v : Int), (u : Int))) :: st')) pairK rfl rfl rfl rfl rfl (by exact rfl) (by exact rfl) (.head _) (by rw [hset]; exact .there (.there (.there (.there (.there (.there (hF.fm _ _ _ _))))))) ?_; refine ot_nil ?_; refine slist_and (by (repeat (first | exact hsub _ _ | exact List.nil_sublist _ | exact List.Sublist.refl _ | refine List.Sublist.cons_cons _ ?_ | refine List.Sublist.cons _ ?_))) ?_)
      refine VT.mk (otx_end ?_)
      exact VJ.mk _ rfl ⟨rfl, rfl, rfl, rfl, rfl, trivial⟩ (Pick.of_sub (.cons _ (.cons _ (List.Sublist.refl _))))
     ·(apply ot_v tk; (conv => whnf); refine slist_and (by (repeat (first | exact hsub _ _ | exact List.nil_sublist _ | exact List.Sublist.refl _ | refine List.Sublist.cons_cons _ ?_ | refine List.Sublist.cons _ ?_))) ?_)
      refine ox1 11 ?_
      (apply ot_v tk; (conv => whnf); (apply VRng.mk; omega; (conv => whnf)); refine slist_and (by (repeat (first | exact hsub _ _ | exact List.nil_sublist _ | exact List.Sublist.refl _ | refine List.Sublist.cons_cons _ ?_ | refine List.Sublist.cons _ ?_))) ?_)
      refine ox1 14 ?_
      (refine ot_estoreF (k := ((v : Int), (u : Int))) (A' := _ :: _ :: _ :: _ :: _ :: _ :: A (pushE (netE R.length C.length) a fk (u, v)) ((s1, ((v : Int), (u : Int))) :: st')) pairK rfl rfl rfl rfl rfl (by exact rfl) (by exact rfl) (.head _) (by rw [hset]; exact .there (.there (.there (.there (.there (.there (hF.fm _ _ _ _))))))) ?_; refine ot_nil ?_; refine slist_and (by (repeat (first | exact hsub _ _ | exact List.nil_sublist _ | exact List.Sublist.refl _ | refine List.Sublist.cons_cons _ ?_ | refine List.Sublist.cons _ ?_))) ?_)
      refine VT.mk (otx_end ?_)
      exact VJ.mk _ rfl ⟨rfl, rfl, rfl, rfl, rfl, trivial⟩ (Pick.of_sub (.cons _ (.cons _ (List.Sublist.refl _))))
    ·(apply ot_v tk; (conv => whnf); refine slist_and (by (repeat (first | exact hsub _ _ | exact List.nil_sublist _ | exact List.Sublist.refl _ | refine List.Sublist.cons_cons _ ?_ | refine List.Sublist.cons _ ?_))) ?_)
     refine ox1 9 ?_
     (refine ot_look_v hlk pairK mapF zv2 rfl rfl rfl rfl (by exact rfl) (hF.fmap (.cons _ (.cons _ (.cons _ (.cons _ (.cons _ (.cons _ (List.Sublist.refl _)))))))) ?_; refine ot_nil ?_; refine slist_and (by (repeat (first | exact hsub _ _ | exact List.nil_sublist _ | exact List.Sublist.refl _ | refine List.Sublist.cons_cons _ ?_ | refine List.Sublist.cons _ ?_))) ?_)
     refine ox1 11 ?_
     (apply ot_v tk; (conv => whnf); (apply VRng.mk; omega; (conv => whnf)); refine slist_and (by (repeat (first | exact hsub _ _ | exact List.nil_sublist _ | exact List.Sublist.refl _ | refine List.Sublist.cons_cons _ ?_ | refine List.Sublist.cons _ ?_))) ?_)
     refine ox1 14 ?_
     (refine ot_estoreF (k := ((v : Int), (u : Int))) (A' := _ :: _ :: _ :: _ :: _ :: _ :: A (pushE (netE R.length C.length) a fk (u, v)) ((s1, ((v : Int), (u : Int))) :: st')) pairK rfl rfl rfl rfl rfl (by exact rfl) (by exact rfl) (.head _) (by rw [hset]; exact .there (.there (.there (.there (.there (.there (hF.fm _ _ _ _))))))) ?_; refine ot_nil ?_; refine slist_and (by (repeat (first | exact hsub _ _ | exact List.nil_sublist _ | exact List.Sublist.refl _ | refine List.Sublist.cons_cons _ ?_ | refine List.Sublist.cons _ ?_))) ?_)
     refine VT.mk (otx_end ?_)
     exact VJ.mk _ rfl ⟨rfl, rfl, rfl, rfl, rfl, trivial⟩ (Pick.of_sub (.cons _ (.cons _ (List.Sublist.refl _))))
 obtain rfl : k = l.length := by omega
 rw [List.take_length]
 (apply tr_v tk; (conv => whnf); (repeat ((first | apply VBr.f | (apply v_f; omega)); (conv => whnf))))
 (apply VRet.mk)
 refine ret1 (by first | exact .inl rfl | exact .inr rfl) rfl (by exact rv_tmp rfl) ?_
 exact fun w hs => ⟨(a, _, st'), rfl, ⟨r, l, hws, hrf, hal, ha0, hale.1, rfl⟩, hs.sub (.cons _ (.cons _ (.cons _ (.cons _ (List.Sublist.refl _)))))⟩
end
end Go.Proofs.Ytalcccgialpjgaa
