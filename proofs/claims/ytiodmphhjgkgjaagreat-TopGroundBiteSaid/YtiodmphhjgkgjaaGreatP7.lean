/- near: lemmas for the rows of this seat. No conditions. -/
import Derived.Laws.StructEq
import Derived.Test.YtiodmphhjgkgjaaGreatP5
import Derived.Test.YtiodmphhjgkgjaaGreatP6
set_option linter.all false
namespace Go.Proofs.YtiodmphhjgkgjaaGreat
open Go.RowKit
/-! ## near -/
theorem reads_take {w : World} {base n m : Nat} {a : Addr} {l : List Int} (h : Reads w base 1 (some a) n (i64s l)) (hm : m ≤ n) : Reads w base 1 (some a) m (i64s (l.take m)) := by
 have hl : l.length = n := by have := h.1; simpa [i64s] using this
 refine ⟨by simp [i64s]; omega, fun h0 => ?_⟩
 obtain ⟨b, o, he, hb, hc⟩ := h.2 (by omega)
 refine ⟨b, o, he, hb, fun j u hu => hc j u ?_⟩
 rw [show i64s (l.take m) = (i64s l).take m by simp [i64s, List.map_take]] at hu
 rw [← hu, List.getElem?_take_of_lt]
 have := (List.getElem?_eq_some_iff.1 hu).1
 rw [List.length_take] at this
 omega
theorem reads_drop {w : World} {base n m b o : Nat} {ad : Addr} {l : List Int} (h : Reads w base 1 (some ⟨b, o, none⟩) n (i64s l)) (hm : m ≤ n) (had : 0 < n - m → ad = ⟨b, o + m * 1, none⟩) : Reads w base 1 (some ad) (n - m) (i64s (l.drop m)) := by
 have hl : l.length = n := by have := h.1; simpa [i64s] using this
 refine ⟨by simp [i64s]; omega, fun h0 => ?_⟩
 obtain ⟨b', o', he, hb, hc⟩ := h.2 (by omega)
 cases he
 refine ⟨b, o + m * 1, by rw [had h0], hb, fun j u hu => ?_⟩
 rw [show i64s (l.drop m) = (i64s l).drop m by simp [i64s, List.map_drop], List.getElem?_drop] at hu
 have := hc (m + j) u hu
 rwa [Nat.mul_one, Nat.add_assoc]
theorem InV.take {l : List Int} (h : InV l) (m : Nat) : InV (l.take m) := fun x hx => h x (List.mem_of_mem_take hx)
theorem InV.drop {l : List Int} (h : InV l) (m : Nat) : InV (l.drop m) := fun x hx => h x (List.mem_of_mem_drop hx)
theorem InV.rev {l : List Int} (h : InV l) : InV l.reverse := fun x hx => h x (List.mem_reverse.1 hx)
theorem nest2 {w : World} {a : Addr} {B1 B2 : Option Addr} {c1 c2 m1 m2 : Nat} {x1 x2 : List Value} (hb : Reads w w.heap.size 1 (some a) 2 [.slice B1 m1 c1, .slice B2 m2 c2]) (r1 : Reads w w.heap.size 1 B1 m1 x1) (r2 : Reads w w.heap.size 1 B2 m2 x2) : NestR w 1 (some a) [(m1, x1), (m2, x2)] :=
 ⟨_, hb, fun i hi => by
  match i, hi with
  | 0, _ => exact ⟨B1, c1, rfl, r1⟩
  | 1, _ => exact ⟨B2, c2, rfl, r2⟩⟩
theorem one_i64s (l : List Int) : ∀ u ∈ i64s l, u.oneCell' = true := fun u hu => by
 obtain ⟨x, _, rfl⟩ := List.mem_map.1 hu
 rfl
theorem reverse_own {w0 w : World} {R : List Chunk} (g cap m : Nat) (l : List Int) (hm : l.length = m) (hl : m ≤ 1000) (hs : St w0 (.own (.slice (some ⟨g, 0, none⟩) m cap) 2 1 m (i64s l) :: R) w) : Calls Tryz.prog 101 #[.slice (some ⟨g, 0, none⟩) m cap] w fun e w' => ∃ _ : Unit, e = .returned (.tuple #[]) ∧ True ∧ St w0 (.own (.slice (some ⟨g, 0, none⟩) m cap) 2 1 m (i64s l.reverse) :: R) w' := by
 subst hm
 exact (reverse_head g cap l hl hs).mono fun e w' h => ⟨(), h.1, trivial, h.2⟩
abbrev NearX := SlX × Int × List Int
set_option maxHeartbeats 2000000 in
set_option maxRecDepth 20000 in
theorem near_any (gc : Nat) (A0 : Option Addr) (c n p : Nat) (l : List Int) (w : World) (hn : l.length = n) (hbs : w.cell? ⟨gc, 0, none⟩ = some (.slice A0 n c)) (h : Reads w w.heap.size 1 A0 n (i64s l)) (hm : 1 ≤ n ∧ n ≤ 12) (hcap : n ≤ c) (hv : InV l) (hp : p < n) :
  Calls Tryz.prog 50 #[.pointer (some ⟨gc, 0, none⟩), .int .i64 (p : Int)] w fun e w' => ∃ x : NearX, e = .returned (.agg #[.slice x.1.1 n x.1.2, .int .i64 x.2.1]) ∧ (x.2.2.length = n ∧ 0 ≤ x.2.1 ∧ x.2.1 ≤ 24000 ∧ (Inc (l.take (p + 1)) → Inc (l.drop (p + 1)).reverse → x.2.1 = 0)) ∧ St w ([] ++ [.own (.slice x.1.1 n x.1.2) 2 1 n (i64s x.2.2)]) w' := by
 obtain ⟨b0, o0, rfl, _⟩ := row_cell h (k := 0) (by omega)
 have b1 : ∀ A, CellAt w A gc 0 (.slice (some ⟨b0, o0, none⟩) n c) := fun A => CellAt.base hbs
 refine fn_v tk (n := 45) (A := []) Tryz.func50 rfl rfl (Nat.le_of_ble_eq_true rfl) (St.nil (Below.refl _ _)) ?_
 ((conv => whnf); (repeat ((first | ((first | apply VStop.mk | apply VCall.stop); (refine ot_slice_hi (hi := p + 1) tk rfl rfl rfl rfl rfl rfl rfl rfl rfl (by omega) ?_); apply ot_v tk) | (apply VLd.mk; exact b1 _) | (apply VRng.mk; omega) | (apply VNew.mk; intro g hg)); (conv => whnf))); apply VCall.stop)
 revert g
 intro gr _
 have htl : (l.take (p + 1)).length = p + 1 := by rw [List.length_take]; omega
 have hri := fun w1 hr => rise_any (some ⟨b0, o0, none⟩) c (p + 1) (l.take (p + 1)) w1 htl ⟨by omega, by omega⟩ (hv.take _) hr
 refine ot_callT (X := Nat × List Int × Int) (us := []) (vs := []) (fun x => .agg #[.slice (some ⟨x.1, 0, none⟩) (p + 1) (p + 1), .int .i64 x.2.2]) (fun x => []) (fun x => [.own (.slice (some ⟨x.1, 0, none⟩) (p + 1) (p + 1)) 2 1 (p + 1) (i64s x.2.1)]) _ (fun x c hc => one_mut hc) (by decide) rfl rfl rfl rfl (by kernel_rfl) (evl_of rfl) rfl (fun w1 hs => hri w1 (reads_take (hs.reads h) (by omega))) ?_
 rintro ⟨g1, l1, s1⟩ ⟨hl1, hs1, hs1', hz1⟩
 dsimp only at hl1 hs1 hs1' hz1
 (dsimp only [List.cons_append, List.nil_append]; apply ot_v tk)
 ((conv => whnf); (repeat ((first | (apply VLd.mk; exact b1 _) | (apply VRng.mk; omega) | (apply VNew.mk; intro g hg) | (apply VSt.mk; (focus ((repeat (first | (with_reducible exact At.here) | (with_reducible apply At.there))); done)); exact rfl)); (conv => whnf))); apply VStop.mk)
 revert g
 intro ga _
 refine ot_slice_lo (lo := p + 1) tk rfl rfl rfl rfl rfl rfl rfl rfl rfl (by omega) ?_
 obtain ⟨AD, hAD⟩ : ∃ AD, AD = (if c = p + 1 then (⟨b0, o0, none⟩ : Addr) else ⟨b0, o0 + (p + 1) * Tryz.t2.size, none⟩) := ⟨_, rfl⟩
 rw [← hAD]
 have hAD2 : 0 < n - (p + 1) → AD = ⟨b0, o0 + (p + 1) * 1, none⟩ := fun h0 => by rw [hAD, if_neg (by omega)]; rfl
 clear hAD
 have hdl : (l.drop (p + 1)).length = n - (p + 1) := by rw [List.length_drop]; omega
 have hcl := fun w1 (hr : Reads w1 w1.heap.size 1 (some AD) (n - (p + 1)) (i64s (l.drop (p + 1)))) => cloneB_any AD (c - (p + 1)) (l.drop (p + 1)) w1 (by rw [hdl]; exact hr) (by omega)
 rw [hdl] at hcl
 refine ot_call_ownS (t := 2) (sz := 1) (m := n - (p + 1)) (xs := i64s (l.drop (p + 1))) (by decide) rfl rfl rfl (by kernel_rfl) (evl_of rfl) (fun w1 hs => hcl w1 (reads_drop (hs.reads h) (by omega) hAD2)) (fun B1 c1 hB1 => ?_)
 by_cases hlast : n - (p + 1) = 0
 ·rw [hlast]
  (apply ot_v tk; (conv => whnf); apply VCall.stop)
  refine ot_call_q rfl rfl rfl (by kernel_rfl) (evl_of rfl) (fun w1 hs => reverse_nil B1 c1 w1) ?_
  (apply ot_v tk; (conv => whnf); apply VCall.stop)
  refine ot_call_q rfl rfl rfl (by kernel_rfl) (evl_of rfl) (fun w1 hs => rise_nil B1 c1 w1) ?_
  (apply ot_v tk; (conv => whnf); (repeat ((first | (apply VLd.mk; (focus ((repeat (first | ((with_reducible apply ld_blk); exact rfl) | (with_reducible apply ld_skip))); done))) | (apply VNew.mk; intro g hg) | (apply VSt.mk; (focus ((repeat (first | (with_reducible exact At.here) | (with_reducible apply At.there))); done)); exact rfl)); (conv => whnf))); apply VCall.stop)
  revert g
  intro g7 _
  refine ot_call_q rfl rfl rfl (by kernel_rfl) (evl_of rfl) (fun w1 hs => reverse_nil none 0 w1) ?_
  (apply ot_v tk; (conv => whnf); (repeat ((first | ((first | apply VStop.mk | apply VCall.stop); refine tr_region_draw (id := 6) (by kernel_rfl) [0, 1, 2, 3, 6, 7, 8, 9, 10, 4, 5, 11, 12] [.rd, .rd, .rd, .rd, .rd, .rd, .rd, .rd, .rd, .cr, .cr, .rd, .wr] rfl (by kernel_rfl) ?_; apply ot_v tk) | (apply VLd.mk; (focus ((repeat (first | ((with_reducible apply ld_blk); exact rfl) | (with_reducible apply ld_skip))); done))) | (apply VRng.mk; omega) | (apply VNew.mk; intro g hg)); (conv => whnf))); apply VCall.stop)
  have hcc := fun w1 a (h : NestR w1 1 (some a) [(p + 1, i64s l1), (0, [])]) => concat102_any (some a) 2 [(p + 1, i64s l1), (0, [])] w1 h (Nat.le_of_ble_eq_true rfl) (by show p + 1 + (0 + 0) ≤ 100000; omega) (fun q hq => by rcases List.mem_cons.1 hq with rfl | hq; exact one_i64s l1; rw [List.mem_singleton.1 hq]; exact fun _ h => by cases h)
  rw [show sumN [(p + 1, i64s l1), (0, [])] = n by show p + 1 + (0 + 0) = n; omega, show catN [(p + 1, i64s l1), (0, [])] = i64s l1 by show i64s l1 ++ ([] ++ []) = _; simp] at hcc
  refine ot_call_ownS (t := 2) (sz := 1) (m := n) (xs := i64s l1) (by decide) rfl rfl rfl (by kernel_rfl) (evl_of rfl) (fun w1 hs => hcc w1 _ (nest2 (hs.blk_reads (.head _) rfl) (hs.own_rd (by (repeat (first | exact List.Mem.head _ | assumption | refine List.Mem.tail _ ?_)))) ⟨rfl, fun h => absurd h (by decide)⟩)) (fun B3 c3 hB3 => ?_)
  (apply ot_v tk; (conv => whnf); (repeat ((apply VSt.mk; (focus ((repeat (first | (with_reducible exact At.here) | (with_reducible apply At.there))); done)); exact rfl); (conv => whnf))))
  (apply VRet.mk)
  refine ret1 (by first | exact .inl rfl | exact .inr rfl) rfl (by exact rv_row tk rfl rfl rfl (by first | exact cells_blk_all (by (repeat (first | exact List.Mem.head _ | assumption | refine List.Mem.tail _ ?_))) | exact cells_row0 (by (repeat (first | exact List.Mem.head _ | assumption | refine List.Mem.tail _ ?_)))) rfl) ?_
  exact fun w hs => ⟨((B3, c3), s1 + 0, l1), rfl, ⟨by dsimp only; omega, by dsimp only; omega, by dsimp only; omega, fun h1 _ => by rw [hz1 h1]; rfl⟩, hs.sub (List.singleton_sublist.2 (by (repeat (first | exact List.Mem.head _ | assumption | refine List.Mem.tail _ ?_))))⟩
 ·obtain ⟨gb, rfl⟩ := hB1 (by omega)
  (apply ot_v tk; (conv => whnf); apply VCall.stop)
  refine ot_callW (us := []) (vs := []) (X := Unit) (fun _ => .tuple #[]) (fun _ => .own (.slice (some ⟨gb, 0, none⟩) (n - (p + 1)) c1) 2 1 (n - (p + 1)) (i64s (l.drop (p + 1)).reverse) :: _) (fun _ => True) rfl rfl rfl rfl rfl (by kernel_rfl) (evl_of rfl) rfl (fun w1 hs => reverse_own gb c1 _ (l.drop (p + 1)) hdl (by omega) hs) (fun _ _ => ?_)
  have hri2 := fun w1 hr => rise_any (some ⟨gb, 0, none⟩) c1 (n - (p + 1)) (l.drop (p + 1)).reverse w1 (by rw [List.length_reverse]; exact hdl) ⟨by omega, by omega⟩ (hv.drop _).rev hr
  (apply ot_v tk; (conv => whnf); apply VCall.stop)
  refine ot_callT (X := Nat × List Int × Int) (us := []) (vs := []) (fun x => .agg #[.slice (some ⟨x.1, 0, none⟩) (n - (p + 1)) (n - (p + 1)), .int .i64 x.2.2]) (fun x => []) (fun x => [.own (.slice (some ⟨x.1, 0, none⟩) (n - (p + 1)) (n - (p + 1))) 2 1 (n - (p + 1)) (i64s x.2.1)]) _ (fun x c hc => one_mut hc) (by decide) rfl rfl rfl rfl (by kernel_rfl) (evl_of rfl) rfl (fun w1 hs => hri2 w1 (hs.own_rd (.head _))) ?_
  rintro ⟨g2, l2, s2⟩ ⟨hl2, hs2, hs2', hz2⟩
  dsimp only at hl2 hs2 hs2' hz2
  (dsimp only [List.cons_append, List.nil_append]; apply ot_v tk)
  ((conv => whnf); (repeat ((first | (apply VLd.mk; (focus ((repeat (first | ((with_reducible apply ld_blk); exact rfl) | (with_reducible apply ld_skip))); done))) | (apply VNew.mk; intro g hg) | (apply VSt.mk; (focus ((repeat (first | (with_reducible exact At.here) | (with_reducible apply At.there))); done)); exact rfl)); (conv => whnf))); apply VCall.stop)
  revert g
  intro g7 _
  refine ot_st (B := .own (.slice (some ⟨g2, 0, none⟩) (n - (p + 1)) (n - (p + 1))) 2 1 (n - (p + 1)) (i64s l2) :: [_, _, _, _, _]) rfl (fun w hs => hs.perm (List.perm_append_comm (l₁ := [_, _, _, _, _]) (l₂ := [_]))) ?_
  refine ot_callW (us := []) (vs := []) (X := Unit) (fun _ => .tuple #[]) (fun _ => .own (.slice (some ⟨g2, 0, none⟩) (n - (p + 1)) (n - (p + 1))) 2 1 (n - (p + 1)) (i64s l2.reverse) :: _) (fun _ => True) rfl rfl rfl rfl rfl (by kernel_rfl) (evl_of rfl) rfl (fun w1 hs => reverse_own g2 _ _ l2 hl2 (by omega) hs) (fun _ _ => ?_)
  (apply ot_v tk; (conv => whnf); (repeat ((first | ((first | apply VStop.mk | apply VCall.stop); refine tr_region_draw (id := 6) (by kernel_rfl) [0, 1, 2, 3, 6, 7, 8, 9, 10, 4, 5, 11, 12] [.rd, .rd, .rd, .rd, .rd, .rd, .rd, .rd, .rd, .cr, .cr, .rd, .wr] rfl (by kernel_rfl) ?_; apply ot_v tk) | (apply VLd.mk; (focus ((repeat (first | ((with_reducible apply ld_blk); exact rfl) | (with_reducible apply ld_skip))); done))) | (apply VRng.mk; omega) | (apply VNew.mk; intro g hg)); (conv => whnf))); apply VCall.stop)
  have hcc := fun w1 a (h : NestR w1 1 (some a) [(p + 1, i64s l1), (n - (p + 1), i64s l2.reverse)]) => concat102_any (some a) 2 [(p + 1, i64s l1), (n - (p + 1), i64s l2.reverse)] w1 h (Nat.le_of_ble_eq_true rfl) (by show p + 1 + (n - (p + 1) + 0) ≤ 100000; omega) (fun q hq => by rcases List.mem_cons.1 hq with rfl | hq; exact one_i64s l1; rw [List.mem_singleton.1 hq]; exact one_i64s _)
  rw [show sumN [(p + 1, i64s l1), (n - (p + 1), i64s l2.reverse)] = n by show p + 1 + (n - (p + 1) + 0) = n; omega, show catN [(p + 1, i64s l1), (n - (p + 1), i64s l2.reverse)] = i64s (l1 ++ l2.reverse) by show i64s l1 ++ (i64s l2.reverse ++ []) = _; simp [i64s]] at hcc
  refine ot_call_ownS (t := 2) (sz := 1) (m := n) (xs := i64s (l1 ++ l2.reverse)) (by decide) rfl rfl rfl (by kernel_rfl) (evl_of rfl) (fun w1 hs => hcc w1 _ (nest2 (hs.blk_reads (.head _) rfl) (hs.own_rd (by (repeat (first | exact List.Mem.head _ | assumption | refine List.Mem.tail _ ?_)))) (hs.own_rd (by (repeat (first | exact List.Mem.head _ | assumption | refine List.Mem.tail _ ?_)))))) (fun B3 c3 hB3 => ?_)
  (apply ot_v tk; (conv => whnf); (repeat ((apply VSt.mk; (focus ((repeat (first | (with_reducible exact At.here) | (with_reducible apply At.there))); done)); exact rfl); (conv => whnf))))
  (apply VRet.mk)
  refine ret1 (by first | exact .inl rfl | exact .inr rfl) rfl (by exact rv_row tk rfl rfl rfl (by first | exact cells_blk_all (by (repeat (first | exact List.Mem.head _ | assumption | refine List.Mem.tail _ ?_))) | exact cells_row0 (by (repeat (first | exact List.Mem.head _ | assumption | refine List.Mem.tail _ ?_)))) rfl) ?_
  exact fun w hs => ⟨((B3, c3), s1 + s2, l1 ++ l2.reverse), rfl, ⟨by simp; omega, by dsimp only; omega, by dsimp only; omega, fun h1 h2 => by rw [hz1 h1, hz2 h2]; rfl⟩, hs.sub (List.singleton_sublist.2 (by (repeat (first | exact List.Mem.head _ | assumption | refine List.Mem.tail _ ?_))))⟩
/-! ## The best try -/
abbrev TryX := Option Addr × Nat × Int
def tV (n : Nat) (x : TryX) : List Value := [.slice x.1 n x.2.1, .int .i64 x.2.2]
def tryC (n : Nat) (T : List TryX) : List Value := T.flatMap (tV n)
def tAt (T : List TryX) (k : Nat) : TryX := T[k]?.getD (none, 0, 0)
theorem tryC_get {n : Nat} : ∀ {T : List TryX} {k j : Nat}, k < T.length → j < 2 → (tryC n T)[k * 2 + j]? = (tV n (tAt T k))[j]?
 | [], _, _, h, _ => by cases h
 | x :: T, 0, j, _, hj => by
  show (tV n x ++ tryC n T)[0 * 2 + j]? = _
  rw [Nat.zero_mul, Nat.zero_add, List.getElem?_append_left (by show j < 2; exact hj)]
  rfl
 | x :: T, k + 1, j, h, hj => by
  show (tV n x ++ tryC n T)[(k + 1) * 2 + j]? = _
  rw [List.getElem?_append_right (by show 2 ≤ _; omega), show (k + 1) * 2 + j - (tV n x).length = k * 2 + j by show (k + 1) * 2 + j - 2 = _; omega, tryC_get (Nat.lt_of_succ_lt_succ h) hj]
  rfl
theorem tryC_cells {w : World} {n m b o k : Nat} {T : List TryX} (h : Reads w w.heap.size 2 (some ⟨b, o, none⟩) m (tryC n T)) (hm : T.length = m) (hk : k < m) (A : List Chunk) : CellsAt w A b (o + k * 2) (tV n (tAt T k)) := CellsAt.base fun j u hu => by
 obtain ⟨b', o', he, _, hc⟩ := h.2 (by omega)
 cases he
 have hj : j < 2 := (List.getElem?_eq_some_iff.1 hu).1
 have := hc (k * 2 + j) u (by rw [tryC_get (by omega) hj]; exact hu)
 rwa [Nat.add_assoc]
theorem tryC_snoc (n : Nat) (T : List TryX) (x : TryX) : tryC n (T ++ [x]) = tryC n T ++ tV n x := by
 unfold tryC
 rw [List.flatMap_append]; simp
set_option maxRecDepth 20000 in
theorem near1_any (A B : Option Addr) (n c c' : Nat) (s t : Int) (w : World) : Calls Tryz.prog 52 #[.agg #[.slice A n c, .int .i64 s], .agg #[.slice B n c', .int .i64 t]] w fun e w' => e = .returned (.bool (decide (s < t))) ∧ Below w.heap.size w w' := by
 refine fn_v tk (n := 10) (A := []) Tryz.func52 rfl rfl (Nat.le_of_ble_eq_true rfl) (St.nil (Below.refl _ _)) ?_
 ((conv => whnf); (repeat ((first | (apply VLd.mk; (focus ((repeat (first | ((with_reducible apply ld_blk); exact rfl) | (with_reducible apply ld_skip))); done))) | apply v_d | (apply VNew.mk; intro g hg)); (conv => whnf))))
 (apply VRet.mk)
 refine ret1 (by first | exact .inl rfl | exact .inr rfl) rfl (by exact rv_tmp rfl) ?_
 exact fun w hs => ⟨rfl, hs.base⟩
set_option maxHeartbeats 1000000 in
set_option maxRecDepth 20000 in
theorem bestP_any (A0 : Option Addr) (n m c : Nat) (T : List TryX) (w : World) (hm : T.length = m) (hl : 1 ≤ m ∧ m ≤ 12) (hc : m ≤ c) (h : Reads w w.heap.size 2 A0 m (tryC n T)) :
  Calls Tryz.prog 51 #[.slice A0 m c, .func (.func 52) #[] #[]] w fun e w' => ∃ j : Nat, e = .returned (.agg #[.slice (tAt T j).1 n (tAt T j).2.1, .int .i64 (tAt T j).2.2]) ∧ (j < m ∧ ∀ k, k < m → (tAt T j).2.2 ≤ (tAt T k).2.2) ∧ Below w.heap.size w w' := by
 obtain ⟨b0, o0, rfl, _⟩ := h.2 (by omega)
 have ct := fun (k : Nat) (hk : k < m) => tryC_cells (k := k) h hm hk
 unfold tV at ct
 have ct0 := ct 0 (by omega)
 refine fn_v tk (n := 25) (A := []) Tryz.func51 rfl rfl (Nat.le_of_ble_eq_true rfl) (St.nil (Below.refl _ _)) ?_
 ((conv => whnf); (repeat ((first | (apply VLdN.mk; exact ct0 _; exact rfl) | (apply VIx.mk (j := 0); exact rfl; omega) | (apply VNew.mk; intro g hg) | (apply VSt.mk; (focus ((repeat (first | (with_reducible exact At.here) | (with_reducible apply At.there))); done)); exact rfl)); (conv => whnf))); apply VStop.mk)
 rename_i gr _
 revert g
 intro go _
 refine ot_slice_lo (lo := 1) tk rfl rfl rfl rfl rfl rfl rfl rfl rfl (by omega) ?_
 obtain ⟨AD, hAD⟩ : ∃ AD, AD = (if c = 1 then (⟨b0, o0, none⟩ : Addr) else ⟨b0, o0 + 1 * Tryz.t106.size, none⟩) := ⟨_, rfl⟩
 rw [← hAD]
 have hAD2 : 1 < m → AD = ⟨b0, o0 + 1 * 2, none⟩ := fun h0 => by rw [hAD, if_neg (by omega)]; rfl
 clear hAD
 (apply ot_v tk; (conv => whnf); apply VStop.mk)
 refine v_loop (fun gm ds ts A => ds = [] ∧ ∃ (i j : Nat), i + 1 + gm = m ∧ j ≤ i ∧ (∀ k, k ≤ i → (tAt T j).2.2 ≤ (tAt T k).2.2) ∧ A = [.blk go 106 [.slice (tAt T j).1 n (tAt T j).2.1, .int .i64 (tAt T j).2.2], .blk gr 106 [.slice none 0 0, .int .i64 0]] ∧ ts = [(1, .func (.func 52) #[] #[]), (4, .pointer (some ⟨gr, 0, none⟩)), (5, .pointer (some ⟨go, 0, none⟩)), (12, .slice (some AD) (m - 1) (c - 1)), (13, .int .i64 ((m - 1 : Nat) : Int)), (14, .int .i64 (i : Int))]) (m - 1)
  (l := [(1, _), (4, _), (5, _), (12, _), (13, _), (14, _)]) (B := _) ?_ (List.Sublist.refl _) ⟨rfl, 0, 0, by omega, by omega, fun k hk => by rw [show k = 0 by omega]; exact Int.le_refl _, rfl, rfl⟩ ?_
 ·exact ⟨rfl, rfl, rfl, rfl, rfl, rfl, trivial⟩
 rintro gm ds ts A ⟨rfl, i, j, hi, hj, hmin, rfl, rfl⟩
 by_cases hlt : i + 1 < m
 ·obtain rfl := hAD2 (by omega)
  have c1 : ∀ A, CellsAt w A b0 (o0 + 1 * 2 + i * 2) [.slice (tAt T (i + 1)).1 n (tAt T (i + 1)).2.1, .int .i64 (tAt T (i + 1)).2.2] := by
   rw [show o0 + 1 * 2 + i * 2 = o0 + (i + 1) * 2 by omega]; exact ct (i + 1) (by omega)
  by_cases hc2 : (tAt T (i + 1)).2.2 < (tAt T j).2.2
  ·have kn := fun w1 => near1_any (tAt T (i + 1)).1 (tAt T j).1 n (tAt T (i + 1)).2.1 (tAt T j).2.1 (tAt T (i + 1)).2.2 (tAt T j).2.2 w1
   rw [decide_eq_true hc2] at kn
   (apply tr_v tk; (conv => whnf); (repeat ((first | (apply VLdN.mk; exact c1 _; exact rfl) | (apply VIx.mk (j := i); exact rfl; omega) | (apply VCall.q; kernel_rfl; (focus (intro w1 hs; first | with_reducible apply kn w1))) | (apply VLdN.mk; (focus ((repeat (first | (with_reducible apply ldn_blk) | (with_reducible apply ldn_skip))); done)); exact rfl) | (apply VRng.mk; omega) | apply VBr.t | (apply v_t; omega) | (apply VNew.mk; intro g hg) | (apply VSt.mk; (focus ((repeat (first | (with_reducible exact At.here) | (with_reducible apply At.there))); done)); exact rfl)); (conv => whnf))))
   exact v_rnd (gm - 1) (by omega) (l := [(1, _), (4, _), (5, _), (12, _), (13, _), (14, _)]) (B := [.blk go 106 [.slice (tAt T (i + 1)).1 n (tAt T (i + 1)).2.1, .int .i64 (tAt T (i + 1)).2.2], .blk gr 106 [.slice none 0 0, .int .i64 0]]) ⟨rfl, rfl, rfl, rfl, rfl, rfl, trivial⟩ (by (repeat (first | exact sl0 _ | exact sl1 _ | refine sl2 _ ?_ | refine sl3 _ ?_))) ⟨rfl, i + 1, i + 1, by omega, by omega, fun k hk => by rcases Nat.lt_or_ge k (i + 1) with h1 | h1; (have := hmin k (by omega); omega); (obtain rfl : k = i + 1 := by omega); exact Int.le_refl _, rfl, rfl⟩
  ·have kn := fun w1 => near1_any (tAt T (i + 1)).1 (tAt T j).1 n (tAt T (i + 1)).2.1 (tAt T j).2.1 (tAt T (i + 1)).2.2 (tAt T j).2.2 w1
   rw [decide_eq_false hc2] at kn
   (apply tr_v tk; (conv => whnf); (repeat ((first | (apply VLdN.mk; exact c1 _; exact rfl) | (apply VIx.mk (j := i); exact rfl; omega) | (apply VCall.q; kernel_rfl; (focus (intro w1 hs; first | with_reducible apply kn w1))) | (apply VLdN.mk; (focus ((repeat (first | (with_reducible apply ldn_blk) | (with_reducible apply ldn_skip))); done)); exact rfl) | (apply VRng.mk; omega) | apply VBr.t | apply VBr.f | (apply v_t; omega) | (apply VNew.mk; intro g hg) | (apply VSt.mk; (focus ((repeat (first | (with_reducible exact At.here) | (with_reducible apply At.there))); done)); exact rfl)); (conv => whnf))))
   exact v_rnd (gm - 1) (by omega) (l := [(1, _), (4, _), (5, _), (12, _), (13, _), (14, _)]) (B := [.blk go 106 [.slice (tAt T j).1 n (tAt T j).2.1, .int .i64 (tAt T j).2.2], .blk gr 106 [.slice none 0 0, .int .i64 0]]) ⟨rfl, rfl, rfl, rfl, rfl, rfl, trivial⟩ (by (repeat (first | exact sl0 _ | exact sl1 _ | refine sl2 _ ?_ | refine sl3 _ ?_))) ⟨rfl, i + 1, j, by omega, by omega, fun k hk => by rcases Nat.lt_or_ge k (i + 1) with h1 | h1; exact hmin k (by omega); (obtain rfl : k = i + 1 := by omega); omega, rfl, rfl⟩
 ·(apply tr_v tk; (conv => whnf); (repeat ((first | (apply VLdN.mk; (focus ((repeat (first | (with_reducible apply ldn_blk) | (with_reducible apply ldn_skip))); done)); exact rfl) | apply VBr.f | (apply v_f; omega) | (apply VSt.mk; (focus ((repeat (first | (with_reducible exact At.here) | (with_reducible apply At.there))); done)); exact rfl)); (conv => whnf))))
  (apply VRet.mk)
  refine ret1 (by first | exact .inl rfl | exact .inr rfl) rfl (by exact rv_row tk rfl rfl rfl (by first | exact cells_blk_all (by (repeat (first | exact List.Mem.head _ | assumption | refine List.Mem.tail _ ?_))) | exact cells_row0 (by (repeat (first | exact List.Mem.head _ | assumption | refine List.Mem.tail _ ?_)))) rfl) ?_
  exact fun w hs => ⟨j, rfl, ⟨by omega, fun k hk => hmin k (by omega)⟩, hs.base⟩
/-! ## Near -/
def nC (n : Nat) (x : NearX) : Chunk := .own (.slice x.1.1 n x.1.2) 2 1 n (i64s x.2.2)
def nT (x : NearX) : TryX := (x.1.1, x.1.2, x.2.1)
def UpDown (l : List Int) (p : Nat) : Prop := p < l.length ∧ Inc (l.take (p + 1)) ∧ Inc (l.drop (p + 1)).reverse
theorem tAt_map {L : List NearX} {k : Nat} {x : NearX} (h : L[k]? = some x) : tAt (L.map nT) k = nT x := by
 unfold tAt
 rw [List.getElem?_map, h]; rfl
set_option maxHeartbeats 1000000 in
set_option maxRecDepth 20000 in
theorem nearAll_any (A0 : Option Addr) (n c : Nat) (l : List Int) (w : World) (hn : l.length = n) (h : Reads w w.heap.size 1 A0 n (i64s l)) (hcap : n ≤ c) (hz : rowE l = 0) (hq : ∃ p, UpDown l p) :
  Calls Tryz.prog 22 #[.slice A0 n c] w fun e w' => ∃ x : Nat, e = .returned (.tuple #[.int .i64 0, .slice (some ⟨x, 0, none⟩) n n, .int .i64 0]) ∧ True ∧ St w ([] ++ []) w' := by
 have ⟨hm, hv⟩ := rowE_ok.1 hz
 rw [hn] at hm
 have kn := fun gc p w1 (h1 : w1.cell? ⟨gc, 0, none⟩ = some (.slice A0 n c)) h2 (hp : p < n) => near_any gc A0 c n p l w1 hn h1 h2 hm hcap hv hp
 have ko := fun w1 (h2 : Reads w1 w1.heap.size 1 A0 n (i64s l)) => openB_ok A0 c l w1 (by rw [hn]; exact h2) (by unfold maxLen; omega) hz
 rw [hn] at ko
 refine fn_v tk (n := 43) (A := []) Tryz.func22 rfl rfl (Nat.le_of_ble_eq_true rfl) (St.nil (Below.refl _ _)) ?_
 ((conv => whnf); apply VCall.stop)
 refine ot_callT (X := Nat) (us := []) (vs := []) (fun x => .tuple #[.pointer (some ⟨x, 0, none⟩), .int .i64 0]) (fun x => []) (fun x => [.blk x 61 [.slice A0 n c]]) _ (fun x c hc => blk1_mut hc) (by decide) rfl rfl rfl rfl (by kernel_rfl) (evl_of rfl) rfl (fun w1 hs => ko w1 (hs.reads h)) ?_
 rintro gc _
 (dsimp only [List.cons_append, List.nil_append]; apply ot_v tk)
 ((conv => whnf); (repeat ((first | apply VBr.f | (apply v_f; omega)); (conv => whnf))); apply VStop.mk)
 refine tr_own_nil 106 2 ?_
 refine v_loop (fun gm ds ts A => ds = [] ∧ ∃ (i : Nat) (B : Option Addr) (cx : Nat) (L : List NearX), i + gm = n ∧ L.length = i ∧ (∀ x ∈ L, x.2.2.length = n) ∧ (∀ k x, L[k]? = some x → 0 ≤ x.2.1 ∧ (UpDown l k → x.2.1 = 0)) ∧ A = .own (.slice B i cx) 106 2 i (tryC n (L.map nT)) :: .blk gc 61 [.slice A0 n c] :: L.map (nC n) ∧ ts = [(0, .slice A0 n c), (5, .pointer (some ⟨gc, 0, none⟩)), (7, .slice B i cx), (20, .int .i64 (n : Int)), (21, .int .i64 (i : Int))]) n
  (l := [(0, _), (5, _), (7, _), (20, _), (21, _)]) (B := _) ?_ (List.Sublist.refl _) ⟨rfl, 0, none, 0, [], by omega, rfl, (fun _ h => by cases h), (fun _ _ h => by cases h), rfl, rfl⟩ ?_
 ·exact ⟨rfl, rfl, rfl, rfl, rfl, trivial⟩
 rintro gm ds ts A ⟨rfl, i, B, cx, L, hi, hLl, hL1, hL2, rfl, rfl⟩
 by_cases hlt : i < n
 ·(apply tr_v tk; (conv => whnf); (repeat ((first | apply VBr.t | (apply v_t; omega)); (conv => whnf))); apply VCall.stop)
  refine ot_callT (X := NearX) (us := []) (vs := []) (fun x => .agg #[.slice x.1.1 n x.1.2, .int .i64 x.2.1]) (fun x => []) (fun x => [.own (.slice x.1.1 n x.1.2) 2 1 n (i64s x.2.2)]) _ (fun x c hc => one_mut hc) (by decide) rfl rfl rfl rfl (by kernel_rfl) (evl_of rfl) rfl (fun w1 hs => kn gc i w1 (cell_blk (.tail _ (.head _)) rfl w1 hs) (hs.reads h) hlt) ?_
  rintro x ⟨hx1, hx2, hx3, hx4⟩
  (dsimp only [List.cons_append, List.nil_append]; apply ot_v tk)
  ((conv => whnf); (repeat ((first | (apply VStop.mk; (refine ot_appendS (sz := 2) (sl := i) (A'v := fun v' => _ :: .own v' 106 2 (i + 1) (tryC n (L.map nT) ++ [.slice x.1.1 n x.1.2, .int .i64 x.2.1]) :: _) tk rfl rfl rfl rfl rfl rfl rfl rfl rfl rfl (by decide) rfl (cells_blk_all (.head _)) rfl rfl (fun v' => .there .here) (by omega) (by decide) (fun B3 c3 => ?_)); apply ot_v tk) | (apply VRng.mk; omega) | (apply VNew.mk; intro g hg)); (conv => whnf))))
  exact v_rnd (gm - 1) (by omega) (l := [(0, _), (5, _), (7, _), (20, _), (21, _)]) (B := .own (.slice B3 (i + 1) c3) 106 2 (i + 1) (tryC n ((L ++ [x]).map nT)) :: .blk gc 61 [.slice A0 n c] :: (L ++ [x]).map (nC n)) ⟨rfl, rfl, rfl, rfl, rfl, trivial⟩ (by rw [List.map_append, List.map_append, List.map_cons, List.map_nil, tryC_snoc]; exact .cons _ (List.Sublist.refl _)) ⟨rfl, i + 1, B3, c3, L ++ [x], by omega, by rw [List.length_append, hLl]; rfl, fun y hy => by
   rcases List.mem_append.1 hy with h1 | h1
   ·exact hL1 y h1
   ·rw [List.mem_singleton.1 h1]; exact hx1, fun k y hy => by
   rcases Nat.lt_or_ge k L.length with h1 | h1
   ·rw [List.getElem?_append_left h1] at hy; exact hL2 k y hy
   ·rw [List.getElem?_append_right h1] at hy
    obtain ⟨hk, rfl⟩ : k = i ∧ x = y := by
     have := (List.getElem?_eq_some_iff.1 hy).1
     rw [List.length_singleton] at this
     have hk : k = i := by omega
     subst hk
     rw [hLl, Nat.sub_self] at hy
     exact ⟨rfl, by cases hy; rfl⟩
    subst hk
    exact ⟨hx2, fun hU => hx4 hU.2.1 hU.2.2⟩, rfl, rfl⟩
 ·obtain rfl : i = n := by omega
  refine tr_own_addr (B := B) (cc := cx) (sz := 2) (m := i) (te := 106) (xs := tryC i (L.map nT)) (.head _) (by omega) fun gt hgt => ?_
  subst hgt
  refine tr_fact (p := i ≤ cx) (fun w' hs => own_cap hs (.head _)) fun hcx => ?_
  have kb := fun w1 (h2 : Reads w1 w1.heap.size 2 (some ⟨gt, 0, none⟩) i (tryC i (L.map nT))) => bestP_any _ i i cx (L.map nT) w1 (by rw [List.length_map]; exact hLl) hm hcx h2
  (apply tr_v tk; (conv => whnf); (repeat ((first | apply VBr.f | (apply v_f; omega)); (conv => whnf))); apply VCall.stop)
  refine ot_callQ (us := []) (vs := []) (fun j : Nat => .agg #[.slice (tAt (L.map nT) j).1 i (tAt (L.map nT) j).2.1, .int .i64 (tAt (L.map nT) j).2.2]) (fun j => j < i ∧ ∀ k, k < i → (tAt (L.map nT) j).2.2 ≤ (tAt (L.map nT) k).2.2) (by decide) rfl rfl rfl rfl (by kernel_rfl) (evl_of rfl) rfl (fun w1 hs => kb w1 (hs.own_rd (.head _))) ?_
  rintro j ⟨hj, hjm⟩
  obtain ⟨⟨⟨Bx, cxx⟩, s, xs⟩, hx⟩ : ∃ x, L[j]? = some x := ⟨_, List.getElem?_eq_getElem (by omega)⟩
  have hxL := List.mem_of_getElem? hx
  have hxn := hL1 _ hxL
  have hs0 : s = 0 := by
   have h1 := (hL2 j _ hx).1
   obtain ⟨p, hp⟩ := hq
   have hpi : p < i := by have := hp.1; omega
   obtain ⟨y, hy⟩ : ∃ y, L[p]? = some y := ⟨_, List.getElem?_eq_getElem (by omega)⟩
   have h2 := (hL2 p y hy).2 hp
   have h3 := hjm p hpi
   rw [tAt_map hx, tAt_map hy] at h3
   unfold nT at h3
   dsimp only at h1 h3
   omega
  subst hs0
  rw [tAt_map hx]
  have hxm : nC i ((Bx, cxx), 0, xs) ∈ L.map (nC i) := List.mem_map.2 ⟨_, hxL, rfl⟩
  unfold nC at hxm
  dsimp only [nT] at hxm ⊢
  refine ot_fact rfl (p := ∃ b, Bx = some ⟨b, 0, none⟩) (fun w' hs => own_addr hs (.tail _ (.tail _ hxm)) (by omega)) ?_
  rintro ⟨gx, rfl⟩
  apply ot_v tk
  ((conv => whnf); (repeat ((first | (apply VStop.mk; (refine ot_makeSlice (m := i) tk (by decide) rfl rfl rfl rfl rfl rfl rfl rfl rfl rfl rfl rfl (by omega) (by decide) (fun g10 hg10 => ?_)); apply ot_v tk) | (apply VLd.mk; (focus ((repeat (first | ((with_reducible apply ld_blk); exact rfl) | (with_reducible apply ld_skip))); done))) | (apply VNew.mk; intro g hg) | (apply VSt.mk; (focus ((repeat (first | (with_reducible exact At.here) | (with_reducible apply At.there))); done)); exact rfl)); (conv => whnf))); apply VStop.mk)
  refine ot_copy (vs := i64s xs) tk rfl rfl rfl rfl rfl rfl rfl rfl rfl rfl (fun w' hs => hs.own_rd (.tail _ (.tail _ (.tail _ (.tail _ hxm))))) (one_i64s xs) .here (by simp) (fun h => by cases h) ?_
  (apply ot_v tk; (conv => whnf); (repeat ((apply VLd.mk; (focus ((repeat (first | ((with_reducible apply ld_blk); exact rfl) | (with_reducible apply ld_skip))); done))); (conv => whnf))))
  (apply VRet.mk)
  refine ret3 (by first | exact .inl rfl | exact .inr rfl) rfl (by exact rv_tmp rfl) (by exact rv_tmp rfl) (by exact rv_tmp rfl) ?_
  exact fun w hs => ⟨g10, rfl, trivial, hs.sub (List.nil_sublist _)⟩
end Go.Proofs.YtiodmphhjgkgjaaGreat
