/- Arrays of numbers, compared: lemmas for the rows of this seat. No conditions. -/
import Derived.Laws.StructEq
import Derived.Test.YtiodmphhjgkgjaaGreatP4
set_option linter.all false
namespace Go.Proofs.YtiodmphhjgkgjaaGreat
open Go.RowKit
/-! ## Arrays of numbers, compared -/
theorem fnC_at {f : Nat → Int} {n i : Nat} (h : i < n) : (fnC f n).toArray[i]? = some (.int .i64 (f i)) := by rw [List.getElem?_toArray]; exact fnC_get h
theorem eqItems_fn {P : Program} {d : Nat} {e : TypeId} (he : P.underlying e = some (.int .i64)) {f g : Nat → Int} {n : Nat} (w : World) : ∀ (is : List Nat), (∀ i ∈ is, i < n) →
  (Op.eqItems (d + 1) e 1 (fnC f n).toArray (fnC g n).toArray is).run P w = .ok (is.all fun i => f i == g i) w
 | [], _ => by simp [Op.eqItems]
 | i :: is, hi => by
  have h1 := hi i (.head _)
  have g1 : (part e (fnC f n).toArray (i * 1)).run P w = .ok (.int .i64 (f i)) w := run_part_int he _ _ w _ (by rw [Nat.mul_one]; exact fnC_at h1)
  have g2 : (part e (fnC g n).toArray (i * 1)).run P w = .ok (.int .i64 (g i)) w := run_part_int he _ _ w _ (by rw [Nat.mul_one]; exact fnC_at h1)
  have g3 := run_equalIn_int (P := P) (w := w) d e .i64 .i64 (f i) (g i) he
  simp only [Op.eqItems, Sem.run_bind, g1, g2, g3, Result.andThen_ok]
  have := eqItems_fn (d := d) (f := f) (g := g) he w is (fun x hx => hi x (.tail _ hx))
  by_cases hij : f i = g i
  ·simpa [hij] using this
  ·simp [hij]
theorem eq_fnC {P : Program} {t e : TypeId} {n : Nat} (f g : Nat → Int) (hu : P.underlying t = some (.array n e)) (he : P.underlying e = some (.int .i64)) {ie : TI} (hie : TIok P e ie) (h1 : ie.size = 1) :
  ∃ b, ∀ w, (Op.equal t (.agg (fnC f n).toArray) (.agg (fnC g n).toArray)).run P w = .ok b w := by
 refine ⟨(List.range n).all fun i => f i == g i, fun w => ?_⟩
 obtain ⟨i, hi⟩ : ∃ i, P.info? e = some i := by
  obtain ⟨j, z, hj, _⟩ := hie.info
  exact ⟨j, hj⟩
 have hi2 : P.cellsOf e = 1 := by rw [hie.size, h1]
 show (Op.equalIn (9999 + 1) t _ _).run P w = _
 rw [run_equalIn_array w 9999 _ _ hu hi, hi2]
 exact eqItems_fn (d := 9998) he w _ (fun i hi => by rwa [List.mem_range] at hi)
theorem fnC_ints (f : Nat → Int) (n : Nat) : fnC f n = i64s ((List.range n).map f) := by
 unfold fnC i64s
 rw [List.map_map]; rfl
/-! ## rise -/
abbrev BK := Nat × Nat × List Int
def bkV (m : Nat) (x : BK) : Value := .slice (some ⟨x.1, 0, none⟩) m x.2.1
def bkC (m : Nat) (x : BK) : Chunk := .own (.slice (some ⟨x.1, 0, none⟩) m x.2.1) 3 1 m (i64s x.2.2)
def BkOk (m : Nat) (l : List Int) : Prop := l.length = m ∧ ∀ v ∈ l, 0 ≤ v ∧ v < m
set_option maxRecDepth 20000 in
theorem rise_nil (A0 : Option Addr) (c : Nat) (w : World) : Calls Tryz.prog 99 #[.slice A0 0 c] w fun e w' => e = .returned (.agg #[.slice none 0 0, .int .i64 0]) ∧ Below w.heap.size w w' := by
 refine fn_v tk (n := 119) (A := []) Tryz.func99 rfl rfl (Nat.le_of_ble_eq_true rfl) (St.nil (Below.refl _ _)) ?_
 ((conv => whnf); (repeat ((first | apply VBr.t | (apply v_t; omega) | (apply VNew.mk; intro g hg) | (apply VSt.mk; (focus ((repeat (first | (with_reducible exact At.here) | (with_reducible apply At.there))); done)); exact rfl)); (conv => whnf))))
 (apply VRet.mk)
 refine ret1 (by first | exact .inl rfl | exact .inr rfl) rfl (by exact rv_row tk rfl rfl rfl (by first | exact cells_blk_all (by (repeat (first | exact List.Mem.head _ | assumption | refine List.Mem.tail _ ?_))) | exact cells_row0 (by (repeat (first | exact List.Mem.head _ | assumption | refine List.Mem.tail _ ?_)))) rfl) ?_
 exact fun w hs => ⟨rfl, hs.base⟩
def zK (κ : Nat → Nat) (i : Nat) : Nat := if i = 0 then 0 else κ (i - 1)
set_option maxHeartbeats 4000000 in
set_option maxRecDepth 20000 in
theorem rise_any (A0 : Option Addr) (c n : Nat) (l : List Int) (w : World) (hn : l.length = n) (hl : 1 ≤ n ∧ n ≤ 12) (hv : InV l) (h : Reads w w.heap.size 1 A0 n (i64s l)) :
  Calls Tryz.prog 99 #[.slice A0 n c] w fun e w' => ∃ x : Nat × List Int × Int, e = .returned (.agg #[.slice (some ⟨x.1, 0, none⟩) n n, .int .i64 x.2.2]) ∧ (x.2.1.length = n ∧ 0 ≤ x.2.2 ∧ x.2.2 ≤ 12000 ∧ (Inc l → x.2.2 = 0)) ∧ St w ([] ++ [.own (.slice (some ⟨x.1, 0, none⟩) n n) 2 1 n (i64s x.2.1)]) w' := by
 obtain ⟨b0, o0, rfl, _⟩ := row_cell h (k := 0) (by omega)
 refine fn_v tk (n := 119) (A := []) Tryz.func99 rfl rfl (Nat.le_of_ble_eq_true rfl) (St.nil (Below.refl _ _)) ?_
 ((conv => whnf); (repeat ((first | apply VBr.f | (apply v_f; omega) | (apply VNew.mk; intro g hg)); (conv => whnf))); apply VCall.stop)
 revert g
 intro gr _
 refine ot_callT (X := Nat) (us := []) (vs := []) (fun x => .func (.func 246) #[] #[.pointer (some ⟨x, 0, none⟩)]) (fun x => []) (fun x => [.blk x 33 [.slice (some ⟨b0, o0, none⟩) n c]]) _ (fun x c hc => blk1_mut hc) (by decide) rfl rfl rfl rfl (by kernel_rfl) (evl_of rfl) rfl (fun w1 hs => values_any (some ⟨b0, o0, none⟩) n c w1) ?_
 rintro gv _
 (dsimp only [List.cons_append, List.nil_append]; apply ot_v tk)
 subst hn
 ((conv => whnf); apply VCall.stop)
 refine ot_callT (X := (Nat × Nat) × List Int) (us := []) (vs := []) (fun x => .slice (some ⟨x.1.1, 0, none⟩) l.length x.1.2) (fun x => []) (fun x => [.own (.slice (some ⟨x.1.1, 0, none⟩) l.length x.1.2) 2 1 l.length (i64s x.2)]) _ (fun x c hc => one_mut hc) (by decide) rfl rfl rfl rfl (by kernel_rfl) (evl_of rfl) rfl (fun w1 hs => sorted_any gv (some ⟨b0, o0, none⟩) c l w1 hl hv (cell_blk (by (repeat (first | exact List.Mem.head _ | assumption | refine List.Mem.tail _ ?_))) rfl w1 hs) (hs.reads h)) ?_
 rintro ⟨⟨gs, cap⟩, M0⟩ ⟨hM0, hM0v, hM0i⟩
 (dsimp only [List.cons_append, List.nil_append]; apply ot_v tk)
 ((conv => whnf); apply VCall.stop)
 refine ot_callW (us := []) (vs := []) (fun x : Nat × List Int => .slice (some ⟨gs, 0, none⟩) x.1 cap) (fun x => Chunk.own (.slice (some ⟨gs, 0, none⟩) l.length cap) 2 1 l.length (i64s x.2) :: [.blk gv 33 [.slice (some ⟨b0, o0, none⟩) l.length c], .blk gr 106 [.slice none 0 0, .int .i64 0]]) (fun x : Nat × List Int => 1 ≤ x.1 ∧ x.1 ≤ l.length ∧ x.2.length = l.length ∧ InV x.2 ∧ Sq M0 x.2 x.1 l.length) rfl rfl rfl rfl rfl (by kernel_rfl) (evl_of rfl) rfl (fun w1 hs => compact_any gs cap l.length M0 hM0 hl hM0v (hs.perm (List.reverse_perm [_, _, _]))) ?_
 rintro ⟨m, M⟩ ⟨hm1, hm2, hM, hMv, hsq⟩
 dsimp only at hm1 hm2 hM hMv hsq ⊢
 dsimp only at hM0 hM0v hM0i
 (apply ot_v tk; (conv => whnf); (repeat ((first | (apply VStop.mk; (refine ot_slice_arr tk rfl rfl rfl rfl rfl rfl rfl ?_); apply ot_v tk) | (apply VNew.mk; intro g hg)); (conv => whnf))); apply VStop.mk)
 revert g
 intro ga hga
 refine ot_clear (z0 := .int .i64 0) (cs := List.replicate 12 (.int .i64 0)) tk rfl rfl rfl rfl rfl rfl rfl rfl rfl rfl (by decide) .here rfl ?_
 (apply ot_v tk; (conv => whnf); apply VStop.mk)
 refine tr_own_nil 28 1 ?_
 rw [fnC_zero]
 obtain ⟨κ, ka, kb, kc⟩ := hsq
 have kz : ∀ i, i < l.length → zK κ i ≤ κ i := fun i hi => by
  unfold zK
  split
  ·omega
  ·have := kb (i - 1) (by omega)
   rwa [show i - 1 + 1 = i by omega] at this
 have kx : Inc l → ∀ i, i < l.length → rAt M (κ i) = rAt l i := fun hI i hi => by rw [(ka i hi).2, hM0i hI]
 have kl : ∀ i, i < l.length → κ i < m := fun i hi => (ka i hi).1
 have kn := kc (by omega)
 clear ka kb kc hM0i hM0v
 have cs : ∀ {A : List Chunk} {q : Nat}, q < l.length → Chunk.own (.slice (some ⟨gs, 0, none⟩) l.length cap) 2 1 l.length (i64s M) ∈ A → CellAt w A gs (0 + q * 1) (.int .i64 (rAt M q)) := fun {A q} hq hA => by
  rw [Nat.zero_add, Nat.mul_one]; exact cell_own hA (rAt_get (by omega))
 refine v_loop (fun gm ds ts A => ds = [] ∧ ∃ (i : Nat) (f : Nat → Int) (B : Option Addr) (cx : Nat) (L : List BK), i + gm = l.length ∧ L.length = i ∧ (∀ x ∈ L, BkOk m x.2.2) ∧ (∀ q, q < 12 → 0 ≤ f q ∧ f q ≤ 1000 * i) ∧ (Inc l → f (zK κ i) = 0) ∧ A = .own (.slice B i cx) 28 1 i (L.map (bkV m)) :: .blk ga 241 (fnC f 12) :: .own (.slice (some ⟨gs, 0, none⟩) l.length cap) 2 1 l.length (i64s M) :: .blk gr 106 [.slice none 0 0, .int .i64 0] :: L.map (bkC m) ∧ ts = [(0, .slice (some ⟨b0, o0, none⟩) l.length c), (2, .pointer (some ⟨gr, 0, none⟩)), (3, .slice (some ⟨gs, 0, none⟩) m cap), (4, .pointer (some ⟨ga, 0, none⟩)), (5, .slice B i cx), (26, .slice (some ⟨b0, o0, none⟩) l.length c), (27, .int .i64 (l.length : Int)), (28, .int .i64 (i : Int))]) l.length
  (l := [(0, _), (2, _), (3, _), (4, _), (5, _), (26, _), (27, _), (28, _)]) (B := [.own (.slice none 0 0) 28 1 0 [], .blk ga 241 (fnC (fun _ => 0) 12), .own (.slice (some ⟨gs, 0, none⟩) l.length cap) 2 1 l.length (i64s M), .blk gr 106 [.slice none 0 0, .int .i64 0]]) ?_ (by (repeat (first | exact sl0 _ | exact sl1 _ | refine sl2 _ ?_ | refine sl3 _ ?_))) ⟨rfl, 0, fun _ => 0, none, 0, [], by omega, rfl, (fun _ h => by cases h), fun _ _ => ⟨Int.le_refl 0, Int.le_refl 0⟩, fun _ => rfl, rfl, rfl⟩ ?_
 ·exact ⟨rfl, rfl, rfl, rfl, rfl, rfl, rfl, rfl, trivial⟩
 rintro gm ds ts A ⟨rfl, i, f, B, cx, L, hi, hLl, hLb, hf, hfz, rfl, rfl⟩
 by_cases hlt : i < l.length
 ·have cr : ∀ A, CellAt w A b0 (o0 + i * 1) (.int .i64 (rAt l i)) := fun A => int_cell h hlt A
  have hx := hv.at_ hlt
  have hkz := kz i hlt
  have hki := kl i hlt
  have hkx := fun hI => kx hI i hlt
  generalize rAt l i = x at *
  obtain ⟨be, hbe⟩ := eq_fnC (n := 12) f (fun _ => 0) Tryz.underlying241 Tryz.underlying2 Tryz.ti2 rfl
  have hA0 : (List.replicate 12 (Value.int .i64 0)) = fnC (fun _ => 0) 12 := fnC_zero 12
  cases be
  all_goals
   (apply tr_v tk; (conv => whnf); (repeat ((first | (apply VStop.mk; (refine ot_build0 tk rfl rfl rfl rfl rfl (fun m e h => by cases h; exact ⟨_, rfl⟩) ?_); apply ot_v tk) | (apply VLd.mk; exact cr _) | (apply VEq.mk false; kernel_rfl; exact hbe) | (apply VEq.mk true; kernel_rfl; exact hbe) | (apply VIx.mk (j := i); exact rfl; omega) | (apply VLdN.mk; (focus ((repeat (first | (with_reducible apply ldn_blk) | (with_reducible apply ldn_skip))); done)); exact rfl) | apply VBr.t | apply VBr.f | (apply v_t; omega) | (apply VNew.mk; intro g hg) | (apply VSt.mk; (focus ((repeat (first | (with_reducible exact At.here) | (with_reducible apply At.there))); done)); exact rfl)); (conv => whnf))); apply VStop.mk)
   revert g
   intro gb hgb
   clear hbe
   refine tr_own_nil 3 1 ?_
   refine v_loop (fun gm' ds ts A => ds = [] ∧ ∃ (k low : Nat) (f2 : Nat → Int) (B2 : Option Addr) (c2 : Nat) (bk : List Int), k + gm' = m ∧ bk.length = k ∧ (∀ v ∈ bk, 0 ≤ v ∧ v < m) ∧ low ≤ k ∧ low < m ∧ (∀ q, q < k → f low ≤ f q) ∧ (∀ q, q < 12 → 0 ≤ f2 q ∧ f2 q ≤ 1000 * (i + 1)) ∧ (Inc l → κ i < k → f2 (κ i) = 0) ∧ A = .own (.slice B2 k c2) 3 1 k (i64s bk) :: .blk gb 241 (fnC f2 12) :: .own (.slice B i cx) 28 1 i (L.map (bkV m)) :: .blk ga 241 (fnC f 12) :: .own (.slice (some ⟨gs, 0, none⟩) l.length cap) 2 1 l.length (i64s M) :: .blk gr 106 [.slice none 0 0, .int .i64 0] :: L.map (bkC m) ∧ ts = [(0, .slice (some ⟨b0, o0, none⟩) l.length c), (2, .pointer (some ⟨gr, 0, none⟩)), (3, .slice (some ⟨gs, 0, none⟩) m cap), (4, .pointer (some ⟨ga, 0, none⟩)), (5, .slice B i cx), (26, .slice (some ⟨b0, o0, none⟩) l.length c), (27, .int .i64 (l.length : Int)), (28, .int .i64 (i : Int)), (7, .int .i64 x), (8, .pointer (some ⟨gb, 0, none⟩)), (9, .slice B2 k c2), (10, .int .i64 (low : Int)), (36, .slice (some ⟨gs, 0, none⟩) m cap), (37, .int .i64 (m : Int)), (38, .int .i64 (k : Int))]) m
    (l := [(0, _), (2, _), (3, _), (4, _), (5, _), (26, _), (27, _), (28, _), (7, _), (8, _), (9, _), (10, _), (36, _), (37, _), (38, _)]) (B := .own (.slice none 0 0) 3 1 0 [] :: .blk gb 241 (fnC (fun _ => 0) 12) :: .own (.slice B i cx) 28 1 i (L.map (bkV m)) :: .blk ga 241 (fnC f 12) :: .own (.slice (some ⟨gs, 0, none⟩) l.length cap) 2 1 l.length (i64s M) :: .blk gr 106 [.slice none 0 0, .int .i64 0] :: L.map (bkC m)) ?_ (List.Sublist.refl _) ⟨rfl, 0, 0, fun _ => 0, none, 0, [], by omega, rfl, (fun _ h => by cases h), Nat.le_refl 0, by omega, fun _ h => by omega, fun _ _ => ⟨Int.le_refl 0, by show (0 : Int) ≤ _; omega⟩, fun _ h => by omega, rfl, rfl⟩ ?_
   ·exact ⟨rfl, rfl, rfl, rfl, rfl, rfl, rfl, rfl, rfl, rfl, rfl, rfl, rfl, rfl, rfl, trivial⟩
   rintro gm' ds ts A ⟨rfl, k, low, f2, B2, c2, bk, hk, hbk, hbv, hlow, hlowm, hmin, hf2, hz2, rfl, rfl⟩
   by_cases hltk : k < m
   ·have cn := fun {A : List Chunk} => cs (A := A) (q := k) (by omega)
    have hnk := hMv.at_ (k := k) (by omega)
    have cf : ∀ {A : List Chunk} (j : Nat), j < 12 → Chunk.blk ga 241 (fnC f 12) ∈ A → CellAt w A ga (0 + j * 1) (.int .i64 (f j)) := fun j hj hA => cell_fnC hA hj
    have b1 := hf k (by omega)
    have b2 := hf low (by omega)
    have nx : ∀ lo : Nat, lo ≤ k → (∀ q, q < k + 1 → f lo ≤ f q) → (∀ q, q < k + 1 → f lo ≤ f q) ∧ (∀ q, q < 12 → 0 ≤ (fun j => if j = k then f lo + (if rAt M k - x > x - rAt M k then rAt M k - x else x - rAt M k) else f2 j) q ∧ (fun j => if j = k then f lo + (if rAt M k - x > x - rAt M k then rAt M k - x else x - rAt M k) else f2 j) q ≤ 1000 * (i + 1)) ∧ (Inc l → κ i < k + 1 → (fun j => if j = k then f lo + (if rAt M k - x > x - rAt M k then rAt M k - x else x - rAt M k) else f2 j) (κ i) = 0) ∧ (∀ v ∈ bk ++ [(lo : Int)], 0 ≤ v ∧ v < m) := by
     intro lo hlo hmn
     refine ⟨hmn, fun q hq => ?_, fun hI hq => ?_, fun v hv => ?_⟩
     ·dsimp only
      have b3 := hf lo (by omega)
      have b4 := hf2 q hq
      by_cases hqk : q = k
      ·rw [if_pos hqk]; split <;> omega
      ·rw [if_neg hqk]; exact b4
     ·dsimp only
      have b3 := hf lo (by omega)
      by_cases hqk : κ i = k
      ·have e1 := hkx hI
       rw [hqk] at e1
       have e2 := hmn (zK κ i) (by omega)
       rw [hfz hI] at e2
       rw [if_pos hqk, e1]
       split <;> omega
      ·rw [if_neg hqk]; exact hz2 hI (by omega)
     ·rcases List.mem_append.1 hv with h1 | h1
      ·exact hbv v h1
      ·rw [List.mem_singleton.1 h1]; omega
    have hsn : ∀ a : Nat, i64s (bk ++ [(a : Int)]) = i64s bk ++ [.int .i64 (a : Int)] := fun a => by simp [i64s]
    by_cases hc : f k < f low
    ·(apply tr_v tk; (conv => whnf); (repeat ((first | (apply VStop.mk; (first | refine tr_region_lex (id := 18) (by kernel_rfl) [.rd, .rd, .rd, .rd, .rd, .rd, .rd] rfl (by kernel_rfl) ?_ | (refine ot_appendS (sz := 1) (sl := k) (A'v := fun v' => _ :: .own v' 3 1 (k + 1) (i64s bk ++ [.int .i64 (k : Int)]) :: _) tk rfl rfl rfl rfl rfl rfl rfl rfl rfl rfl (by decide) rfl (cells_blk_all (.head _)) rfl rfl (fun v' => .there .here) (by omega) (by decide) (fun B3 c3 => ?_))); apply ot_v tk) | (apply VLd.mk; first | exact cn (by (repeat (first | with_unfolding_all exact List.Mem.head _ | assumption | with_unfolding_all refine List.Mem.tail _ ?_))) | exact cf k (by omega) (by (repeat (first | with_unfolding_all exact List.Mem.head _ | assumption | with_unfolding_all refine List.Mem.tail _ ?_))) | exact cf low (by omega) (by (repeat (first | with_unfolding_all exact List.Mem.head _ | assumption | with_unfolding_all refine List.Mem.tail _ ?_)))) | (apply VIx.mk (j := k); exact rfl; omega) | (apply VIx.mk (j := low); exact rfl; omega) | (apply VSt.old; (focus (repeat (first | (with_reducible exact Upd.here) | (with_reducible apply Upd.there))); done); exact ble_fnC (by omega); exact setMany_fnC1 (by omega)) | (apply VRng.mk; omega) | apply VBr.t | (apply v_t; omega) | (apply VNew.mk; intro g hg)); (conv => whnf))))
     have hN := nx k (Nat.le_refl k) (fun q hq => by rcases Nat.lt_or_ge q k with h1 | h1; (have := hmin q h1; omega); (obtain rfl : q = k := by omega); exact Int.le_refl _)
     exact v_rnd (gm' - 1) (by omega) (l := [(0, _), (2, _), (3, _), (4, _), (5, _), (26, _), (27, _), (28, _), (7, _), (8, _), (9, _), (10, _), (36, _), (37, _), (38, _)]) (B := _) ⟨rfl, rfl, rfl, rfl, rfl, rfl, rfl, rfl, rfl, rfl, rfl, rfl, rfl, rfl, rfl, trivial⟩ (.cons _ (List.Sublist.refl _)) ⟨rfl, k + 1, k, _, B3, c3, bk ++ [(k : Int)], by omega, by rw [List.length_append, hbk]; rfl, hN.2.2.2, by omega, by omega, hN.1, hN.2.1, hN.2.2.1, by rw [hsn], rfl⟩
    ·(apply tr_v tk; (conv => whnf); (repeat ((first | (apply VStop.mk; (first | refine tr_region_lex (id := 18) (by kernel_rfl) [.rd, .rd, .rd, .rd, .rd, .rd, .rd] rfl (by kernel_rfl) ?_ | (refine ot_appendS (sz := 1) (sl := k) (A'v := fun v' => _ :: .own v' 3 1 (k + 1) (i64s bk ++ [.int .i64 (low : Int)]) :: _) tk rfl rfl rfl rfl rfl rfl rfl rfl rfl rfl (by decide) rfl (cells_blk_all (.head _)) rfl rfl (fun v' => .there .here) (by omega) (by decide) (fun B3 c3 => ?_))); apply ot_v tk) | (apply VLd.mk; first | exact cn (by (repeat (first | with_unfolding_all exact List.Mem.head _ | assumption | with_unfolding_all refine List.Mem.tail _ ?_))) | exact cf k (by omega) (by (repeat (first | with_unfolding_all exact List.Mem.head _ | assumption | with_unfolding_all refine List.Mem.tail _ ?_))) | exact cf low (by omega) (by (repeat (first | with_unfolding_all exact List.Mem.head _ | assumption | with_unfolding_all refine List.Mem.tail _ ?_)))) | (apply VIx.mk (j := k); exact rfl; omega) | (apply VIx.mk (j := low); exact rfl; omega) | (apply VSt.old; (focus (repeat (first | (with_reducible exact Upd.here) | (with_reducible apply Upd.there))); done); exact ble_fnC (by omega); exact setMany_fnC1 (by omega)) | (apply VRng.mk; omega) | apply VBr.t | apply VBr.f | (apply v_t; omega) | (apply v_f; omega) | (apply VNew.mk; intro g hg)); (conv => whnf))))
     have hN := nx low hlow (fun q hq => by rcases Nat.lt_or_ge q k with h1 | h1; exact hmin q h1; (obtain rfl : q = k := by omega); omega)
     exact v_rnd (gm' - 1) (by omega) (l := [(0, _), (2, _), (3, _), (4, _), (5, _), (26, _), (27, _), (28, _), (7, _), (8, _), (9, _), (10, _), (36, _), (37, _), (38, _)]) (B := _) ⟨rfl, rfl, rfl, rfl, rfl, rfl, rfl, rfl, rfl, rfl, rfl, rfl, rfl, rfl, rfl, trivial⟩ (.cons _ (List.Sublist.refl _)) ⟨rfl, k + 1, low, _, B3, c3, bk ++ [(low : Int)], by omega, by rw [List.length_append, hbk]; rfl, hN.2.2.2, by omega, by omega, hN.1, hN.2.1, hN.2.2.1, by rw [hsn], rfl⟩
   ·obtain rfl : k = m := by omega
    have hz3 := fun hI => hz2 hI hki
    clear hz2 hmin hlow hlowm hk
    refine tr_own_addr (B := B2) (cc := c2) (sz := 1) (m := k) (te := 3) (xs := i64s bk) (.head _) (by omega) fun gk hgk => ?_
    subst hgk
    refine tr_perm (List.perm_append_singleton _ _).symm ?_
    change Tr _ _ _ _ _ _ _ (.blk gb 241 (fnC f2 12) :: .own (.slice B i cx) 28 1 i (L.map (bkV k)) :: .blk ga 241 (fnC f 12) :: .own (.slice (some ⟨gs, 0, none⟩) l.length cap) 2 1 l.length (i64s M) :: .blk gr 106 [.slice none 0 0, .int .i64 0] :: (L.map (bkC k) ++ [.own (.slice (some ⟨gk, 0, none⟩) k c2) 3 1 k (i64s bk)])) _
    (apply tr_v tk; (conv => whnf); (repeat ((first | (apply VStop.mk; (refine ot_appendS (sz := 1) (sl := i) (A'v := fun v' => _ :: _ :: .own v' 28 1 (i + 1) (L.map (bkV k) ++ [.slice (some ⟨gk, 0, none⟩) k c2]) :: _) tk rfl rfl rfl rfl rfl rfl rfl rfl rfl rfl (by decide) rfl (cells_blk_all (.head _)) rfl rfl (fun v' => .there (.there .here)) (by omega) (by decide) (fun B3 c3 => ?_)); apply ot_v tk) | (apply VLdN.mk; (focus ((repeat (first | (with_reducible apply ldn_blk) | (with_reducible apply ldn_skip))); done)); exact rfl) | (apply VRng.mk; omega) | apply VBr.f | (apply v_f; omega) | (apply VNew.mk; intro g hg) | (apply VSt.mk; (focus ((repeat (first | (with_reducible exact At.here) | (with_reducible apply At.there))); done)); exact rfl)); (conv => whnf))))
    have hb5 : ∀ x ∈ L ++ [(gk, c2, bk)], BkOk k x.2.2 := fun x hx => by
     rcases List.mem_append.1 hx with h1 | h1
     ·exact hLb x h1
     ·rw [List.mem_singleton.1 h1]; exact ⟨hbk, hbv⟩
    exact v_rnd (gm - 1) (by omega) (l := [(0, _), (2, _), (3, _), (4, _), (5, _), (26, _), (27, _), (28, _)]) (B := .own (.slice B3 (i + 1) c3) 28 1 (i + 1) ((L ++ [(gk, c2, bk)]).map (bkV k)) :: .blk ga 241 (fnC f2 12) :: .own (.slice (some ⟨gs, 0, none⟩) l.length cap) 2 1 l.length (i64s M) :: .blk gr 106 [.slice none 0 0, .int .i64 0] :: (L ++ [(gk, c2, bk)]).map (bkC k)) ⟨rfl, rfl, rfl, rfl, rfl, rfl, rfl, rfl, trivial⟩ (by rw [List.map_append, List.map_append]; exact .cons _ (.cons _ (List.Sublist.refl _))) ⟨rfl, i + 1, f2, B3, c3, L ++ [(gk, c2, bk)], by omega, by rw [List.length_append, hLl]; rfl, hb5, fun q hq => by have := hf2 q hq; omega, fun hI => by rw [zK, if_neg (by omega)]; exact hz3 hI, rfl, rfl⟩
 ·obtain rfl : i = l.length := by omega
  have hfz2 : Inc l → f (κ (l.length - 1)) = 0 := fun hI => by
   have := hfz hI
   rwa [zK, if_neg (by omega)] at this
  clear hfz hi kz kx
  refine tr_own_addr (B := B) (cc := cx) (sz := 1) (m := l.length) (te := 28) (xs := L.map (bkV m)) (.head _) (by omega) fun gf hgf => ?_
  subst hgf
  (apply tr_v tk; (conv => whnf); (repeat ((first | apply VBr.f | (apply v_f; omega)); (conv => whnf))); apply VStop.mk)
  have cf : ∀ {A : List Chunk} (j : Nat), j < 12 → Chunk.blk ga 241 (fnC f 12) ∈ A → CellAt w A ga (0 + j * 1) (.int .i64 (f j)) := fun j hj hA => cell_fnC hA hj
  refine v_loop (fun gm ds ts A => ds = [] ∧ ∃ (j k : Nat), j + gm = m ∧ k < m ∧ k ≤ j ∧ (∀ q, q < j → f k ≤ f q) ∧ A = .own (.slice (some ⟨gf, 0, none⟩) l.length cx) 28 1 l.length (L.map (bkV m)) :: .blk ga 241 (fnC f 12) :: .own (.slice (some ⟨gs, 0, none⟩) l.length cap) 2 1 l.length (i64s M) :: .blk gr 106 [.slice none 0 0, .int .i64 0] :: L.map (bkC m) ∧ ts = [(0, .slice (some ⟨b0, o0, none⟩) l.length c), (2, .pointer (some ⟨gr, 0, none⟩)), (3, .slice (some ⟨gs, 0, none⟩) m cap), (4, .pointer (some ⟨ga, 0, none⟩)), (5, .slice (some ⟨gf, 0, none⟩) l.length cx), (13, .int .i64 (k : Int)), (76, .int .i64 (m : Int)), (77, .int .i64 (j : Int))]) m
   (l := [(0, _), (2, _), (3, _), (4, _), (5, _), (13, _), (76, _), (77, _)]) (B := _) ?_ (List.Sublist.refl _) ⟨rfl, 0, 0, by omega, by omega, by omega, fun _ h => by omega, rfl, rfl⟩ ?_
  ·exact ⟨rfl, rfl, rfl, rfl, rfl, rfl, rfl, rfl, trivial⟩
  clear gm
  rintro gm ds ts A ⟨rfl, j, k, hj, hkm, hkj, hmin, rfl, rfl⟩
  by_cases hltj : j < m
  ·have b1 := hf j (by omega)
   have b2 := hf k (by omega)
   by_cases hc : f j < f k
   ·(apply tr_v tk; (conv => whnf); (repeat ((first | (apply VStop.mk; refine tr_region_lex (id := 30) (by kernel_rfl) [.rd, .rd, .rd, .rd, .rd, .rd, .rd] rfl (by kernel_rfl) ?_; apply ot_v tk) | (apply VLd.mk; first | exact cf j (by omega) (by (repeat (first | with_unfolding_all exact List.Mem.head _ | assumption | with_unfolding_all refine List.Mem.tail _ ?_))) | exact cf k (by omega) (by (repeat (first | with_unfolding_all exact List.Mem.head _ | assumption | with_unfolding_all refine List.Mem.tail _ ?_)))) | (apply VIx.mk (j := j); exact rfl; omega) | (apply VIx.mk (j := k); exact rfl; omega) | (apply VRng.mk; omega) | apply VBr.t | (apply v_t; omega)); (conv => whnf))))
    exact v_rnd (gm - 1) (by omega) (l := [(0, _), (2, _), (3, _), (4, _), (5, _), (13, _), (76, _), (77, _)]) (B := _) ⟨rfl, rfl, rfl, rfl, rfl, rfl, rfl, rfl, trivial⟩ (List.Sublist.refl _) ⟨rfl, j + 1, j, by omega, by omega, by omega, fun q hq => by rcases Nat.lt_or_ge q j with h1 | h1; (have := hmin q h1; omega); (obtain rfl : q = j := by omega); exact Int.le_refl _, rfl, rfl⟩
   ·(apply tr_v tk; (conv => whnf); (repeat ((first | (apply VStop.mk; refine tr_region_lex (id := 30) (by kernel_rfl) [.rd, .rd, .rd, .rd, .rd, .rd, .rd] rfl (by kernel_rfl) ?_; apply ot_v tk) | (apply VLd.mk; first | exact cf j (by omega) (by (repeat (first | with_unfolding_all exact List.Mem.head _ | assumption | with_unfolding_all refine List.Mem.tail _ ?_))) | exact cf k (by omega) (by (repeat (first | with_unfolding_all exact List.Mem.head _ | assumption | with_unfolding_all refine List.Mem.tail _ ?_)))) | (apply VIx.mk (j := j); exact rfl; omega) | (apply VIx.mk (j := k); exact rfl; omega) | (apply VRng.mk; omega) | apply VBr.t | apply VBr.f | (apply v_t; omega) | (apply v_f; omega)); (conv => whnf))))
    exact v_rnd (gm - 1) (by omega) (l := [(0, _), (2, _), (3, _), (4, _), (5, _), (13, _), (76, _), (77, _)]) (B := _) ⟨rfl, rfl, rfl, rfl, rfl, rfl, rfl, rfl, trivial⟩ (List.Sublist.refl _) ⟨rfl, j + 1, k, by omega, by omega, by omega, fun q hq => by rcases Nat.lt_or_ge q j with h1 | h1; exact hmin q h1; (obtain rfl : q = j := by omega); omega, rfl, rfl⟩
  obtain rfl : j = m := by omega
  have hs0 := hf k (by omega)
  have hsz : Inc l → f k = 0 := fun hI => by
   have e1 := hmin (κ (l.length - 1)) (by have := kl (l.length - 1) (by omega); omega)
   rw [hfz2 hI] at e1
   omega
  clear hmin hfz2 hj
  have hsb : f k ≤ 12000 := by omega
  (apply tr_v tk; (conv => whnf); (repeat ((first | (apply VStop.mk; refine tr_region_treeV (id := 33) (by kernel_rfl) [.own (.slice (some ⟨gf, 0, none⟩) l.length cx) 28 1 l.length _, .blk ga 241 _, .own _ 2 1 l.length _, .blk gr 106 _] (by (repeat (first | exact sl0 _ | exact sl1 _ | refine sl2 _ ?_ | refine sl3 _ ?_))) [0, 1, 3, 4, 5] [2, 6, 7, 8] [.rd, .rd, .rd, .rd, .rd] (fun i => [.wr, .wr, .cr, .wr, .wr, .wr, .wr, .cr, .wr].getD i .wr) _ rfl rfl (by kernel_rfl) ?_; apply ot_v tk) | (apply VLd.mk; exact cf k (by omega) (by (repeat (first | with_unfolding_all exact List.Mem.head _ | assumption | with_unfolding_all refine List.Mem.tail _ ?_)))) | (apply VIx.mk (j := k); exact rfl; omega) | apply VBr.f | (apply v_f; omega)); (conv => whnf))))
  refine VT.mk (otx_twoV 2 7 (by kernel_rfl) (by kernel_rfl) (by decide) (by kernel_rfl) (by decide) ?_ ?_)
  (refine ot_makeSlice (m := l.length) tk (by decide) rfl rfl rfl rfl rfl rfl rfl rfl rfl rfl rfl rfl (by omega) (by decide) (fun go hgo => ?_); refine ot_nil ?_; refine slist_and (by (repeat (first | exact sl0 _ | exact sl1 _ | refine sl2 _ ?_ | refine sl3 _ ?_))) ?_)
  refine VT.mk (otx_twoV 6 7 (by kernel_rfl) (by kernel_rfl) (by decide) (by kernel_rfl) (by decide) ?_ ?_)
  (apply ot_v tk; (conv => whnf); refine slist_and (by (repeat (first | exact sl0 _ | exact sl1 _ | refine sl2 _ ?_ | refine sl3 _ ?_))) ?_)
  refine VT.mk (otx_oneV 7 (by kernel_rfl) (by kernel_rfl) (by decide) ?_)
  (apply ot_v tk; (conv => whnf); (apply VNew.mk; intro gp hgp; (conv => whnf)); refine slist_and (by (repeat (first | exact sl0 _ | exact sl1 _ | refine sl2 _ ?_ | refine sl3 _ ?_))) ?_)
  rotate_left
  (apply ot_v tk; (conv => whnf); (apply VNew.mk; intro gp hgp; (conv => whnf)); refine slist_and (by (repeat (first | exact sl0 _ | exact sl1 _ | refine sl2 _ ?_ | refine sl3 _ ?_))) ?_)
  refine VT.mk (otx_oneV 6 (by kernel_rfl) (by kernel_rfl) (by decide) ?_)
  (apply ot_v tk; (conv => whnf); refine slist_and (by (repeat (first | exact sl0 _ | exact sl1 _ | refine sl2 _ ?_ | refine sl3 _ ?_))) ?_)
  rotate_left
  (apply ot_v tk; (conv => whnf); (apply VNew.mk; intro gp hgp; (conv => whnf)); refine slist_and (by (repeat (first | exact sl0 _ | exact sl1 _ | refine sl2 _ ?_ | refine sl3 _ ?_))) ?_)
  refine VT.mk (otx_oneV 2 (by kernel_rfl) (by kernel_rfl) (by decide) ?_)
  (refine ot_makeSlice (m := l.length) tk (by decide) rfl rfl rfl rfl rfl rfl rfl rfl rfl rfl rfl rfl (by omega) (by decide) (fun go hgo => ?_); refine ot_nil ?_; refine slist_and (by (repeat (first | exact sl0 _ | exact sl1 _ | refine sl2 _ ?_ | refine sl3 _ ?_))) ?_)
  refine VT.mk (otx_oneV 6 (by kernel_rfl) (by kernel_rfl) (by decide) ?_)
  (apply ot_v tk; (conv => whnf); refine slist_and (by (repeat (first | exact sl0 _ | exact sl1 _ | refine sl2 _ ?_ | refine sl3 _ ?_))) ?_)
  rotate_left
  all_goals
   refine VT.mk (otx_oneV 8 (by kernel_rfl) (by kernel_rfl) (by decide) ?_)
   (apply ot_v tk; (conv => whnf); (apply VSt.mk; (focus (repeat (first | exact At.here | apply At.there)); done); exact rfl; (conv => whnf)); refine slist_and (by (repeat (first | exact sl0 _ | exact sl1 _ | refine sl2 _ ?_ | refine sl3 _ ?_))) ?_)
   refine VT.mk (otx_end ?_)
   skip
  all_goals
   ((conv => whnf); (repeat ((apply VRng.mk; omega); (conv => whnf))); apply VStop.mk)
   refine tr_pick (l := [(2, .pointer (some ⟨gr, 0, none⟩)), (3, .slice (some ⟨gs, 0, none⟩) j cap), (5, .slice (some ⟨gf, 0, none⟩) l.length cx), (13, .int .i64 (k : Int)), (15, .pointer (some ⟨gp, 0, none⟩)), (16, .int .i64 ((l.length : Int) - 1))]) (B := .blk gp 106 [.slice (some ⟨go, 0, none⟩) l.length l.length, .int .i64 (f k)] :: .blk go 2 (List.replicate l.length (.int .i64 0)) :: .own (.slice (some ⟨gf, 0, none⟩) l.length cx) 28 1 l.length (L.map (bkV j)) :: .own (.slice (some ⟨gs, 0, none⟩) l.length cap) 2 1 l.length (i64s M) :: .blk gr 106 [.slice none 0 0, .int .i64 0] :: L.map (bkC j)) ⟨rfl, rfl, rfl, rfl, rfl, rfl, trivial⟩ (by (iterate 2 ((apply Pick.cons); (focus ((repeat (first | exact Rem.here | apply Rem.there)); done)))); exact Pick.of_sub (by (repeat (first | exact sl0 _ | exact sl1 _ | refine sl2 _ ?_ | refine sl3 _ ?_)))) ?_
   rw [fnC_zero]
   generalize f k = s at *
   refine v_loop (fun gm ds ts A => ds = [] ∧ ∃ (k : Nat) (fo : Nat → Int), gm ≤ l.length ∧ k < j ∧ A = .blk gp 106 [.slice (some ⟨go, 0, none⟩) l.length l.length, .int .i64 s] :: .blk go 2 (fnC fo l.length) :: .own (.slice (some ⟨gf, 0, none⟩) l.length cx) 28 1 l.length (L.map (bkV j)) :: .own (.slice (some ⟨gs, 0, none⟩) l.length cap) 2 1 l.length (i64s M) :: .blk gr 106 [.slice none 0 0, .int .i64 0] :: L.map (bkC j) ∧ ts = [(2, .pointer (some ⟨gr, 0, none⟩)), (3, .slice (some ⟨gs, 0, none⟩) j cap), (5, .slice (some ⟨gf, 0, none⟩) l.length cx), (13, .int .i64 (k : Int)), (15, .pointer (some ⟨gp, 0, none⟩)), (16, .int .i64 ((gm : Int) - 1))]) l.length
    (l := [(2, _), (3, _), (5, _), (13, _), (15, _), (16, _)]) (B := _) ?_ (List.Sublist.refl _) ⟨rfl, k, fun _ => 0, Nat.le_refl _, hkm, rfl, rfl⟩ ?_
   ·exact ⟨rfl, rfl, rfl, rfl, rfl, rfl, trivial⟩
   clear hkm gm
   rintro gm ds ts A ⟨rfl, k, fo, hgl, hkm, rfl, rfl⟩
   cases gm with
   | zero =>
    (apply tr_v tk; (conv => whnf); (repeat ((first | (apply VLdN.mk; (focus ((repeat (first | (with_reducible apply ldn_blk) | (with_reducible apply ldn_skip))); done)); exact rfl) | apply VBr.f | (apply v_f; omega) | (apply VSt.mk; (focus ((repeat (first | (with_reducible exact At.here) | (with_reducible apply At.there))); done)); exact rfl)); (conv => whnf))))
    (apply VRet.mk)
    refine ret1 (by first | exact .inl rfl | exact .inr rfl) rfl (by exact rv_row tk rfl rfl rfl (by first | exact cells_blk_all (by (repeat (first | exact List.Mem.head _ | assumption | refine List.Mem.tail _ ?_))) | exact cells_row0 (by (repeat (first | exact List.Mem.head _ | assumption | refine List.Mem.tail _ ?_)))) rfl) ?_
    refine fun w hs => ⟨(go, (List.range l.length).map fo, s), rfl, ⟨by simp, hs0.1, hsb, hsz⟩, ?_⟩
    have h2 := hs.sub (A' := [_]) (.cons _ (.cons_cons _ (List.nil_sublist _)))
    rw [fnC_ints] at h2
    exact h2.blk_own (sz := 1) (by simp [i64s]) (by unfold maxLen; omega)
   | succ p =>
    rw [show ((p + 1 : Nat) : Int) - 1 = (p : Int) by omega]
    have hpL : p < L.length := by omega
    obtain ⟨y, hy⟩ : ∃ y, L[p]? = some y := ⟨_, List.getElem?_eq_getElem hpL⟩
    have hyL := List.mem_of_getElem? hy
    obtain ⟨hy1, hy2⟩ := hLb y hyL
    have hym : bkC j y ∈ L.map (bkC j) := List.mem_map.2 ⟨y, hyL, rfl⟩
    have c1 : ∀ {A : List Chunk}, Chunk.own (.slice (some ⟨gf, 0, none⟩) l.length cx) 28 1 l.length (L.map (bkV j)) ∈ A → CellAt w A gf (0 + p * 1) (.slice (some ⟨y.1, 0, none⟩) j y.2.1) := fun hA => by
     rw [Nat.zero_add, Nat.mul_one]
     exact cell_own hA (by rw [List.getElem?_map, hy]; rfl)
    have c2 : ∀ {A : List Chunk}, bkC j y ∈ A → CellAt w A y.1 (0 + k * 1) (.int .i64 (rAt y.2.2 k)) := fun hA => by
     rw [Nat.zero_add, Nat.mul_one]
     exact cell_own hA (rAt_get (by omega))
    have b3 := hy2 _ (rAt_mem (l := y.2.2) (k := k) (by omega))
    obtain ⟨k', hk'⟩ : ∃ k' : Nat, rAt y.2.2 k = (k' : Int) := ⟨(rAt y.2.2 k).toNat, by omega⟩
    rw [hk'] at b3
    have c2' : ∀ {A : List Chunk}, bkC j y ∈ A → CellAt w A y.1 (0 + k * 1) (.int .i64 (k' : Int)) := fun hA => by rw [← hk']; exact c2 hA
    clear c2
    have c3 := fun {A : List Chunk} => cs (A := A) (q := k) (by omega)
    generalize rAt M k = mk at *
    (apply tr_v tk; (conv => whnf); (repeat ((first | (apply VStop.mk; refine tr_region_lex (id := 37) (by kernel_rfl) [.rd, .rd, .rd, .rd, .rd, .rd, .rd, .rd, .wr] rfl (by kernel_rfl) ?_; apply ot_v tk) | (apply VLd.mk; first | exact c3 (.tail _ (.tail _ (.tail _ (.head _)))) | exact c1 (.tail _ (.tail _ (.head _))) | exact c2' (.tail _ (.tail _ (.tail _ (.tail _ (.tail _ hym)))))) | (apply VIx.mk (j := k); exact rfl; omega) | (apply VIx.mk (j := p); exact rfl; omega) | (apply VSt.old; (focus (repeat (first | (with_reducible exact Upd.here) | (with_reducible apply Upd.there))); done); exact ble_fnC (by omega); exact setMany_fnC1 (by omega)) | (apply VLd.mk; (focus ((repeat (first | ((with_reducible apply ld_blk); exact rfl) | (with_reducible apply ld_skip))); done))) | (apply VRng.mk; omega) | apply VBr.t | (apply v_t; omega)); (conv => whnf))))
    exact v_rnd p (by omega) (l := [(2, _), (3, _), (5, _), (13, _), (15, _), (16, _)]) (B := _) ⟨rfl, rfl, rfl, rfl, rfl, rfl, trivial⟩ (List.Sublist.refl _) ⟨rfl, k', _, by omega, by omega, rfl, rfl⟩
end Go.Proofs.YtiodmphhjgkgjaaGreat
