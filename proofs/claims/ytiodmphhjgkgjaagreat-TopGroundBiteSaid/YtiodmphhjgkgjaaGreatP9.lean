/- Mills: lemmas for the rows of this seat. No conditions. -/
import Derived.Laws.StructEq
import Derived.Test.YtiodmphhjgkgjaaGreatP7
set_option linter.all false
namespace Go.Proofs.YtiodmphhjgkgjaaGreat
open Go.RowKit
/-! ## Mills -/
structure MillT where
 st : Int
 li : Int
 ga : Int
 fa : Int
structure HourT where
 lo : Int
 hi : Int
 pd : Int
def hrL (h : HourT) : List Value := [.int .i64 h.lo, .int .i64 h.hi, .int .i64 h.pd]
def hrC (H : List HourT) : List Value := H.flatMap hrL
def hAt (H : List HourT) (k : Nat) : HourT := H[k]?.getD ⟨0, 0, 0⟩
theorem hrC_len (H : List HourT) : (hrC H).length = H.length * 3 := by
 induction H with
 | nil => rfl
 | cons x H ih => simp only [hrC, List.flatMap_cons, List.length_append] at ih ⊢; rw [ih]; simp [hrL]; omega
theorem hrC_get : ∀ {H : List HourT} {k j : Nat}, k < H.length → j < 3 → (hrC H)[k * 3 + j]? = (hrL (hAt H k))[j]?
 | [], _, _, h, _ => by cases h
 | x :: H, 0, j, _, hj => by
  show (hrL x ++ hrC H)[0 * 3 + j]? = _
  rw [Nat.zero_mul, Nat.zero_add, List.getElem?_append_left (by show j < 3; exact hj)]
  rfl
 | x :: H, k + 1, j, h, hj => by
  show (hrL x ++ hrC H)[(k + 1) * 3 + j]? = _
  rw [List.getElem?_append_right (by show 3 ≤ _; omega), show (k + 1) * 3 + j - (hrL x).length = k * 3 + j by show (k + 1) * 3 + j - 3 = _; omega, hrC_get (Nat.lt_of_succ_lt_succ h) hj]
  rfl
theorem hr_cells {w : World} {m b o k : Nat} {H : List HourT} (h : Reads w w.heap.size 3 (some ⟨b, o, none⟩) m (hrC H)) (hm : H.length = m) (hk : k < m) (A : List Chunk) : CellsAt w A b (o + k * 3) (hrL (hAt H k)) := CellsAt.base fun j u hu => by
 obtain ⟨b', o', he, _, hc⟩ := h.2 (by omega)
 cases he
 have hj : j < 3 := (List.getElem?_eq_some_iff.1 hu).1
 have := hc (k * 3 + j) u (by rw [hrC_get (by omega) hj]; exact hu)
 rwa [Nat.add_assoc]
theorem hr_cell {w : World} {m b o k j : Nat} {u : Value} {H : List HourT} (h : Reads w w.heap.size 3 (some ⟨b, o, none⟩) m (hrC H)) (hm : H.length = m) (hk : k < m) (hu : (hrL (hAt H k))[j]? = some u) (A : List Chunk) : CellAt w A b (o + k * 3 + j) u := CellAt.base (by
 obtain ⟨b', o', he, _, hc⟩ := h.2 (by omega)
 cases he
 have hj : j < 3 := (List.getElem?_eq_some_iff.1 hu).1
 have := hc (k * 3 + j) u (by rw [hrC_get (by omega) hj]; exact hu)
 rwa [Nat.add_assoc])
abbrev millV (M : MillT) (B : Option Addr) (n c : Nat) : Value := .agg #[.int .i64 M.st, .int .i64 M.li, .int .i64 M.ga, .int .i64 M.fa, .slice B n c]
def hourB (h : HourT) : Bool := inB h.lo 0 h.hi && inB h.hi 0 40 && inB h.pd 1 100
def millB (M : MillT) : Bool := inB M.li 0 40 && inB M.st 0 M.li && inB M.ga 1 40 && inB M.fa 1 40
def refMill (M : MillT) (H : List HourT) : Int := if H.length < 1 ∨ 12 < H.length then 6 else if millB M = true then (if H.all hourB = true then 0 else 3) else 3
theorem hAt_mem {H : List HourT} {k : Nat} (h : k < H.length) : hAt H k ∈ H := by
 unfold hAt
 rw [List.getElem?_eq_getElem h, Option.getD_some]
 exact List.getElem_mem h
theorem all_of_at {H : List HourT} (h : ∀ k, k < H.length → hourB (hAt H k) = true) : H.all hourB = true := by
 rw [List.all_eq_true]
 intro x hx
 obtain ⟨k, hk, rfl⟩ := List.getElem_of_mem hx
 have := h k hk
 unfold hAt at this
 rwa [List.getElem?_eq_getElem hk, Option.getD_some] at this
theorem not_all_at {H : List HourT} {k : Nat} (hk : k < H.length) (h : hourB (hAt H k) = false) : ¬H.all hourB = true := fun ha => by
 rw [List.all_eq_true] at ha
 rw [ha _ (hAt_mem hk)] at h
 cases h
set_option maxHeartbeats 1000000 in
set_option maxRecDepth 20000 in
theorem refMill_any (M : MillT) (B : Option Addr) (c n : Nat) (H : List HourT) (w : World) (hn : H.length = n) (h : Reads w w.heap.size 3 B n (hrC H)) (hmx : n ≤ maxLen) :
  Calls Tryz.prog 5 #[millV M B n c] w fun e w' => e = .returned (.int .i64 (refMill M H)) ∧ Below w.heap.size w w' := by
 unfold maxLen at hmx
 obtain ⟨st, li, ga, fa⟩ := M
 unfold millV refMill millB
 dsimp only
 rw [hn]
 have k1 := fun w1 => is13_any li 0 40 w1
 have k2 := fun w1 => is13_any st 0 li w1
 have k3 := fun w1 => is13_any ga 1 40 w1
 have k4 := fun w1 => is13_any fa 1 40 w1
 refine fn_v tk (n := 72) (A := []) Tryz.func5 rfl rfl (Nat.le_of_ble_eq_true rfl) (St.nil (Below.refl _ _)) ?_
 by_cases hn1 : n < 1
 ·rw [if_pos (.inl hn1)]
  ((conv => whnf); (repeat ((first | (apply VLd.mk; (focus ((repeat (first | ((with_reducible apply ld_blk); exact rfl) | (with_reducible apply ld_skip))); done))) | apply VBr.t | (apply v_t; omega) | (apply VNew.mk; intro g hg)); (conv => whnf))))
  ((apply VRet.mk); refine ret1 (by first | exact .inl rfl | exact .inr rfl) rfl (by exact rv_tmp rfl) ?_; exact fun w h => ⟨rfl, h.base⟩)
 by_cases hn2 : 12 < n
 ·rw [if_pos (.inr hn2)]
  ((conv => whnf); (repeat ((first | (apply VLd.mk; (focus ((repeat (first | ((with_reducible apply ld_blk); exact rfl) | (with_reducible apply ld_skip))); done))) | apply VBr.t | apply VBr.f | (apply v_t; omega) | (apply v_f; omega) | (apply VNew.mk; intro g hg)); (conv => whnf))))
  ((apply VRet.mk); refine ret1 (by first | exact .inl rfl | exact .inr rfl) rfl (by exact rv_tmp rfl) ?_; exact fun w h => ⟨rfl, h.base⟩)
 rw [if_neg (by omega)]
 cases h1 : inB li 0 40
 ·rw [h1] at k1
  rw [if_neg (by simp)]
  ((conv => whnf); (repeat ((first | (apply VCall.q; kernel_rfl; (focus (intro w1 hs; first | with_reducible apply k1 w1))) | (apply VLd.mk; (focus ((repeat (first | ((with_reducible apply ld_blk); exact rfl) | (with_reducible apply ld_skip))); done))) | apply VBr.t | apply VBr.f | (apply v_f; omega) | (apply VNew.mk; intro g hg)); (conv => whnf))))
  ((apply VRet.mk); refine ret1 (by first | exact .inl rfl | exact .inr rfl) rfl (by exact rv_tmp rfl) ?_; exact fun w h => ⟨rfl, h.base⟩)
 cases h2 : inB st 0 li
 ·rw [h1] at k1
  rw [h2] at k2
  rw [if_neg (by simp)]
  ((conv => whnf); (repeat ((first | (apply VCall.q; kernel_rfl; (focus (intro w1 hs; first | with_reducible apply k1 w1 | with_reducible apply k2 w1))) | (apply VLd.mk; (focus ((repeat (first | ((with_reducible apply ld_blk); exact rfl) | (with_reducible apply ld_skip))); done))) | apply VBr.t | apply VBr.f | (apply v_f; omega) | (apply VNew.mk; intro g hg)); (conv => whnf))))
  ((apply VRet.mk); refine ret1 (by first | exact .inl rfl | exact .inr rfl) rfl (by exact rv_tmp rfl) ?_; exact fun w h => ⟨rfl, h.base⟩)
 cases h3 : inB ga 1 40
 ·rw [h1] at k1
  rw [h2] at k2
  rw [h3] at k3
  rw [if_neg (by simp)]
  ((conv => whnf); (repeat ((first | (apply VCall.q; kernel_rfl; (focus (intro w1 hs; first | with_reducible apply k1 w1 | with_reducible apply k2 w1 | with_reducible apply k3 w1))) | (apply VLd.mk; (focus ((repeat (first | ((with_reducible apply ld_blk); exact rfl) | (with_reducible apply ld_skip))); done))) | apply VBr.t | apply VBr.f | (apply v_f; omega) | (apply VNew.mk; intro g hg)); (conv => whnf))))
  ((apply VRet.mk); refine ret1 (by first | exact .inl rfl | exact .inr rfl) rfl (by exact rv_tmp rfl) ?_; exact fun w h => ⟨rfl, h.base⟩)
 cases h4 : inB fa 1 40
 ·rw [h1] at k1
  rw [h2] at k2
  rw [h3] at k3
  rw [h4] at k4
  rw [if_neg (by simp)]
  ((conv => whnf); (repeat ((first | (apply VCall.q; kernel_rfl; (focus (intro w1 hs; first | with_reducible apply k1 w1 | with_reducible apply k2 w1 | with_reducible apply k3 w1 | with_reducible apply k4 w1))) | (apply VLd.mk; (focus ((repeat (first | ((with_reducible apply ld_blk); exact rfl) | (with_reducible apply ld_skip))); done))) | apply VBr.t | apply VBr.f | (apply v_f; omega) | (apply VNew.mk; intro g hg)); (conv => whnf))))
  ((apply VRet.mk); refine ret1 (by first | exact .inl rfl | exact .inr rfl) rfl (by exact rv_tmp rfl) ?_; exact fun w h => ⟨rfl, h.base⟩)
 rw [h1] at k1
 rw [h2] at k2
 rw [h3] at k3
 rw [h4] at k4
 rw [if_pos (by rfl)]
 ((conv => whnf); (repeat ((first | (apply VCall.q; kernel_rfl; (focus (intro w1 hs; first | with_reducible apply k1 w1 | with_reducible apply k2 w1 | with_reducible apply k3 w1 | with_reducible apply k4 w1))) | (apply VLd.mk; (focus ((repeat (first | ((with_reducible apply ld_blk); exact rfl) | (with_reducible apply ld_skip))); done))) | apply VBr.f | (apply v_f; omega) | (apply VNew.mk; intro g hg)); (conv => whnf))); apply VStop.mk)
 clear k1 k2 k3 k4
 revert g
 intro gq _
 refine v_loop (fun gm ds ts A => ds = [] ∧ ∃ i : Nat, i + gm = n ∧ (∀ k, k < i → hourB (hAt H k) = true) ∧ A = [.blk gq 24 [.int .i64 st, .int .i64 li, .int .i64 ga, .int .i64 fa, .slice B n c]] ∧ ts = [(1, .pointer (some ⟨gq, 0, none⟩)), (3, .int .i64 (i : Int))]) n
  (l := [(1, _), (3, _)]) (B := _) ?_ (List.Sublist.refl _) ⟨rfl, 0, by omega, (fun _ h => by omega), rfl, rfl⟩ ?_
 ·exact ⟨rfl, rfl, trivial⟩
 rintro gm ds ts A ⟨rfl, i, hi, hall, rfl, rfl⟩
 by_cases hlt : i < n
 rotate_left
 ·rw [if_pos (all_of_at fun k hk => hall k (by omega))]
  (apply tr_v tk; (conv => whnf); (repeat ((first | (apply VLd.mk; (focus ((repeat (first | ((with_reducible apply ld_blk); exact rfl) | (with_reducible apply ld_skip))); done))) | apply VBr.f | (apply v_f; omega)); (conv => whnf))))
  ((apply VRet.mk); refine ret1 (by first | exact .inl rfl | exact .inr rfl) rfl (by exact rv_tmp rfl) ?_; exact fun w h => ⟨rfl, h.base⟩)
 obtain ⟨b0, o0, rfl, _⟩ := h.2 (by omega)
 have ct := hr_cells (k := i) h hn hlt
 obtain ⟨⟨lo, hi', pd⟩, hx⟩ : ∃ x, hAt H i = x := ⟨_, rfl⟩
 have hbad : (inB lo 0 hi' && inB hi' 0 40 && inB pd 1 100) = false → ¬H.all hourB = true := fun h => not_all_at (k := i) (by omega) (by rw [hx]; exact h)
 have hgood : (inB lo 0 hi' && inB hi' 0 40 && inB pd 1 100) = true → ∀ k, k < i + 1 → hourB (hAt H k) = true := fun h1 k hk => by
  rcases Nat.lt_or_ge k i with h2 | h2
  ·exact hall k h2
  ·rw [show k = i by omega, hx]; exact h1
 rw [hx] at ct
 unfold hrL at ct
 dsimp only at ct
 have k1 := fun w1 => is13_any lo 0 hi' w1
 have k2 := fun w1 => is13_any hi' 0 40 w1
 have k3 := fun w1 => is13_any pd 1 100 w1
 cases h5 : inB lo 0 hi'
 ·rw [h5] at k1
  rw [if_neg (hbad (by rw [h5]; rfl))]
  (apply tr_v tk; (conv => whnf); (repeat ((first | (apply VLdN.mk; exact ct _; exact rfl) | (apply VIx.mk (j := i); exact rfl; omega) | (apply VCall.q; kernel_rfl; (focus (intro w1 hs; first | with_reducible apply k1 w1))) | (apply VLd.mk; (focus ((repeat (first | ((with_reducible apply ld_blk); exact rfl) | (with_reducible apply ld_skip))); done))) | apply VBr.t | (apply v_t; omega) | (apply VNew.mk; intro g hg) | (apply VSt.mk; (focus ((repeat (first | (with_reducible exact At.here) | (with_reducible apply At.there))); done)); exact rfl)); (conv => whnf))))
  ((apply VRet.mk); refine ret1 (by first | exact .inl rfl | exact .inr rfl) rfl (by exact rv_tmp rfl) ?_; exact fun w h => ⟨rfl, h.base⟩)
 cases h6 : inB hi' 0 40
 ·rw [h5] at k1
  rw [h6] at k2
  rw [if_neg (hbad (by rw [h5, h6]; rfl))]
  (apply tr_v tk; (conv => whnf); (repeat ((first | (apply VLdN.mk; exact ct _; exact rfl) | (apply VIx.mk (j := i); exact rfl; omega) | (apply VCall.q; kernel_rfl; (focus (intro w1 hs; first | with_reducible apply k1 w1 | with_reducible apply k2 w1))) | (apply VLd.mk; (focus ((repeat (first | ((with_reducible apply ld_blk); exact rfl) | (with_reducible apply ld_skip))); done))) | apply VBr.t | apply VBr.f | (apply v_t; omega) | (apply VNew.mk; intro g hg) | (apply VSt.mk; (focus ((repeat (first | (with_reducible exact At.here) | (with_reducible apply At.there))); done)); exact rfl)); (conv => whnf))))
  ((apply VRet.mk); refine ret1 (by first | exact .inl rfl | exact .inr rfl) rfl (by exact rv_tmp rfl) ?_; exact fun w h => ⟨rfl, h.base⟩)
 cases h7 : inB pd 1 100
 ·rw [h5] at k1
  rw [h6] at k2
  rw [h7] at k3
  rw [if_neg (hbad (by rw [h5, h6, h7]; rfl))]
  (apply tr_v tk; (conv => whnf); (repeat ((first | (apply VLdN.mk; exact ct _; exact rfl) | (apply VIx.mk (j := i); exact rfl; omega) | (apply VCall.q; kernel_rfl; (focus (intro w1 hs; first | with_reducible apply k1 w1 | with_reducible apply k2 w1 | with_reducible apply k3 w1))) | (apply VLd.mk; (focus ((repeat (first | ((with_reducible apply ld_blk); exact rfl) | (with_reducible apply ld_skip))); done))) | apply VBr.t | apply VBr.f | (apply v_t; omega) | (apply VNew.mk; intro g hg) | (apply VSt.mk; (focus ((repeat (first | (with_reducible exact At.here) | (with_reducible apply At.there))); done)); exact rfl)); (conv => whnf))))
  ((apply VRet.mk); refine ret1 (by first | exact .inl rfl | exact .inr rfl) rfl (by exact rv_tmp rfl) ?_; exact fun w h => ⟨rfl, h.base⟩)
 rw [h5] at k1
 rw [h6] at k2
 rw [h7] at k3
 have hg2 := hgood (by rw [h5, h6, h7]; rfl)
 clear hgood hbad hall
 (apply tr_v tk; (conv => whnf); (repeat ((first | (apply VLdN.mk; exact ct _; exact rfl) | (apply VIx.mk (j := i); exact rfl; omega) | (apply VCall.q; kernel_rfl; (focus (intro w1 hs; first | with_reducible apply k1 w1 | with_reducible apply k2 w1 | with_reducible apply k3 w1))) | (apply VLd.mk; (focus ((repeat (first | ((with_reducible apply ld_blk); exact rfl) | (with_reducible apply ld_skip))); done))) | (apply VRng.mk; omega) | apply VBr.t | apply VBr.f | (apply v_t; omega) | (apply VNew.mk; intro g hg) | (apply VSt.mk; (focus ((repeat (first | (with_reducible exact At.here) | (with_reducible apply At.there))); done)); exact rfl)); (conv => whnf))))
 exact v_rnd (gm - 1) (by omega) (l := [(1, _), (3, _)]) (B := [.blk gq 24 [.int .i64 st, .int .i64 li, .int .i64 ga, .int .i64 fa, .slice (some ⟨b0, o0, none⟩) n c]]) ⟨rfl, rfl, trivial⟩ (by (repeat (first | exact sl0 _ | exact sl1 _ | refine sl2 _ ?_ | refine sl3 _ ?_))) ⟨rfl, i + 1, by omega, hg2, rfl, rfl⟩
theorem withinS_mem1 {a lo hi : Int} {bb : Bool} (hb : within lo hi [a] = bb) {g t : Nat} {A : List Chunk} {w0 w : World} (hs : St w0 A w) (hm : Chunk.blk g t [.int .i64 a] ∈ A) :
  Calls Tryz.prog 90 #[.int .i64 lo, .int .i64 hi, .slice (some ⟨g, 0, none⟩) 1 1] w fun e w' => e = .returned (.bool bb) ∧ Below w.heap.size w w' := by
 subst hb
 exact withinS_any (some ⟨g, 0, none⟩) 1 [a] lo hi w (hs.blk_reads hm rfl) (by simp [maxLen])
theorem withinS_mem2 {a b lo hi : Int} {bb : Bool} (hb : within lo hi [a, b] = bb) {g t : Nat} {A : List Chunk} {w0 w : World} (hs : St w0 A w) (hm : Chunk.blk g t [.int .i64 a, .int .i64 b] ∈ A) :
  Calls Tryz.prog 90 #[.int .i64 lo, .int .i64 hi, .slice (some ⟨g, 0, none⟩) 2 2] w fun e w' => e = .returned (.bool bb) ∧ Below w.heap.size w w' := by
 subst hb
 exact withinS_any (some ⟨g, 0, none⟩) 2 [a, b] lo hi w (hs.blk_reads hm rfl) (by simp [maxLen])
theorem within_two {lo hi a b : Int} (h1 : lo ≤ a ∧ a ≤ hi) (h2 : lo ≤ b ∧ b ≤ hi) : within lo hi [a, b] = true := by
 unfold within badIn
 simp; omega
theorem within_yes {lo hi a : Int} (h1 : lo ≤ a ∧ a ≤ hi) : within lo hi [a] = true := by rw [within_one]; exact decide_eq_true h1
def HourOk (h : HourT) : Prop := (0 ≤ h.lo ∧ h.lo ≤ h.hi ∧ h.hi ≤ 40) ∧ 1 ≤ h.pd ∧ h.pd ≤ 100
def MillOk (M : MillT) (H : List HourT) : Prop := (1 ≤ H.length ∧ H.length ≤ 12) ∧ ((0 ≤ M.st ∧ M.st ≤ M.li ∧ M.li ≤ 40) ∧ (1 ≤ M.ga ∧ M.ga ≤ 40) ∧ 1 ≤ M.fa ∧ M.fa ≤ 40) ∧ ∀ k, k < H.length → HourOk (hAt H k)
theorem hourB_iff {h : HourT} : hourB h = true ↔ HourOk h := by
 unfold hourB HourOk
 rw [Bool.and_eq_true, Bool.and_eq_true, inB_iff, inB_iff, inB_iff]
 omega
theorem refMill_iff {M : MillT} {H : List HourT} : refMill M H = 0 ↔ MillOk M H := by
 have hm : millB M = true ↔ (0 ≤ M.st ∧ M.st ≤ M.li ∧ M.li ≤ 40) ∧ (1 ≤ M.ga ∧ M.ga ≤ 40) ∧ 1 ≤ M.fa ∧ M.fa ≤ 40 := by
  unfold millB
  rw [Bool.and_eq_true, Bool.and_eq_true, Bool.and_eq_true, inB_iff, inB_iff, inB_iff, inB_iff]
  omega
 unfold refMill MillOk
 constructor
 ·intro h
  split at h
  ·omega
  ·split at h
   ·split at h
    ·rename_i h1 h2 h3
     refine ⟨by omega, hm.1 h2, fun k hk => hourB_iff.1 ?_⟩
     rw [List.all_eq_true] at h3
     exact h3 _ (hAt_mem hk)
    ·omega
   ·omega
 ·rintro ⟨h1, h2, h3⟩
  rw [if_neg (by omega), if_pos (hm.2 h2), if_pos (all_of_at fun k hk => hourB_iff.2 (h3 k hk))]
set_option maxRecDepth 20000 in
theorem stray_any (lo hi pd : Int) (h : HourOk ⟨lo, hi, pd⟩) (w : World) : Calls Tryz.prog 89 #[.agg #[.int .i64 lo, .int .i64 hi, .int .i64 pd]] w fun e w' => e = .returned (.bool false) ∧ Below w.heap.size w w' := by
 unfold HourOk at h
 dsimp only at h
 have b1 : within 0 40 [lo, hi] = true := within_two (by omega) (by omega)
 have b2 : within 1 100 [pd] = true := within_yes (by omega)
 refine fn_v tk (n := 28) (A := []) Tryz.func89 rfl rfl (Nat.le_of_ble_eq_true rfl) (St.nil (Below.refl _ _)) ?_
 ((conv => whnf); (repeat ((first | (apply VCall.q; kernel_rfl; (focus (intro w1 hs; first | ((with_reducible apply withinS_mem2 b1 hs); (repeat (first | exact List.Mem.head _ | assumption | refine List.Mem.tail _ ?_))) | ((with_reducible apply withinS_mem1 b2 hs); (repeat (first | exact List.Mem.head _ | assumption | refine List.Mem.tail _ ?_)))))) | (apply VLd.mk; (focus ((repeat (first | ((with_reducible apply ld_blk); exact rfl) | (with_reducible apply ld_skip))); done))) | apply VBr.f | (apply v_f; omega) | (apply VNew.mk; intro g hg)); (conv => whnf))))
 ((apply VRet.mk); refine ret1 (by first | exact .inl rfl | exact .inr rfl) rfl (by exact rv_tmp rfl) ?_; exact fun w h => ⟨rfl, h.base⟩)
set_option maxRecDepth 20000 in
theorem indexH_any (A0 : Option Addr) (n c : Nat) (H : List HourT) (w : World) (hn : H.length = n) (h : Reads w w.heap.size 3 A0 n (hrC H)) (hm : n ≤ 12) (hH : ∀ k, k < H.length → HourOk (hAt H k)) :
  Calls Tryz.prog 177 #[.slice A0 n c, .func (.func 89) #[] #[]] w fun e w' => e = .returned (.int .i64 (-1)) ∧ Below w.heap.size w w' := by
 refine fn_v tk (n := 19) (A := []) Tryz.func177 rfl rfl (Nat.le_of_ble_eq_true rfl) (St.nil (Below.refl _ _)) ?_
 ((conv => whnf); apply VStop.mk)
 refine v_loop (fun gm ds ts A => ds = [] ∧ A = [] ∧ ∃ j, j + gm = n ∧ ts = [(0, .slice A0 n c), (1, .func (.func 89) #[] #[]), (7, .int .i64 (n : Int)), (8, .int .i64 (j : Int))]) n (l := [(0, _), (1, _), (7, _), (8, _)]) (B := _) ?_ (List.Sublist.refl _) ⟨rfl, rfl, 0, by omega, rfl⟩ ?_
 ·exact ⟨rfl, rfl, rfl, rfl, trivial⟩
 rintro gm ds ts A ⟨rfl, rfl, j, hj, rfl⟩
 by_cases hlt : j < n
 ·obtain ⟨b, o, rfl, _⟩ := h.2 (by omega)
  have ct := hr_cells (k := j) h hn hlt
  have hok := hH j (by omega)
  unfold hrL at ct
  generalize hAt H j = x at *
  obtain ⟨lo, hi, pd⟩ := x
  dsimp only at ct
  have ks := fun w1 => stray_any lo hi pd hok w1
  (apply tr_v tk; (conv => whnf); (repeat ((first | (apply VLdN.mk; exact ct _; exact rfl) | (apply VIx.mk (j := j); exact rfl; omega) | (apply VCall.q; kernel_rfl; (focus (intro w1 hs; first | with_reducible apply ks w1))) | (apply VRng.mk; omega) | apply VBr.t | apply VBr.f | (apply v_t; omega)); (conv => whnf))))
  exact v_rnd (gm - 1) (by omega) (l := [(0, _), (1, _), (7, _), (8, _)]) (B := []) ⟨rfl, rfl, rfl, rfl, trivial⟩ (List.nil_sublist _) ⟨rfl, rfl, j + 1, by omega, rfl⟩
 ·(apply tr_v tk; (conv => whnf); (repeat ((first | apply VBr.f | (apply v_f; omega)); (conv => whnf))))
  ((apply VRet.mk); refine ret1 (by first | exact .inl rfl | exact .inr rfl) rfl (by exact rv_tmp rfl) ?_; exact fun w h => ⟨rfl, h.base⟩)
set_option maxRecDepth 20000 in
theorem containsH_any (A0 : Option Addr) (n c : Nat) (H : List HourT) (w : World) (hn : H.length = n) (h : Reads w w.heap.size 3 A0 n (hrC H)) (hm : n ≤ 12) (hH : ∀ k, k < H.length → HourOk (hAt H k)) :
  Calls Tryz.prog 91 #[.slice A0 n c, .func (.func 89) #[] #[]] w fun e w' => e = .returned (.bool false) ∧ Below w.heap.size w w' := by
 have k1 := fun w1 h => indexH_any A0 n c H w1 hn h hm hH
 refine fn_v tk (n := 9) (A := []) Tryz.func91 rfl rfl (Nat.le_of_ble_eq_true rfl) (St.nil (Below.refl _ _)) ?_
 ((conv => whnf); (repeat ((first | (apply VCall.q; kernel_rfl; (focus (intro w1 hs; first | with_reducible apply k1 w1 (hs.reads h)))) | (apply v_f; omega)); (conv => whnf))))
 ((apply VRet.mk); refine ret1 (by first | exact .inl rfl | exact .inr rfl) rfl (by exact rv_tmp rfl) ?_; exact fun w h => ⟨rfl, h.base⟩)
set_option maxHeartbeats 1000000 in
set_option maxRecDepth 20000 in
theorem checkMill_any (M : MillT) (B : Option Addr) (c n : Nat) (H : List HourT) (w : World) (hn : H.length = n) (h : Reads w w.heap.size 3 B n (hrC H)) (hM : MillOk M H) :
  Calls Tryz.prog 40 #[millV M B n c] w fun e w' => e = .returned (.int .i64 0) ∧ Below w.heap.size w w' := by
 obtain ⟨h1, ⟨h2, h3, h4⟩, h5⟩ := hM
 rw [hn] at h1
 obtain ⟨st, li, ga, fa⟩ := M
 unfold millV
 dsimp only at *
 have b1 : within 1 12 [(n : Int)] = true := within_yes (by omega)
 have b2 : within 0 40 [st, li] = true := within_two (by omega) (by omega)
 have b3 : within 1 40 [ga, fa] = true := within_two (by omega) (by omega)
 have k1 := fun w1 h => containsH_any B n c H w1 hn h h1.2 h5
 refine fn_v tk (n := 41) (A := []) Tryz.func40 rfl rfl (Nat.le_of_ble_eq_true rfl) (St.nil (Below.refl _ _)) ?_
 ((conv => whnf); (repeat ((first | (apply VCall.q; kernel_rfl; (focus (intro w1 hs; first | ((with_reducible apply withinS_mem1 b1 hs); (repeat (first | exact List.Mem.head _ | assumption | refine List.Mem.tail _ ?_))) | ((with_reducible apply withinS_mem2 b2 hs); (repeat (first | exact List.Mem.head _ | assumption | refine List.Mem.tail _ ?_))) | ((with_reducible apply withinS_mem2 b3 hs); (repeat (first | exact List.Mem.head _ | assumption | refine List.Mem.tail _ ?_))) | with_reducible apply k1 w1 (hs.reads h)))) | (apply VLd.mk; (focus ((repeat (first | ((with_reducible apply ld_blk); exact rfl) | (with_reducible apply ld_skip))); done))) | apply VBr.f | (apply v_f; omega) | (apply VNew.mk; intro g hg)); (conv => whnf))))
 ((apply VRet.mk); refine ret1 (by first | exact .inl rfl | exact .inr rfl) rfl (by exact rv_tmp rfl) ?_; exact fun w h => ⟨rfl, h.base⟩)
/-! ## Plans -/
def PlanOk (P : List Int) (n : Nat) : Prop := P.length = n ∧ ∀ k, k < n → 0 ≤ rAt P k ∧ rAt P k ≤ 1
theorem open1S_any (v : Int) (h : 0 ≤ v ∧ v ≤ 1) (w : World) : Calls Tryz.prog 42 #[.int .i64 v] w fun e w' => e = .returned (.bool false) ∧ Below w.heap.size w w' := by
 refine fn_v tk (n := 9) (A := []) Tryz.func42 rfl rfl (Nat.le_of_ble_eq_true rfl) (St.nil (Below.refl _ _)) ?_
 ((conv => whnf); (repeat ((first | apply VBr.f | (apply v_f; omega)); (conv => whnf))))
 ((apply VRet.mk); refine ret1 (by first | exact .inl rfl | exact .inr rfl) rfl (by exact rv_tmp rfl) ?_; exact fun w h => ⟨rfl, h.base⟩)
set_option maxRecDepth 20000 in
theorem indexP_any (A0 : Option Addr) (n c : Nat) (P : List Int) (w : World) (h : Reads w w.heap.size 1 A0 n (i64s P)) (hm : n ≤ 12) (hP : PlanOk P n) :
  Calls Tryz.prog 92 #[.slice A0 n c, .func (.func 42) #[] #[]] w fun e w' => e = .returned (.int .i64 (-1)) ∧ Below w.heap.size w w' := by
 refine fn_v tk (n := 19) (A := []) Tryz.func92 rfl rfl (Nat.le_of_ble_eq_true rfl) (St.nil (Below.refl _ _)) ?_
 ((conv => whnf); apply VStop.mk)
 refine v_loop (fun gm ds ts A => ds = [] ∧ A = [] ∧ ∃ j, j + gm = n ∧ ts = [(0, .slice A0 n c), (1, .func (.func 42) #[] #[]), (7, .int .i64 (n : Int)), (8, .int .i64 (j : Int))]) n (l := [(0, _), (1, _), (7, _), (8, _)]) (B := _) ?_ (List.Sublist.refl _) ⟨rfl, rfl, 0, by omega, rfl⟩ ?_
 ·exact ⟨rfl, rfl, rfl, rfl, trivial⟩
 rintro gm ds ts A ⟨rfl, rfl, j, hj, rfl⟩
 by_cases hlt : j < n
 ·obtain ⟨b, o, rfl, hc⟩ := row_cell h hlt
  have hok := hP.2 j hlt
  generalize rAt P j = x at *
  have ks := fun w1 => open1S_any x hok w1
  (apply tr_v tk; (conv => whnf); (repeat ((first | (apply VLd.mk; exact hc _) | (apply VIx.mk (j := j); exact rfl; omega) | (apply VCall.q; kernel_rfl; (focus (intro w1 hs; first | with_reducible apply ks w1))) | (apply VRng.mk; omega) | apply VBr.t | apply VBr.f | (apply v_t; omega)); (conv => whnf))))
  exact v_rnd (gm - 1) (by omega) (l := [(0, _), (1, _), (7, _), (8, _)]) (B := []) ⟨rfl, rfl, rfl, rfl, trivial⟩ (List.nil_sublist _) ⟨rfl, rfl, j + 1, by omega, rfl⟩
 ·(apply tr_v tk; (conv => whnf); (repeat ((first | apply VBr.f | (apply v_f; omega)); (conv => whnf))))
  ((apply VRet.mk); refine ret1 (by first | exact .inl rfl | exact .inr rfl) rfl (by exact rv_tmp rfl) ?_; exact fun w h => ⟨rfl, h.base⟩)
set_option maxRecDepth 20000 in
theorem containsP_any (A0 : Option Addr) (n c : Nat) (P : List Int) (w : World) (h : Reads w w.heap.size 1 A0 n (i64s P)) (hm : n ≤ 12) (hP : PlanOk P n) :
  Calls Tryz.prog 41 #[.slice A0 n c, .func (.func 42) #[] #[]] w fun e w' => e = .returned (.bool false) ∧ Below w.heap.size w w' := by
 have k1 := fun w1 h => indexP_any A0 n c P w1 h hm hP
 refine fn_v tk (n := 9) (A := []) Tryz.func41 rfl rfl (Nat.le_of_ble_eq_true rfl) (St.nil (Below.refl _ _)) ?_
 ((conv => whnf); (repeat ((first | (apply VCall.q; kernel_rfl; (focus (intro w1 hs; first | with_reducible apply k1 w1 (hs.reads h)))) | (apply v_f; omega)); (conv => whnf))))
 ((apply VRet.mk); refine ret1 (by first | exact .inl rfl | exact .inr rfl) rfl (by exact rv_tmp rfl) ?_; exact fun w h => ⟨rfl, h.base⟩)
set_option maxHeartbeats 1000000 in
set_option maxRecDepth 20000 in
theorem openS_any (M : MillT) (B A1 : Option Addr) (c c1 n gp : Nat) (H : List HourT) (P : List Int) (w : World) (hn : H.length = n) (h : Reads w w.heap.size 3 B n (hrC H)) (hM : MillOk M H) (h1 : Reads w w.heap.size 1 A1 n (i64s P)) (hP : PlanOk P n) (hg : w.cell? ⟨gp, 0, none⟩ = some (.slice A1 n c1)) :
  Calls Tryz.prog 16 #[millV M B n c, .slice (some ⟨gp, 0, none⟩) 1 1] w fun e w' => ∃ x : Nat, e = .returned (.tuple #[.pointer (some ⟨x, 0, none⟩), .int .i64 0]) ∧ True ∧ St w ([] ++ [.blk x 93 [.int .i64 M.st, .int .i64 M.li, .int .i64 M.ga, .int .i64 M.fa, .slice B n c, .int .i64 0]]) w' := by
 have hl := hM.1
 rw [hn] at hl
 have k1 := fun w1 h => checkMill_any M B c n H w1 hn h hM
 have k2 := fun w1 h => containsP_any A1 n c1 P w1 h hl.2 hP
 have b1 : ∀ A, CellAt w A gp 0 (.slice A1 n c1) := fun A => CellAt.base hg
 clear hM
 obtain ⟨st, li, ga, fa⟩ := M
 unfold millV at *
 dsimp only at *
 refine fn_v tk (n := 32) (A := []) Tryz.func16 rfl rfl (Nat.le_of_ble_eq_true rfl) (St.nil (Below.refl _ _)) ?_
 ((conv => whnf); (repeat ((first | (apply VCall.q; kernel_rfl; (focus (intro w1 hs; first | with_reducible apply k1 w1 (hs.reads h)))) | (apply VLdN.mk; (focus ((repeat (first | (with_reducible apply ldn_blk) | (with_reducible apply ldn_skip))); done)); exact rfl) | apply VBr.f | (apply v_f; omega) | (apply VNew.mk; intro g hg)); (conv => whnf))); apply VStop.mk)
 revert g
 intro gm0 _
 refine v_loop (fun gm ds ts A => ds = [] ∧ ∃ j, j + gm = 1 ∧ A = [.blk gm0 24 [.int .i64 st, .int .i64 li, .int .i64 ga, .int .i64 fa, .slice B n c]] ∧ ts = [(2, .pointer (some ⟨gm0, 0, none⟩)), (14, .slice (some ⟨gp, 0, none⟩) 1 1), (15, .int .i64 1), (16, .int .i64 (j : Int))]) 1 (l := [(2, _), (14, _), (15, _), (16, _)]) (B := _) ?_ (List.Sublist.refl _) ⟨rfl, 0, by omega, rfl, rfl⟩ ?_
 ·exact ⟨rfl, rfl, rfl, rfl, trivial⟩
 rintro gm ds ts A ⟨rfl, j, hj, rfl, rfl⟩
 by_cases hlt : j < 1
 ·obtain rfl : j = 0 := by omega
  (apply tr_v tk; (conv => whnf); (repeat ((first | (apply VLd.mk; exact b1 _) | (apply VCall.q; kernel_rfl; (focus (intro w1 hs; first | with_reducible apply k2 w1 (hs.reads h1)))) | (apply VLd.mk; (focus ((repeat (first | ((with_reducible apply ld_blk); exact rfl) | (with_reducible apply ld_skip))); done))) | (apply VRng.mk; omega) | apply VBr.t | apply VBr.f | (apply v_t; omega) | (apply v_f; omega) | (apply VIx.mk; exact rfl; omega)); (conv => whnf))))
  exact v_rnd (gm - 1) (by omega) (l := [(2, _), (14, _), (15, _), (16, _)]) (B := _) ⟨rfl, rfl, rfl, rfl, trivial⟩ (List.Sublist.refl _) ⟨rfl, 1, by omega, rfl, rfl⟩
 ·(apply tr_v tk; (conv => whnf); (repeat ((first | (apply VLdN.mk; (focus ((repeat (first | (with_reducible apply ldn_blk) | (with_reducible apply ldn_skip))); done)); exact rfl) | apply VBr.f | (apply v_f; omega) | (apply VNew.mk; intro g hg)); (conv => whnf))))
  (apply VRet.mk)
  refine ret2 (by first | exact .inl rfl | exact .inr rfl) rfl (by exact rv_tmp rfl) (by exact rv_tmp rfl) ?_
  exact fun w hs => ⟨_, rfl, trivial, hs.sub (List.singleton_sublist.2 (by (repeat (first | exact List.Mem.head _ | assumption | refine List.Mem.tail _ ?_))))⟩
def afterL (M : MillT) (heat room pl : Int) : Int := if pl = 1 then max heat room + M.ga else max room (heat - M.fa)
set_option maxRecDepth 20000 in
theorem after_any (M : MillT) (B : Option Addr) (n c gb : Nat) (heat room pl : Int) (w : World) (hg : ∀ k u, [Value.int .i64 M.st, .int .i64 M.li, .int .i64 M.ga, .int .i64 M.fa, .slice B n c, .int .i64 0][k]? = some u → w.cell? ⟨gb, k, none⟩ = some u) (h1 : 0 ≤ heat ∧ heat ≤ 1000) (h2 : 0 ≤ room ∧ room ≤ 40) (h3 : 1 ≤ M.ga ∧ M.ga ≤ 40) (h4 : 1 ≤ M.fa ∧ M.fa ≤ 40) :
  Calls Tryz.prog 43 #[.pointer (some ⟨gb, 0, none⟩), .int .i64 heat, .int .i64 room, .int .i64 pl] w fun e w' => e = .returned (.int .i64 (afterL M heat room pl)) ∧ Below w.heap.size w w' := by
 have b3 : ∀ A, CellAt w A gb (0 + 0 + 2) (.int .i64 M.ga) := fun A => CellAt.base (hg 2 _ rfl)
 have b4 : ∀ A, CellAt w A gb (0 + 0 + 3) (.int .i64 M.fa) := fun A => CellAt.base (hg 3 _ rfl)
 clear hg
 obtain ⟨st, li, ga, fa⟩ := M
 unfold afterL
 dsimp only at *
 rw [show max heat room = if room > heat then room else heat by split <;> omega, show max room (heat - fa) = if heat - fa > room then heat - fa else room by split <;> omega]
 refine fn_v tk (n := 29) (A := []) Tryz.func43 rfl rfl (Nat.le_of_ble_eq_true rfl) (St.nil (Below.refl _ _)) ?_
 by_cases hp : pl = 1
 ·rw [if_pos hp]
  ((conv => whnf); (repeat ((first | (apply VLd.mk; first | exact b3 _ | exact b4 _) | (apply VRng.mk; omega) | apply VBr.t | (apply v_t; omega)); (conv => whnf))))
  ((apply VRet.mk); refine ret1 (by first | exact .inl rfl | exact .inr rfl) rfl (by exact rv_tmp rfl) ?_; exact fun w h => ⟨rfl, h.base⟩)
 ·rw [if_neg hp]
  ((conv => whnf); (repeat ((first | (apply VLd.mk; first | exact b3 _ | exact b4 _) | (apply VRng.mk; omega) | apply VBr.f | (apply v_f; omega)); (conv => whnf))))
  ((apply VRet.mk); refine ret1 (by first | exact .inl rfl | exact .inr rfl) rfl (by exact rv_tmp rfl) ?_; exact fun w h => ⟨rfl, h.base⟩)
/-! ## Heats -/
def roomL (warm : Bool) (h : HourT) : Int := if warm then h.hi else h.lo
def heatF (M : MillT) (H : List HourT) (P : List Int) (warm : Bool) : Nat → Int
 | 0 => M.st
 | k + 1 => afterL M (heatF M H P warm k) (roomL warm (hAt H k)) (rAt P k)
def heatL (M : MillT) (H : List HourT) (P : List Int) (warm : Bool) (m : Nat) : List Int := (List.range m).map fun k => heatF M H P warm (k + 1)
theorem heatL_succ (M : MillT) (H : List HourT) (P : List Int) (warm : Bool) (m : Nat) : heatL M H P warm (m + 1) = heatL M H P warm m ++ [heatF M H P warm (m + 1)] := by
 unfold heatL
 rw [List.range_succ, List.map_append]; rfl
theorem heatL_len (M : MillT) (H : List HourT) (P : List Int) (warm : Bool) (m : Nat) : (heatL M H P warm m).length = m := by simp [heatL]
theorem room_ok {M : MillT} {H : List HourT} (hM : MillOk M H) (warm : Bool) {k : Nat} (hk : k < H.length) : 0 ≤ roomL warm (hAt H k) ∧ roomL warm (hAt H k) ≤ 40 := by
 have := (hM.2.2 k hk).1
 unfold roomL
 split <;> omega
theorem heat_ok {M : MillT} {H : List HourT} (hM : MillOk M H) (P : List Int) (warm : Bool) : ∀ k, k ≤ H.length → 0 ≤ heatF M H P warm k ∧ heatF M H P warm k ≤ 40 + 40 * k
 | 0, _ => by
  have := hM.2.1
  unfold heatF
  omega
 | k + 1, hk => by
  have h1 := heat_ok hM P warm k (by omega)
  have h2 := room_ok hM warm (k := k) (by omega)
  have h3 := hM.2.1
  unfold heatF afterL
  split <;> omega
set_option maxHeartbeats 1000000 in
set_option maxRecDepth 20000 in
theorem heats_any (M : MillT) (B A1 : Option Addr) (c c1 n gb : Nat) (H : List HourT) (P : List Int) (warm : Bool) (w : World) (hn : H.length = n) (h : Reads w w.heap.size 3 B n (hrC H)) (hM : MillOk M H) (h1 : Reads w w.heap.size 1 A1 n (i64s P))
  (hg : ∀ k u, [Value.int .i64 M.st, .int .i64 M.li, .int .i64 M.ga, .int .i64 M.fa, .slice B n c, .int .i64 0][k]? = some u → w.cell? ⟨gb, k, none⟩ = some u) :
  Calls Tryz.prog 17 #[.pointer (some ⟨gb, 0, none⟩), .slice A1 n c1, .bool warm, .int .i64 0] w fun e w' => ∃ x : SlX, e = .returned (.slice x.1 n x.2) ∧ True ∧ St w ([] ++ [.own (.slice x.1 n x.2) 2 1 n (i64s (heatL M H P warm n))]) w' := by
 have hm := hM.1
 rw [hn] at hm
 have b0 : ∀ A, CellAt w A gb (0 + 0 + 0) (.int .i64 M.st) := fun A => CellAt.base (hg 0 _ rfl)
 have b4 : ∀ A, CellAt w A gb (0 + 0 + 4) (.slice B n c) := fun A => CellAt.base (hg 4 _ rfl)
 have b5 : ∀ A, CellAt w A gb (0 + 5) (.int .i64 0) := fun A => CellAt.base (hg 5 _ rfl)
 have e0 : heatF M H P warm 0 = M.st := rfl
 rw [← e0] at b0
 have ka := fun (heat room pl : Int) w1 (hg' : ∀ k u, [Value.int .i64 M.st, .int .i64 M.li, .int .i64 M.ga, .int .i64 M.fa, .slice B n c, .int .i64 0][k]? = some u → w1.cell? ⟨gb, k, none⟩ = some u) h1 h2 => after_any M B n c gb heat room pl w1 hg' h1 h2 hM.2.1.2.1 hM.2.1.2.2
 have hg2 : ∀ {A : List Chunk} {w1 : World}, St w A w1 → ∀ k u, [Value.int .i64 M.st, .int .i64 M.li, .int .i64 M.ga, .int .i64 M.fa, .slice B n c, .int .i64 0][k]? = some u → w1.cell? ⟨gb, k, none⟩ = some u := fun hs k u hu => CellAt.base (A := []) (hg k u hu) _ (hs.sub (List.nil_sublist _))
 refine fn_v tk (n := 67) (A := []) Tryz.func17 rfl rfl (Nat.le_of_ble_eq_true rfl) (St.nil (Below.refl _ _)) ?_
 ((conv => whnf); (repeat ((apply VLd.mk; exact b0 _); (conv => whnf))); apply VStop.mk)
 refine tr_own_nil 2 1 ?_
 refine v_loop (fun gm ds ts A => ds = [] ∧ ∃ (i : Nat) (Bx : Option Addr) (cx : Nat), i + gm = n ∧ A = [.own (.slice Bx i cx) 2 1 i (i64s (heatL M H P warm i))] ∧ ts = [(0, .pointer (some ⟨gb, 0, none⟩)), (1, .slice A1 n c1), (2, .bool warm), (9, .slice Bx i cx), (10, .int .i64 (heatF M H P warm i)), (11, .func (.func 43) #[.pointer (some ⟨gb, 0, none⟩)] #[]), (12, .int .i64 (i : Int))]) n
  (l := [(0, _), (1, _), (2, _), (9, _), (10, _), (11, _), (12, _)]) (B := _) ?_ (List.Sublist.refl _) ⟨rfl, 0, none, 0, by omega, rfl, rfl⟩ ?_
 ·exact ⟨rfl, rfl, rfl, rfl, rfl, rfl, rfl, trivial⟩
 clear b0
 rintro gm ds ts A ⟨rfl, i, Bx, cx, hi, rfl, rfl⟩
 by_cases hlt : i < n
 rotate_left
 ·obtain rfl : i = n := by omega
  (apply tr_v tk; (conv => whnf); (repeat ((first | apply VBr.f | (apply v_f; omega)); (conv => whnf))))
  (apply VRet.mk)
  refine ret1 (by first | exact .inl rfl | exact .inr rfl) rfl (by exact rv_tmp rfl) ?_
  exact fun w hs => ⟨(Bx, cx), rfl, trivial, hs⟩
 obtain ⟨b, o, rfl, _⟩ := h.2 (by omega)
 obtain ⟨b1, o1, rfl, cp⟩ := row_cell h1 hlt
 have cl := hr_cell (k := i) (j := 0) h hn hlt rfl
 have ch := hr_cell (k := i) (j := 1) h hn hlt rfl
 have hroom := room_ok hM warm (k := i) (by omega)
 have hheat := heat_ok hM P warm i (by omega)
 have hst : heatF M H P warm (i + 1) = afterL M (heatF M H P warm i) (roomL warm (hAt H i)) (rAt P i) := rfl
 have hsn := heatL_succ M H P warm i
 have hok := (hM.2.2 i (by omega)).1
 have ka2 := fun w1 hg' => ka (heatF M H P warm i) (roomL warm (hAt H i)) (rAt P i) w1 hg' (by omega) hroom
 rw [← hst] at ka2
 have hs3 : i64s (heatL M H P warm i ++ [heatF M H P warm (i + 1)]) = i64s (heatL M H P warm i) ++ [.int .i64 (heatF M H P warm (i + 1))] := by simp [i64s]
 rw [← hsn] at hs3
 clear hst hsn ka
 generalize hy : heatF M H P warm (i + 1) = y at *
 generalize hyl : heatL M H P warm (i + 1) = yl at *
 generalize heatF M H P warm i = x at *
 generalize rAt P i = pv at *
 unfold roomL at ka2 hroom
 generalize hAt H i = hr at *
 obtain ⟨lo, hi', pd⟩ := hr
 dsimp only at *
 generalize heatL M H P warm i = xl at *
 cases warm
 ·rw [if_neg (by decide)] at ka2
  (apply tr_v tk; (conv => whnf); (repeat ((first | ((first | apply VStop.mk | apply VCall.stop); refine ot_appendS (sz := 1) (sl := i) (A'v := fun v' => _ :: .own v' 2 1 (i + 1) (i64s xl ++ [.int .i64 y]) :: _) tk rfl rfl rfl rfl rfl rfl rfl rfl rfl rfl (by decide) rfl (cells_blk_all (.head _)) rfl rfl (fun v' => .there .here) (by omega) (by decide) (fun B3 c3 => ?_); apply ot_v tk) | (apply VLd.mk; first | exact b4 _ | exact b5 _ | exact cl _ | exact ch _ | exact cp _) | (apply VIx.mk (j := i); exact rfl; omega) | (apply VCall.q; kernel_rfl; (focus (intro w1 hs; first | with_reducible apply ka2 w1 (hg2 hs)))) | (apply VRng.mk; omega) | apply VBr.t | apply VBr.f | (apply v_t; omega) | (apply VNew.mk; intro g hg)); (conv => whnf))))
  rw [← hs3]
  exact v_rnd (gm - 1) (by omega) (l := [(0, _), (1, _), (2, _), (9, _), (10, _), (11, _), (12, _)]) (B := [.own (.slice B3 (i + 1) c3) 2 1 (i + 1) (i64s yl)]) ⟨rfl, rfl, rfl, rfl, rfl, rfl, rfl, trivial⟩ (by (repeat (first | exact sl0 _ | exact sl1 _ | refine sl2 _ ?_ | refine sl3 _ ?_))) ⟨rfl, i + 1, B3, c3, by omega, by rw [hyl], by rw [hy]; rfl⟩
 ·rw [if_pos (by rfl), show hi' = hi' + 0 by omega] at ka2
  (apply tr_v tk; (conv => whnf); (repeat ((first | ((first | apply VStop.mk | apply VCall.stop); (first | refine tr_region_lex (id := 9) (by kernel_rfl) [.rd, .rd, .rd, .rd, .rd, .rd, .rd, .rd, .rd, .rd, .rd, .rd, .rd, .rd, .rd, .rd] rfl (by kernel_rfl) ?_ | refine ot_appendS (sz := 1) (sl := i) (A'v := fun v' => _ :: .own v' 2 1 (i + 1) (i64s xl ++ [.int .i64 y]) :: _) tk rfl rfl rfl rfl rfl rfl rfl rfl rfl rfl (by decide) rfl (cells_blk_all (.head _)) rfl rfl (fun v' => .there .here) (by omega) (by decide) (fun B3 c3 => ?_)); apply ot_v tk) | (apply VLd.mk; first | exact b4 _ | exact b5 _ | exact cl _ | exact ch _ | exact cp _) | (apply VIx.mk (j := i); exact rfl; omega) | (apply VCall.q; kernel_rfl; (focus (intro w1 hs; first | with_reducible apply ka2 w1 (hg2 hs)))) | (apply VRng.mk; omega) | apply VBr.t | (apply v_t; omega) | (apply VNew.mk; intro g hg)); (conv => whnf))))
  rw [← hs3]
  exact v_rnd (gm - 1) (by omega) (l := [(0, _), (1, _), (2, _), (9, _), (10, _), (11, _), (12, _)]) (B := [.own (.slice B3 (i + 1) c3) 2 1 (i + 1) (i64s yl)]) ⟨rfl, rfl, rfl, rfl, rfl, rfl, rfl, trivial⟩ (by (repeat (first | exact sl0 _ | exact sl1 _ | refine sl2 _ ?_ | refine sl3 _ ?_))) ⟨rfl, i + 1, B3, c3, by omega, by rw [hyl], by rw [hy]; rfl⟩
set_option maxHeartbeats 1000000 in
set_option maxRecDepth 20000 in
theorem heatsS_any (M : MillT) (B A1 : Option Addr) (c c1 n : Nat) (H : List HourT) (P : List Int) (warm : Bool) (w : World) (hn : H.length = n) (h : Reads w w.heap.size 3 B n (hrC H)) (hM : MillOk M H) (h1 : Reads w w.heap.size 1 A1 n (i64s P)) (hP : PlanOk P n) :
  Calls Tryz.prog 7 #[millV M B n c, .slice A1 n c1, .bool warm] w fun e w' => ∃ x : Nat, e = .returned (.tuple #[.slice (some ⟨x, 0, none⟩) n n, .int .i64 0]) ∧ True ∧ St w ([] ++ [.own (.slice (some ⟨x, 0, none⟩) n n) 2 1 n (i64s (heatL M H P warm n))]) w' := by
 have hm := hM.1
 rw [hn] at hm
 have k1 := fun gp w1 h' h1' hg => openS_any M B A1 c c1 n gp H P w1 hn h' hM h1' hP hg
 have k2 := fun gb w1 h' h1' hg => heats_any M B A1 c c1 n gb H P warm w1 hn h' hM h1' hg
 have hll := heatL_len M H P warm n
 generalize heatL M H P warm n = L at *
 refine fn_v tk (n := 33) (A := []) Tryz.func7 rfl rfl (Nat.le_of_ble_eq_true rfl) (St.nil (Below.refl _ _)) ?_
 ((conv => whnf); (repeat ((first | (apply VLdN.mk; (focus ((repeat (first | (with_reducible apply ldn_blk) | (with_reducible apply ldn_skip))); done)); exact rfl) | (apply VNew.mk; intro g hg)); (conv => whnf))); apply VCall.stop)
 refine ot_callT (X := Nat) (us := []) (vs := []) (fun x => .tuple #[.pointer (some ⟨x, 0, none⟩), .int .i64 0]) (fun x => []) (fun x => [.blk x 93 [.int .i64 M.st, .int .i64 M.li, .int .i64 M.ga, .int .i64 M.fa, .slice B n c, .int .i64 0]]) _ (fun x c hc => blk1_mut hc) (by decide) rfl rfl rfl rfl (by kernel_rfl) (evl_of rfl) rfl (fun w1 hs => k1 _ w1 (hs.reads h) (hs.reads h1) (cell_blk (.head _) rfl w1 hs)) ?_
 rintro gb _
 (dsimp only [List.cons_append, List.nil_append]; apply ot_v tk)
 ((conv => whnf); (repeat ((first | apply VBr.f | (apply v_f; omega)); (conv => whnf))); apply VCall.stop)
 refine ot_callT (X := SlX) (us := []) (vs := []) (fun x => .slice x.1 n x.2) (fun x => []) (fun x => [.own (.slice x.1 n x.2) 2 1 n (i64s L)]) _ (fun x c hc => one_mut hc) (by decide) rfl rfl rfl rfl (by kernel_rfl) (evl_of rfl) rfl (fun w1 hs => k2 gb w1 (hs.reads h) (hs.reads h1) (fun k u hu => cell_blk (by (repeat (first | exact List.Mem.head _ | assumption | refine List.Mem.tail _ ?_))) hu w1 hs)) ?_
 rintro ⟨Bx, cx⟩ _
 (dsimp only [List.cons_append, List.nil_append]; apply ot_v tk)
 ((conv => whnf); (repeat ((apply VStop.mk; (refine ot_makeSlice (m := n) tk (by decide) rfl rfl rfl rfl rfl rfl rfl rfl rfl rfl rfl rfl (by omega) (by decide) (fun g10 hg10 => ?_)); apply ot_v tk); (conv => whnf))); apply VStop.mk)
 refine ot_fact rfl (p := ∃ b, Bx = some ⟨b, 0, none⟩) (fun w' hs => own_addr (c := cx) (n := n) (sz := 1) (t := 2) (xs := i64s L) hs (by (repeat (first | exact List.Mem.head _ | assumption | refine List.Mem.tail _ ?_))) (by omega)) ?_
 rintro ⟨gx, rfl⟩
 refine ot_copy (vs := i64s L) tk rfl rfl rfl rfl rfl rfl rfl rfl rfl rfl (fun w' hs => hs.own_rd (by (repeat (first | exact List.Mem.head _ | assumption | refine List.Mem.tail _ ?_)))) (one_i64s L) .here (by simp) (fun h => by cases h) ?_
 (apply ot_v tk; (conv => whnf))
 (apply VRet.mk)
 refine ret2 (by first | exact .inl rfl | exact .inr rfl) rfl (by exact rv_tmp rfl) (by exact rv_tmp rfl) ?_
 refine fun w hs => ⟨g10, rfl, trivial, ?_⟩
 have h2 := hs.sub (A' := [_]) (.cons_cons _ (List.nil_sublist _))
 exact h2.blk_own (sz := 1) (by simp [i64s]; omega) (by unfold maxLen; omega)
end Go.Proofs.YtiodmphhjgkgjaaGreat
