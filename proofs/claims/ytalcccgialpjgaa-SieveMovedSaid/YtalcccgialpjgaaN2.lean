/- CheckTable: lemmas for the rows of this seat. No conditions. -/
import Derived.Test.YtalcccgialpjgaaN1
set_option linter.all false
namespace Go.Proofs.Ytalcccgialpjgaa
open Go.RowKit
/-! ## CheckTable -/
def xAt (X : List (List R2)) (i k : Nat) : R2 := rAt (X[i]?.getD []) k
/-- A table is not too great to look at. -/
structure FitT (R C : List R2) (X : List (List R2)) : Prop where
 r : R.length ≤ 7
 c : C.length ≤ 7
 x : X.length ≤ 7
 all : ∀ s ∈ X, s.length ≤ 7
theorem flat7 : ∀ {S : List (List R2)}, (∀ s ∈ S, s.length ≤ 7) → S.flatten.length ≤ 7 * S.length := by
 intro S
 induction S with
 | nil => simp
 | cons s S ih =>
  intro h
  have h1 := ih fun x hx => h x (.tail _ hx)
  have h2 := h s (.head _)
  simp only [List.flatten_cons, List.length_append, List.length_cons]
  omega
/-- As the definition says: a table is valid. -/
structure Valid (R C : List R2) (X : List (List R2)) : Prop where
 r1 : 1 ≤ R.length
 r4 : R.length ≤ 4
 c1 : 1 ≤ C.length
 c4 : C.length ≤ 4
 x : X.length = R.length
 xs : ∀ s ∈ X, s.length = C.length
 rr : ∀ i, i < R.length → rangeB 48 (rAt R i) = true
 cr : ∀ k, k < C.length → rangeB 48 (rAt C k) = true
 xr : ∀ i k, i < R.length → k < C.length → rangeB 12 (xAt X i k) = true
def chkTab (R C : List R2) (X : List (List R2)) : Int :=
 if within 1 4 [(R.length : Int), (C.length : Int)] = false then 6
 else if X.length ≠ R.length then 15
 else if X.any (fun s => decide ((s.length : Int) ≠ C.length)) = true then 15
 else if R.any (strayB 48) = true then 3
 else if C.any (strayB 48) = true then 3
 else if X.flatten.any (strayB 12) = true then 3
 else 0
theorem within_two (lo hi a b : Int) : within lo hi [a, b] = true ↔ lo ≤ a ∧ a ≤ hi ∧ lo ≤ b ∧ b ≤ hi := by
 unfold within badIn
 simp
 omega
theorem any_stray (l : List R2) (most : Int) : l.any (strayB most) = false ↔ ∀ i, i < l.length → rangeB most (rAt l i) = true := by
 rw [List.any_eq_false]
 constructor
 ·intro h i hi
  have := h _ (List.getElem_mem hi)
  rw [stray_range] at this
  unfold rAt
  rw [List.getElem?_eq_getElem hi, Option.getD_some]
  simpa using this
 ·intro h x hx
  obtain ⟨i, hi, rfl⟩ := List.mem_iff_getElem.1 hx
  have := h i hi
  unfold rAt at this
  rw [List.getElem?_eq_getElem hi, Option.getD_some] at this
  rw [stray_range, this]; simp
theorem any_flat (X : List (List R2)) (most : Int) (m : Nat) (hx : ∀ s ∈ X, s.length = m) : X.flatten.any (strayB most) = false ↔ ∀ i k, i < X.length → k < m → rangeB most (xAt X i k) = true := by
 rw [List.any_flatten, List.any_eq_false]
 constructor
 ·intro h i k hi hk
  have h1 := h _ (List.getElem_mem hi)
  rw [Bool.not_eq_true, any_stray] at h1
  unfold xAt
  rw [List.getElem?_eq_getElem hi, Option.getD_some]
  exact h1 k (by rw [hx _ (List.getElem_mem hi)]; exact hk)
 ·intro h s hs
  obtain ⟨i, hi, rfl⟩ := List.mem_iff_getElem.1 hs
  rw [Bool.not_eq_true, any_stray]
  intro k hk
  have := h i k hi (by rw [← hx _ (List.getElem_mem hi)]; exact hk)
  unfold xAt at this
  rw [List.getElem?_eq_getElem hi, Option.getD_some] at this
  exact this
theorem any_len (X : List (List R2)) (m : Nat) : X.any (fun s => decide ((s.length : Int) ≠ m)) = false ↔ ∀ s ∈ X, s.length = m := by
 rw [List.any_eq_false]
 constructor
 ·intro h s hs
  have := h s hs
  simp at this; omega
 ·intro h s hs
  have := h s hs
  simp; omega
section
variable {R C : List R2} {X : List (List R2)}
theorem chk6 (h : ¬(1 ≤ R.length ∧ R.length ≤ 4 ∧ 1 ≤ C.length ∧ C.length ≤ 4)) : chkTab R C X = 6 := by
 unfold chkTab
 rw [if_pos]
 cases hw : within 1 4 [(R.length : Int), (C.length : Int)] with
 | false => rfl
 | true => rw [within_two] at hw; omega
theorem chkN (h : 1 ≤ R.length ∧ R.length ≤ 4 ∧ 1 ≤ C.length ∧ C.length ≤ 4) : chkTab R C X = if X.length ≠ R.length then 15
 else if X.any (fun s => decide ((s.length : Int) ≠ C.length)) = true then 15
 else if R.any (strayB 48) = true then 3
 else if C.any (strayB 48) = true then 3
 else if X.flatten.any (strayB 12) = true then 3
 else 0 := by
 unfold chkTab
 rw [if_neg]
 rw [(within_two _ _ _ _).2 (by omega)]; simp
theorem chk15 (h : 1 ≤ R.length ∧ R.length ≤ 4 ∧ 1 ≤ C.length ∧ C.length ≤ 4) (h2 : X.length ≠ R.length ∨ ∃ s ∈ X, s.length ≠ C.length) : chkTab R C X = 15 := by
 rw [chkN h]
 split
 ·rfl
 ·rename_i h3
  rw [if_pos]
  rcases h2 with h2 | ⟨s, hs, h2⟩
  ·exact absurd h2 h3
  ·rw [List.any_eq_true]
   exact ⟨s, hs, by simp; omega⟩
theorem chk3 (h : 1 ≤ R.length ∧ R.length ≤ 4 ∧ 1 ≤ C.length ∧ C.length ≤ 4) (hx : X.length = R.length) (hs : ∀ s ∈ X, s.length = C.length)
  (h3 : (∃ i, i < R.length ∧ rangeB 48 (rAt R i) = false) ∨ (∃ k, k < C.length ∧ rangeB 48 (rAt C k) = false) ∨ ∃ i k, i < R.length ∧ k < C.length ∧ rangeB 12 (xAt X i k) = false) : chkTab R C X = 3 := by
 rw [chkN h, if_neg (by omega), if_neg (by rw [(any_len X C.length).2 hs]; simp)]
 split
 ·rfl
 split
 ·rfl
 rename_i g1 g2
 rw [if_pos]
 rw [Bool.not_eq_true, any_stray] at g1 g2
 rcases h3 with ⟨i, hi, h3⟩ | ⟨k, hk, h3⟩ | ⟨i, k, hi, hk, h3⟩
 ·rw [g1 i hi] at h3; cases h3
 ·rw [g2 k hk] at h3; cases h3
 ·cases hc : X.flatten.any (strayB 12) with
  | true => rfl
  | false =>
   rw [any_flat X 12 C.length hs] at hc
   rw [hc i k (by omega) hk] at h3
   cases h3
theorem chk0 (h : Valid R C X) : chkTab R C X = 0 := by
 rw [chkN ⟨h.r1, h.r4, h.c1, h.c4⟩, if_neg (by have := h.x; omega), if_neg (by rw [(any_len X C.length).2 h.xs]; simp), if_neg (by rw [(any_stray R 48).2 h.rr]; simp), if_neg (by rw [(any_stray C 48).2 h.cr]; simp), if_neg]
 rw [(any_flat X 12 C.length h.xs).2 fun i k hi hk => h.xr i k (by rw [← h.x]; exact hi) hk]; simp
theorem chk_valid (h : chkTab R C X = 0) : Valid R C X := by
 have hn : 1 ≤ R.length ∧ R.length ≤ 4 ∧ 1 ≤ C.length ∧ C.length ≤ 4 := Decidable.byContradiction fun hn => by rw [chk6 hn] at h; cases h
 have hx : X.length = R.length := Decidable.byContradiction fun hx => by rw [chk15 hn (.inl hx)] at h; cases h
 have hs : ∀ s ∈ X, s.length = C.length := fun s hs => Decidable.byContradiction fun hx => by rw [chk15 hn (.inr ⟨s, hs, hx⟩)] at h; cases h
 refine ⟨hn.1, hn.2.1, hn.2.2.1, hn.2.2.2, hx, hs, fun i hi => ?_, fun k hk => ?_, fun i k hi hk => ?_⟩
 ·cases hb : rangeB 48 (rAt R i) with
  | true => rfl
  | false => rw [chk3 hn hx hs (.inl ⟨i, hi, hb⟩)] at h; cases h
 ·cases hb : rangeB 48 (rAt C k) with
  | true => rfl
  | false => rw [chk3 hn hx hs (.inr (.inl ⟨k, hk, hb⟩))] at h; cases h
 ·cases hb : rangeB 12 (xAt X i k) with
  | true => rfl
  | false => rw [chk3 hn hx hs (.inr (.inr ⟨i, k, hi, hk, hb⟩))] at h; cases h
theorem Valid.fit (h : Valid R C X) : FitT R C X := ⟨by have := h.r4; omega, by have := h.c4; omega, by have := h.r4; have := h.x; omega, fun s hs => by have := h.xs s hs; have := h.c4; omega⟩
end
theorem ble_one {v : Value} {o : Nat} (cs : List Value) (h : o < cs.length) : Nat.ble (o + [v].length) cs.length = true := Nat.ble_eq_true_of_le (by simp; omega)
theorem setMany_one {v : Value} : ∀ {o : Nat} (cs : List Value), o < cs.length → setMany cs o [v] = cs.set o v
 | _, [], h => by simp at h
 | 0, c :: cs, _ => by simp [setMany]; cases cs <;> rfl
 | o + 1, c :: cs, h => by simp only [setMany, List.set_cons_succ]; rw [setMany_one cs (by simp at h; omega)]
section
variable (RA : Option Addr) (rc : Nat) (CA : Option Addr) (cc : Nat) (XA : Option Addr) (xc : Nat) (R C : List R2) (X : List (List R2)) (w : World) (hT : TabR w RA CA XA R C X)
include hT
set_option maxHeartbeats 1000000 in
set_option maxRecDepth 20000 in
theorem checkTable_any (hF : FitT R C X) : Calls Try.prog 19 #[tabV RA rc CA cc XA xc R C X] w fun e w' => e = .returned (.int .i64 (chkTab R C X)) ∧ Below w.heap.size w w' := by
 unfold tabV
 obtain ⟨hr7, hc7, hx7, ha7⟩ := hF
 have hfl := flat7 ha7
 have hst := fun w1 (m : Int) => show Calls Try.prog 58 #[.int .i64 m] w1 fun e w' => ∃ g : Nat, e = .returned (.func (.func 59) #[] #[.pointer (some ⟨g, 0, none⟩)]) ∧ St w1 [.blk g 2 [.int .i64 m]] w' by
  refine fn_v tk (n := 4) (A := []) Try.func58 rfl rfl (Nat.le_of_ble_eq_true rfl) (St.nil (Below.refl _ _)) ?_
  ((conv => whnf); (repeat ((apply VNew.mk; intro g hg); (conv => whnf))))
  (apply VRet.mk)
  refine ret1 (by first | exact .inl rfl | exact .inr rfl) rfl (by exact rv_tmp rfl) ?_
  exact fun w hs => ⟨g, rfl, hs⟩
 refine fn_v tk (n := 54) (A := []) Try.func19 rfl rfl (Nat.le_of_ble_eq_true rfl) (St.nil (Below.refl _ _)) ?_
 ((conv => whnf); (repeat ((apply VNew.mk; intro g hg); (conv => whnf))); apply VCall.stop)
 refine ot_callC (X := Nat) (us := []) (vs := []) (fun g => .func (.func 59) #[] #[.pointer (some ⟨g, 0, none⟩)]) (fun g => [.blk g 2 [.int .i64 48]]) (fun _ => True) (fun g c hc => by simp at hc; subst hc; rfl) (by decide) rfl rfl rfl rfl (by kernel_rfl) (evl_of rfl) rfl (fun w1 hs => (hst w1 48).mono fun e w' ⟨g, h1, h2⟩ => ⟨g, h1, trivial, h2⟩) (fun g1 _ => ?_)
 (dsimp only [List.cons_append, List.nil_append]; apply ot_v tk)
 ((conv => whnf); apply VCall.stop)
 refine ot_callC (X := Nat) (us := []) (vs := []) (fun g => .func (.func 59) #[] #[.pointer (some ⟨g, 0, none⟩)]) (fun g => [.blk g 2 [.int .i64 12]]) (fun _ => True) (fun g c hc => by simp at hc; subst hc; rfl) (by decide) rfl rfl rfl rfl (by kernel_rfl) (evl_of rfl) rfl (fun w1 hs => (hst w1 12).mono fun e w' ⟨g, h1, h2⟩ => ⟨g, h1, trivial, h2⟩) (fun g2 _ => ?_)
 (dsimp only [List.cons_append, List.nil_append]; apply ot_v tk)
 ((conv => whnf); (repeat ((first | (apply VLd.mk; (focus ((repeat (first | ((with_reducible apply ld_blk); exact rfl) | (with_reducible apply ld_skip))); done))) | (apply VNew.mk; intro g hg)); (conv => whnf))); apply VCall.stop)
 cases hb : within 1 4 [(R.length : Int), (C.length : Int)] with
 | false =>
  have hck : chkTab R C X = 6 := by unfold chkTab; rw [if_pos hb]
  rw [hck]
  (apply ot_v tk; (conv => whnf); (repeat ((first | (apply VCall.q; kernel_rfl; (focus (intro w1 hs; first | with_reducible apply within2_any hb hs))) | apply VBr.t); (conv => whnf))))
  ((apply VRet.mk); refine ret1 (by first | exact .inl rfl | exact .inr rfl) rfl (by exact rv_tmp rfl) ?_; exact fun w h => ⟨rfl, h.base⟩)
 | true =>
  have hn := (within_two _ _ _ _).1 hb
  have hck := chkN (R := R) (C := C) (X := X) (by omega)
  have hco : ∀ {g : Nat} {w1 : World} {A1 : List Chunk}, St w A1 w1 → w1.cell? ⟨g, 1, none⟩ = some (.slice CA C.length cc) → _ := fun {g w1 A1} hs hg => contains62_any XA xc X g CA cc C.length w1 (hs.nest hT.x) (by unfold maxLen; omega) hg
  have hcr : ∀ {g : Nat} {w1 : World} {A1 : List Chunk}, St w A1 w1 → w1.cell? ⟨g, 0, none⟩ = some (.int .i64 48) → _ := fun {g w1 A1} hs hg => contains63_any RA rc R 48 g w1 (hs.reads hT.r) (by unfold maxLen; omega) hg
  have hcc : ∀ {g : Nat} {w1 : World} {A1 : List Chunk}, St w A1 w1 → w1.cell? ⟨g, 0, none⟩ = some (.int .i64 48) → _ := fun {g w1 A1} hs hg => contains63_any CA cc C 48 g w1 (hs.reads hT.c) (by unfold maxLen; omega) hg
  generalize hs1 : X.any (fun s => decide ((s.length : Int) ≠ C.length)) = b1 at *
  generalize R.any (strayB 48) = b2 at *
  generalize C.any (strayB 48) = b3 at *
  by_cases e1 : X.length = R.length
  rotate_left
  ·rw [if_pos e1] at hck
   rw [hck]
   have e2 : (X.length : Int) ≠ R.length := by omega
   (apply ot_v tk; (conv => whnf); (repeat ((first | (apply VCall.q; kernel_rfl; (focus (intro w1 hs; first | with_reducible apply within2_any hb hs))) | (apply VLd.mk; (focus ((repeat (first | ((with_reducible apply ld_blk); exact rfl) | (with_reducible apply ld_skip))); done))) | apply VBr.t | apply VBr.f | (apply v_t; omega)); (conv => whnf))))
   ((apply VRet.mk); refine ret1 (by first | exact .inl rfl | exact .inr rfl) rfl (by exact rv_tmp rfl) ?_; exact fun w h => ⟨rfl, h.base⟩)
  rw [if_neg (by omega)] at hck
  have e2 : ¬(X.length : Int) ≠ R.length := by omega
  cases b1 with
  | true =>
   rw [if_pos rfl] at hck
   rw [hck]
   (apply ot_v tk; (conv => whnf); (repeat ((first | (apply VCall.q; kernel_rfl; (focus (intro w1 hs; first | with_reducible apply within2_any hb hs | ((with_reducible apply hco hs); exact cell_blk (by (repeat (first | exact List.Mem.head _ | assumption | refine List.Mem.tail _ ?_))) rfl w1 hs)))) | (apply VLd.mk; (focus ((repeat (first | ((with_reducible apply ld_blk); exact rfl) | (with_reducible apply ld_skip))); done))) | apply VBr.t | apply VBr.f | (apply v_f; omega)); (conv => whnf))))
   ((apply VRet.mk); refine ret1 (by first | exact .inl rfl | exact .inr rfl) rfl (by exact rv_tmp rfl) ?_; exact fun w h => ⟨rfl, h.base⟩)
  | false =>
  rw [if_neg (by simp)] at hck
  cases b2 with
  | true =>
   rw [if_pos rfl] at hck
   rw [hck]
   (apply ot_v tk; (conv => whnf); (repeat ((first | (apply VCall.q; kernel_rfl; (focus (intro w1 hs; first | with_reducible apply within2_any hb hs | ((with_reducible apply hco hs); exact cell_blk (by (repeat (first | exact List.Mem.head _ | assumption | refine List.Mem.tail _ ?_))) rfl w1 hs) | ((with_reducible apply hcr hs); exact cell_blk (by (repeat (first | exact List.Mem.head _ | assumption | refine List.Mem.tail _ ?_))) rfl w1 hs)))) | (apply VLd.mk; (focus ((repeat (first | ((with_reducible apply ld_blk); exact rfl) | (with_reducible apply ld_skip))); done))) | apply VBr.t | apply VBr.f | (apply v_f; omega)); (conv => whnf))))
   ((apply VRet.mk); refine ret1 (by first | exact .inl rfl | exact .inr rfl) rfl (by exact rv_tmp rfl) ?_; exact fun w h => ⟨rfl, h.base⟩)
  | false =>
  rw [if_neg (by simp)] at hck
  cases b3 with
  | true =>
   rw [if_pos rfl] at hck
   rw [hck]
   (apply ot_v tk; (conv => whnf); (repeat ((first | (apply VCall.q; kernel_rfl; (focus (intro w1 hs; first | with_reducible apply within2_any hb hs | ((with_reducible apply hco hs); exact cell_blk (by (repeat (first | exact List.Mem.head _ | assumption | refine List.Mem.tail _ ?_))) rfl w1 hs) | ((with_reducible apply hcr hs); exact cell_blk (by (repeat (first | exact List.Mem.head _ | assumption | refine List.Mem.tail _ ?_))) rfl w1 hs) | ((with_reducible apply hcc hs); exact cell_blk (by (repeat (first | exact List.Mem.head _ | assumption | refine List.Mem.tail _ ?_))) rfl w1 hs)))) | (apply VLd.mk; (focus ((repeat (first | ((with_reducible apply ld_blk); exact rfl) | (with_reducible apply ld_skip))); done))) | apply VBr.t | apply VBr.f | (apply v_f; omega)); (conv => whnf))))
   ((apply VRet.mk); refine ret1 (by first | exact .inl rfl | exact .inr rfl) rfl (by exact rv_tmp rfl) ?_; exact fun w h => ⟨rfl, h.base⟩)
  | false =>
  rw [if_neg (by simp)] at hck
  rw [hck]
  (apply ot_v tk; (conv => whnf); (repeat ((first | (apply VCall.q; kernel_rfl; (focus (intro w1 hs; first | with_reducible apply within2_any hb hs | ((with_reducible apply hco hs); exact cell_blk (by (repeat (first | exact List.Mem.head _ | assumption | refine List.Mem.tail _ ?_))) rfl w1 hs) | ((with_reducible apply hcr hs); exact cell_blk (by (repeat (first | exact List.Mem.head _ | assumption | refine List.Mem.tail _ ?_))) rfl w1 hs) | ((with_reducible apply hcc hs); exact cell_blk (by (repeat (first | exact List.Mem.head _ | assumption | refine List.Mem.tail _ ?_))) rfl w1 hs)))) | (apply VLd.mk; (focus ((repeat (first | ((with_reducible apply ld_blk); exact rfl) | (with_reducible apply ld_skip))); done))) | apply VBr.f | (apply v_f; omega)); (conv => whnf))); apply VCall.stop)
  have hcat := fun w1 (h : NestR w1 2 XA (nestR X)) => concat64_any XA xc (nestR X) w1 h (by rw [nestR_length]; omega) (by rw [sumN_nestR]; omega) (fun p hp u hu => by
   obtain ⟨s, _, rfl⟩ := List.mem_map.1 hp
   exact rgC_one s u hu)
  rw [nestR_length, sumN_nestR, catN_nestR] at hcat
  refine ot_call_ownS (t := 37) (sz := 2) (m := X.flatten.length) (xs := rgC X.flatten) (by decide) rfl rfl rfl (by kernel_rfl) (evl_of rfl) (fun w1 hs => hcat w1 (hs.nest hT.x)) (fun B cap _ => ?_)
  have hcx : ∀ {g : Nat} {w1 : World} {A1 : List Chunk}, St w (.own (.slice B X.flatten.length cap) 37 2 X.flatten.length (rgC X.flatten) :: A1) w1 → w1.cell? ⟨g, 0, none⟩ = some (.int .i64 12) → _ := fun {g w1 A1} hs hg => contains63_any B cap X.flatten 12 g w1 (hs.own_rd (.head _)) (by unfold maxLen; omega) hg
  generalize X.flatten.any (strayB 12) = b4 at *
  cases b4
  ·rw [if_neg (by simp)]
   (apply ot_v tk; (conv => whnf); (repeat ((first | (apply VCall.q; kernel_rfl; (focus (intro w1 hs; first | ((with_reducible apply hcx hs); exact cell_blk (by (repeat (first | exact List.Mem.head _ | assumption | refine List.Mem.tail _ ?_))) rfl w1 hs)))) | apply VBr.f); (conv => whnf))))
   ((apply VRet.mk); refine ret1 (by first | exact .inl rfl | exact .inr rfl) rfl (by exact rv_tmp rfl) ?_; exact fun w h => ⟨rfl, h.base⟩)
  ·rw [if_pos rfl]
   (apply ot_v tk; (conv => whnf); (repeat ((first | (apply VCall.q; kernel_rfl; (focus (intro w1 hs; first | ((with_reducible apply hcx hs); exact cell_blk (by (repeat (first | exact List.Mem.head _ | assumption | refine List.Mem.tail _ ?_))) rfl w1 hs)))) | apply VBr.t | apply VBr.f); (conv => whnf))))
   ((apply VRet.mk); refine ret1 (by first | exact .inl rfl | exact .inr rfl) rfl (by exact rv_tmp rfl) ?_; exact fun w h => ⟨rfl, h.base⟩)
end
/-! ## CheckTable, as the definition says -/
theorem TabR.cell {w : World} {RA CA : Option Addr} {xb xo : Nat} {R C : List R2} {X : List (List R2)} (hT : TabR w RA CA (some ⟨xb, xo, none⟩) R C X) {i k : Nat} (hi : i < X.length) (hk : k < X[i].length) :
  ∃ B2 o2 c', (∀ Ch, CellAt w Ch xb (xo + i * 1) (.slice (some ⟨B2, o2, none⟩) X[i].length c')) ∧ ∀ Ch, CellsAt w Ch B2 (o2 + k * 2) [.int .i64 (xAt X i k).1, .int .i64 (xAt X i k).2] := by
 obtain ⟨b, o, he, B, c, h1, h2⟩ := nest_gen hT.x hi
 cases he
 obtain ⟨b2, o2, rfl, _⟩ := h2.2 (by omega)
 refine ⟨b2, o2, c, h1, fun Ch => ?_⟩
 have := rg_cells h2 hk (by omega) Ch
 unfold xAt
 rw [List.getElem?_eq_getElem hi, Option.getD_some]
 exact this
theorem TabR.row {w : World} {CA XA : Option Addr} {rb ro : Nat} {R C : List R2} {X : List (List R2)} (hT : TabR w (some ⟨rb, ro, none⟩) CA XA R C X) {i : Nat} (hi : i < R.length) (Ch : List Chunk) : CellsAt w Ch rb (ro + i * 2) [.int .i64 (rAt R i).1, .int .i64 (rAt R i).2] := rg_cells hT.r hi (by omega) Ch
theorem TabR.col {w : World} {RA XA : Option Addr} {cb co : Nat} {R C : List R2} {X : List (List R2)} (hT : TabR w RA (some ⟨cb, co, none⟩) XA R C X) {i : Nat} (hi : i < C.length) (Ch : List Chunk) : CellsAt w Ch cb (co + i * 2) [.int .i64 (rAt C i).1, .int .i64 (rAt C i).2] := rg_cells hT.c hi (by omega) Ch
set_option maxRecDepth 20000 in
theorem refRange_any {b : Bool} (x1 x2 most : Int) (w : World) (hb : rangeB most (x1, x2) = b) : Calls Try.prog 65 #[.agg #[.int .i64 x1, .int .i64 x2], .int .i64 most] w fun e w' => e = .returned (.bool b) ∧ Below w.heap.size w w' := by
 subst hb
 unfold rangeB
 dsimp only
 refine fn_v tk (n := 21) (A := []) Try.func65 rfl rfl (Nat.le_of_ble_eq_true rfl) (St.nil (Below.refl _ _)) ?_
 by_cases e1 : 0 ≤ x1
 ·by_cases e2 : x1 ≤ x2
  ·by_cases e3 : x2 ≤ most
   ·rw [decide_eq_true ⟨e1, e2, e3⟩]
    ((conv => whnf); (repeat ((first | (apply VLd.mk; (focus ((repeat (first | ((with_reducible apply ld_blk); exact rfl) | (with_reducible apply ld_skip))); done))) | apply VBr.t | (apply v_t; omega) | (apply VNew.mk; intro g hg)); (conv => whnf))))
    ((apply VRet.mk); refine ret1 (by first | exact .inl rfl | exact .inr rfl) rfl (by exact rv_tmp rfl) ?_; exact fun w h => ⟨rfl, h.base⟩)
   ·rw [decide_eq_false (by omega)]
    ((conv => whnf); (repeat ((first | (apply VLd.mk; (focus ((repeat (first | ((with_reducible apply ld_blk); exact rfl) | (with_reducible apply ld_skip))); done))) | apply VBr.t | (apply v_t; omega) | (apply v_f; omega) | (apply VNew.mk; intro g hg)); (conv => whnf))))
    ((apply VRet.mk); refine ret1 (by first | exact .inl rfl | exact .inr rfl) rfl (by exact rv_tmp rfl) ?_; exact fun w h => ⟨rfl, h.base⟩)
  ·rw [decide_eq_false (by omega)]
   ((conv => whnf); (repeat ((first | (apply VLd.mk; (focus ((repeat (first | ((with_reducible apply ld_blk); exact rfl) | (with_reducible apply ld_skip))); done))) | apply VBr.t | apply VBr.f | (apply v_t; omega) | (apply v_f; omega) | (apply VNew.mk; intro g hg)); (conv => whnf))))
   ((apply VRet.mk); refine ret1 (by first | exact .inl rfl | exact .inr rfl) rfl (by exact rv_tmp rfl) ?_; exact fun w h => ⟨rfl, h.base⟩)
 ·rw [decide_eq_false (by omega)]
  ((conv => whnf); (repeat ((first | (apply VLd.mk; (focus ((repeat (first | ((with_reducible apply ld_blk); exact rfl) | (with_reducible apply ld_skip))); done))) | apply VBr.f | (apply v_f; omega) | (apply VNew.mk; intro g hg)); (conv => whnf))))
  ((apply VRet.mk); refine ret1 (by first | exact .inl rfl | exact .inr rfl) rfl (by exact rv_tmp rfl) ?_; exact fun w h => ⟨rfl, h.base⟩)
/-- A number is within a range. -/
def inR (x : R2) (n : Int) : Bool := decide (x.1 ≤ n ∧ n ≤ x.2)
set_option maxRecDepth 20000 in
theorem refWithin_any {b : Bool} (x1 x2 n : Int) (w : World) (hb : inR (x1, x2) n = b) : Calls Try.prog 68 #[.int .i64 n, .agg #[.int .i64 x1, .int .i64 x2]] w fun e w' => e = .returned (.bool b) ∧ Below w.heap.size w w' := by
 subst hb
 unfold inR
 dsimp only
 refine fn_v tk (n := 15) (A := []) Try.func68 rfl rfl (Nat.le_of_ble_eq_true rfl) (St.nil (Below.refl _ _)) ?_
 by_cases e1 : x1 ≤ n
 ·by_cases e2 : n ≤ x2
  ·rw [decide_eq_true ⟨e1, e2⟩]
   ((conv => whnf); (repeat ((first | (apply VLd.mk; (focus ((repeat (first | ((with_reducible apply ld_blk); exact rfl) | (with_reducible apply ld_skip))); done))) | apply VBr.t | (apply v_t; omega) | (apply VNew.mk; intro g hg)); (conv => whnf))))
   ((apply VRet.mk); refine ret1 (by first | exact .inl rfl | exact .inr rfl) rfl (by exact rv_tmp rfl) ?_; exact fun w h => ⟨rfl, h.base⟩)
  ·rw [decide_eq_false (by omega)]
   ((conv => whnf); (repeat ((first | (apply VLd.mk; (focus ((repeat (first | ((with_reducible apply ld_blk); exact rfl) | (with_reducible apply ld_skip))); done))) | apply VBr.t | (apply v_t; omega) | (apply v_f; omega) | (apply VNew.mk; intro g hg)); (conv => whnf))))
   ((apply VRet.mk); refine ret1 (by first | exact .inl rfl | exact .inr rfl) rfl (by exact rv_tmp rfl) ?_; exact fun w h => ⟨rfl, h.base⟩)
 ·rw [decide_eq_false (by omega)]
  ((conv => whnf); (repeat ((first | (apply VLd.mk; (focus ((repeat (first | ((with_reducible apply ld_blk); exact rfl) | (with_reducible apply ld_skip))); done))) | apply VBr.f | (apply v_f; omega) | (apply VNew.mk; intro g hg)); (conv => whnf))))
  ((apply VRet.mk); refine ret1 (by first | exact .inl rfl | exact .inr rfl) rfl (by exact rv_tmp rfl) ?_; exact fun w h => ⟨rfl, h.base⟩)
section
variable (RA : Option Addr) (rc : Nat) (CA : Option Addr) (cc : Nat) (XA : Option Addr) (xc : Nat) (R C : List R2) (X : List (List R2)) (w : World) (hT : TabR w RA CA XA R C X)
include hT
set_option maxHeartbeats 2000000 in
set_option maxRecDepth 20000 in
theorem refTable_any (hF : FitT R C X) : Calls Try.prog 20 #[tabV RA rc CA cc XA xc R C X] w fun e w' => e = .returned (.int .i64 (chkTab R C X)) ∧ Below w.heap.size w w' := by
 unfold tabV
 obtain ⟨hr7, hc7, hx7, ha7⟩ := hF
 refine fn_v tk (n := 86) (A := []) Try.func20 rfl rfl (Nat.le_of_ble_eq_true rfl) (St.nil (Below.refl _ _)) ?_
 by_cases hn : 1 ≤ R.length ∧ R.length ≤ 4 ∧ 1 ≤ C.length ∧ C.length ≤ 4
 rotate_left
 ·rw [chk6 hn]
  by_cases e1 : (R.length : Int) < 1
  ·((conv => whnf); (repeat ((first | (apply VStop.mk; refine tr_region_lex (id := 1) (by kernel_rfl) [.rd, .rd, .rd, .rd, .rd, .rd, .rd, .rd] rfl (by kernel_rfl) ?_; apply ot_v tk) | (apply VLd.mk; (focus ((repeat (first | ((with_reducible apply ld_blk); exact rfl) | (with_reducible apply ld_skip))); done))) | apply VBr.t | (apply v_t; omega) | (apply VNew.mk; intro g hg)); (conv => whnf))))
   ((apply VRet.mk); refine ret1 (by first | exact .inl rfl | exact .inr rfl) rfl (by exact rv_tmp rfl) ?_; exact fun w h => ⟨rfl, h.base⟩)
  by_cases e2 : (R.length : Int) > 4
  ·((conv => whnf); (repeat ((first | (apply VStop.mk; refine tr_region_lex (id := 1) (by kernel_rfl) [.rd, .rd, .rd, .rd, .rd, .rd, .rd, .rd] rfl (by kernel_rfl) ?_; apply ot_v tk) | (apply VLd.mk; (focus ((repeat (first | ((with_reducible apply ld_blk); exact rfl) | (with_reducible apply ld_skip))); done))) | apply VBr.t | apply VBr.f | (apply v_t; omega) | (apply v_f; omega) | (apply VNew.mk; intro g hg)); (conv => whnf))))
   ((apply VRet.mk); refine ret1 (by first | exact .inl rfl | exact .inr rfl) rfl (by exact rv_tmp rfl) ?_; exact fun w h => ⟨rfl, h.base⟩)
  by_cases e3 : (C.length : Int) < 1
  ·((conv => whnf); (repeat ((first | (apply VStop.mk; refine tr_region_lex (id := 1) (by kernel_rfl) [.rd, .rd, .rd, .rd, .rd, .rd, .rd, .rd] rfl (by kernel_rfl) ?_; apply ot_v tk) | (apply VLd.mk; (focus ((repeat (first | ((with_reducible apply ld_blk); exact rfl) | (with_reducible apply ld_skip))); done))) | apply VBr.t | apply VBr.f | (apply v_t; omega) | (apply v_f; omega) | (apply VNew.mk; intro g hg)); (conv => whnf))))
   ((apply VRet.mk); refine ret1 (by first | exact .inl rfl | exact .inr rfl) rfl (by exact rv_tmp rfl) ?_; exact fun w h => ⟨rfl, h.base⟩)
  have e4 : (C.length : Int) > 4 := by omega
  ((conv => whnf); (repeat ((first | (apply VStop.mk; refine tr_region_lex (id := 1) (by kernel_rfl) [.rd, .rd, .rd, .rd, .rd, .rd, .rd, .rd] rfl (by kernel_rfl) ?_; apply ot_v tk) | (apply VLd.mk; (focus ((repeat (first | ((with_reducible apply ld_blk); exact rfl) | (with_reducible apply ld_skip))); done))) | apply VBr.t | apply VBr.f | (apply v_t; omega) | (apply v_f; omega) | (apply VNew.mk; intro g hg)); (conv => whnf))))
  ((apply VRet.mk); refine ret1 (by first | exact .inl rfl | exact .inr rfl) rfl (by exact rv_tmp rfl) ?_; exact fun w h => ⟨rfl, h.base⟩)
 obtain ⟨rb, ro, rfl, _⟩ := hT.r.2 (by omega)
 obtain ⟨cb, co, rfl, _⟩ := hT.c.2 (by omega)
 by_cases hx : X.length = R.length
 rotate_left
 ·rw [chk15 hn (.inl hx)]
  ((conv => whnf); (repeat ((first | (apply VStop.mk; refine tr_region_lex (id := 1) (by kernel_rfl) [.rd, .rd, .rd, .rd, .rd, .rd, .rd, .rd] rfl (by kernel_rfl) ?_; apply ot_v tk) | (apply VLd.mk; (focus ((repeat (first | ((with_reducible apply ld_blk); exact rfl) | (with_reducible apply ld_skip))); done))) | apply VBr.t | apply VBr.f | (apply v_t; omega) | (apply v_f; omega) | (apply VNew.mk; intro g hg)); (conv => whnf))))
  ((apply VRet.mk); refine ret1 (by first | exact .inl rfl | exact .inr rfl) rfl (by exact rv_tmp rfl) ?_; exact fun w h => ⟨rfl, h.base⟩)
 obtain ⟨xb, xo, rfl, _⟩ := (show ∃ xb xo, XA = some ⟨xb, xo, none⟩ ∧ True by
  obtain ⟨b, o, he, _⟩ := nest_gen hT.x (show 0 < X.length by omega)
  exact ⟨b, o, he, trivial⟩)
 ((conv => whnf); (repeat ((first | (apply VStop.mk; refine tr_region_lex (id := 1) (by kernel_rfl) [.rd, .rd, .rd, .rd, .rd, .rd, .rd, .rd] rfl (by kernel_rfl) ?_; apply ot_v tk) | (apply VLd.mk; (focus ((repeat (first | ((with_reducible apply ld_blk); exact rfl) | (with_reducible apply ld_skip))); done))) | apply VBr.f | (apply v_f; omega) | (apply VNew.mk; intro g hg)); (conv => whnf))); apply VStop.mk)
 refine v_loop (fun gm ds ts A => ds = [] ∧ ∃ j, j + gm = R.length ∧ (∀ i (hi : i < X.length), i < j → X[i].length = C.length) ∧ A = [.blk g 25 [.slice (some ⟨rb, ro, none⟩) R.length rc, .slice (some ⟨cb, co, none⟩) C.length cc, .slice (some ⟨xb, xo, none⟩) X.length xc]] ∧ ts = [(1, .pointer (some ⟨g, 0, none⟩)), (3, .int .i64 (R.length : Int)), (4, .int .i64 (C.length : Int)), (5, .int .i64 (j : Int))]) R.length
  (l := [(1, _), (3, _), (4, _), (5, _)]) (B := [_]) ?_ (by (repeat (first | exact sl0 _ | exact sl1 _ | refine sl2 _ ?_ | refine sl3 _ ?_))) ⟨rfl, 0, by omega, fun i _ h => absurd h (by omega), rfl, rfl⟩ ?_
 ·exact ⟨rfl, rfl, rfl, rfl, trivial⟩
 rintro gm ds ts A ⟨rfl, j, hj, hall, rfl, rfl⟩
 by_cases hlt : j < R.length
 ·have hjx : j < X.length := by omega
  obtain ⟨_, _, he, B, c', hce, _⟩ := nest_gen hT.x hjx
  cases he
  by_cases he : X[j].length = C.length
  ·(apply tr_v tk; (conv => whnf); (repeat ((first | (apply VIx.mk (j := j); exact rfl; omega) | (apply VLd.mk; first | exact hce _) | (apply VLd.mk; (focus ((repeat (first | ((with_reducible apply ld_blk); exact rfl) | (with_reducible apply ld_skip))); done))) | (apply VRng.mk; omega) | apply VBr.t | apply VBr.f | (apply v_t; omega) | (apply v_f; omega)); (conv => whnf))))
   exact v_rnd (gm - 1) (by omega) (l := [(1, _), (3, _), (4, _), (5, _)]) (B := [_]) ⟨rfl, rfl, rfl, rfl, trivial⟩ (by (repeat (first | exact sl0 _ | exact sl1 _ | refine sl2 _ ?_ | refine sl3 _ ?_))) ⟨rfl, j + 1, by omega, fun i hi h => (by
    rcases Nat.lt_or_ge i j with h1 | h1
    ·exact hall i hi h1
    ·obtain rfl : i = j := by omega
     exact he), rfl, rfl⟩
  ·rw [chk15 hn (.inr ⟨_, List.getElem_mem hjx, he⟩)]
   (apply tr_v tk; (conv => whnf); (repeat ((first | (apply VIx.mk (j := j); exact rfl; omega) | (apply VLd.mk; first | exact hce _) | (apply VLd.mk; (focus ((repeat (first | ((with_reducible apply ld_blk); exact rfl) | (with_reducible apply ld_skip))); done))) | apply VBr.t | (apply v_t; omega)); (conv => whnf))))
   ((apply VRet.mk); refine ret1 (by first | exact .inl rfl | exact .inr rfl) rfl (by exact rv_tmp rfl) ?_; exact fun w h => ⟨rfl, h.base⟩)
 have hs : ∀ s ∈ X, s.length = C.length := fun s hs => by
  obtain ⟨i, hi, rfl⟩ := List.mem_iff_getElem.1 hs
  exact hall i hi (by omega)
 clear hall
 (apply tr_v tk; (conv => whnf); (repeat ((first | apply VBr.f | (apply v_f; omega)); (conv => whnf))); apply VStop.mk)
 clear hj hlt
 refine v_loop (fun gm ds ts A => ds = [] ∧ ∃ j, j + gm = R.length ∧ (∀ i, i < j → rangeB 48 (rAt R i) = true) ∧ (∀ i k, i < j → k < C.length → rangeB 12 (xAt X i k) = true) ∧ A = [.blk g 25 [.slice (some ⟨rb, ro, none⟩) R.length rc, .slice (some ⟨cb, co, none⟩) C.length cc, .slice (some ⟨xb, xo, none⟩) X.length xc]] ∧ ts = [(1, .pointer (some ⟨g, 0, none⟩)), (3, .int .i64 (R.length : Int)), (4, .int .i64 (C.length : Int)), (6, .int .i64 (j : Int))]) R.length
  (l := [(1, _), (3, _), (4, _), (6, _)]) (B := [_]) ?_ (by (repeat (first | exact sl0 _ | exact sl1 _ | refine sl2 _ ?_ | refine sl3 _ ?_))) ⟨rfl, 0, by omega, fun i h => absurd h (by omega), fun i _ h => absurd h (by omega), rfl, rfl⟩ ?_
 ·exact ⟨rfl, rfl, rfl, rfl, trivial⟩
 rintro gm ds ts A ⟨rfl, j, hj, hR, hX, rfl, rfl⟩
 by_cases hlt : j < R.length
 ·have hrc := hT.row hlt
  cases hb : rangeB 48 (rAt R j) with
  | false =>
   rw [chk3 hn hx hs (.inl ⟨j, hlt, hb⟩)]
   (apply tr_v tk; (conv => whnf); (repeat ((first | (apply VIx.mk (j := j); exact rfl; omega) | (apply VLdN.mk; (first | exact hrc _); exact rfl) | (apply VCall.q; kernel_rfl; (focus (intro w1 hs; first | with_reducible apply refRange_any _ _ _ w1 hb))) | (apply VLd.mk; (focus ((repeat (first | ((with_reducible apply ld_blk); exact rfl) | (with_reducible apply ld_skip))); done))) | apply VBr.t | (apply v_t; omega)); (conv => whnf))))
   ((apply VRet.mk); refine ret1 (by first | exact .inl rfl | exact .inr rfl) rfl (by exact rv_tmp rfl) ?_; exact fun w h => ⟨rfl, h.base⟩)
  | true =>
  (apply tr_v tk; (conv => whnf); (repeat ((first | (apply VIx.mk (j := j); exact rfl; omega) | (apply VLdN.mk; (first | exact hrc _); exact rfl) | (apply VCall.q; kernel_rfl; (focus (intro w1 hs; first | with_reducible apply refRange_any _ _ _ w1 hb))) | (apply VLd.mk; (focus ((repeat (first | ((with_reducible apply ld_blk); exact rfl) | (with_reducible apply ld_skip))); done))) | apply VBr.t | apply VBr.f | (apply v_t; omega)); (conv => whnf))); apply VStop.mk)
  refine v_loop (fun gm ds ts A => ds = [] ∧ ∃ k, k + gm = C.length ∧ (∀ k', k' < k → rangeB 12 (xAt X j k') = true) ∧ A = [.blk g 25 [.slice (some ⟨rb, ro, none⟩) R.length rc, .slice (some ⟨cb, co, none⟩) C.length cc, .slice (some ⟨xb, xo, none⟩) X.length xc]] ∧ ts = [(1, .pointer (some ⟨g, 0, none⟩)), (3, .int .i64 (R.length : Int)), (4, .int .i64 (C.length : Int)), (6, .int .i64 (j : Int)), (7, .int .i64 (k : Int))]) C.length
   (l := [(1, _), (3, _), (4, _), (6, _), (7, _)]) (B := [_]) ?_ (by (repeat (first | exact sl0 _ | exact sl1 _ | refine sl2 _ ?_ | refine sl3 _ ?_))) ⟨rfl, 0, by omega, fun i h => absurd h (by omega), rfl, rfl⟩ ?_
  ·exact ⟨rfl, rfl, rfl, rfl, rfl, trivial⟩
  rintro gm2 ds ts A ⟨rfl, k, hk, hK, rfl, rfl⟩
  by_cases hkt : k < C.length
  ·have hjx : j < X.length := by omega
   have hle := hs _ (List.getElem_mem hjx)
   obtain ⟨B2, o2, c', hce, hcx⟩ := hT.cell hjx (show k < X[j].length by omega)
   cases hb : rangeB 12 (xAt X j k) with
   | false =>
    rw [chk3 hn hx hs (.inr (.inr ⟨j, k, hlt, hkt, hb⟩))]
    (apply tr_v tk; (conv => whnf); (repeat ((first | (apply VIx.mk (j := j); exact rfl; omega) | (apply VIx.mk (j := k); exact rfl; omega) | (apply VLd.mk; first | exact hce _) | (apply VLdN.mk; (first | exact hcx _); exact rfl) | (apply VCall.q; kernel_rfl; (focus (intro w1 hs; first | with_reducible apply refRange_any _ _ _ w1 hb))) | (apply VLd.mk; (focus ((repeat (first | ((with_reducible apply ld_blk); exact rfl) | (with_reducible apply ld_skip))); done))) | apply VBr.t | (apply v_t; omega)); (conv => whnf))))
    ((apply VRet.mk); refine ret1 (by first | exact .inl rfl | exact .inr rfl) rfl (by exact rv_tmp rfl) ?_; exact fun w h => ⟨rfl, h.base⟩)
   | true =>
   (apply tr_v tk; (conv => whnf); (repeat ((first | (apply VIx.mk (j := j); exact rfl; omega) | (apply VIx.mk (j := k); exact rfl; omega) | (apply VLd.mk; first | exact hce _) | (apply VLdN.mk; (first | exact hcx _); exact rfl) | (apply VCall.q; kernel_rfl; (focus (intro w1 hs; first | with_reducible apply refRange_any _ _ _ w1 hb))) | (apply VLd.mk; (focus ((repeat (first | ((with_reducible apply ld_blk); exact rfl) | (with_reducible apply ld_skip))); done))) | (apply VRng.mk; omega) | apply VBr.t | apply VBr.f | (apply v_t; omega)); (conv => whnf))))
   exact v_rnd (gm2 - 1) (by omega) (l := [(1, _), (3, _), (4, _), (6, _), (7, _)]) (B := [_]) ⟨rfl, rfl, rfl, rfl, rfl, trivial⟩ (by (repeat (first | exact sl0 _ | exact sl1 _ | refine sl2 _ ?_ | refine sl3 _ ?_))) ⟨rfl, k + 1, by omega, fun i h => (by
    rcases Nat.lt_or_ge i k with h1 | h1
    ·exact hK i h1
    ·obtain rfl : i = k := by omega
     exact hb), rfl, rfl⟩
  ·(apply tr_v tk; (conv => whnf); (repeat ((first | (apply VRng.mk; omega) | apply VBr.f | (apply v_f; omega)); (conv => whnf))))
   exact v_rnd (gm - 1) (by omega) (l := [(1, _), (3, _), (4, _), (6, _)]) (B := [_]) ⟨rfl, rfl, rfl, rfl, trivial⟩ (by (repeat (first | exact sl0 _ | exact sl1 _ | refine sl2 _ ?_ | refine sl3 _ ?_))) ⟨rfl, j + 1, by omega, fun i h => (by
    rcases Nat.lt_or_ge i j with h1 | h1
    ·exact hR i h1
    ·obtain rfl : i = j := by omega
     exact hb), fun i k' h h' => (by
    rcases Nat.lt_or_ge i j with h1 | h1
    ·exact hX i k' h1 h'
    ·obtain rfl : i = j := by omega
     exact hK k' (by omega)), rfl, rfl⟩
 have hR' : ∀ i, i < R.length → rangeB 48 (rAt R i) = true := fun i h => hR i (by omega)
 have hX' : ∀ i k, i < R.length → k < C.length → rangeB 12 (xAt X i k) = true := fun i k h h' => hX i k (by omega) h'
 clear hR hX
 (apply tr_v tk; (conv => whnf); (repeat ((first | apply VBr.f | (apply v_f; omega)); (conv => whnf))); apply VStop.mk)
 clear hj hlt
 refine v_loop (fun gm ds ts A => ds = [] ∧ ∃ j, j + gm = C.length ∧ (∀ i, i < j → rangeB 48 (rAt C i) = true) ∧ A = [.blk g 25 [.slice (some ⟨rb, ro, none⟩) R.length rc, .slice (some ⟨cb, co, none⟩) C.length cc, .slice (some ⟨xb, xo, none⟩) X.length xc]] ∧ ts = [(1, .pointer (some ⟨g, 0, none⟩)), (4, .int .i64 (C.length : Int)), (8, .int .i64 (j : Int))]) C.length
  (l := [(1, _), (4, _), (8, _)]) (B := [_]) ?_ (by (repeat (first | exact sl0 _ | exact sl1 _ | refine sl2 _ ?_ | refine sl3 _ ?_))) ⟨rfl, 0, by omega, fun i h => absurd h (by omega), rfl, rfl⟩ ?_
 ·exact ⟨rfl, rfl, rfl, trivial⟩
 rintro gm ds ts A ⟨rfl, j, hj, hC, rfl, rfl⟩
 by_cases hlt : j < C.length
 ·have hrc := hT.col hlt
  cases hb : rangeB 48 (rAt C j) with
  | false =>
   rw [chk3 hn hx hs (.inr (.inl ⟨j, hlt, hb⟩))]
   (apply tr_v tk; (conv => whnf); (repeat ((first | (apply VIx.mk (j := j); exact rfl; omega) | (apply VLdN.mk; (first | exact hrc _); exact rfl) | (apply VCall.q; kernel_rfl; (focus (intro w1 hs; first | with_reducible apply refRange_any _ _ _ w1 hb))) | (apply VLd.mk; (focus ((repeat (first | ((with_reducible apply ld_blk); exact rfl) | (with_reducible apply ld_skip))); done))) | apply VBr.t | (apply v_t; omega)); (conv => whnf))))
   ((apply VRet.mk); refine ret1 (by first | exact .inl rfl | exact .inr rfl) rfl (by exact rv_tmp rfl) ?_; exact fun w h => ⟨rfl, h.base⟩)
  | true =>
  (apply tr_v tk; (conv => whnf); (repeat ((first | (apply VIx.mk (j := j); exact rfl; omega) | (apply VLdN.mk; (first | exact hrc _); exact rfl) | (apply VCall.q; kernel_rfl; (focus (intro w1 hs; first | with_reducible apply refRange_any _ _ _ w1 hb))) | (apply VLd.mk; (focus ((repeat (first | ((with_reducible apply ld_blk); exact rfl) | (with_reducible apply ld_skip))); done))) | (apply VRng.mk; omega) | apply VBr.t | apply VBr.f | (apply v_t; omega)); (conv => whnf))))
  exact v_rnd (gm - 1) (by omega) (l := [(1, _), (4, _), (8, _)]) (B := [_]) ⟨rfl, rfl, rfl, trivial⟩ (by (repeat (first | exact sl0 _ | exact sl1 _ | refine sl2 _ ?_ | refine sl3 _ ?_))) ⟨rfl, j + 1, by omega, fun i h => (by
    rcases Nat.lt_or_ge i j with h1 | h1
    ·exact hC i h1
    ·obtain rfl : i = j := by omega
     exact hb), rfl, rfl⟩
 rw [chk0 ⟨hn.1, hn.2.1, hn.2.2.1, hn.2.2.2, hx, hs, hR', fun i h => hC i (by omega), hX'⟩]
 (apply tr_v tk; (conv => whnf); (repeat ((first | apply VBr.f | (apply v_f; omega)); (conv => whnf))))
 ((apply VRet.mk); refine ret1 (by first | exact .inl rfl | exact .inr rfl) rfl (by exact rv_tmp rfl) ?_; exact fun w h => ⟨rfl, h.base⟩)
end
end Go.Proofs.Ytalcccgialpjgaa
