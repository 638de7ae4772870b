/- Layer 3, blends: Corners are lots: lemmas for the rows of this seat. No conditions. -/
import Derived.Test.YtfjnnegaljfkgaaProg
import Derived.Test.YtfjnnegaljfkgaaBase
import Derived.Test.YtfjnnegaljfkgaaPlain
import Derived.Test.YtfjnnegaljfkgaaWA
import Derived.Test.YtfjnnegaljfkgaaSeg
import Derived.Test.YtfjnnegaljfkgaaKeys
import Derived.Test.YtfjnnegaljfkgaaW20
import Derived.Test.YtfjnnegaljfkgaaW21
import Derived.Test.YtfjnnegaljfkgaaW22
import Derived.Test.YtfjnnegaljfkgaaS1
import Derived.Test.YtfjnnegaljfkgaaS5
import Derived.Test.YtfjnnegaljfkgaaS12
import Derived.Test.YtfjnnegaljfkgaaTab
import Derived.Test.YtfjnnegaljfkgaaS14
import Derived.Test.YtfjnnegaljfkgaaArms
import Derived.Test.YtfjnnegaljfkgaaWE
import Derived.Test.YtfjnnegaljfkgaaB1
import Derived.Test.YtfjnnegaljfkgaaB2
import Derived.Test.YtfjnnegaljfkgaaB3
import Derived.Test.YtfjnnegaljfkgaaB4
import Derived.Test.YtfjnnegaljfkgaaB5
import Derived.Test.YtfjnnegaljfkgaaB6
import Derived.Test.YtfjnnegaljfkgaaB7
import Derived.Test.YtfjnnegaljfkgaaB8
import Derived.Test.YtfjnnegaljfkgaaB9
set_option linter.all false
namespace Go.Proofs.Ytfjnnegaljfkgaa
open Go.RowKit
/-! ## Corners are lots -/
/-- Lay theorems by their runs: a least price is a lot's. -/
theorem leastUpto_lot {xs : List (Int × Int)} (hg : ∀ j, j < xs.length → lotBad (lotAt xs j) = false) : ∀ k, k ≤ xs.length → ∀ t : Nat, t < 101 → (leastUpto xs k)[t]?.getD 0 = 1001 ∨ ∃ j, j < k ∧ lotAt xs j = ((t : Int), (leastUpto xs k)[t]?.getD 0) := by
  intro k
  induction k with
  | zero =>
    intro _ t ht
    left
    simp only [leastUpto]
    rw [List.getElem?_replicate, if_pos ht]; rfl
  | succ k ih =>
    intro hk t ht
    have h1 := not_lotBad.1 (hg k (by omega))
    have h2 := ih (by omega) t ht
    simp only [leastUpto, leastStep]
    by_cases e : (lotAt xs k).1.toNat = t
    · subst e
      rw [List.getElem?_set_self (by rw [leastUpto_length]; omega), Option.getD_some]
      by_cases hle : (leastUpto xs k)[(lotAt xs k).1.toNat]?.getD 0 ≤ (lotAt xs k).2
      · rw [Int.min_eq_left hle]
        rcases h2 with h2 | ⟨j, hj, h3⟩
        · exact .inl h2
        · exact .inr ⟨j, by omega, h3⟩
      · rw [Int.min_eq_right (by omega)]
        refine .inr ⟨k, by omega, Prod.ext ?_ rfl⟩
        show (lotAt xs k).1 = (((lotAt xs k).1.toNat : Nat) : Int)
        clear h2
        omega
    · rw [List.getElem?_set_ne e]
      rcases h2 with h2 | ⟨j, hj, h3⟩
      · exact .inl h2
      · exact .inr ⟨j, by omega, h3⟩
theorem firstUpto_sound (xs : List (Int × Int)) : ∀ k, ∀ e ∈ firstUpto xs k, e.2 < k ∧ lotAt xs e.2 = e.1 := by
  intro k
  induction k with
  | zero => intro e he; cases he
  | succ k ih =>
    intro e he
    unfold firstUpto at he
    split at he
    · have := ih e he; exact ⟨by omega, this.2⟩
    · rcases List.mem_append.1 he with h | h
      · have := ih e h; exact ⟨by omega, this.2⟩
      · rw [List.mem_singleton] at h; subst h; exact ⟨by simp, rfl⟩
theorem firstUpto_all (xs : List (Int × Int)) : ∀ k j, j < k → ∃ e ∈ firstUpto xs k, e.1 = lotAt xs j := by
  intro k
  induction k with
  | zero => intro j hj; omega
  | succ k ih =>
    intro j hj
    unfold firstUpto
    by_cases h : (firstUpto xs k).any (fun p => decide (p.1 = lotAt xs k)) = true
    · rw [if_pos h]
      by_cases e : j = k
      · subst e
        obtain ⟨p, hp, h2⟩ := List.any_eq_true.1 h
        exact ⟨p, hp, by simpa using h2⟩
      · exact ih j (by omega)
    · rw [if_neg h]
      by_cases e : j = k
      · subst e
        exact ⟨(lotAt xs j, j), by simp, rfl⟩
      · obtain ⟨p, hp, h2⟩ := ih j (by omega)
        exact ⟨p, by simp [hp], h2⟩
theorem firstIn_spec {xs : List (Int × Int)} {l : Int × Int} {j : Nat} (hj : j < xs.length) (hl : lotAt xs j = l) : firstIn (firstUpto xs xs.length) l < xs.length ∧ lotAt xs (firstIn (firstUpto xs xs.length) l) = l := by
  obtain ⟨e, he, h1⟩ := firstUpto_all xs xs.length j hj
  unfold firstIn
  cases hf : (firstUpto xs xs.length).find? (fun p => decide (p.1 = l)) with
  | none =>
    have := List.find?_eq_none.1 hf e he
    rw [h1, hl] at this
    simp at this
  | some p =>
    have h2 := List.mem_of_find?_eq_some hf
    have h3 := List.find?_some hf
    have h4 := firstUpto_sound xs xs.length p h2
    simp only [decide_eq_true_eq] at h3
    simp only [Option.map_some, Option.getD_some]
    exact ⟨h4.1, h4.2.trans h3⟩
def idxOk (xs : List (Int × Int)) (c : Corner) : Prop := 0 ≤ c.2.2 ∧ c.2.2 < xs.length ∧ lotAt xs c.2.2.toNat = (c.1, c.2.1)
theorem chain_idx {xs : List (Int × Int)} (hg : ∀ j, j < xs.length → lotBad (lotAt xs j) = false) : ∀ s, s ≤ 101 → ∀ c ∈ chainUpto (leastOf xs) (firstUpto xs xs.length) s, idxOk xs c := by
  intro s
  induction s with
  | zero => intro _ c hc; cases hc
  | succ s ih =>
    intro hs c hc
    unfold chainUpto at hc
    split at hc
    · exact ih (by omega) c hc
    · rename_i hne
      rcases List.mem_cons.1 hc with rfl | hc
      · rcases leastUpto_lot hg xs.length (Nat.le_refl _) s (by omega) with h | ⟨j, hj, h⟩
        · exact absurd h hne
        · obtain ⟨h1, h2⟩ := firstIn_spec hj h
          refine ⟨Int.natCast_nonneg _, Int.ofNat_lt.2 h1, ?_⟩
          show lotAt xs (Int.toNat ((_ : Nat) : Int)) = _
          rw [Int.toNat_natCast]
          exact h2
      · obtain ⟨r, hr⟩ := popAll_suffix ((s : Int), (leastOf xs)[s]?.getD 0, (firstIn (firstUpto xs xs.length) ((s : Int), (leastOf xs)[s]?.getD 0) : Int)) (chainUpto (leastOf xs) (firstUpto xs xs.length) s)
        exact ih (by omega) c (by rw [hr]; exact List.mem_append_right _ hc)
theorem Good.idx {xs : List (Int × Int)} (h : Good xs) : ∀ c ∈ chainOf xs, idxOk xs c := fun c hc => chain_idx h.lot 101 (Nat.le_refl _) c (List.mem_reverse.1 hc)
theorem mixScan_mem {t : Int} : ∀ (l : List Corner) (la : Option Corner) (m : MixT), mixScan t la l = some m → (m.1 ∈ l ∨ la = some m.1) ∧ m.2.1 ∈ l := by
  intro l
  induction l with
  | nil => intro la m hm; cases hm
  | cons c l ih =>
    intro la m hm
    unfold mixScan at hm
    split at hm
    · cases hm; exact ⟨.inl (.head _), .head _⟩
    · split at hm
      · cases la with
        | none => cases hm
        | some b => cases hm; exact ⟨.inr rfl, .head _⟩
      · obtain ⟨h1, h2⟩ := ih (some c) m hm
        refine ⟨?_, .tail _ h2⟩
        rcases h1 with h1 | h1
        · exact .inl (.tail _ h1)
        · cases h1; exact .inl (.head _)
/-! ## Last -/
def lastP (xs : List (Int × Int)) (t loss : Int) : Int × Int :=
  if openErr xs [t] ≠ 0 then (0, openErr xs [t]) else if ¬ (1 ≤ loss ∧ loss ≤ 100) then (0, 3) else if sharpestOf (chainOf xs) - t < 0 then (0, 19) else (Int.tdiv (sharpestOf (chainOf xs) - t) loss, 0)
theorem Good.sharpest {xs : List (Int × Int)} (h : Good xs) : 0 ≤ sharpestOf (chainOf xs) ∧ sharpestOf (chainOf xs) ≤ 100 := by
  have h1 := h.chain
  have hm : (chainOf xs)[(chainOf xs).length - 1]?.getD (0, 0, 0) ∈ chainOf xs := by
    rw [List.getElem?_eq_getElem (show (chainOf xs).length - 1 < (chainOf xs).length by omega)]
    exact List.getElem_mem _
  have := h.corner _ hm
  unfold okCorner at this
  exact ⟨this.1, this.2.1⟩
set_option maxHeartbeats 1000000 in
set_option maxRecDepth 20000 in
theorem last_any (Al : Option Addr) (c : Nat) (xs : List (Int × Int)) (t loss : Int) (w : World) (hr : Reads w w.heap.size 2 Al xs.length (pairCells xs)) (hm : xs.length ≤ maxLen) :
    Calls Try.prog 38 #[.slice Al xs.length c, .int .i64 t, .int .i64 loss] w fun e w' => e = .returned (.tuple #[.int .i64 (lastP xs t loss).1, .int .i64 (lastP xs t loss).2]) ∧ Below w.heap.size w w' := by
  refine fn_enter (n := 36) (A := []) Try.func38 rfl rfl (Nat.le_of_ble_eq_true rfl) (St.nil (Below.refl _ _)) ?_
  (repeat (first | (refine ot_any_ ?_; first | refine k_1 ?_ | refine k_2 ?_ | refine k_3 ?_ | refine k_4 ?_ | refine k_5 ?_ | refine k_6 ?_ | refine k_7 ?_ | refine k_8 ?_ | refine k_9 ?_ | refine k_10 ?_ | (refine ot_bin_ rfl ?_; first | refine k_11 ?_ | refine k_12 ?_ | refine k_13 ?_ | refine k_14 ?_ | refine k_15 ?_ | refine k_16 ?_ | refine k_17 ?_ | refine k_18 ?_ | refine k_19 ?_ | refine k_20 ?_ | refine k_21 ?_ | refine k_22 ?_ | refine k_23 ?_ | refine k_24 ?_ | refine k_25 ?_ | refine k_26 ?_ | refine k_27 ?_ | refine k_28 ?_ | refine k_29 ?_ | refine k_30 ?_ | refine k_31 ?_ | refine k_32 ?_ | refine k_33 ?_ | refine k_34 ?_ | refine k_35 ?_ | refine k_36 ?_ | refine k_37 ?_) | (refine ot_mem_ rfl ?_; first | (refine k_38 ?_; intro g hg) | (refine k_39 ?_; intro g hg) | refine k_40 ?_ | refine k_41 ?_ | (refine k_42 ?_; intro g hg) | refine k_43 ?_) | (refine ot_callb_ rfl ?_; first | refine k_44 ?_ | refine k_45 ?_ | refine k_46 ?_) | (refine ot_skip_ rfl ?_; first | refine ot_skip rfl rfl ?_ | refine ot_skip_none rfl rfl ?_)) | refine ot_nil ?_ | refine tr_seq ?_ | refine tr_block ?_ | refine tr_region_seq rfl ?_ | refine tr_skip ?_ | refine tr_label ?_ | refine tr_exit ?_ | refine tr_ret ?_ | refine tr_scope ?_ | refine tr_cond_t rfl ?_ | refine tr_cond_f rfl ?_ | refine otl_cons ?_ | refine otl_nil ?_ | refine slist_and (by (repeat (first | exact List.nil_sublist _ | exact List.Sublist.refl _ | refine List.Sublist.cons_cons _ ?_ | refine List.Sublist.cons _ ?_))) ?_))
  refine ot_open (by decide) rfl rfl rfl (evl_of rfl) hr hm (l := [t]) (fun w1 hs => hs.blk_reads (List.Mem.head _) rfl) (show (1 : Nat) ≤ maxLen by decide) (fun he => ?_) (fun he gs b o c3 hgs hlt hc3 => ?_)
  · have hres : lastP xs t loss = (0, openErr xs [t]) := if_pos he
    (repeat (first | (refine ot_any_ ?_; first | refine k_1 ?_ | refine k_2 ?_ | refine k_3 ?_ | refine k_4 ?_ | refine k_5 ?_ | refine k_6 ?_ | refine k_7 ?_ | refine k_8 ?_ | refine k_9 ?_ | refine k_10 ?_ | (refine ot_bin_ rfl ?_; first | refine k_11 ?_ | refine k_12 ?_ | refine k_13 ?_ | refine k_14 ?_ | refine k_15 ?_ | refine k_16 ?_ | refine k_17 ?_ | refine k_18 ?_ | refine k_19 ?_ | refine k_20 ?_ | refine k_21 ?_ | refine k_22 ?_ | refine k_23 ?_ | refine k_24 ?_ | refine k_25 ?_ | refine k_26 ?_ | refine k_27 ?_ | refine k_28 ?_ | refine k_29 ?_ | refine k_30 ?_ | refine k_31 ?_ | refine k_32 ?_ | refine k_33 ?_ | refine k_34 ?_ | refine k_35 ?_ | refine k_36 ?_ | refine k_37 ?_) | (refine ot_mem_ rfl ?_; first | (refine k_38 ?_; intro g hg) | (refine k_39 ?_; intro g hg) | refine k_40 ?_ | refine k_41 ?_ | (refine k_42 ?_; intro g hg) | refine k_43 ?_) | (refine ot_callb_ rfl ?_; first | refine k_44 ?_ | refine k_45 ?_ | refine k_46 ?_) | (refine ot_skip_ rfl ?_; first | refine ot_skip rfl rfl ?_ | refine ot_skip_none rfl rfl ?_)) | refine ot_nil ?_ | refine tr_seq ?_ | refine tr_block ?_ | refine tr_region_seq rfl ?_ | refine tr_skip ?_ | refine tr_label ?_ | refine tr_exit ?_ | refine tr_ret ?_ | refine tr_scope ?_ | refine tr_cond_t rfl ?_ | refine tr_cond_f rfl ?_ | refine otl_cons ?_ | refine otl_nil ?_ | refine slist_and (by (repeat (first | exact List.nil_sublist _ | exact List.Sublist.refl _ | refine List.Sublist.cons_cons _ ?_ | refine List.Sublist.cons _ ?_))) ?_))
    refine ret2 (by first | exact .inl rfl | exact .inr rfl) rfl (by first | exact rv_tmp rfl | exact rv_row Try.tabOk rfl rfl rfl (by first | exact cells_blk_all (by (repeat (first | exact List.Mem.head _ | assumption | refine List.Mem.tail _ ?_))) | exact cells_row0 (by (repeat (first | exact List.Mem.head _ | assumption | refine List.Mem.tail _ ?_)))) rfl | exact rv_sc Try.tabOk rfl rfl rfl (by first | exact cell_blk (by (repeat (first | exact List.Mem.head _ | assumption | refine List.Mem.tail _ ?_))) (by rfl) | exact cell_row (by (repeat (first | exact List.Mem.head _ | assumption | refine List.Mem.tail _ ?_))) (by rfl) | exact cell_own (by (repeat (first | exact List.Mem.head _ | assumption | refine List.Mem.tail _ ?_))) (by rfl) | exact cell_row0 (by (repeat (first | exact List.Mem.head _ | assumption | refine List.Mem.tail _ ?_))) (by rfl) | assumption | exact CellAt.base (by assumption))) (by first | exact rv_tmp rfl | exact rv_row Try.tabOk rfl rfl rfl (by first | exact cells_blk_all (by (repeat (first | exact List.Mem.head _ | assumption | refine List.Mem.tail _ ?_))) | exact cells_row0 (by (repeat (first | exact List.Mem.head _ | assumption | refine List.Mem.tail _ ?_)))) rfl | exact rv_sc Try.tabOk rfl rfl rfl (by first | exact cell_blk (by (repeat (first | exact List.Mem.head _ | assumption | refine List.Mem.tail _ ?_))) (by rfl) | exact cell_row (by (repeat (first | exact List.Mem.head _ | assumption | refine List.Mem.tail _ ?_))) (by rfl) | exact cell_own (by (repeat (first | exact List.Mem.head _ | assumption | refine List.Mem.tail _ ?_))) (by rfl) | exact cell_row0 (by (repeat (first | exact List.Mem.head _ | assumption | refine List.Mem.tail _ ?_))) (by rfl) | assumption | exact CellAt.base (by assumption))) ?_
    exact fun w h => ⟨by rw [hres], h.base⟩
  · obtain ⟨hG, ht⟩ := openErr_one he
    have hz : ¬ openErr xs [t] ≠ 0 := by simpa using he
    have hs1 := hG.sharpest
    have hw1 := within_one 1 100 loss
    have hres : lastP xs t loss = if ¬ (1 ≤ loss ∧ loss ≤ 100) then (0, 3) else if sharpestOf (chainOf xs) - t < 0 then (0, 19) else (Int.tdiv (sharpestOf (chainOf xs) - t) loss, 0) := if_neg hz
    have hsp := fun w1 hS => sharpest_any gs Al c xs w1 hS hG.chain (leastUpto_length _ _)
    (repeat (first | (refine ot_any_ ?_; first | refine k_1 ?_ | refine k_2 ?_ | refine k_3 ?_ | refine k_4 ?_ | refine k_5 ?_ | refine k_6 ?_ | refine k_7 ?_ | refine k_8 ?_ | refine k_9 ?_ | refine k_10 ?_ | (refine ot_bin_ rfl ?_; first | refine k_11 ?_ | refine k_12 ?_ | refine k_13 ?_ | refine k_14 ?_ | refine k_15 ?_ | refine k_16 ?_ | refine k_17 ?_ | refine k_18 ?_ | refine k_19 ?_ | refine k_20 ?_ | refine k_21 ?_ | refine k_22 ?_ | refine k_23 ?_ | refine k_24 ?_ | refine k_25 ?_ | refine k_26 ?_ | refine k_27 ?_ | refine k_28 ?_ | refine k_29 ?_ | refine k_30 ?_ | refine k_31 ?_ | refine k_32 ?_ | refine k_33 ?_ | refine k_34 ?_ | refine k_35 ?_ | refine k_36 ?_ | refine k_37 ?_) | (refine ot_mem_ rfl ?_; first | (refine k_38 ?_; intro g hg) | (refine k_39 ?_; intro g hg) | refine k_40 ?_ | refine k_41 ?_ | (refine k_42 ?_; intro g hg) | refine k_43 ?_) | (refine ot_callb_ rfl ?_; first | refine k_44 ?_ | refine k_45 ?_ | refine k_46 ?_) | (refine ot_skip_ rfl ?_; first | refine ot_skip rfl rfl ?_ | refine ot_skip_none rfl rfl ?_)) | refine ot_nil ?_ | refine tr_seq ?_ | refine tr_block ?_ | refine tr_region_seq rfl ?_ | refine tr_skip ?_ | refine tr_label ?_ | refine tr_exit ?_ | refine tr_ret ?_ | refine tr_scope ?_ | refine tr_cond_t rfl ?_ | refine tr_cond_f rfl ?_ | refine otl_cons ?_ | refine otl_nil ?_ | refine slist_and (by (repeat (first | exact List.nil_sublist _ | exact List.Sublist.refl _ | refine List.Sublist.cons_cons _ ?_ | refine List.Sublist.cons _ ?_))) ?_))
    refine ot_call_q (v := .bool (within 1 100 [loss])) rfl rfl rfl (by kernel_rfl) (evl_of rfl) (fun w1 hs => within_any _ 1 [loss] 1 100 w1 (hs.blk_reads (List.Mem.head _) rfl) (show (1 : Nat) ≤ maxLen by decide)) ?_
    by_cases h1 : 1 ≤ loss ∧ loss ≤ 100
    rotate_left
    · rw [show within 1 100 [loss] = false from by rw [hw1]; simp; omega]
      rw [if_pos h1] at hres
      (repeat (first | (refine ot_any_ ?_; first | refine k_1 ?_ | refine k_2 ?_ | refine k_3 ?_ | refine k_4 ?_ | refine k_5 ?_ | refine k_6 ?_ | refine k_7 ?_ | refine k_8 ?_ | refine k_9 ?_ | refine k_10 ?_ | (refine ot_bin_ rfl ?_; first | refine k_11 ?_ | refine k_12 ?_ | refine k_13 ?_ | refine k_14 ?_ | refine k_15 ?_ | refine k_16 ?_ | refine k_17 ?_ | refine k_18 ?_ | refine k_19 ?_ | refine k_20 ?_ | refine k_21 ?_ | refine k_22 ?_ | refine k_23 ?_ | refine k_24 ?_ | refine k_25 ?_ | refine k_26 ?_ | refine k_27 ?_ | refine k_28 ?_ | refine k_29 ?_ | refine k_30 ?_ | refine k_31 ?_ | refine k_32 ?_ | refine k_33 ?_ | refine k_34 ?_ | refine k_35 ?_ | refine k_36 ?_ | refine k_37 ?_) | (refine ot_mem_ rfl ?_; first | (refine k_38 ?_; intro g hg) | (refine k_39 ?_; intro g hg) | refine k_40 ?_ | refine k_41 ?_ | (refine k_42 ?_; intro g hg) | refine k_43 ?_) | (refine ot_callb_ rfl ?_; first | refine k_44 ?_ | refine k_45 ?_ | refine k_46 ?_) | (refine ot_skip_ rfl ?_; first | refine ot_skip rfl rfl ?_ | refine ot_skip_none rfl rfl ?_)) | refine ot_nil ?_ | refine tr_seq ?_ | refine tr_block ?_ | refine tr_region_seq rfl ?_ | refine tr_skip ?_ | refine tr_label ?_ | refine tr_exit ?_ | refine tr_ret ?_ | refine tr_scope ?_ | refine tr_cond_t rfl ?_ | refine tr_cond_f rfl ?_ | refine otl_cons ?_ | refine otl_nil ?_ | refine slist_and (by (repeat (first | exact List.nil_sublist _ | exact List.Sublist.refl _ | refine List.Sublist.cons_cons _ ?_ | refine List.Sublist.cons _ ?_))) ?_))
      refine ret2 (by first | exact .inl rfl | exact .inr rfl) rfl (by first | exact rv_tmp rfl | exact rv_row Try.tabOk rfl rfl rfl (by first | exact cells_blk_all (by (repeat (first | exact List.Mem.head _ | assumption | refine List.Mem.tail _ ?_))) | exact cells_row0 (by (repeat (first | exact List.Mem.head _ | assumption | refine List.Mem.tail _ ?_)))) rfl | exact rv_sc Try.tabOk rfl rfl rfl (by first | exact cell_blk (by (repeat (first | exact List.Mem.head _ | assumption | refine List.Mem.tail _ ?_))) (by rfl) | exact cell_row (by (repeat (first | exact List.Mem.head _ | assumption | refine List.Mem.tail _ ?_))) (by rfl) | exact cell_own (by (repeat (first | exact List.Mem.head _ | assumption | refine List.Mem.tail _ ?_))) (by rfl) | exact cell_row0 (by (repeat (first | exact List.Mem.head _ | assumption | refine List.Mem.tail _ ?_))) (by rfl) | assumption | exact CellAt.base (by assumption))) (by first | exact rv_tmp rfl | exact rv_row Try.tabOk rfl rfl rfl (by first | exact cells_blk_all (by (repeat (first | exact List.Mem.head _ | assumption | refine List.Mem.tail _ ?_))) | exact cells_row0 (by (repeat (first | exact List.Mem.head _ | assumption | refine List.Mem.tail _ ?_)))) rfl | exact rv_sc Try.tabOk rfl rfl rfl (by first | exact cell_blk (by (repeat (first | exact List.Mem.head _ | assumption | refine List.Mem.tail _ ?_))) (by rfl) | exact cell_row (by (repeat (first | exact List.Mem.head _ | assumption | refine List.Mem.tail _ ?_))) (by rfl) | exact cell_own (by (repeat (first | exact List.Mem.head _ | assumption | refine List.Mem.tail _ ?_))) (by rfl) | exact cell_row0 (by (repeat (first | exact List.Mem.head _ | assumption | refine List.Mem.tail _ ?_))) (by rfl) | assumption | exact CellAt.base (by assumption))) ?_
      exact fun w h => ⟨by rw [hres], h.base⟩
    · rw [show within 1 100 [loss] = true from by rw [hw1]; simp; omega]
      rw [if_neg (by simpa using h1)] at hres
      (repeat (first | (refine ot_any_ ?_; first | refine k_1 ?_ | refine k_2 ?_ | refine k_3 ?_ | refine k_4 ?_ | refine k_5 ?_ | refine k_6 ?_ | refine k_7 ?_ | refine k_8 ?_ | refine k_9 ?_ | refine k_10 ?_ | (refine ot_bin_ rfl ?_; first | refine k_11 ?_ | refine k_12 ?_ | refine k_13 ?_ | refine k_14 ?_ | refine k_15 ?_ | refine k_16 ?_ | refine k_17 ?_ | refine k_18 ?_ | refine k_19 ?_ | refine k_20 ?_ | refine k_21 ?_ | refine k_22 ?_ | refine k_23 ?_ | refine k_24 ?_ | refine k_25 ?_ | refine k_26 ?_ | refine k_27 ?_ | refine k_28 ?_ | refine k_29 ?_ | refine k_30 ?_ | refine k_31 ?_ | refine k_32 ?_ | refine k_33 ?_ | refine k_34 ?_ | refine k_35 ?_ | refine k_36 ?_ | refine k_37 ?_) | (refine ot_mem_ rfl ?_; first | (refine k_38 ?_; intro g hg) | (refine k_39 ?_; intro g hg) | refine k_40 ?_ | refine k_41 ?_ | (refine k_42 ?_; intro g hg) | refine k_43 ?_) | (refine ot_callb_ rfl ?_; first | refine k_44 ?_ | refine k_45 ?_ | refine k_46 ?_) | (refine ot_skip_ rfl ?_; first | refine ot_skip rfl rfl ?_ | refine ot_skip_none rfl rfl ?_)) | refine ot_nil ?_ | refine tr_seq ?_ | refine tr_block ?_ | refine tr_region_seq rfl ?_ | refine tr_skip ?_ | refine tr_label ?_ | refine tr_exit ?_ | refine tr_ret ?_ | refine tr_scope ?_ | refine tr_cond_t rfl ?_ | refine tr_cond_f rfl ?_ | refine otl_cons ?_ | refine otl_nil ?_ | refine slist_and (by (repeat (first | exact List.nil_sublist _ | exact List.Sublist.refl _ | refine List.Sublist.cons_cons _ ?_ | refine List.Sublist.cons _ ?_))) ?_))
      refine ot_call_q rfl rfl rfl (by kernel_rfl) (evl_of rfl) (fun w1 hs => hsp w1 (hs.shelf (by (repeat (first | exact List.Mem.head _ | assumption | refine List.Mem.tail _ ?_))) (by (repeat (first | exact List.Mem.head _ | assumption | refine List.Mem.tail _ ?_))) hlt hc3)) ?_
      by_cases h2 : sharpestOf (chainOf xs) - t < 0
      · rw [if_pos h2] at hres
        (repeat (first | (refine ot_any_ ?_; first | refine k_1 ?_ | refine k_2 ?_ | refine k_3 ?_ | refine k_4 ?_ | refine k_5 ?_ | refine k_6 ?_ | refine k_7 ?_ | refine k_8 ?_ | refine k_9 ?_ | refine k_10 ?_ | (refine ot_bin_ rfl ?_; first | refine k_11 ?_ | refine k_12 ?_ | refine k_13 ?_ | refine k_14 ?_ | refine k_15 ?_ | refine k_16 ?_ | refine k_17 ?_ | refine k_18 ?_ | refine k_19 ?_ | refine k_20 ?_ | refine k_21 ?_ | refine k_22 ?_ | refine k_23 ?_ | refine k_24 ?_ | refine k_25 ?_ | refine k_26 ?_ | refine k_27 ?_ | refine k_28 ?_ | refine k_29 ?_ | refine k_30 ?_ | refine k_31 ?_ | refine k_32 ?_ | refine k_33 ?_ | refine k_34 ?_ | refine k_35 ?_ | refine k_36 ?_ | refine k_37 ?_) | (refine ot_mem_ rfl ?_; first | (refine k_38 ?_; intro g hg) | (refine k_39 ?_; intro g hg) | refine k_40 ?_ | refine k_41 ?_ | (refine k_42 ?_; intro g hg) | refine k_43 ?_) | (refine ot_callb_ rfl ?_; first | refine k_44 ?_ | refine k_45 ?_ | refine k_46 ?_) | (refine ot_skip_ rfl ?_; first | refine ot_skip rfl rfl ?_ | refine ot_skip_none rfl rfl ?_)) | refine ot_nil ?_ | refine tr_seq ?_ | refine tr_block ?_ | refine tr_region_seq rfl ?_ | refine tr_skip ?_ | refine tr_label ?_ | refine tr_exit ?_ | refine tr_ret ?_ | refine tr_scope ?_ | refine tr_cond_t rfl ?_ | refine tr_cond_f rfl ?_ | refine otl_cons ?_ | refine otl_nil ?_ | refine slist_and (by (repeat (first | exact List.nil_sublist _ | exact List.Sublist.refl _ | refine List.Sublist.cons_cons _ ?_ | refine List.Sublist.cons _ ?_))) ?_))
        refine ret2 (by first | exact .inl rfl | exact .inr rfl) rfl (by first | exact rv_tmp rfl | exact rv_row Try.tabOk rfl rfl rfl (by first | exact cells_blk_all (by (repeat (first | exact List.Mem.head _ | assumption | refine List.Mem.tail _ ?_))) | exact cells_row0 (by (repeat (first | exact List.Mem.head _ | assumption | refine List.Mem.tail _ ?_)))) rfl | exact rv_sc Try.tabOk rfl rfl rfl (by first | exact cell_blk (by (repeat (first | exact List.Mem.head _ | assumption | refine List.Mem.tail _ ?_))) (by rfl) | exact cell_row (by (repeat (first | exact List.Mem.head _ | assumption | refine List.Mem.tail _ ?_))) (by rfl) | exact cell_own (by (repeat (first | exact List.Mem.head _ | assumption | refine List.Mem.tail _ ?_))) (by rfl) | exact cell_row0 (by (repeat (first | exact List.Mem.head _ | assumption | refine List.Mem.tail _ ?_))) (by rfl) | assumption | exact CellAt.base (by assumption))) (by first | exact rv_tmp rfl | exact rv_row Try.tabOk rfl rfl rfl (by first | exact cells_blk_all (by (repeat (first | exact List.Mem.head _ | assumption | refine List.Mem.tail _ ?_))) | exact cells_row0 (by (repeat (first | exact List.Mem.head _ | assumption | refine List.Mem.tail _ ?_)))) rfl | exact rv_sc Try.tabOk rfl rfl rfl (by first | exact cell_blk (by (repeat (first | exact List.Mem.head _ | assumption | refine List.Mem.tail _ ?_))) (by rfl) | exact cell_row (by (repeat (first | exact List.Mem.head _ | assumption | refine List.Mem.tail _ ?_))) (by rfl) | exact cell_own (by (repeat (first | exact List.Mem.head _ | assumption | refine List.Mem.tail _ ?_))) (by rfl) | exact cell_row0 (by (repeat (first | exact List.Mem.head _ | assumption | refine List.Mem.tail _ ?_))) (by rfl) | assumption | exact CellAt.base (by assumption))) ?_
        exact fun w h => ⟨by rw [hres], h.base⟩
      · rw [if_neg h2] at hres
        have hq1 := Int.tdiv_nonneg (a := sharpestOf (chainOf xs) - t) (b := loss) (by omega) (by omega)
        have hq2 := Int.tdiv_le_self (a := sharpestOf (chainOf xs) - t) loss (by omega)
        (repeat (first | (refine ot_any_ ?_; first | refine k_1 ?_ | refine k_2 ?_ | refine k_3 ?_ | refine k_4 ?_ | refine k_5 ?_ | refine k_6 ?_ | refine k_7 ?_ | refine k_8 ?_ | refine k_9 ?_ | refine k_10 ?_ | (refine ot_bin_ rfl ?_; first | refine k_11 ?_ | refine k_12 ?_ | refine k_13 ?_ | refine k_14 ?_ | refine k_15 ?_ | refine k_16 ?_ | refine k_17 ?_ | refine k_18 ?_ | refine k_19 ?_ | refine k_20 ?_ | refine k_21 ?_ | refine k_22 ?_ | refine k_23 ?_ | refine k_24 ?_ | refine k_25 ?_ | refine k_26 ?_ | refine k_27 ?_ | refine k_28 ?_ | refine k_29 ?_ | refine k_30 ?_ | refine k_31 ?_ | refine k_32 ?_ | refine k_33 ?_ | refine k_34 ?_ | refine k_35 ?_ | refine k_36 ?_ | refine k_37 ?_) | (refine ot_mem_ rfl ?_; first | (refine k_38 ?_; intro g hg) | (refine k_39 ?_; intro g hg) | refine k_40 ?_ | refine k_41 ?_ | (refine k_42 ?_; intro g hg) | refine k_43 ?_) | (refine ot_callb_ rfl ?_; first | refine k_44 ?_ | refine k_45 ?_ | refine k_46 ?_) | (refine ot_skip_ rfl ?_; first | refine ot_skip rfl rfl ?_ | refine ot_skip_none rfl rfl ?_)) | refine ot_nil ?_ | refine tr_seq ?_ | refine tr_block ?_ | refine tr_region_seq rfl ?_ | refine tr_skip ?_ | refine tr_label ?_ | refine tr_exit ?_ | refine tr_ret ?_ | refine tr_scope ?_ | refine tr_cond_t rfl ?_ | refine tr_cond_f rfl ?_ | refine otl_cons ?_ | refine otl_nil ?_ | refine slist_and (by (repeat (first | exact List.nil_sublist _ | exact List.Sublist.refl _ | refine List.Sublist.cons_cons _ ?_ | refine List.Sublist.cons _ ?_))) ?_))
        refine ret2 (by first | exact .inl rfl | exact .inr rfl) rfl (by first | exact rv_tmp rfl | exact rv_row Try.tabOk rfl rfl rfl (by first | exact cells_blk_all (by (repeat (first | exact List.Mem.head _ | assumption | refine List.Mem.tail _ ?_))) | exact cells_row0 (by (repeat (first | exact List.Mem.head _ | assumption | refine List.Mem.tail _ ?_)))) rfl | exact rv_sc Try.tabOk rfl rfl rfl (by first | exact cell_blk (by (repeat (first | exact List.Mem.head _ | assumption | refine List.Mem.tail _ ?_))) (by rfl) | exact cell_row (by (repeat (first | exact List.Mem.head _ | assumption | refine List.Mem.tail _ ?_))) (by rfl) | exact cell_own (by (repeat (first | exact List.Mem.head _ | assumption | refine List.Mem.tail _ ?_))) (by rfl) | exact cell_row0 (by (repeat (first | exact List.Mem.head _ | assumption | refine List.Mem.tail _ ?_))) (by rfl) | assumption | exact CellAt.base (by assumption))) (by first | exact rv_tmp rfl | exact rv_row Try.tabOk rfl rfl rfl (by first | exact cells_blk_all (by (repeat (first | exact List.Mem.head _ | assumption | refine List.Mem.tail _ ?_))) | exact cells_row0 (by (repeat (first | exact List.Mem.head _ | assumption | refine List.Mem.tail _ ?_)))) rfl | exact rv_sc Try.tabOk rfl rfl rfl (by first | exact cell_blk (by (repeat (first | exact List.Mem.head _ | assumption | refine List.Mem.tail _ ?_))) (by rfl) | exact cell_row (by (repeat (first | exact List.Mem.head _ | assumption | refine List.Mem.tail _ ?_))) (by rfl) | exact cell_own (by (repeat (first | exact List.Mem.head _ | assumption | refine List.Mem.tail _ ?_))) (by rfl) | exact cell_row0 (by (repeat (first | exact List.Mem.head _ | assumption | refine List.Mem.tail _ ?_))) (by rfl) | assumption | exact CellAt.base (by assumption))) ?_
        exact fun w h => ⟨by rw [hres], h.base⟩
/-! ## Parts -/
def partsOf (n : Nat) (i1 : Nat) (p : Int) (i2 : Nat) (q : Int) : List Int := ((List.replicate n 0).set i1 p).set i2 ((((List.replicate n 0).set i1 p)[i2]?.getD 0) + q)
def partsP (xs : List (Int × Int)) (t : Int) : List Int × Int :=
  if openErr xs [t] ≠ 0 then ([], openErr xs [t]) else match mixScan t none (chainOf xs) with
    | none => ([], 19)
    | some m => (partsOf xs.length m.1.2.2.toNat m.2.2.1 m.2.1.2.2.toNat m.2.2.2, 0)
theorem ints_nil (w w' : World) (r : List Int × Int) (hr : r.1 = []) (hb : Below w.heap.size w w') : IntsRet r w (.returned (.tuple #[.slice none 0 0, .int .i64 r.2])) w' := by
  obtain ⟨l, e⟩ := r
  simp only at hr
  subst hr
  exact ⟨⟨none, 0, rfl, rfl, fun h => absurd h (by simp)⟩, hb⟩
theorem i64s_set (l : List Int) (i : Nat) (v : Int) : i64s (l.set i v) = (i64s l).set i (.int .i64 v) := by simp [i64s, List.map_set]
theorem i64s_zeros (n : Nat) : i64s (List.replicate n 0) = List.replicate n (.int .i64 0) := by simp [i64s]
theorem i64s_get (l : List Int) (i : Nat) (h : i < l.length) : (i64s l)[i]? = some (.int .i64 (l[i]?.getD 0)) := by simp [i64s, List.getElem?_eq_getElem h]
theorem partsOf_length (n i1 i2 : Nat) (p q : Int) : (partsOf n i1 p i2 q).length = n := by simp [partsOf]
/-- What is handed back lies in new memory. -/
def IntsNew (r : List Int × Int) (w : World) (e : Ending) (w' : World) : Prop := IntsRet r w e w' ∧ ∀ A n c v, e = .returned (.tuple #[.slice A n c, v]) → ∀ b o, A = some ⟨b, o, none⟩ → w.heap.size ≤ b
set_option maxHeartbeats 1000000 in
set_option maxRecDepth 20000 in
theorem parts_new (Al : Option Addr) (c : Nat) (xs : List (Int × Int)) (t : Int) (w : World) (hr : Reads w w.heap.size 2 Al xs.length (pairCells xs)) (hm : xs.length ≤ maxLen) :
    Calls Try.prog 26 #[.slice Al xs.length c, .int .i64 t] w (IntsNew (partsP xs t) w) := by
  refine fn_enter (n := 51) (A := []) Try.func26 rfl rfl (Nat.le_of_ble_eq_true rfl) (St.nil (Below.refl _ _)) ?_
  (repeat (first | (refine ot_any_ ?_; first | refine k_1 ?_ | refine k_2 ?_ | refine k_3 ?_ | refine k_4 ?_ | refine k_5 ?_ | refine k_6 ?_ | refine k_7 ?_ | refine k_8 ?_ | refine k_9 ?_ | refine k_10 ?_ | (refine ot_bin_ rfl ?_; first | refine k_11 ?_ | refine k_12 ?_ | refine k_13 ?_ | refine k_14 ?_ | refine k_15 ?_ | refine k_16 ?_ | refine k_17 ?_ | refine k_18 ?_ | refine k_19 ?_ | refine k_20 ?_ | refine k_21 ?_ | refine k_22 ?_ | refine k_23 ?_ | refine k_24 ?_ | refine k_25 ?_ | refine k_26 ?_ | refine k_27 ?_ | refine k_28 ?_ | refine k_29 ?_ | refine k_30 ?_ | refine k_31 ?_ | refine k_32 ?_ | refine k_33 ?_ | refine k_34 ?_ | refine k_35 ?_ | refine k_36 ?_ | refine k_37 ?_) | (refine ot_mem_ rfl ?_; first | (refine k_38 ?_; intro g hg) | (refine k_39 ?_; intro g hg) | refine k_40 ?_ | refine k_41 ?_ | (refine k_42 ?_; intro g hg) | refine k_43 ?_) | (refine ot_callb_ rfl ?_; first | refine k_44 ?_ | refine k_45 ?_ | refine k_46 ?_) | (refine ot_skip_ rfl ?_; first | refine ot_skip rfl rfl ?_ | refine ot_skip_none rfl rfl ?_)) | refine ot_nil ?_ | refine tr_seq ?_ | refine tr_block ?_ | refine tr_region_seq rfl ?_ | refine tr_skip ?_ | refine tr_label ?_ | refine tr_exit ?_ | refine tr_ret ?_ | refine tr_scope ?_ | refine tr_cond_t rfl ?_ | refine tr_cond_f rfl ?_ | refine otl_cons ?_ | refine otl_nil ?_ | refine slist_and (by (repeat (first | exact List.nil_sublist _ | exact List.Sublist.refl _ | refine List.Sublist.cons_cons _ ?_ | refine List.Sublist.cons _ ?_))) ?_))
  refine ot_open (by decide) rfl rfl rfl (evl_of rfl) hr hm (l := [t]) (fun w1 hs => hs.blk_reads (List.Mem.head _) rfl) (show (1 : Nat) ≤ maxLen by decide) (fun he => ?_) (fun he gs b o c3 hgs hlt hc3 => ?_)
  · have hres : partsP xs t = ([], openErr xs [t]) := if_pos he
    (repeat (first | (refine ot_any_ ?_; first | refine k_1 ?_ | refine k_2 ?_ | refine k_3 ?_ | refine k_4 ?_ | refine k_5 ?_ | refine k_6 ?_ | refine k_7 ?_ | refine k_8 ?_ | refine k_9 ?_ | refine k_10 ?_ | (refine ot_bin_ rfl ?_; first | refine k_11 ?_ | refine k_12 ?_ | refine k_13 ?_ | refine k_14 ?_ | refine k_15 ?_ | refine k_16 ?_ | refine k_17 ?_ | refine k_18 ?_ | refine k_19 ?_ | refine k_20 ?_ | refine k_21 ?_ | refine k_22 ?_ | refine k_23 ?_ | refine k_24 ?_ | refine k_25 ?_ | refine k_26 ?_ | refine k_27 ?_ | refine k_28 ?_ | refine k_29 ?_ | refine k_30 ?_ | refine k_31 ?_ | refine k_32 ?_ | refine k_33 ?_ | refine k_34 ?_ | refine k_35 ?_ | refine k_36 ?_ | refine k_37 ?_) | (refine ot_mem_ rfl ?_; first | (refine k_38 ?_; intro g hg) | (refine k_39 ?_; intro g hg) | refine k_40 ?_ | refine k_41 ?_ | (refine k_42 ?_; intro g hg) | refine k_43 ?_) | (refine ot_callb_ rfl ?_; first | refine k_44 ?_ | refine k_45 ?_ | refine k_46 ?_) | (refine ot_skip_ rfl ?_; first | refine ot_skip rfl rfl ?_ | refine ot_skip_none rfl rfl ?_)) | refine ot_nil ?_ | refine tr_seq ?_ | refine tr_block ?_ | refine tr_region_seq rfl ?_ | refine tr_skip ?_ | refine tr_label ?_ | refine tr_exit ?_ | refine tr_ret ?_ | refine tr_scope ?_ | refine tr_cond_t rfl ?_ | refine tr_cond_f rfl ?_ | refine otl_cons ?_ | refine otl_nil ?_ | refine slist_and (by (repeat (first | exact List.nil_sublist _ | exact List.Sublist.refl _ | refine List.Sublist.cons_cons _ ?_ | refine List.Sublist.cons _ ?_))) ?_))
    refine ret2 (by first | exact .inl rfl | exact .inr rfl) rfl (by first | exact rv_tmp rfl | exact rv_row Try.tabOk rfl rfl rfl (by first | exact cells_blk_all (by (repeat (first | exact List.Mem.head _ | assumption | refine List.Mem.tail _ ?_))) | exact cells_row0 (by (repeat (first | exact List.Mem.head _ | assumption | refine List.Mem.tail _ ?_)))) rfl | exact rv_sc Try.tabOk rfl rfl rfl (by first | exact cell_blk (by (repeat (first | exact List.Mem.head _ | assumption | refine List.Mem.tail _ ?_))) (by rfl) | exact cell_row (by (repeat (first | exact List.Mem.head _ | assumption | refine List.Mem.tail _ ?_))) (by rfl) | exact cell_own (by (repeat (first | exact List.Mem.head _ | assumption | refine List.Mem.tail _ ?_))) (by rfl) | exact cell_row0 (by (repeat (first | exact List.Mem.head _ | assumption | refine List.Mem.tail _ ?_))) (by rfl) | assumption | exact CellAt.base (by assumption))) (by first | exact rv_tmp rfl | exact rv_row Try.tabOk rfl rfl rfl (by first | exact cells_blk_all (by (repeat (first | exact List.Mem.head _ | assumption | refine List.Mem.tail _ ?_))) | exact cells_row0 (by (repeat (first | exact List.Mem.head _ | assumption | refine List.Mem.tail _ ?_)))) rfl | exact rv_sc Try.tabOk rfl rfl rfl (by first | exact cell_blk (by (repeat (first | exact List.Mem.head _ | assumption | refine List.Mem.tail _ ?_))) (by rfl) | exact cell_row (by (repeat (first | exact List.Mem.head _ | assumption | refine List.Mem.tail _ ?_))) (by rfl) | exact cell_own (by (repeat (first | exact List.Mem.head _ | assumption | refine List.Mem.tail _ ?_))) (by rfl) | exact cell_row0 (by (repeat (first | exact List.Mem.head _ | assumption | refine List.Mem.tail _ ?_))) (by rfl) | assumption | exact CellAt.base (by assumption))) ?_
    exact fun w h => by rw [hres]; exact ⟨ints_nil _ _ ([], openErr xs [t]) rfl h.base, fun A n c v he b o hA => by cases he; cases hA⟩
  · obtain ⟨hG, ht⟩ := openErr_one he
    have hz : ¬ openErr xs [t] ≠ 0 := by simpa using he
    cases hmx : mixScan t none (chainOf xs) with
    | none =>
      have hres : partsP xs t = ([], 19) := by unfold partsP; rw [if_neg hz, hmx]
      (repeat (first | (refine ot_any_ ?_; first | refine k_1 ?_ | refine k_2 ?_ | refine k_3 ?_ | refine k_4 ?_ | refine k_5 ?_ | refine k_6 ?_ | refine k_7 ?_ | refine k_8 ?_ | refine k_9 ?_ | refine k_10 ?_ | (refine ot_bin_ rfl ?_; first | refine k_11 ?_ | refine k_12 ?_ | refine k_13 ?_ | refine k_14 ?_ | refine k_15 ?_ | refine k_16 ?_ | refine k_17 ?_ | refine k_18 ?_ | refine k_19 ?_ | refine k_20 ?_ | refine k_21 ?_ | refine k_22 ?_ | refine k_23 ?_ | refine k_24 ?_ | refine k_25 ?_ | refine k_26 ?_ | refine k_27 ?_ | refine k_28 ?_ | refine k_29 ?_ | refine k_30 ?_ | refine k_31 ?_ | refine k_32 ?_ | refine k_33 ?_ | refine k_34 ?_ | refine k_35 ?_ | refine k_36 ?_ | refine k_37 ?_) | (refine ot_mem_ rfl ?_; first | (refine k_38 ?_; intro g hg) | (refine k_39 ?_; intro g hg) | refine k_40 ?_ | refine k_41 ?_ | (refine k_42 ?_; intro g hg) | refine k_43 ?_) | (refine ot_callb_ rfl ?_; first | refine k_44 ?_ | refine k_45 ?_ | refine k_46 ?_) | (refine ot_skip_ rfl ?_; first | refine ot_skip rfl rfl ?_ | refine ot_skip_none rfl rfl ?_)) | refine ot_nil ?_ | refine tr_seq ?_ | refine tr_block ?_ | refine tr_region_seq rfl ?_ | refine tr_skip ?_ | refine tr_label ?_ | refine tr_exit ?_ | refine tr_ret ?_ | refine tr_scope ?_ | refine tr_cond_t rfl ?_ | refine tr_cond_f rfl ?_ | refine otl_cons ?_ | refine otl_nil ?_ | refine slist_and (by (repeat (first | exact List.nil_sublist _ | exact List.Sublist.refl _ | refine List.Sublist.cons_cons _ ?_ | refine List.Sublist.cons _ ?_))) ?_))
      refine ot_call_q rfl rfl rfl (by kernel_rfl) (evl_of rfl) (fun w1 hs => mix_none (hs.shelf (by (repeat (first | exact List.Mem.head _ | assumption | refine List.Mem.tail _ ?_))) (by (repeat (first | exact List.Mem.head _ | assumption | refine List.Mem.tail _ ?_))) hlt hc3) hG ht hmx) ?_
      (repeat (first | (refine ot_any_ ?_; first | refine k_1 ?_ | refine k_2 ?_ | refine k_3 ?_ | refine k_4 ?_ | refine k_5 ?_ | refine k_6 ?_ | refine k_7 ?_ | refine k_8 ?_ | refine k_9 ?_ | refine k_10 ?_ | (refine ot_bin_ rfl ?_; first | refine k_11 ?_ | refine k_12 ?_ | refine k_13 ?_ | refine k_14 ?_ | refine k_15 ?_ | refine k_16 ?_ | refine k_17 ?_ | refine k_18 ?_ | refine k_19 ?_ | refine k_20 ?_ | refine k_21 ?_ | refine k_22 ?_ | refine k_23 ?_ | refine k_24 ?_ | refine k_25 ?_ | refine k_26 ?_ | refine k_27 ?_ | refine k_28 ?_ | refine k_29 ?_ | refine k_30 ?_ | refine k_31 ?_ | refine k_32 ?_ | refine k_33 ?_ | refine k_34 ?_ | refine k_35 ?_ | refine k_36 ?_ | refine k_37 ?_) | (refine ot_mem_ rfl ?_; first | (refine k_38 ?_; intro g hg) | (refine k_39 ?_; intro g hg) | refine k_40 ?_ | refine k_41 ?_ | (refine k_42 ?_; intro g hg) | refine k_43 ?_) | (refine ot_callb_ rfl ?_; first | refine k_44 ?_ | refine k_45 ?_ | refine k_46 ?_) | (refine ot_skip_ rfl ?_; first | refine ot_skip rfl rfl ?_ | refine ot_skip_none rfl rfl ?_)) | refine ot_nil ?_ | refine tr_seq ?_ | refine tr_block ?_ | refine tr_region_seq rfl ?_ | refine tr_skip ?_ | refine tr_label ?_ | refine tr_exit ?_ | refine tr_ret ?_ | refine tr_scope ?_ | refine tr_cond_t rfl ?_ | refine tr_cond_f rfl ?_ | refine otl_cons ?_ | refine otl_nil ?_ | refine slist_and (by (repeat (first | exact List.nil_sublist _ | exact List.Sublist.refl _ | refine List.Sublist.cons_cons _ ?_ | refine List.Sublist.cons _ ?_))) ?_))
      refine ret2 (by first | exact .inl rfl | exact .inr rfl) rfl (by first | exact rv_tmp rfl | exact rv_row Try.tabOk rfl rfl rfl (by first | exact cells_blk_all (by (repeat (first | exact List.Mem.head _ | assumption | refine List.Mem.tail _ ?_))) | exact cells_row0 (by (repeat (first | exact List.Mem.head _ | assumption | refine List.Mem.tail _ ?_)))) rfl | exact rv_sc Try.tabOk rfl rfl rfl (by first | exact cell_blk (by (repeat (first | exact List.Mem.head _ | assumption | refine List.Mem.tail _ ?_))) (by rfl) | exact cell_row (by (repeat (first | exact List.Mem.head _ | assumption | refine List.Mem.tail _ ?_))) (by rfl) | exact cell_own (by (repeat (first | exact List.Mem.head _ | assumption | refine List.Mem.tail _ ?_))) (by rfl) | exact cell_row0 (by (repeat (first | exact List.Mem.head _ | assumption | refine List.Mem.tail _ ?_))) (by rfl) | assumption | exact CellAt.base (by assumption))) (by first | exact rv_tmp rfl | exact rv_row Try.tabOk rfl rfl rfl (by first | exact cells_blk_all (by (repeat (first | exact List.Mem.head _ | assumption | refine List.Mem.tail _ ?_))) | exact cells_row0 (by (repeat (first | exact List.Mem.head _ | assumption | refine List.Mem.tail _ ?_)))) rfl | exact rv_sc Try.tabOk rfl rfl rfl (by first | exact cell_blk (by (repeat (first | exact List.Mem.head _ | assumption | refine List.Mem.tail _ ?_))) (by rfl) | exact cell_row (by (repeat (first | exact List.Mem.head _ | assumption | refine List.Mem.tail _ ?_))) (by rfl) | exact cell_own (by (repeat (first | exact List.Mem.head _ | assumption | refine List.Mem.tail _ ?_))) (by rfl) | exact cell_row0 (by (repeat (first | exact List.Mem.head _ | assumption | refine List.Mem.tail _ ?_))) (by rfl) | assumption | exact CellAt.base (by assumption))) ?_
      exact fun w h => by rw [hres]; exact ⟨ints_nil _ _ ([], 19) rfl h.base, fun A n c v he b o hA => by cases he; cases hA⟩
    | some m =>
      obtain ⟨⟨a1, a2, a3⟩, ⟨b1, b2, b3⟩, p, q⟩ := m
      obtain ⟨ha, hb, hp, hp2, hq, hq2, h1⟩ := hG.mix ht hmx
      obtain ⟨hm1, hm2⟩ := mixScan_mem _ _ _ hmx
      have hx1 := hG.idx _ (hm1.resolve_right (by simp))
      have hx2 := hG.idx _ hm2
      have hn := hG.len
      obtain ⟨hx10, hx1n, -⟩ := hx1
      obtain ⟨hx20, hx2n, -⟩ := hx2
      dsimp only at hx10 hx1n hx20 hx2n
      have hres : partsP xs t = (partsOf xs.length a3.toNat p b3.toNat q, 0) := by unfold partsP; rw [if_neg hz, hmx]
      obtain ⟨i1, rfl⟩ : ∃ i : Nat, a3 = i := ⟨a3.toNat, by omega⟩
      obtain ⟨i2, rfl⟩ : ∃ i : Nat, b3 = i := ⟨b3.toNat, by omega⟩
      rw [Int.toNat_natCast, Int.toNat_natCast] at hres
      obtain ⟨z, hzz⟩ : ∃ z, z = ((List.replicate xs.length (0 : Int)).set i1 p)[i2]?.getD 0 := ⟨_, rfl⟩
      have hzb : 0 ≤ z ∧ z ≤ 100 := by
        rw [hzz]
        by_cases e : i1 = i2
        · subst e
          rw [List.getElem?_set_self (by simp; omega)]
          exact ⟨hp, hp2⟩
        · rw [List.getElem?_set_ne e, List.getElem?_replicate]
          split <;> simp
      have hload : (((List.replicate xs.length (Value.int .i64 0)).set (0 + i1 * 1) (.int .i64 p)))[0 + i2 * 1]? = some (.int .i64 z) := by
        have hlen : i2 < ((List.replicate xs.length (0 : Int)).set i1 p).length := by simp; omega
        rw [Nat.zero_add, Nat.zero_add, Nat.mul_one, Nat.mul_one, ← i64s_zeros, ← i64s_set]
        rw [hzz]
        exact i64s_get _ _ hlen
      have hst1 : 0 + i1 * 1 < (List.replicate xs.length (Value.int .i64 0)).length := by simp; omega
      have hst2 : 0 + i2 * 1 < ((List.replicate xs.length (Value.int .i64 0)).set (0 + i1 * 1) (.int .i64 p)).length := by simp; omega
      (repeat (first | (refine ot_any_ ?_; first | refine k_1 ?_ | refine k_2 ?_ | refine k_3 ?_ | refine k_4 ?_ | refine k_5 ?_ | refine k_6 ?_ | refine k_7 ?_ | refine k_8 ?_ | refine k_9 ?_ | refine k_10 ?_ | (refine ot_bin_ rfl ?_; first | refine k_11 ?_ | refine k_12 ?_ | refine k_13 ?_ | refine k_14 ?_ | refine k_15 ?_ | refine k_16 ?_ | refine k_17 ?_ | refine k_18 ?_ | refine k_19 ?_ | refine k_20 ?_ | refine k_21 ?_ | refine k_22 ?_ | refine k_23 ?_ | refine k_24 ?_ | refine k_25 ?_ | refine k_26 ?_ | refine k_27 ?_ | refine k_28 ?_ | refine k_29 ?_ | refine k_30 ?_ | refine k_31 ?_ | refine k_32 ?_ | refine k_33 ?_ | refine k_34 ?_ | refine k_35 ?_ | refine k_36 ?_ | refine k_37 ?_) | (refine ot_mem_ rfl ?_; first | (refine k_38 ?_; intro g hg) | (refine k_39 ?_; intro g hg) | refine k_40 ?_ | refine k_41 ?_ | (refine k_42 ?_; intro g hg) | refine k_43 ?_) | (refine ot_callb_ rfl ?_; first | refine k_44 ?_ | refine k_45 ?_ | refine k_46 ?_) | (refine ot_skip_ rfl ?_; first | refine ot_skip rfl rfl ?_ | refine ot_skip_none rfl rfl ?_)) | refine ot_nil ?_ | refine tr_seq ?_ | refine tr_block ?_ | refine tr_region_seq rfl ?_ | refine tr_skip ?_ | refine tr_label ?_ | refine tr_exit ?_ | refine tr_ret ?_ | refine tr_scope ?_ | refine tr_cond_t rfl ?_ | refine tr_cond_f rfl ?_ | refine otl_cons ?_ | refine otl_nil ?_ | refine slist_and (by (repeat (first | exact List.nil_sublist _ | exact List.Sublist.refl _ | refine List.Sublist.cons_cons _ ?_ | refine List.Sublist.cons _ ?_))) ?_))
      refine ot_call_q rfl rfl rfl (by kernel_rfl) (evl_of rfl) (fun w1 hs => mix_some (hs.shelf (by (repeat (first | exact List.Mem.head _ | assumption | refine List.Mem.tail _ ?_))) (by (repeat (first | exact List.Mem.head _ | assumption | refine List.Mem.tail _ ?_))) hlt hc3) hG ht hmx) ?_
      (repeat (first | (refine ot_makeSlice Try.tabOk (by decide) rfl rfl rfl rfl rfl rfl rfl rfl rfl rfl rfl rfl (by omega) (by decide) ?_; intro g hg) | refine ot_clear Try.tabOk rfl rfl rfl rfl rfl rfl rfl rfl rfl rfl (by omega) (by (repeat (first | exact Upd.here | apply Upd.there))) (by simp) ?_ | (refine ot_any_ ?_; first | refine k_1 ?_ | refine k_2 ?_ | refine k_3 ?_ | refine k_4 ?_ | refine k_5 ?_ | refine k_6 ?_ | refine k_7 ?_ | refine k_8 ?_ | refine k_9 ?_ | refine k_10 ?_ | (refine ot_bin_ rfl ?_; first | refine k_11 ?_ | refine k_12 ?_ | refine k_13 ?_ | refine k_14 ?_ | refine k_15 ?_ | refine k_16 ?_ | refine k_17 ?_ | refine k_18 ?_ | refine k_19 ?_ | refine k_20 ?_ | refine k_21 ?_ | refine k_22 ?_ | refine k_23 ?_ | refine k_24 ?_ | refine k_25 ?_ | refine k_26 ?_ | refine k_27 ?_ | refine k_28 ?_ | refine k_29 ?_ | refine k_30 ?_ | refine k_31 ?_ | refine k_32 ?_ | refine k_33 ?_ | refine k_34 ?_ | refine k_35 ?_ | refine k_36 ?_ | refine k_37 ?_) | (refine ot_mem_ rfl ?_; first | (refine k_38 ?_; intro g hg) | (refine k_39 ?_; intro g hg) | refine k_40 ?_ | refine k_41 ?_ | (refine k_42 ?_; intro g hg) | refine k_43 ?_) | (refine ot_callb_ rfl ?_; first | refine k_44 ?_ | refine k_45 ?_ | refine k_46 ?_) | (refine ot_skip_ rfl ?_; first | refine ot_skip rfl rfl ?_ | refine ot_skip_none rfl rfl ?_)) | refine ot_nil ?_ | refine tr_seq ?_ | refine tr_block ?_ | refine tr_region_seq rfl ?_ | refine tr_skip ?_ | refine tr_label ?_ | refine tr_exit ?_ | refine tr_ret ?_ | refine tr_scope ?_ | refine tr_cond_t rfl ?_ | refine tr_cond_f rfl ?_ | refine otl_cons ?_ | refine otl_nil ?_ | refine slist_and (by (repeat (first | exact List.nil_sublist _ | exact List.Sublist.refl _ | refine List.Sublist.cons_cons _ ?_ | refine List.Sublist.cons _ ?_))) ?_))
      (repeat (first | refine ot_store Try.tabOk rfl rfl rfl rfl rfl rfl rfl rfl rfl rfl (by (repeat (first | exact Upd.here | apply Upd.there))) hst1 ?_ | (refine ot_any_ ?_; first | refine k_1 ?_ | refine k_2 ?_ | refine k_3 ?_ | refine k_4 ?_ | refine k_5 ?_ | refine k_6 ?_ | refine k_7 ?_ | refine k_8 ?_ | refine k_9 ?_ | refine k_10 ?_ | (refine ot_bin_ rfl ?_; first | refine k_11 ?_ | refine k_12 ?_ | refine k_13 ?_ | refine k_14 ?_ | refine k_15 ?_ | refine k_16 ?_ | refine k_17 ?_ | refine k_18 ?_ | refine k_19 ?_ | refine k_20 ?_ | refine k_21 ?_ | refine k_22 ?_ | refine k_23 ?_ | refine k_24 ?_ | refine k_25 ?_ | refine k_26 ?_ | refine k_27 ?_ | refine k_28 ?_ | refine k_29 ?_ | refine k_30 ?_ | refine k_31 ?_ | refine k_32 ?_ | refine k_33 ?_ | refine k_34 ?_ | refine k_35 ?_ | refine k_36 ?_ | refine k_37 ?_) | (refine ot_mem_ rfl ?_; first | (refine k_38 ?_; intro g hg) | (refine k_39 ?_; intro g hg) | refine k_40 ?_ | refine k_41 ?_ | (refine k_42 ?_; intro g hg) | refine k_43 ?_) | (refine ot_callb_ rfl ?_; first | refine k_44 ?_ | refine k_45 ?_ | refine k_46 ?_) | (refine ot_skip_ rfl ?_; first | refine ot_skip rfl rfl ?_ | refine ot_skip_none rfl rfl ?_)) | refine ot_nil ?_ | refine tr_seq ?_ | refine tr_block ?_ | refine tr_region_seq rfl ?_ | refine tr_skip ?_ | refine tr_label ?_ | refine tr_exit ?_ | refine tr_ret ?_ | refine tr_scope ?_ | refine tr_cond_t rfl ?_ | refine tr_cond_f rfl ?_ | refine otl_cons ?_ | refine otl_nil ?_ | refine slist_and (by (repeat (first | exact List.nil_sublist _ | exact List.Sublist.refl _ | refine List.Sublist.cons_cons _ ?_ | refine List.Sublist.cons _ ?_))) ?_))
      refine tr_region_draw (by kernel_rfl) [0, 1, 2, 3, 4, 5, 6, 7, 8, 9, 10] [.rd, .rd, .rd, .rd, .rd, .rd, .rd, .rd, .rd, .rd, .wr] rfl (by kernel_rfl) ?_
      (repeat (first | refine ot_load Try.tabOk rfl rfl rfl rfl rfl rfl (cell_blk (by (repeat (first | exact List.Mem.head _ | assumption | refine List.Mem.tail _ ?_))) hload) ?_ | refine ot_store Try.tabOk rfl rfl rfl rfl rfl rfl rfl rfl rfl rfl (by (repeat (first | exact Upd.here | apply Upd.there))) hst2 ?_ | (refine ot_any_ ?_; first | refine k_1 ?_ | refine k_2 ?_ | refine k_3 ?_ | refine k_4 ?_ | refine k_5 ?_ | refine k_6 ?_ | refine k_7 ?_ | refine k_8 ?_ | refine k_9 ?_ | refine k_10 ?_ | (refine ot_bin_ rfl ?_; first | refine k_11 ?_ | refine k_12 ?_ | refine k_13 ?_ | refine k_14 ?_ | refine k_15 ?_ | refine k_16 ?_ | refine k_17 ?_ | refine k_18 ?_ | refine k_19 ?_ | refine k_20 ?_ | refine k_21 ?_ | refine k_22 ?_ | refine k_23 ?_ | refine k_24 ?_ | refine k_25 ?_ | refine k_26 ?_ | refine k_27 ?_ | refine k_28 ?_ | refine k_29 ?_ | refine k_30 ?_ | refine k_31 ?_ | refine k_32 ?_ | refine k_33 ?_ | refine k_34 ?_ | refine k_35 ?_ | refine k_36 ?_ | refine k_37 ?_) | (refine ot_mem_ rfl ?_; first | (refine k_38 ?_; intro g hg) | (refine k_39 ?_; intro g hg) | refine k_40 ?_ | refine k_41 ?_ | (refine k_42 ?_; intro g hg) | refine k_43 ?_) | (refine ot_callb_ rfl ?_; first | refine k_44 ?_ | refine k_45 ?_ | refine k_46 ?_) | (refine ot_skip_ rfl ?_; first | refine ot_skip rfl rfl ?_ | refine ot_skip_none rfl rfl ?_)) | refine ot_nil ?_ | refine tr_seq ?_ | refine tr_block ?_ | refine tr_region_seq rfl ?_ | refine tr_skip ?_ | refine tr_label ?_ | refine tr_exit ?_ | refine tr_ret ?_ | refine tr_scope ?_ | refine tr_cond_t rfl ?_ | refine tr_cond_f rfl ?_ | refine otl_cons ?_ | refine otl_nil ?_ | refine slist_and (by (repeat (first | exact List.nil_sublist _ | exact List.Sublist.refl _ | refine List.Sublist.cons_cons _ ?_ | refine List.Sublist.cons _ ?_))) ?_))
      refine ret2 (by first | exact .inl rfl | exact .inr rfl) rfl (by first | exact rv_tmp rfl | exact rv_row Try.tabOk rfl rfl rfl (by first | exact cells_blk_all (by (repeat (first | exact List.Mem.head _ | assumption | refine List.Mem.tail _ ?_))) | exact cells_row0 (by (repeat (first | exact List.Mem.head _ | assumption | refine List.Mem.tail _ ?_)))) rfl | exact rv_sc Try.tabOk rfl rfl rfl (by first | exact cell_blk (by (repeat (first | exact List.Mem.head _ | assumption | refine List.Mem.tail _ ?_))) (by rfl) | exact cell_row (by (repeat (first | exact List.Mem.head _ | assumption | refine List.Mem.tail _ ?_))) (by rfl) | exact cell_own (by (repeat (first | exact List.Mem.head _ | assumption | refine List.Mem.tail _ ?_))) (by rfl) | exact cell_row0 (by (repeat (first | exact List.Mem.head _ | assumption | refine List.Mem.tail _ ?_))) (by rfl) | assumption | exact CellAt.base (by assumption))) (by first | exact rv_tmp rfl | exact rv_row Try.tabOk rfl rfl rfl (by first | exact cells_blk_all (by (repeat (first | exact List.Mem.head _ | assumption | refine List.Mem.tail _ ?_))) | exact cells_row0 (by (repeat (first | exact List.Mem.head _ | assumption | refine List.Mem.tail _ ?_)))) rfl | exact rv_sc Try.tabOk rfl rfl rfl (by first | exact cell_blk (by (repeat (first | exact List.Mem.head _ | assumption | refine List.Mem.tail _ ?_))) (by rfl) | exact cell_row (by (repeat (first | exact List.Mem.head _ | assumption | refine List.Mem.tail _ ?_))) (by rfl) | exact cell_own (by (repeat (first | exact List.Mem.head _ | assumption | refine List.Mem.tail _ ?_))) (by rfl) | exact cell_row0 (by (repeat (first | exact List.Mem.head _ | assumption | refine List.Mem.tail _ ?_))) (by rfl) | assumption | exact CellAt.base (by assumption))) ?_
      refine fun w h => ?_
      rw [hres]
      refine ⟨⟨⟨some ⟨g, 0, none⟩, xs.length, by rw [partsOf_length], ?_⟩, h.base⟩, fun A n c v he b o hA => by cases he; cases hA; exact hg⟩
      rw [partsOf_length]
      refine (h.blk_reads (t := 2) (xs := i64s (partsOf xs.length i1 p i2 q)) (sz := 1) ?_ (by simp [i64s, partsOf_length]))
      have he : i64s (partsOf xs.length i1 p i2 q) = (((List.replicate xs.length (Value.int .i64 0)).set (0 + i1 * 1) (.int .i64 p)).set (0 + i2 * 1) (.int .i64 (z + q))) := by
        rw [partsOf, ← hzz, i64s_set, i64s_set, i64s_zeros]; simp
      rw [he]
      (repeat (first | exact List.Mem.head _ | assumption | refine List.Mem.tail _ ?_))
theorem parts_any (Al : Option Addr) (c : Nat) (xs : List (Int × Int)) (t : Int) (w : World) (hr : Reads w w.heap.size 2 Al xs.length (pairCells xs)) (hm : xs.length ≤ maxLen) :
    Calls Try.prog 26 #[.slice Al xs.length c, .int .i64 t] w (IntsRet (partsP xs t) w) := (parts_new Al c xs t w hr hm).mono fun _ _ h => h.1
end Go.Proofs.Ytfjnnegaljfkgaa
