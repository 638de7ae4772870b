/- Layer 3, blends: Mixed, walked; BlendLeast: lemmas for the rows of this seat. No conditions. -/
import Derived.Test.YtfjnnegaljfkgaaProg
import Derived.Test.YtfjnnegaljfkgaaBase
import Derived.Test.YtfjnnegaljfkgaaPlain
import Derived.Test.YtfjnnegaljfkgaaWA
import Derived.Test.YtfjnnegaljfkgaaSeg
import Derived.Test.YtfjnnegaljfkgaaKeys
import Derived.Test.YtfjnnegaljfkgaaW20
import Derived.Test.YtfjnnegaljfkgaaW21
import Derived.Test.YtfjnnegaljfkgaaW22
import Derived.Test.YtfjnnegaljfkgaaS1
import Derived.Test.YtfjnnegaljfkgaaS5
import Derived.Test.YtfjnnegaljfkgaaS12
import Derived.Test.YtfjnnegaljfkgaaTab
import Derived.Test.YtfjnnegaljfkgaaS14
import Derived.Test.YtfjnnegaljfkgaaArms
import Derived.Test.YtfjnnegaljfkgaaWE
import Derived.Test.YtfjnnegaljfkgaaB1
import Derived.Test.YtfjnnegaljfkgaaB2
import Derived.Test.YtfjnnegaljfkgaaB3
import Derived.Test.YtfjnnegaljfkgaaB4
import Derived.Test.YtfjnnegaljfkgaaB5
import Derived.Test.YtfjnnegaljfkgaaB6
import Derived.Test.YtfjnnegaljfkgaaB7
import Derived.Test.YtfjnnegaljfkgaaB8
import Derived.Test.YtfjnnegaljfkgaaB9
import Derived.Test.YtfjnnegaljfkgaaB10
import Derived.Test.YtfjnnegaljfkgaaB11
import Derived.Test.YtfjnnegaljfkgaaB12
import Derived.Test.YtfjnnegaljfkgaaB13
import Derived.Test.YtfjnnegaljfkgaaB14
import Derived.Test.YtfjnnegaljfkgaaC1
import Derived.Test.YtfjnnegaljfkgaaC2a
import Derived.Test.YtfjnnegaljfkgaaC2
import Derived.Test.YtfjnnegaljfkgaaL1
import Derived.Test.YtfjnnegaljfkgaaL2
import Derived.Test.YtfjnnegaljfkgaaC3a
import Derived.Test.YtfjnnegaljfkgaaC6
import Derived.Test.YtfjnnegaljfkgaaC7
import Derived.Test.YtfjnnegaljfkgaaC9
import Derived.Test.YtfjnnegaljfkgaaC14
set_option linter.all false
namespace Go.Proofs.Ytfjnnegaljfkgaa
open Go.RowKit
/-! ## Mixed, walked; BlendLeast -/
/-- Lay theorems by their runs: numbers of a kind, read. -/
theorem kind_cell {K : IntKind} {w : World} {n : Nat} {b o : Nat} {l : List Int} (h : Reads w w.heap.size 1 (some ⟨b, o, none⟩) n (l.map (Value.int K))) {k : Nat} (hk : k < n) (A : List Chunk) : CellAt w A b (o + k * 1) (.int K (l[k]?.getD 0)) := by
  obtain ⟨b', o', he, _, hc⟩ := h.2 (by omega)
  cases he
  have hl : l.length = n := by have := h.1; simp at this; omega
  rw [Nat.mul_one]
  exact CellAt.base (hc k _ (by rw [List.getElem?_map, List.getElem?_eq_getElem (by omega)]; simp))
theorem i64s_snoc (l : List Int) (x : Int) : i64s (l ++ [x]) = i64s l ++ [.int .i64 x] := by simp [i64s]
theorem i64s_set' (l : List Int) (i : Nat) (x : Int) : i64s (l.set i x) = (i64s l).set i (.int .i64 x) := by simp [i64s, List.map_set]
section
variable (Al : Option Addr) (c : Nat) (xs : List (Int × Int)) (Bl : Option Addr) (cb : Nat) (ps : List Int) (w : World) (hp : Reads w w.heap.size 1 Bl ps.length (ps.map (Value.int .u16))) (hps : ∀ z ∈ ps, 0 ≤ z ∧ z ≤ 65535) (hn : 1 ≤ xs.length ∧ xs.length ≤ 8) (hpl : ps.length ≤ 1000)
include hp hps hn hpl
set_option maxHeartbeats 4000000 in
set_option maxRecDepth 100000 in
theorem mixed_any : Calls Try.prog 44 #[.slice Al xs.length c, .slice Bl ps.length cb] w (SliceRet 1 xs.length (i64s (mixedOf xs.length ps)) w) := by
  have hps0 : ∀ z ∈ ps, 0 ≤ z := fun z hz => (hps z hz).1
  refine fn_enter (n := 44) (A := []) Try.func44 rfl rfl (Nat.le_of_ble_eq_true rfl) (St.nil (Below.refl _ _)) ?_
  (repeat (first | (refine ot_any_ ?_; first | refine k_1 ?_ | refine k_2 ?_ | refine k_3 ?_ | refine k_4 ?_ | refine k_5 ?_ | refine k_6 ?_ | refine k_7 ?_ | refine k_8 ?_ | refine k_9 ?_ | refine k_10 ?_ | (refine ot_bin_ rfl ?_; first | refine k_11 ?_ | refine k_12 ?_ | refine k_13 ?_ | refine k_14 ?_ | refine k_15 ?_ | refine k_16 ?_ | refine k_17 ?_ | refine k_18 ?_ | refine k_19 ?_ | refine k_20 ?_ | refine k_21 ?_ | refine k_22 ?_ | refine k_23 ?_ | refine k_24 ?_ | refine k_25 ?_ | refine k_26 ?_ | refine k_27 ?_ | refine k_28 ?_ | refine k_29 ?_ | refine k_30 ?_ | refine k_31 ?_ | refine k_32 ?_ | refine k_33 ?_ | refine k_34 ?_ | refine k_35 ?_ | refine k_36 ?_ | refine k_37 ?_) | (refine ot_mem_ rfl ?_; first | (refine k_38 ?_; intro g hg) | (refine k_39 ?_; intro g hg) | refine k_40 ?_ | refine k_41 ?_ | (refine k_42 ?_; intro g hg) | refine k_43 ?_) | (refine ot_callb_ rfl ?_; first | refine k_44 ?_ | refine k_45 ?_ | refine k_46 ?_) | (refine ot_skip_ rfl ?_; first | refine ot_skip rfl rfl ?_ | refine ot_skip_none rfl rfl ?_)) | refine ot_nil ?_ | refine tr_seq ?_ | refine tr_block ?_ | refine tr_region_seq rfl ?_ | refine tr_skip ?_ | refine tr_label ?_ | refine tr_exit ?_ | refine tr_ret ?_ | refine tr_scope ?_ | refine tr_cond_t rfl ?_ | refine tr_cond_f rfl ?_ | refine otl_cons ?_ | refine otl_nil ?_ | refine slist_and (by (repeat (first | exact List.nil_sublist _ | exact List.Sublist.refl _ | refine List.Sublist.cons_cons _ ?_ | refine List.Sublist.cons _ ?_))) ?_))
  refine tr_own_nil 2 1 ?_
  refine tr_loop (fun gm ds ts A => ds = [] ∧ ∃ k v, k + gm = xs.length ∧ A = [.own v 2 1 (mixRaw ps k).length (i64s (mixRaw ps k))] ∧
      ts = [(0, .slice Al xs.length c), (1, .slice Bl ps.length cb), (5, v), (6, .int .i64 (mixSum ps k)), (7, .int .i64 (k : Int))]) xs.length
    (l := [(0, _), (1, _), (5, _), (6, _), (7, _)]) (B := [_]) ?_ (by (repeat (first | exact List.nil_sublist _ | exact List.Sublist.refl _ | refine List.Sublist.cons_cons _ ?_ | refine List.Sublist.cons _ ?_))) ⟨rfl, 0, .slice none 0 0, by omega, rfl, rfl⟩ ?_
  · exact ⟨rfl, rfl, rfl, rfl, rfl, trivial⟩
  rintro gm ds ts A ⟨rfl, k, v, hk, rfl, rfl⟩
  have hlr := mixRaw_length ps k
  have hsb := mixSum_bd hps0 k
  by_cases hlt : k < xs.length
  · have hat := mixAt_ok hps0 k
    have s1 : mixRaw ps (k + 1) = mixRaw ps k ++ [mixAt ps k] := rfl
    have s2 : mixSum ps (k + 1) = mixSum ps k + mixAt ps k := rfl
    by_cases hz : ps.length = 0
    · have e0 : mixAt ps k = 0 := by unfold mixAt; rw [if_pos hz]
      rw [e0] at s1 s2
      (repeat (first | (refine ot_any_ ?_; first | refine k_1 ?_ | refine k_2 ?_ | refine k_3 ?_ | refine k_4 ?_ | refine k_5 ?_ | refine k_6 ?_ | refine k_7 ?_ | refine k_8 ?_ | refine k_9 ?_ | refine k_10 ?_ | (refine ot_bin_ rfl ?_; first | refine k_11 ?_ | refine k_12 ?_ | refine k_13 ?_ | refine k_14 ?_ | refine k_15 ?_ | refine k_16 ?_ | refine k_17 ?_ | refine k_18 ?_ | refine k_19 ?_ | refine k_20 ?_ | refine k_21 ?_ | refine k_22 ?_ | refine k_23 ?_ | refine k_24 ?_ | refine k_25 ?_ | refine k_26 ?_ | refine k_27 ?_ | refine k_28 ?_ | refine k_29 ?_ | refine k_30 ?_ | refine k_31 ?_ | refine k_32 ?_ | refine k_33 ?_ | refine k_34 ?_ | refine k_35 ?_ | refine k_36 ?_ | refine k_37 ?_) | (refine ot_mem_ rfl ?_; first | (refine k_38 ?_; intro g hg) | (refine k_39 ?_; intro g hg) | refine k_40 ?_ | refine k_41 ?_ | (refine k_42 ?_; intro g hg) | refine k_43 ?_) | (refine ot_callb_ rfl ?_; first | refine k_44 ?_ | refine k_45 ?_ | refine k_46 ?_) | (refine ot_skip_ rfl ?_; first | refine ot_skip rfl rfl ?_ | refine ot_skip_none rfl rfl ?_)) | refine ot_nil ?_ | refine tr_seq ?_ | refine tr_block ?_ | refine tr_region_seq rfl ?_ | refine tr_skip ?_ | refine tr_label ?_ | refine tr_exit ?_ | refine tr_ret ?_ | refine tr_scope ?_ | refine tr_cond_t rfl ?_ | refine tr_cond_f rfl ?_ | refine otl_cons ?_ | refine otl_nil ?_ | refine slist_and (by (repeat (first | exact List.nil_sublist _ | exact List.Sublist.refl _ | refine List.Sublist.cons_cons _ ?_ | refine List.Sublist.cons _ ?_))) ?_))
      refine ot_append (sz := 1) (A'v := fun v' => _ :: .own v' 2 1 _ _ :: _) Try.tabOk rfl rfl rfl rfl rfl rfl rfl rfl rfl rfl (by decide) rfl (cells_blk_all (by (repeat (first | exact List.Mem.head _ | assumption | refine List.Mem.tail _ ?_)))) rfl rfl (fun v' => by (repeat (first | exact Upd.here | apply Upd.there))) (by omega) (by decide) (fun v' => ?_)
      (repeat (first | (refine ot_any_ ?_; first | refine k_1 ?_ | refine k_2 ?_ | refine k_3 ?_ | refine k_4 ?_ | refine k_5 ?_ | refine k_6 ?_ | refine k_7 ?_ | refine k_8 ?_ | refine k_9 ?_ | refine k_10 ?_ | (refine ot_bin_ rfl ?_; first | refine k_11 ?_ | refine k_12 ?_ | refine k_13 ?_ | refine k_14 ?_ | refine k_15 ?_ | refine k_16 ?_ | refine k_17 ?_ | refine k_18 ?_ | refine k_19 ?_ | refine k_20 ?_ | refine k_21 ?_ | refine k_22 ?_ | refine k_23 ?_ | refine k_24 ?_ | refine k_25 ?_ | refine k_26 ?_ | refine k_27 ?_ | refine k_28 ?_ | refine k_29 ?_ | refine k_30 ?_ | refine k_31 ?_ | refine k_32 ?_ | refine k_33 ?_ | refine k_34 ?_ | refine k_35 ?_ | refine k_36 ?_ | refine k_37 ?_) | (refine ot_mem_ rfl ?_; first | (refine k_38 ?_; intro g hg) | (refine k_39 ?_; intro g hg) | refine k_40 ?_ | refine k_41 ?_ | (refine k_42 ?_; intro g hg) | refine k_43 ?_) | (refine ot_callb_ rfl ?_; first | refine k_44 ?_ | refine k_45 ?_ | refine k_46 ?_) | (refine ot_skip_ rfl ?_; first | refine ot_skip rfl rfl ?_ | refine ot_skip_none rfl rfl ?_)) | refine ot_nil ?_ | refine tr_seq ?_ | refine tr_block ?_ | refine tr_region_seq rfl ?_ | refine tr_skip ?_ | refine tr_label ?_ | refine tr_exit ?_ | refine tr_ret ?_ | refine tr_scope ?_ | refine tr_cond_t rfl ?_ | refine tr_cond_f rfl ?_ | refine otl_cons ?_ | refine otl_nil ?_ | refine slist_and (by (repeat (first | exact List.nil_sublist _ | exact List.Sublist.refl _ | refine List.Sublist.cons_cons _ ?_ | refine List.Sublist.cons _ ?_))) ?_))
      exact rndQ (gm - 1) (by omega) (l := [(0, _), (1, _), (5, _), (6, _), (7, _)]) (B := [.own v' 2 1 ((mixRaw ps k).length + 1) (i64s (mixRaw ps k) ++ [.int .i64 0])]) ⟨rfl, rfl, rfl, rfl, rfl, trivial⟩ (by (repeat (first | exact List.nil_sublist _ | exact List.Sublist.refl _ | refine List.Sublist.cons_cons _ ?_ | refine List.Sublist.cons _ ?_)))
        ⟨rfl, k + 1, v', by omega, by rw [s1, List.length_append, i64s_snoc]; rfl, by rw [s2]; rfl⟩
    · have e0 : mixAt ps k = (ps[k % ps.length]?.getD 0).tmod 1001 := by unfold mixAt; rw [if_neg hz]
      have hJlt : k % ps.length < ps.length := Nat.mod_lt _ (by omega)
      have hJ : ((k : Int)).tmod (ps.length : Int) = ((k % ps.length : Nat) : Int) := (Int.ofNat_tmod _ _).symm
      obtain ⟨b, o, rfl, _⟩ := hp.2 (show 0 < ps.length by omega)
      have hc := kind_cell hp hJlt
      have hpj : 0 ≤ ps[k % ps.length]?.getD 0 ∧ ps[k % ps.length]?.getD 0 ≤ 65535 := by
        rw [List.getElem?_eq_getElem hJlt]; exact hps _ (List.getElem_mem hJlt)
      rw [e0] at s1 s2 hat
      generalize ps[k % ps.length]?.getD 0 = p at *
      generalize k % ps.length = J at *
      have hwr := i64_wrap (p := p) (by omega)
      (repeat (first | refine ot_rem rfl rfl rfl rfl rfl (by omega) ?_ | refine ot_indexAddr (j := J) Try.tabOk rfl rfl rfl rfl rfl rfl rfl rfl hJ hJlt ?_ | refine ot_load Try.tabOk rfl rfl rfl rfl rfl rfl (hc _) ?_ | refine ot_convert Try.tabOk rfl rfl rfl rfl rfl rfl rfl hwr ?_ | (refine ot_any_ ?_; first | refine k_1 ?_ | refine k_2 ?_ | refine k_3 ?_ | refine k_4 ?_ | refine k_5 ?_ | refine k_6 ?_ | refine k_7 ?_ | refine k_8 ?_ | refine k_9 ?_ | refine k_10 ?_ | (refine ot_bin_ rfl ?_; first | refine k_11 ?_ | refine k_12 ?_ | refine k_13 ?_ | refine k_14 ?_ | refine k_15 ?_ | refine k_16 ?_ | refine k_17 ?_ | refine k_18 ?_ | refine k_19 ?_ | refine k_20 ?_ | refine k_21 ?_ | refine k_22 ?_ | refine k_23 ?_ | refine k_24 ?_ | refine k_25 ?_ | refine k_26 ?_ | refine k_27 ?_ | refine k_28 ?_ | refine k_29 ?_ | refine k_30 ?_ | refine k_31 ?_ | refine k_32 ?_ | refine k_33 ?_ | refine k_34 ?_ | refine k_35 ?_ | refine k_36 ?_ | refine k_37 ?_) | (refine ot_mem_ rfl ?_; first | (refine k_38 ?_; intro g hg) | (refine k_39 ?_; intro g hg) | refine k_40 ?_ | refine k_41 ?_ | (refine k_42 ?_; intro g hg) | refine k_43 ?_) | (refine ot_callb_ rfl ?_; first | refine k_44 ?_ | refine k_45 ?_ | refine k_46 ?_) | (refine ot_skip_ rfl ?_; first | refine ot_skip rfl rfl ?_ | refine ot_skip_none rfl rfl ?_)) | refine ot_nil ?_ | refine tr_seq ?_ | refine tr_block ?_ | refine tr_region_seq rfl ?_ | refine tr_skip ?_ | refine tr_label ?_ | refine tr_exit ?_ | refine tr_ret ?_ | refine tr_scope ?_ | refine tr_cond_t rfl ?_ | refine tr_cond_f rfl ?_ | refine otl_cons ?_ | refine otl_nil ?_ | refine slist_and (by (repeat (first | exact List.nil_sublist _ | exact List.Sublist.refl _ | refine List.Sublist.cons_cons _ ?_ | refine List.Sublist.cons _ ?_))) ?_))
      refine ot_append (sz := 1) (A'v := fun v' => _ :: .own v' 2 1 _ _ :: _) Try.tabOk rfl rfl rfl rfl rfl rfl rfl rfl rfl rfl (by decide) rfl (cells_blk_all (by (repeat (first | exact List.Mem.head _ | assumption | refine List.Mem.tail _ ?_)))) rfl rfl (fun v' => by (repeat (first | exact Upd.here | apply Upd.there))) (by omega) (by decide) (fun v' => ?_)
      (repeat (first | (refine ot_any_ ?_; first | refine k_1 ?_ | refine k_2 ?_ | refine k_3 ?_ | refine k_4 ?_ | refine k_5 ?_ | refine k_6 ?_ | refine k_7 ?_ | refine k_8 ?_ | refine k_9 ?_ | refine k_10 ?_ | (refine ot_bin_ rfl ?_; first | refine k_11 ?_ | refine k_12 ?_ | refine k_13 ?_ | refine k_14 ?_ | refine k_15 ?_ | refine k_16 ?_ | refine k_17 ?_ | refine k_18 ?_ | refine k_19 ?_ | refine k_20 ?_ | refine k_21 ?_ | refine k_22 ?_ | refine k_23 ?_ | refine k_24 ?_ | refine k_25 ?_ | refine k_26 ?_ | refine k_27 ?_ | refine k_28 ?_ | refine k_29 ?_ | refine k_30 ?_ | refine k_31 ?_ | refine k_32 ?_ | refine k_33 ?_ | refine k_34 ?_ | refine k_35 ?_ | refine k_36 ?_ | refine k_37 ?_) | (refine ot_mem_ rfl ?_; first | (refine k_38 ?_; intro g hg) | (refine k_39 ?_; intro g hg) | refine k_40 ?_ | refine k_41 ?_ | (refine k_42 ?_; intro g hg) | refine k_43 ?_) | (refine ot_callb_ rfl ?_; first | refine k_44 ?_ | refine k_45 ?_ | refine k_46 ?_) | (refine ot_skip_ rfl ?_; first | refine ot_skip rfl rfl ?_ | refine ot_skip_none rfl rfl ?_)) | refine ot_nil ?_ | refine tr_seq ?_ | refine tr_block ?_ | refine tr_region_seq rfl ?_ | refine tr_skip ?_ | refine tr_label ?_ | refine tr_exit ?_ | refine tr_ret ?_ | refine tr_scope ?_ | refine tr_cond_t rfl ?_ | refine tr_cond_f rfl ?_ | refine otl_cons ?_ | refine otl_nil ?_ | refine slist_and (by (repeat (first | exact List.nil_sublist _ | exact List.Sublist.refl _ | refine List.Sublist.cons_cons _ ?_ | refine List.Sublist.cons _ ?_))) ?_))
      exact rndQ (gm - 1) (by omega) (l := [(0, _), (1, _), (5, _), (6, _), (7, _)]) (B := [.own v' 2 1 ((mixRaw ps k).length + 1) (i64s (mixRaw ps k) ++ [.int .i64 (p.tmod 1001)])]) ⟨rfl, rfl, rfl, rfl, rfl, trivial⟩ (by (repeat (first | exact List.nil_sublist _ | exact List.Sublist.refl _ | refine List.Sublist.cons_cons _ ?_ | refine List.Sublist.cons _ ?_)))
        ⟨rfl, k + 1, v', by omega, by rw [s1, List.length_append, i64s_snoc]; rfl, by rw [s2]; rfl⟩
  · obtain rfl : k = xs.length := by omega
    have hm : mixedOf xs.length ps = if mixSum ps xs.length = 0 then (mixRaw ps xs.length).set 0 1 else mixRaw ps xs.length := rfl
    refine tr_own_slice (.head _) ?_
    rintro ⟨B, cc, rfl⟩
    have hfin : ∀ (l : List Int) (m : Nat), m = xs.length → ∀ w1 A, St w A w1 → Chunk.own (.slice B m cc) 2 1 m (i64s l) ∈ A → mixedOf xs.length ps = l → SliceRet 1 xs.length (i64s (mixedOf xs.length ps)) w (.returned (.slice B m cc)) w1 := fun l m e w1 A hs hA he => by
      subst e
      rw [he]
      exact ⟨⟨B, cc, rfl, hs.own_rd hA⟩, hs.base⟩
    by_cases h0 : mixSum ps xs.length = 0
    · rw [if_pos h0] at hm
      refine tr_fact (p := ∃ g, B = some ⟨g, 0, none⟩) (fun w1 hs => ?_) ?_
      · obtain ⟨m, hm⟩ : ∃ m, (mixRaw ps xs.length).length = m + 1 := ⟨xs.length - 1, by omega⟩
        have := hs.all _ (.head _)
        rw [hm] at this
        exact own_form this
      rintro ⟨g, rfl⟩
      (repeat (first | refine ot_store_own (sv := undef) Try.tabOk rfl rfl rfl rfl rfl rfl rfl rfl rfl rfl (by (repeat (first | exact Upd.here | apply Upd.there))) (by omega) ?_ | (refine ot_any_ ?_; first | refine k_1 ?_ | refine k_2 ?_ | refine k_3 ?_ | refine k_4 ?_ | refine k_5 ?_ | refine k_6 ?_ | refine k_7 ?_ | refine k_8 ?_ | refine k_9 ?_ | refine k_10 ?_ | (refine ot_bin_ rfl ?_; first | refine k_11 ?_ | refine k_12 ?_ | refine k_13 ?_ | refine k_14 ?_ | refine k_15 ?_ | refine k_16 ?_ | refine k_17 ?_ | refine k_18 ?_ | refine k_19 ?_ | refine k_20 ?_ | refine k_21 ?_ | refine k_22 ?_ | refine k_23 ?_ | refine k_24 ?_ | refine k_25 ?_ | refine k_26 ?_ | refine k_27 ?_ | refine k_28 ?_ | refine k_29 ?_ | refine k_30 ?_ | refine k_31 ?_ | refine k_32 ?_ | refine k_33 ?_ | refine k_34 ?_ | refine k_35 ?_ | refine k_36 ?_ | refine k_37 ?_) | (refine ot_mem_ rfl ?_; first | (refine k_38 ?_; intro g hg) | (refine k_39 ?_; intro g hg) | refine k_40 ?_ | refine k_41 ?_ | (refine k_42 ?_; intro g hg) | refine k_43 ?_) | (refine ot_callb_ rfl ?_; first | refine k_44 ?_ | refine k_45 ?_ | refine k_46 ?_) | (refine ot_skip_ rfl ?_; first | refine ot_skip rfl rfl ?_ | refine ot_skip_none rfl rfl ?_)) | refine ot_nil ?_ | refine tr_seq ?_ | refine tr_block ?_ | refine tr_region_seq rfl ?_ | refine tr_skip ?_ | refine tr_label ?_ | refine tr_exit ?_ | refine tr_ret ?_ | refine tr_scope ?_ | refine tr_cond_t rfl ?_ | refine tr_cond_f rfl ?_ | refine otl_cons ?_ | refine otl_nil ?_ | refine slist_and (by (repeat (first | exact List.nil_sublist _ | exact List.Sublist.refl _ | refine List.Sublist.cons_cons _ ?_ | refine List.Sublist.cons _ ?_))) ?_))
      refine ret1 (by first | exact .inl rfl | exact .inr rfl) rfl (by first | exact rv_tmp rfl | exact rv_row Try.tabOk rfl rfl rfl (by first | exact cells_blk_all (by (repeat (first | exact List.Mem.head _ | assumption | refine List.Mem.tail _ ?_))) | exact cells_row0 (by (repeat (first | exact List.Mem.head _ | assumption | refine List.Mem.tail _ ?_)))) rfl | exact rv_sc Try.tabOk rfl rfl rfl (by first | exact cell_blk (by (repeat (first | exact List.Mem.head _ | assumption | refine List.Mem.tail _ ?_))) (by rfl) | exact cell_row (by (repeat (first | exact List.Mem.head _ | assumption | refine List.Mem.tail _ ?_))) (by rfl) | exact cell_own (by (repeat (first | exact List.Mem.head _ | assumption | refine List.Mem.tail _ ?_))) (by rfl) | exact cell_row0 (by (repeat (first | exact List.Mem.head _ | assumption | refine List.Mem.tail _ ?_))) (by rfl) | assumption | exact CellAt.base (by assumption))) ?_
      exact fun w1 hs => hfin ((mixRaw ps xs.length).set 0 1) _ hlr w1 _ hs (by rw [i64s_set']; exact .head _) (by rw [hm])
    · rw [if_neg h0] at hm
      (repeat (first | (refine ot_any_ ?_; first | refine k_1 ?_ | refine k_2 ?_ | refine k_3 ?_ | refine k_4 ?_ | refine k_5 ?_ | refine k_6 ?_ | refine k_7 ?_ | refine k_8 ?_ | refine k_9 ?_ | refine k_10 ?_ | (refine ot_bin_ rfl ?_; first | refine k_11 ?_ | refine k_12 ?_ | refine k_13 ?_ | refine k_14 ?_ | refine k_15 ?_ | refine k_16 ?_ | refine k_17 ?_ | refine k_18 ?_ | refine k_19 ?_ | refine k_20 ?_ | refine k_21 ?_ | refine k_22 ?_ | refine k_23 ?_ | refine k_24 ?_ | refine k_25 ?_ | refine k_26 ?_ | refine k_27 ?_ | refine k_28 ?_ | refine k_29 ?_ | refine k_30 ?_ | refine k_31 ?_ | refine k_32 ?_ | refine k_33 ?_ | refine k_34 ?_ | refine k_35 ?_ | refine k_36 ?_ | refine k_37 ?_) | (refine ot_mem_ rfl ?_; first | (refine k_38 ?_; intro g hg) | (refine k_39 ?_; intro g hg) | refine k_40 ?_ | refine k_41 ?_ | (refine k_42 ?_; intro g hg) | refine k_43 ?_) | (refine ot_callb_ rfl ?_; first | refine k_44 ?_ | refine k_45 ?_ | refine k_46 ?_) | (refine ot_skip_ rfl ?_; first | refine ot_skip rfl rfl ?_ | refine ot_skip_none rfl rfl ?_)) | refine ot_nil ?_ | refine tr_seq ?_ | refine tr_block ?_ | refine tr_region_seq rfl ?_ | refine tr_skip ?_ | refine tr_label ?_ | refine tr_exit ?_ | refine tr_ret ?_ | refine tr_scope ?_ | refine tr_cond_t rfl ?_ | refine tr_cond_f rfl ?_ | refine otl_cons ?_ | refine otl_nil ?_ | refine slist_and (by (repeat (first | exact List.nil_sublist _ | exact List.Sublist.refl _ | refine List.Sublist.cons_cons _ ?_ | refine List.Sublist.cons _ ?_))) ?_))
      refine ret1 (by first | exact .inl rfl | exact .inr rfl) rfl (by first | exact rv_tmp rfl | exact rv_row Try.tabOk rfl rfl rfl (by first | exact cells_blk_all (by (repeat (first | exact List.Mem.head _ | assumption | refine List.Mem.tail _ ?_))) | exact cells_row0 (by (repeat (first | exact List.Mem.head _ | assumption | refine List.Mem.tail _ ?_)))) rfl | exact rv_sc Try.tabOk rfl rfl rfl (by first | exact cell_blk (by (repeat (first | exact List.Mem.head _ | assumption | refine List.Mem.tail _ ?_))) (by rfl) | exact cell_row (by (repeat (first | exact List.Mem.head _ | assumption | refine List.Mem.tail _ ?_))) (by rfl) | exact cell_own (by (repeat (first | exact List.Mem.head _ | assumption | refine List.Mem.tail _ ?_))) (by rfl) | exact cell_row0 (by (repeat (first | exact List.Mem.head _ | assumption | refine List.Mem.tail _ ?_))) (by rfl) | assumption | exact CellAt.base (by assumption))) ?_
      exact fun w1 hs => hfin _ _ hlr w1 _ hs (.head _) hm
end
end Go.Proofs.Ytfjnnegaljfkgaa
