/- Layer 3, blends: Lists that shrink: lemmas for the rows of this seat. No conditions. -/
import Derived.Test.YtfjnnegaljfkgaaProg
import Derived.Test.YtfjnnegaljfkgaaBase
import Derived.Test.YtfjnnegaljfkgaaPlain
import Derived.Test.YtfjnnegaljfkgaaWA
import Derived.Test.YtfjnnegaljfkgaaSeg
import Derived.Test.YtfjnnegaljfkgaaKeys
import Derived.Test.YtfjnnegaljfkgaaW20
import Derived.Test.YtfjnnegaljfkgaaW21
import Derived.Test.YtfjnnegaljfkgaaW22
import Derived.Test.YtfjnnegaljfkgaaS1
import Derived.Test.YtfjnnegaljfkgaaS5
import Derived.Test.YtfjnnegaljfkgaaS12
import Derived.Test.YtfjnnegaljfkgaaTab
import Derived.Test.YtfjnnegaljfkgaaS14
import Derived.Test.YtfjnnegaljfkgaaArms
import Derived.Test.YtfjnnegaljfkgaaWE
import Derived.Test.YtfjnnegaljfkgaaB1
import Derived.Test.YtfjnnegaljfkgaaB2
import Derived.Test.YtfjnnegaljfkgaaB3
import Derived.Test.YtfjnnegaljfkgaaB4
import Derived.Test.YtfjnnegaljfkgaaB5
import Derived.Test.YtfjnnegaljfkgaaB6
import Derived.Test.YtfjnnegaljfkgaaB7
import Derived.Test.YtfjnnegaljfkgaaB8
import Derived.Test.YtfjnnegaljfkgaaB9
import Derived.Test.YtfjnnegaljfkgaaB10
import Derived.Test.YtfjnnegaljfkgaaB11
set_option linter.all false
namespace Go.Proofs.Ytfjnnegaljfkgaa
open Go.RowKit
/-! ## Lists that shrink -/
/-- Lay theorems by their runs: one of different entries is erased. -/
theorem eraseIdx_filter {α : Type} (f : α → Nat) : ∀ (l : List α) (j : Nat) (a : α), l[j]? = some a → (l.map f).Nodup → l.eraseIdx j = l.filter (fun x => !(f x == f a)) := by
  intro l
  induction l with
  | nil => intro j a h; simp at h
  | cons x t ih =>
    intro j a h hn
    simp only [List.map_cons, List.nodup_cons] at hn
    cases j with
    | zero =>
      simp only [List.getElem?_cons_zero, Option.some.injEq] at h
      subst h
      simp only [List.eraseIdx_cons_zero, List.filter_cons, beq_self_eq_true, Bool.not_true, Bool.false_eq_true, if_false]
      rw [List.filter_eq_self.2]
      intro y hy
      have : f y ≠ f x := fun e => hn.1 (by rw [← e]; exact List.mem_map.2 ⟨y, hy, rfl⟩)
      simpa using this
    | succ j =>
      simp only [List.getElem?_cons_succ] at h
      have hx : f x ≠ f a := fun e => hn.1 (by rw [e]; exact List.mem_map.2 ⟨a, List.mem_of_getElem? h, rfl⟩)
      simp only [List.eraseIdx_cons_succ, List.filter_cons]
      rw [if_pos (by simpa using hx), ih j a h hn.2]
theorem inj_nodup {α β : Type} (f : α → β) : ∀ (l : List α), (l.map f).Nodup → ∀ {x y : α}, x ∈ l → y ∈ l → f x = f y → x = y := by
  intro l
  induction l with
  | nil => intro _ x y hx; cases hx
  | cons z t ih =>
    intro hn x y hx hy h
    simp only [List.map_cons, List.nodup_cons] at hn
    rcases List.mem_cons.1 hx with h1 | h1
    · rcases List.mem_cons.1 hy with h2 | h2
      · rw [h1, h2]
      · exact absurd (List.mem_map.2 ⟨y, h2, by rw [← h, h1]⟩) hn.1
    · rcases List.mem_cons.1 hy with h2 | h2
      · exact absurd (List.mem_map.2 ⟨x, h1, by rw [h, h2]⟩) hn.1
      · exact ih hn.2 h1 h2 h
theorem countP_less {α : Type} {p q : α → Bool} (h : ∀ x, p x = true → q x = true) : ∀ (l : List α) (e : α), e ∈ l → q e = true → p e = false → l.countP p + 1 ≤ l.countP q := by
  have hle : ∀ l : List α, l.countP p ≤ l.countP q := fun l => List.countP_mono_left fun x _ => h x
  intro l
  induction l with
  | nil => intro e he; cases he
  | cons x t ih =>
    intro e he hq hp
    rw [List.countP_cons, List.countP_cons]
    rcases List.mem_cons.1 he with rfl | he
    · have := hle t
      rw [hq, hp]
      simp
      omega
    · have h1 := ih e he hq hp
      have h2 := h x
      cases hx : p x
      · simp; split <;> omega
      · rw [h2 hx]; simp; omega
def badKV (k v : Value) : Bool := match k, v with
  | .agg a, .agg b => (match a.toList, b.toList with
    | [_, .int _ p], [.int _ num, .int _ den] => decide (num < p * den)
    | _, _ => false)
  | _, _ => false
def badE (e : MapEntry) : Bool := badKV e.key e.val
/-- What is left, when some have been seen. -/
def leftE (arr0 : List MapEntry) (seen : Array Nat) : List MapEntry := arr0.filter fun e => !(seen.toList.contains e.born && badE e)
theorem leftE_sub (arr0 : List MapEntry) (seen : Array Nat) : (leftE arr0 seen).Sublist arr0 := List.filter_sublist
theorem leftE_good {arr0 : List MapEntry} {seen : Array Nat} {e : MapEntry} (hn : (arr0.map (·.born)).Nodup) (he : e ∈ arr0) (hb : badE e = false) : leftE arr0 (seen.push e.born) = leftE arr0 seen := by
  unfold leftE
  refine List.filter_congr fun x hx => ?_
  by_cases hxe : x.born = e.born
  · have hxe' : x = e := inj_nodup (·.born) arr0 hn hx he hxe
    subst hxe'
    simp [hb]
  · simp [hxe]
theorem leftE_bad {arr0 : List MapEntry} {seen : Array Nat} {e : MapEntry} (hn : (arr0.map (·.born)).Nodup) {j : Nat} (he : (leftE arr0 seen)[j]? = some e) (hb : badE e = true) : (leftE arr0 seen).eraseIdx j = leftE arr0 (seen.push e.born) := by
  have hn2 : ((leftE arr0 seen).map (·.born)).Nodup := hn.sublist ((leftE_sub _ _).map _)
  have he2 := (leftE_sub arr0 seen).subset (List.mem_of_getElem? he)
  rw [eraseIdx_filter (·.born) _ j e he hn2]
  unfold leftE
  rw [List.filter_filter]
  refine List.filter_congr fun x hx => ?_
  by_cases hxe : x.born = e.born
  · have hxe' : x = e := inj_nodup (·.born) arr0 hn hx he2 hxe
    subst hxe'
    simp [hb]
  · simp [hxe]
theorem leftE_end {arr0 : List MapEntry} {seen : Array Nat} (h : ∀ e ∈ leftE arr0 seen, e.born ∈ seen.toList) : leftE arr0 seen = arr0.filter fun e => !badE e := by
  unfold leftE at *
  refine List.filter_congr fun x hx => ?_
  cases hb : badE x with
  | false => simp
  | true =>
    by_cases hs : x.born ∈ seen.toList
    · simp [hs]
    · exact absurd (h x (List.mem_filter.2 ⟨hx, by simp [hs]⟩)) hs
/-! ## The lots that are useful -/
/-- Lay theorems by their runs: a lot, as a key. -/
def lotE (p : Int × Int) : Value := .agg #[.int .i64 p.1, .int .i64 p.2]
def ratV (r : Int × Int) : Value := .agg #[.int .i64 r.1, .int .i64 r.2]
def priceAt (xs : List (Int × Int)) (l : Int × Int) : Int × Int := match mixScan l.1 none (chainOf xs) with
  | some m => priceR m
  | none => (0, 0)
def pricedUpto (xs : List (Int × Int)) : Nat → List ((Int × Int) × Value)
  | 0 => []
  | k + 1 => putL (pricedUpto xs k) (lotAt xs k) (ratV (priceAt xs (lotAt xs k)))
theorem priced_keys (xs : List (Int × Int)) : ∀ k, ((pricedUpto xs k).map Prod.fst).Nodup := by
  intro k
  induction k with
  | zero => simp [pricedUpto]
  | succ k ih => exact putL_keys _ _ _ ih
theorem Try.underlying98 : Try.prog.underlying 98 = some (.map 67 27) := by kernel_rfl
/-- What useful hands back. -/
def UsefulRet (L : List ((Int × Int) × Value)) (w0 : World) (e : Ending) (w' : World) : Prop :=
  ∃ g, e = .returned (.map (some g)) ∧ w0.heap.size ≤ g ∧ MapHas w'.heap[g]? (encL lotE L) ∧ Below w0.heap.size w0 w'
theorem priced_mem {xs : List (Int × Int)} : ∀ k, ∀ p ∈ pricedUpto xs k, ∃ j, j < k ∧ p.1 = lotAt xs j ∧ p.2 = ratV (priceAt xs (lotAt xs j)) := by
  intro k
  induction k with
  | zero => intro p hp; cases hp
  | succ k ih =>
    intro p hp
    unfold pricedUpto putL at hp
    split at hp
    · obtain ⟨q, hq, rfl⟩ := List.mem_map.1 hp
      split
      · exact ⟨k, by omega, rfl, rfl⟩
      · obtain ⟨j, hj, h⟩ := ih q hq
        exact ⟨j, by omega, h⟩
    · rcases List.mem_append.1 hp with h | h
      · obtain ⟨j, hj, h⟩ := ih p h
        exact ⟨j, by omega, h⟩
      · rw [List.mem_singleton] at h
        subst h
        exact ⟨k, by omega, rfl, rfl⟩
/-- What is left of the lots and their prices. -/
def usefulOf (xs : List (Int × Int)) : List ((Int × Int) × Value) := (pricedUpto xs xs.length).filter fun p => !badKV (lotE p.1) p.2
theorem ents_left {arr0 arr : Array MapEntry} {clock : Nat} {L0 : List ((Int × Int) × Value)} (hE : Ents arr0 clock (encL lotE L0)) {seen : Array Nat} (ha : arr.toList = leftE arr0.toList seen) :
    (arr.toList.map (·.born)).Nodup ∧ (∀ e ∈ arr.toList, e.born < clock) ∧ ∃ L, L.Sublist L0 ∧ arr.toList.map (fun e => (e.key, e.val)) = encL lotE L := by
  have hs : arr.toList.Sublist arr0.toList := by rw [ha]; exact leftE_sub _ _
  refine ⟨hE.2.2.sublist (hs.map _), fun e he => hE.2.1 e (hs.subset he), ?_⟩
  have h1 := hs.map (fun e : MapEntry => (e.key, e.val))
  rw [hE.1] at h1
  obtain ⟨L, h2, h3⟩ := List.sublist_map_iff.1 h1
  exact ⟨L, h2, h3⟩
theorem ents_end {arr0 arr : Array MapEntry} {clock : Nat} {L0 : List ((Int × Int) × Value)} (hE : Ents arr0 clock (encL lotE L0)) {seen : Array Nat} (ha : arr.toList = leftE arr0.toList seen) (hd : ∀ e ∈ arr.toList, e.born ∈ seen.toList) :
    Ents arr clock (encL lotE (L0.filter fun p => !badKV (lotE p.1) p.2)) := by
  have h1 := ents_left hE ha
  refine ⟨?_, h1.2.1, h1.1⟩
  rw [ha, leftE_end (by rw [← ha]; exact hd)]
  have h2 := hE.1
  have : (arr0.toList.filter fun e => !badE e).map (fun e => (e.key, e.val)) = (arr0.toList.map (fun e => (e.key, e.val))).filter fun p => !badKV p.1 p.2 := by
    rw [List.filter_map]; rfl
  rw [this, h2]
  unfold encL
  rw [List.filter_map]; rfl
set_option maxHeartbeats 2000000 in
set_option maxRecDepth 20000 in
theorem useful_any (gs : Nat) (Al : Option Addr) (c : Nat) (xs : List (Int × Int)) (w : World) (hS : ShelfIs w gs Al c xs) (hr : Reads w w.heap.size 2 Al xs.length (pairCells xs)) (hG : Good xs) (hmix : ∀ j, j < xs.length → ∃ m, mixScan (lotAt xs j).1 none (chainOf xs) = some m) :
    Calls Try.prog 72 #[.pointer (some ⟨gs, 0, none⟩)] w (UsefulRet (usefulOf xs) w) := by
  have hn := hG.len
  have hlots : w.cell? ⟨gs, 0, none⟩ = some (.slice Al xs.length c) := by
    obtain ⟨A3, c3, hk, _⟩ := hS
    rw [hk.cell 0]; exact shelf_lots _ _ _
  have hSh : ∀ w1, Below w.heap.size w w1 → ShelfIs w1 gs Al c xs := by
    intro w1 hb
    obtain ⟨A3, c3, hk, hrd, h3, h4⟩ := hS
    exact ⟨A3, c3, hk.below hb hk.lt, (hrd.below hb).more hb.size, h3, h4⟩
  refine fn_enter (n := 53) (A := []) Try.func72 rfl rfl (Nat.le_of_ble_eq_true rfl) (St.nil (Below.refl _ _)) ?_
  (repeat (first | (refine ot_makeMap (by decide) rfl rfl rfl ?_; intro gM hgM) | (refine ot_any_ ?_; first | refine k_1 ?_ | refine k_2 ?_ | refine k_3 ?_ | refine k_4 ?_ | refine k_5 ?_ | refine k_6 ?_ | refine k_7 ?_ | refine k_8 ?_ | refine k_9 ?_ | refine k_10 ?_ | (refine ot_bin_ rfl ?_; first | refine k_11 ?_ | refine k_12 ?_ | refine k_13 ?_ | refine k_14 ?_ | refine k_15 ?_ | refine k_16 ?_ | refine k_17 ?_ | refine k_18 ?_ | refine k_19 ?_ | refine k_20 ?_ | refine k_21 ?_ | refine k_22 ?_ | refine k_23 ?_ | refine k_24 ?_ | refine k_25 ?_ | refine k_26 ?_ | refine k_27 ?_ | refine k_28 ?_ | refine k_29 ?_ | refine k_30 ?_ | refine k_31 ?_ | refine k_32 ?_ | refine k_33 ?_ | refine k_34 ?_ | refine k_35 ?_ | refine k_36 ?_ | refine k_37 ?_) | (refine ot_mem_ rfl ?_; first | (refine k_38 ?_; intro g hg) | (refine k_39 ?_; intro g hg) | refine k_40 ?_ | refine k_41 ?_ | (refine k_42 ?_; intro g hg) | refine k_43 ?_) | (refine ot_callb_ rfl ?_; first | refine k_44 ?_ | refine k_45 ?_ | refine k_46 ?_) | (refine ot_skip_ rfl ?_; first | refine ot_skip rfl rfl ?_ | refine ot_skip_none rfl rfl ?_)) | refine ot_nil ?_ | refine tr_seq ?_ | refine tr_block ?_ | refine tr_region_seq rfl ?_ | refine tr_skip ?_ | refine tr_label ?_ | refine tr_exit ?_ | refine tr_ret ?_ | refine tr_scope ?_ | refine tr_cond_t rfl ?_ | refine tr_cond_f rfl ?_ | refine otl_cons ?_ | refine otl_nil ?_ | refine slist_and (by (repeat (first | exact List.nil_sublist _ | exact List.Sublist.refl _ | refine List.Sublist.cons_cons _ ?_ | refine List.Sublist.cons _ ?_))) ?_))
  refine tr_loop (fun gm ds ts A => ds = [] ∧ ∃ j, j + gm = xs.length ∧ A = [.map gM (encL lotE (pricedUpto xs j))] ∧ ts = [(3, .func (.func 62) #[.pointer (some ⟨gs, 0, none⟩)] #[]), (4, .map (some gM)), (17, .slice Al xs.length c), (18, .int .i64 (xs.length : Int)), (19, .int .i64 (j : Int))]) xs.length (l := [(3, _), (4, _), (17, _), (18, _), (19, _)]) (B := _) ?_ (List.Sublist.refl _) ⟨rfl, 0, by omega, rfl, rfl⟩ ?_
  · exact ⟨rfl, rfl, rfl, rfl, rfl, trivial⟩
  rintro gm ds ts A ⟨rfl, j, hj, rfl, rfl⟩
  by_cases hlt : j < xs.length
  · obtain ⟨b, o, rfl, _⟩ := hr.pair hlt
    have hcell := pair_cells hr hlt
    have hlot := not_lotBad.1 (hG.lot j hlt)
    obtain ⟨m, hm⟩ := hmix j hlt
    have hput : pricedUpto xs (j + 1) = putL (pricedUpto xs j) (lotAt xs j) (ratV (priceAt xs (lotAt xs j))) := rfl
    have hpr : priceAt xs (lotAt xs j) = priceR m := by unfold priceAt; rw [hm]
    rw [hpr] at hput
    change ∀ A, CellsAt w A b (o + j * 2) [.int .i64 (lotAt xs j).1, .int .i64 (lotAt xs j).2] at hcell
    generalize lotAt xs j = l at *
    obtain ⟨l1, l2⟩ := l
    obtain ⟨⟨a1, a2, a3⟩, ⟨b1, b2, b3⟩, p, q⟩ := m
    dsimp only at hlot hcell hm
    obtain ⟨ha, hb, hp, hp2, hq, hq2, h1⟩ := hG.mix ⟨hlot.1, hlot.2.1⟩ hm
    (repeat (first | refine ot_loadN Try.tabOk rfl rfl rfl rfl rfl rfl (hcell _) rfl ?_ | (refine ot_any_ ?_; first | refine k_1 ?_ | refine k_2 ?_ | refine k_3 ?_ | refine k_4 ?_ | refine k_5 ?_ | refine k_6 ?_ | refine k_7 ?_ | refine k_8 ?_ | refine k_9 ?_ | refine k_10 ?_ | (refine ot_bin_ rfl ?_; first | refine k_11 ?_ | refine k_12 ?_ | refine k_13 ?_ | refine k_14 ?_ | refine k_15 ?_ | refine k_16 ?_ | refine k_17 ?_ | refine k_18 ?_ | refine k_19 ?_ | refine k_20 ?_ | refine k_21 ?_ | refine k_22 ?_ | refine k_23 ?_ | refine k_24 ?_ | refine k_25 ?_ | refine k_26 ?_ | refine k_27 ?_ | refine k_28 ?_ | refine k_29 ?_ | refine k_30 ?_ | refine k_31 ?_ | refine k_32 ?_ | refine k_33 ?_ | refine k_34 ?_ | refine k_35 ?_ | refine k_36 ?_ | refine k_37 ?_) | (refine ot_mem_ rfl ?_; first | (refine k_38 ?_; intro g hg) | (refine k_39 ?_; intro g hg) | refine k_40 ?_ | refine k_41 ?_ | (refine k_42 ?_; intro g hg) | refine k_43 ?_) | (refine ot_callb_ rfl ?_; first | refine k_44 ?_ | refine k_45 ?_ | refine k_46 ?_) | (refine ot_skip_ rfl ?_; first | refine ot_skip rfl rfl ?_ | refine ot_skip_none rfl rfl ?_)) | refine ot_nil ?_ | refine tr_seq ?_ | refine tr_block ?_ | refine tr_region_seq rfl ?_ | refine tr_skip ?_ | refine tr_label ?_ | refine tr_exit ?_ | refine tr_ret ?_ | refine tr_scope ?_ | refine tr_cond_t rfl ?_ | refine tr_cond_f rfl ?_ | refine otl_cons ?_ | refine otl_nil ?_ | refine slist_and (by (repeat (first | exact List.nil_sublist _ | exact List.Sublist.refl _ | refine List.Sublist.cons_cons _ ?_ | refine List.Sublist.cons _ ?_))) ?_))
    refine ot_callv_q (us := [.pointer (some ⟨gs, 0, none⟩)]) (vs := []) rfl rfl rfl rfl (by kernel_rfl) (evl_of rfl) (fun w1 hs => mix_some (hSh w1 hs.base) hG ⟨hlot.1, hlot.2.1⟩ hm) ?_
    (repeat (first | (refine ot_any_ ?_; first | refine k_1 ?_ | refine k_2 ?_ | refine k_3 ?_ | refine k_4 ?_ | refine k_5 ?_ | refine k_6 ?_ | refine k_7 ?_ | refine k_8 ?_ | refine k_9 ?_ | refine k_10 ?_ | (refine ot_bin_ rfl ?_; first | refine k_11 ?_ | refine k_12 ?_ | refine k_13 ?_ | refine k_14 ?_ | refine k_15 ?_ | refine k_16 ?_ | refine k_17 ?_ | refine k_18 ?_ | refine k_19 ?_ | refine k_20 ?_ | refine k_21 ?_ | refine k_22 ?_ | refine k_23 ?_ | refine k_24 ?_ | refine k_25 ?_ | refine k_26 ?_ | refine k_27 ?_ | refine k_28 ?_ | refine k_29 ?_ | refine k_30 ?_ | refine k_31 ?_ | refine k_32 ?_ | refine k_33 ?_ | refine k_34 ?_ | refine k_35 ?_ | refine k_36 ?_ | refine k_37 ?_) | (refine ot_mem_ rfl ?_; first | (refine k_38 ?_; intro g hg) | (refine k_39 ?_; intro g hg) | refine k_40 ?_ | refine k_41 ?_ | (refine k_42 ?_; intro g hg) | refine k_43 ?_) | (refine ot_callb_ rfl ?_; first | refine k_44 ?_ | refine k_45 ?_ | refine k_46 ?_) | (refine ot_skip_ rfl ?_; first | refine ot_skip rfl rfl ?_ | refine ot_skip_none rfl rfl ?_)) | refine ot_nil ?_ | refine tr_seq ?_ | refine tr_block ?_ | refine tr_region_seq rfl ?_ | refine tr_skip ?_ | refine tr_label ?_ | refine tr_exit ?_ | refine tr_ret ?_ | refine tr_scope ?_ | refine tr_cond_t rfl ?_ | refine tr_cond_f rfl ?_ | refine otl_cons ?_ | refine otl_nil ?_ | refine slist_and (by (repeat (first | exact List.nil_sublist _ | exact List.Sublist.refl _ | refine List.Sublist.cons_cons _ ?_ | refine List.Sublist.cons _ ?_))) ?_))
    refine tr_region_draw (by kernel_rfl) [0, 1, 2, 3, 4] [.rd, .rd, .rd, .cr, .wr] rfl (by kernel_rfl) ?_
    (repeat (first | (refine ot_any_ ?_; first | refine k_1 ?_ | refine k_2 ?_ | refine k_3 ?_ | refine k_4 ?_ | refine k_5 ?_ | refine k_6 ?_ | refine k_7 ?_ | refine k_8 ?_ | refine k_9 ?_ | refine k_10 ?_ | (refine ot_bin_ rfl ?_; first | refine k_11 ?_ | refine k_12 ?_ | refine k_13 ?_ | refine k_14 ?_ | refine k_15 ?_ | refine k_16 ?_ | refine k_17 ?_ | refine k_18 ?_ | refine k_19 ?_ | refine k_20 ?_ | refine k_21 ?_ | refine k_22 ?_ | refine k_23 ?_ | refine k_24 ?_ | refine k_25 ?_ | refine k_26 ?_ | refine k_27 ?_ | refine k_28 ?_ | refine k_29 ?_ | refine k_30 ?_ | refine k_31 ?_ | refine k_32 ?_ | refine k_33 ?_ | refine k_34 ?_ | refine k_35 ?_ | refine k_36 ?_ | refine k_37 ?_) | (refine ot_mem_ rfl ?_; first | (refine k_38 ?_; intro g hg) | (refine k_39 ?_; intro g hg) | refine k_40 ?_ | refine k_41 ?_ | (refine k_42 ?_; intro g hg) | refine k_43 ?_) | (refine ot_callb_ rfl ?_; first | refine k_44 ?_ | refine k_45 ?_ | refine k_46 ?_) | (refine ot_skip_ rfl ?_; first | refine ot_skip rfl rfl ?_ | refine ot_skip_none rfl rfl ?_)) | refine ot_nil ?_ | refine tr_seq ?_ | refine tr_block ?_ | refine tr_region_seq rfl ?_ | refine tr_skip ?_ | refine tr_label ?_ | refine tr_exit ?_ | refine tr_ret ?_ | refine tr_scope ?_ | refine tr_cond_t rfl ?_ | refine tr_cond_f rfl ?_ | refine otl_cons ?_ | refine otl_nil ?_ | refine slist_and (by (repeat (first | exact List.nil_sublist _ | exact List.Sublist.refl _ | refine List.Sublist.cons_cons _ ?_ | refine List.Sublist.cons _ ?_))) ?_))
    refine ot_call_q rfl rfl rfl (by kernel_rfl) (evl_of rfl) (fun w1 hs => price_any a1 a2 a3 b1 b2 b3 p q w1 (by omega) (by omega) (by omega) (by omega) h1) ?_
    (repeat (first | (refine ot_any_ ?_; first | refine k_1 ?_ | refine k_2 ?_ | refine k_3 ?_ | refine k_4 ?_ | refine k_5 ?_ | refine k_6 ?_ | refine k_7 ?_ | refine k_8 ?_ | refine k_9 ?_ | refine k_10 ?_ | (refine ot_bin_ rfl ?_; first | refine k_11 ?_ | refine k_12 ?_ | refine k_13 ?_ | refine k_14 ?_ | refine k_15 ?_ | refine k_16 ?_ | refine k_17 ?_ | refine k_18 ?_ | refine k_19 ?_ | refine k_20 ?_ | refine k_21 ?_ | refine k_22 ?_ | refine k_23 ?_ | refine k_24 ?_ | refine k_25 ?_ | refine k_26 ?_ | refine k_27 ?_ | refine k_28 ?_ | refine k_29 ?_ | refine k_30 ?_ | refine k_31 ?_ | refine k_32 ?_ | refine k_33 ?_ | refine k_34 ?_ | refine k_35 ?_ | refine k_36 ?_ | refine k_37 ?_) | (refine ot_mem_ rfl ?_; first | (refine k_38 ?_; intro g hg) | (refine k_39 ?_; intro g hg) | refine k_40 ?_ | refine k_41 ?_ | (refine k_42 ?_; intro g hg) | refine k_43 ?_) | (refine ot_callb_ rfl ?_; first | refine k_44 ?_ | refine k_45 ?_ | refine k_46 ?_) | (refine ot_skip_ rfl ?_; first | refine ot_skip rfl rfl ?_ | refine ot_skip_none rfl rfl ?_)) | refine ot_nil ?_ | refine tr_seq ?_ | refine tr_block ?_ | refine tr_region_seq rfl ?_ | refine tr_skip ?_ | refine tr_label ?_ | refine tr_exit ?_ | refine tr_ret ?_ | refine tr_scope ?_ | refine tr_cond_t rfl ?_ | refine tr_cond_f rfl ?_ | refine otl_cons ?_ | refine otl_nil ?_ | refine slist_and (by (repeat (first | exact List.nil_sublist _ | exact List.Sublist.refl _ | refine List.Sublist.cons_cons _ ?_ | refine List.Sublist.cons _ ?_))) ?_))
    refine ot_mapUpdate (k := (l1, l2)) Try.lotKeys Try.underlying98 rfl rfl rfl rfl rfl rfl rfl (priced_keys xs j) (by (repeat (first | exact Upd.here | apply Upd.there))) ?_
    (repeat (first | (refine ot_any_ ?_; first | refine k_1 ?_ | refine k_2 ?_ | refine k_3 ?_ | refine k_4 ?_ | refine k_5 ?_ | refine k_6 ?_ | refine k_7 ?_ | refine k_8 ?_ | refine k_9 ?_ | refine k_10 ?_ | (refine ot_bin_ rfl ?_; first | refine k_11 ?_ | refine k_12 ?_ | refine k_13 ?_ | refine k_14 ?_ | refine k_15 ?_ | refine k_16 ?_ | refine k_17 ?_ | refine k_18 ?_ | refine k_19 ?_ | refine k_20 ?_ | refine k_21 ?_ | refine k_22 ?_ | refine k_23 ?_ | refine k_24 ?_ | refine k_25 ?_ | refine k_26 ?_ | refine k_27 ?_ | refine k_28 ?_ | refine k_29 ?_ | refine k_30 ?_ | refine k_31 ?_ | refine k_32 ?_ | refine k_33 ?_ | refine k_34 ?_ | refine k_35 ?_ | refine k_36 ?_ | refine k_37 ?_) | (refine ot_mem_ rfl ?_; first | (refine k_38 ?_; intro g hg) | (refine k_39 ?_; intro g hg) | refine k_40 ?_ | refine k_41 ?_ | (refine k_42 ?_; intro g hg) | refine k_43 ?_) | (refine ot_callb_ rfl ?_; first | refine k_44 ?_ | refine k_45 ?_ | refine k_46 ?_) | (refine ot_skip_ rfl ?_; first | refine ot_skip rfl rfl ?_ | refine ot_skip_none rfl rfl ?_)) | refine ot_nil ?_ | refine tr_seq ?_ | refine tr_block ?_ | refine tr_region_seq rfl ?_ | refine tr_skip ?_ | refine tr_label ?_ | refine tr_exit ?_ | refine tr_ret ?_ | refine tr_scope ?_ | refine tr_cond_t rfl ?_ | refine tr_cond_f rfl ?_ | refine otl_cons ?_ | refine otl_nil ?_ | refine slist_and (by (repeat (first | exact List.nil_sublist _ | exact List.Sublist.refl _ | refine List.Sublist.cons_cons _ ?_ | refine List.Sublist.cons _ ?_))) ?_))
    exact rndQ (gm - 1) (by omega) (l := [(3, _), (4, _), (17, _), (18, _), (19, _)]) (B := [.map gM (encL lotE (pricedUpto xs (j + 1)))]) ⟨rfl, rfl, rfl, rfl, rfl, trivial⟩ (by rw [hput]; (repeat (first | exact List.nil_sublist _ | exact List.Sublist.refl _ | refine List.Sublist.cons_cons _ ?_ | refine List.Sublist.cons _ ?_))) ⟨rfl, j + 1, by omega, rfl, rfl⟩
  · obtain rfl : j = xs.length := by omega
    have hmemL : ∀ p ∈ pricedUpto xs xs.length, ∃ l1 l2 u1 u2 : Int, p = ((l1, l2), ratV (u1, u2)) ∧ (0 ≤ l2 ∧ l2 ≤ 1000) ∧ 1 ≤ u2 ∧ u2 ≤ 200 := by
      intro p hp
      obtain ⟨k, hk, h1, h2⟩ := priced_mem _ p hp
      have hlot := not_lotBad.1 (hG.lot k hk)
      obtain ⟨m, hm⟩ := hmix k hk
      have hpr : priceAt xs (lotAt xs k) = priceR m := by unfold priceAt; rw [hm]
      rw [hpr] at h2
      obtain ⟨⟨a1, a2, a3⟩, ⟨b1, b2, b3⟩, pp, q⟩ := m
      obtain ⟨ha, hb, hp, hp2, hq, hq2, h5⟩ := hG.mix ⟨hlot.1, hlot.2.1⟩ hm
      have hrb := rat_bd (a2 * pp + b2 * q) (pp + q) (by omega)
      refine ⟨(lotAt xs k).1, (lotAt xs k).2, (rat (a2 * pp + b2 * q) (pp + q)).1, (rat (a2 * pp + b2 * q) (pp + q)).2, Prod.ext h1 h2, ⟨hlot.2.2.1, hlot.2.2.2⟩, hrb.1, by omega⟩
    have hkeys := priced_keys xs xs.length
    have hres : usefulOf xs = (pricedUpto xs xs.length).filter fun p => !badKV (lotE p.1) p.2 := rfl
    generalize usefulOf xs = RES at *
    generalize pricedUpto xs xs.length = L0 at *
    refine tr_map_open (fun arr clock => [.obj gM (.map arr clock)]) (fun _ _ => Upd.here) (fun arr0 clock hE => ?_)
    (repeat (first | (refine ot_range Try.underlying98 (by decide) rfl rfl rfl rfl (by (repeat (first | exact List.Mem.head _ | assumption | refine List.Mem.tail _ ?_))) ?_; intro gI hgI) | (refine ot_any_ ?_; first | refine k_1 ?_ | refine k_2 ?_ | refine k_3 ?_ | refine k_4 ?_ | refine k_5 ?_ | refine k_6 ?_ | refine k_7 ?_ | refine k_8 ?_ | refine k_9 ?_ | refine k_10 ?_ | (refine ot_bin_ rfl ?_; first | refine k_11 ?_ | refine k_12 ?_ | refine k_13 ?_ | refine k_14 ?_ | refine k_15 ?_ | refine k_16 ?_ | refine k_17 ?_ | refine k_18 ?_ | refine k_19 ?_ | refine k_20 ?_ | refine k_21 ?_ | refine k_22 ?_ | refine k_23 ?_ | refine k_24 ?_ | refine k_25 ?_ | refine k_26 ?_ | refine k_27 ?_ | refine k_28 ?_ | refine k_29 ?_ | refine k_30 ?_ | refine k_31 ?_ | refine k_32 ?_ | refine k_33 ?_ | refine k_34 ?_ | refine k_35 ?_ | refine k_36 ?_ | refine k_37 ?_) | (refine ot_mem_ rfl ?_; first | (refine k_38 ?_; intro g hg) | (refine k_39 ?_; intro g hg) | refine k_40 ?_ | refine k_41 ?_ | (refine k_42 ?_; intro g hg) | refine k_43 ?_) | (refine ot_callb_ rfl ?_; first | refine k_44 ?_ | refine k_45 ?_ | refine k_46 ?_) | (refine ot_skip_ rfl ?_; first | refine ot_skip rfl rfl ?_ | refine ot_skip_none rfl rfl ?_)) | refine ot_nil ?_ | refine tr_seq ?_ | refine tr_block ?_ | refine tr_region_seq rfl ?_ | refine tr_skip ?_ | refine tr_label ?_ | refine tr_exit ?_ | refine tr_ret ?_ | refine tr_scope ?_ | refine tr_cond_t rfl ?_ | refine tr_cond_f rfl ?_ | refine otl_cons ?_ | refine otl_nil ?_ | refine slist_and (by (repeat (first | exact List.nil_sublist _ | exact List.Sublist.refl _ | refine List.Sublist.cons_cons _ ?_ | refine List.Sublist.cons _ ?_))) ?_))
    refine tr_loop (fun gm ds ts A => ds = [] ∧ ∃ arr seen, arr.toList = leftE arr0.toList seen ∧ arr0.toList.countP (fun e => !seen.toList.contains e.born) = gm ∧ A = [.obj gI (.mapIter (some gM) clock seen clock), .obj gM (.map arr clock)] ∧ ts = [(4, .map (some gM)), (36, .pointer (some ⟨gI, 0, none⟩))])
      _ (l := [(4, _), (36, _)]) (B := _) ?_ (List.Sublist.refl _) ⟨rfl, arr0, #[], by unfold leftE; rw [List.filter_eq_self.2]; intro a _; simp, rfl, rfl, rfl⟩ ?_
    · exact ⟨rfl, rfl, trivial⟩
    rintro gm ds ts A ⟨rfl, arr, seen, harr, hcnt, rfl, rfl⟩
    obtain ⟨hnb, hbc, L, hLs, hL⟩ := ents_left hE harr
    (repeat (first | (refine ot_any_ ?_; first | refine k_1 ?_ | refine k_2 ?_ | refine k_3 ?_ | refine k_4 ?_ | refine k_5 ?_ | refine k_6 ?_ | refine k_7 ?_ | refine k_8 ?_ | refine k_9 ?_ | refine k_10 ?_ | (refine ot_bin_ rfl ?_; first | refine k_11 ?_ | refine k_12 ?_ | refine k_13 ?_ | refine k_14 ?_ | refine k_15 ?_ | refine k_16 ?_ | refine k_17 ?_ | refine k_18 ?_ | refine k_19 ?_ | refine k_20 ?_ | refine k_21 ?_ | refine k_22 ?_ | refine k_23 ?_ | refine k_24 ?_ | refine k_25 ?_ | refine k_26 ?_ | refine k_27 ?_ | refine k_28 ?_ | refine k_29 ?_ | refine k_30 ?_ | refine k_31 ?_ | refine k_32 ?_ | refine k_33 ?_ | refine k_34 ?_ | refine k_35 ?_ | refine k_36 ?_ | refine k_37 ?_) | (refine ot_mem_ rfl ?_; first | (refine k_38 ?_; intro g hg) | (refine k_39 ?_; intro g hg) | refine k_40 ?_ | refine k_41 ?_ | (refine k_42 ?_; intro g hg) | refine k_43 ?_) | (refine ot_callb_ rfl ?_; first | refine k_44 ?_ | refine k_45 ?_ | refine k_46 ?_) | (refine ot_skip_ rfl ?_; first | refine ot_skip rfl rfl ?_ | refine ot_skip_none rfl rfl ?_)) | refine ot_nil ?_ | refine tr_seq ?_ | refine tr_block ?_ | refine tr_region_seq rfl ?_ | refine tr_skip ?_ | refine tr_label ?_ | refine tr_exit ?_ | refine tr_ret ?_ | refine tr_scope ?_ | refine tr_cond_t rfl ?_ | refine tr_cond_f rfl ?_ | refine otl_cons ?_ | refine otl_nil ?_ | refine slist_and (by (repeat (first | exact List.nil_sublist _ | exact List.Sublist.refl _ | refine List.Sublist.cons_cons _ ?_ | refine List.Sublist.cons _ ?_))) ?_))
    refine ot_next (b := gM) rfl rfl rfl rfl rfl (by (repeat (first | exact List.Mem.head _ | assumption | refine List.Mem.tail _ ?_))) hbc (fun e => Upd.here) (fun hdone => ?_) (fun e he hns => ?_)
    · have hend := ents_end hE harr hdone
      (repeat (first | (refine ot_any_ ?_; first | refine k_1 ?_ | refine k_2 ?_ | refine k_3 ?_ | refine k_4 ?_ | refine k_5 ?_ | refine k_6 ?_ | refine k_7 ?_ | refine k_8 ?_ | refine k_9 ?_ | refine k_10 ?_ | (refine ot_bin_ rfl ?_; first | refine k_11 ?_ | refine k_12 ?_ | refine k_13 ?_ | refine k_14 ?_ | refine k_15 ?_ | refine k_16 ?_ | refine k_17 ?_ | refine k_18 ?_ | refine k_19 ?_ | refine k_20 ?_ | refine k_21 ?_ | refine k_22 ?_ | refine k_23 ?_ | refine k_24 ?_ | refine k_25 ?_ | refine k_26 ?_ | refine k_27 ?_ | refine k_28 ?_ | refine k_29 ?_ | refine k_30 ?_ | refine k_31 ?_ | refine k_32 ?_ | refine k_33 ?_ | refine k_34 ?_ | refine k_35 ?_ | refine k_36 ?_ | refine k_37 ?_) | (refine ot_mem_ rfl ?_; first | (refine k_38 ?_; intro g hg) | (refine k_39 ?_; intro g hg) | refine k_40 ?_ | refine k_41 ?_ | (refine k_42 ?_; intro g hg) | refine k_43 ?_) | (refine ot_callb_ rfl ?_; first | refine k_44 ?_ | refine k_45 ?_ | refine k_46 ?_) | (refine ot_skip_ rfl ?_; first | refine ot_skip rfl rfl ?_ | refine ot_skip_none rfl rfl ?_)) | refine ot_nil ?_ | refine tr_seq ?_ | refine tr_block ?_ | refine tr_region_seq rfl ?_ | refine tr_skip ?_ | refine tr_label ?_ | refine tr_exit ?_ | refine tr_ret ?_ | refine tr_scope ?_ | refine tr_cond_t rfl ?_ | refine tr_cond_f rfl ?_ | refine otl_cons ?_ | refine otl_nil ?_ | refine slist_and (by (repeat (first | exact List.nil_sublist _ | exact List.Sublist.refl _ | refine List.Sublist.cons_cons _ ?_ | refine List.Sublist.cons _ ?_))) ?_))
      refine ret1 (by first | exact .inl rfl | exact .inr rfl) rfl (by first | exact rv_tmp rfl | exact rv_row Try.tabOk rfl rfl rfl (by first | exact cells_blk_all (by (repeat (first | exact List.Mem.head _ | assumption | refine List.Mem.tail _ ?_))) | exact cells_row0 (by (repeat (first | exact List.Mem.head _ | assumption | refine List.Mem.tail _ ?_)))) rfl | exact rv_sc Try.tabOk rfl rfl rfl (by first | exact cell_blk (by (repeat (first | exact List.Mem.head _ | assumption | refine List.Mem.tail _ ?_))) (by rfl) | exact cell_row (by (repeat (first | exact List.Mem.head _ | assumption | refine List.Mem.tail _ ?_))) (by rfl) | exact cell_own (by (repeat (first | exact List.Mem.head _ | assumption | refine List.Mem.tail _ ?_))) (by rfl) | exact cell_row0 (by (repeat (first | exact List.Mem.head _ | assumption | refine List.Mem.tail _ ?_))) (by rfl) | assumption | exact CellAt.base (by assumption))) ?_
      refine fun w1 h => ⟨gM, rfl, (h.all _ (.tail _ (.head _))).1, ?_, h.base⟩
      rw [hres]
      exact ⟨arr, clock, (h.all _ (.tail _ (.head _))).2, hend.1, hend.2.1, hend.2.2⟩
    · obtain ⟨p0, hp0, hkv⟩ : ∃ p ∈ L, (lotE p.1, p.2) = (e.key, e.val) := by
        have : (e.key, e.val) ∈ encL lotE L := by rw [← hL]; exact List.mem_map.2 ⟨e, he, rfl⟩
        obtain ⟨p, h1, h2⟩ := List.mem_map.1 this
        exact ⟨p, h1, h2⟩
      obtain ⟨l1, l2, u1, u2, hp0e, hl2, hu2⟩ := hmemL p0 (hLs.subset hp0)
      have hek : e.key = .agg #[.int .i64 l1, .int .i64 l2] := by have := congrArg Prod.fst hkv; rw [hp0e] at this; exact this.symm
      have hev : e.val = .agg #[.int .i64 u1, .int .i64 u2] := by have := congrArg Prod.snd hkv; rw [hp0e] at this; exact this.symm
      have hbe : badE e = decide (u1 < l2 * u2) := by unfold badE; rw [hek, hev]; rfl
      have m1 := mul_abs (x := l2) (y := u2) (A := 1000) (B := 200) (by omega) (by omega) (by omega) (by omega)
      have hcl : arr0.toList.countP (fun x => !(seen.push e.born).toList.contains x.born) + 1 ≤ gm := by
        rw [← hcnt]
        refine countP_less (fun x hx => ?_) _ e ((leftE_sub arr0.toList seen).subset (by rw [← harr]; exact he)) (by simpa using hns) (by simp)
        simp only [Array.toList_push, List.contains_eq_mem, List.mem_append, Bool.not_eq_true', decide_eq_false_iff_not] at hx ⊢
        exact fun h => hx (.inl h)
      (repeat (first | (refine ot_any_ ?_; first | refine k_1 ?_ | refine k_2 ?_ | refine k_3 ?_ | refine k_4 ?_ | refine k_5 ?_ | refine k_6 ?_ | refine k_7 ?_ | refine k_8 ?_ | refine k_9 ?_ | refine k_10 ?_ | (refine ot_bin_ rfl ?_; first | refine k_11 ?_ | refine k_12 ?_ | refine k_13 ?_ | refine k_14 ?_ | refine k_15 ?_ | refine k_16 ?_ | refine k_17 ?_ | refine k_18 ?_ | refine k_19 ?_ | refine k_20 ?_ | refine k_21 ?_ | refine k_22 ?_ | refine k_23 ?_ | refine k_24 ?_ | refine k_25 ?_ | refine k_26 ?_ | refine k_27 ?_ | refine k_28 ?_ | refine k_29 ?_ | refine k_30 ?_ | refine k_31 ?_ | refine k_32 ?_ | refine k_33 ?_ | refine k_34 ?_ | refine k_35 ?_ | refine k_36 ?_ | refine k_37 ?_) | (refine ot_mem_ rfl ?_; first | (refine k_38 ?_; intro g hg) | (refine k_39 ?_; intro g hg) | refine k_40 ?_ | refine k_41 ?_ | (refine k_42 ?_; intro g hg) | refine k_43 ?_) | (refine ot_callb_ rfl ?_; first | refine k_44 ?_ | refine k_45 ?_ | refine k_46 ?_) | (refine ot_skip_ rfl ?_; first | refine ot_skip rfl rfl ?_ | refine ot_skip_none rfl rfl ?_)) | refine ot_nil ?_ | refine tr_seq ?_ | refine tr_block ?_ | refine tr_region_seq rfl ?_ | refine tr_skip ?_ | refine tr_label ?_ | refine tr_exit ?_ | refine tr_ret ?_ | refine tr_scope ?_ | refine tr_cond_t rfl ?_ | refine tr_cond_f rfl ?_ | refine otl_cons ?_ | refine otl_nil ?_ | refine slist_and (by (repeat (first | exact List.nil_sublist _ | exact List.Sublist.refl _ | refine List.Sublist.cons_cons _ ?_ | refine List.Sublist.cons _ ?_))) ?_))
      refine ot_entry (e := e) rfl rfl rfl rfl (b := gM) (by (repeat (first | exact List.Mem.head _ | assumption | refine List.Mem.tail _ ?_))) (List.Mem.head _) he hnb ?_
      rw [hek, hev]
      by_cases hbad : u1 < l2 * u2
      · have hkn : (L.map Prod.fst).Nodup := hkeys.sublist (hLs.map _)
        obtain ⟨j, v, hf, hLj⟩ : ∃ j v, findIdxL L (l1, l2) 0 = some (j, v) ∧ L[j]? = some ((l1, l2), v) := by
          rcases findIdxL_spec L (l1, l2) 0 with ⟨_, h, _⟩ | ⟨j, v, h1, h2, _⟩
          · rw [List.any_eq_false] at h
            exact absurd (by rw [hp0e]; simp) (h p0 hp0)
          · exact ⟨j, v, by simpa using h1, h2⟩
        have hje : arr.toList[j]? = some e := by
          have h1 : (arr.toList.map (fun e => (e.key, e.val)))[j]? = some (lotE (l1, l2), v) := by rw [hL]; simp [encL, hLj]
          rw [List.getElem?_map] at h1
          cases h2 : arr.toList[j]? with
          | none => rw [h2] at h1; cases h1
          | some e2 =>
            rw [h2] at h1
            simp only [Option.map_some, Option.some.injEq, Prod.mk.injEq] at h1
            have hkn2 : (arr.toList.map (·.key)).Nodup := by
              have h3 : arr.toList.map (·.key) = L.map (fun p => lotE p.1) := by
                have := congrArg (List.map Prod.fst) hL
                simpa [encL, List.map_map, Function.comp_def] using this
              rw [h3]
              refine List.pairwise_map.2 ((List.pairwise_map.1 hkn).imp fun h e => h ?_)
              simp only [lotE, Value.agg.injEq] at e
              simp at e
              exact Prod.ext e.1 e.2
            rw [inj_nodup (·.key) arr.toList hkn2 (List.mem_of_getElem? h2) he (by rw [h1.1, hek]; rfl)]
        (repeat (first | (refine ot_any_ ?_; first | refine k_1 ?_ | refine k_2 ?_ | refine k_3 ?_ | refine k_4 ?_ | refine k_5 ?_ | refine k_6 ?_ | refine k_7 ?_ | refine k_8 ?_ | refine k_9 ?_ | refine k_10 ?_ | (refine ot_bin_ rfl ?_; first | refine k_11 ?_ | refine k_12 ?_ | refine k_13 ?_ | refine k_14 ?_ | refine k_15 ?_ | refine k_16 ?_ | refine k_17 ?_ | refine k_18 ?_ | refine k_19 ?_ | refine k_20 ?_ | refine k_21 ?_ | refine k_22 ?_ | refine k_23 ?_ | refine k_24 ?_ | refine k_25 ?_ | refine k_26 ?_ | refine k_27 ?_ | refine k_28 ?_ | refine k_29 ?_ | refine k_30 ?_ | refine k_31 ?_ | refine k_32 ?_ | refine k_33 ?_ | refine k_34 ?_ | refine k_35 ?_ | refine k_36 ?_ | refine k_37 ?_) | (refine ot_mem_ rfl ?_; first | (refine k_38 ?_; intro g hg) | (refine k_39 ?_; intro g hg) | refine k_40 ?_ | refine k_41 ?_ | (refine k_42 ?_; intro g hg) | refine k_43 ?_) | (refine ot_callb_ rfl ?_; first | refine k_44 ?_ | refine k_45 ?_ | refine k_46 ?_) | (refine ot_skip_ rfl ?_; first | refine ot_skip rfl rfl ?_ | refine ot_skip_none rfl rfl ?_)) | refine ot_nil ?_ | refine tr_seq ?_ | refine tr_block ?_ | refine tr_region_seq rfl ?_ | refine tr_skip ?_ | refine tr_label ?_ | refine tr_exit ?_ | refine tr_ret ?_ | refine tr_scope ?_ | refine tr_cond_t rfl ?_ | refine tr_cond_f rfl ?_ | refine otl_cons ?_ | refine otl_nil ?_ | refine slist_and (by (repeat (first | exact List.nil_sublist _ | exact List.Sublist.refl _ | refine List.Sublist.cons_cons _ ?_ | refine List.Sublist.cons _ ?_))) ?_))
        refine ot_delete (k := (l1, l2)) Try.lotKeys Try.underlying98 rfl rfl rfl rfl rfl rfl hL hf (by (repeat (first | exact Upd.here | apply Upd.there))) ?_
        (repeat (first | (refine ot_any_ ?_; first | refine k_1 ?_ | refine k_2 ?_ | refine k_3 ?_ | refine k_4 ?_ | refine k_5 ?_ | refine k_6 ?_ | refine k_7 ?_ | refine k_8 ?_ | refine k_9 ?_ | refine k_10 ?_ | (refine ot_bin_ rfl ?_; first | refine k_11 ?_ | refine k_12 ?_ | refine k_13 ?_ | refine k_14 ?_ | refine k_15 ?_ | refine k_16 ?_ | refine k_17 ?_ | refine k_18 ?_ | refine k_19 ?_ | refine k_20 ?_ | refine k_21 ?_ | refine k_22 ?_ | refine k_23 ?_ | refine k_24 ?_ | refine k_25 ?_ | refine k_26 ?_ | refine k_27 ?_ | refine k_28 ?_ | refine k_29 ?_ | refine k_30 ?_ | refine k_31 ?_ | refine k_32 ?_ | refine k_33 ?_ | refine k_34 ?_ | refine k_35 ?_ | refine k_36 ?_ | refine k_37 ?_) | (refine ot_mem_ rfl ?_; first | (refine k_38 ?_; intro g hg) | (refine k_39 ?_; intro g hg) | refine k_40 ?_ | refine k_41 ?_ | (refine k_42 ?_; intro g hg) | refine k_43 ?_) | (refine ot_callb_ rfl ?_; first | refine k_44 ?_ | refine k_45 ?_ | refine k_46 ?_) | (refine ot_skip_ rfl ?_; first | refine ot_skip rfl rfl ?_ | refine ot_skip_none rfl rfl ?_)) | refine ot_nil ?_ | refine tr_seq ?_ | refine tr_block ?_ | refine tr_region_seq rfl ?_ | refine tr_skip ?_ | refine tr_label ?_ | refine tr_exit ?_ | refine tr_ret ?_ | refine tr_scope ?_ | refine tr_cond_t rfl ?_ | refine tr_cond_f rfl ?_ | refine otl_cons ?_ | refine otl_nil ?_ | refine slist_and (by (repeat (first | exact List.nil_sublist _ | exact List.Sublist.refl _ | refine List.Sublist.cons_cons _ ?_ | refine List.Sublist.cons _ ?_))) ?_))
        exact ⟨arr0.toList.countP (fun x => !(seen.push e.born).toList.contains x.born), [(4, .map (some gM)), (36, .pointer (some ⟨gI, 0, none⟩))], [.obj gI (.mapIter (some gM) clock (seen.push e.born) clock), .obj gM (.map (arr.eraseIdxIfInBounds j) clock)], by omega, ⟨rfl, rfl, trivial⟩, (by (repeat (first | exact List.nil_sublist _ | exact List.Sublist.refl _ | refine List.Sublist.cons_cons _ ?_ | refine List.Sublist.cons _ ?_))), rfl, _, _, by rw [Array.toList_eraseIdxIfInBounds, harr]; exact leftE_bad hE.2.2 (by rw [← harr]; exact hje) (by rw [hbe]; exact decide_eq_true hbad), rfl, rfl, rfl⟩
      · (repeat (first | (refine ot_any_ ?_; first | refine k_1 ?_ | refine k_2 ?_ | refine k_3 ?_ | refine k_4 ?_ | refine k_5 ?_ | refine k_6 ?_ | refine k_7 ?_ | refine k_8 ?_ | refine k_9 ?_ | refine k_10 ?_ | (refine ot_bin_ rfl ?_; first | refine k_11 ?_ | refine k_12 ?_ | refine k_13 ?_ | refine k_14 ?_ | refine k_15 ?_ | refine k_16 ?_ | refine k_17 ?_ | refine k_18 ?_ | refine k_19 ?_ | refine k_20 ?_ | refine k_21 ?_ | refine k_22 ?_ | refine k_23 ?_ | refine k_24 ?_ | refine k_25 ?_ | refine k_26 ?_ | refine k_27 ?_ | refine k_28 ?_ | refine k_29 ?_ | refine k_30 ?_ | refine k_31 ?_ | refine k_32 ?_ | refine k_33 ?_ | refine k_34 ?_ | refine k_35 ?_ | refine k_36 ?_ | refine k_37 ?_) | (refine ot_mem_ rfl ?_; first | (refine k_38 ?_; intro g hg) | (refine k_39 ?_; intro g hg) | refine k_40 ?_ | refine k_41 ?_ | (refine k_42 ?_; intro g hg) | refine k_43 ?_) | (refine ot_callb_ rfl ?_; first | refine k_44 ?_ | refine k_45 ?_ | refine k_46 ?_) | (refine ot_skip_ rfl ?_; first | refine ot_skip rfl rfl ?_ | refine ot_skip_none rfl rfl ?_)) | refine ot_nil ?_ | refine tr_seq ?_ | refine tr_block ?_ | refine tr_region_seq rfl ?_ | refine tr_skip ?_ | refine tr_label ?_ | refine tr_exit ?_ | refine tr_ret ?_ | refine tr_scope ?_ | refine tr_cond_t rfl ?_ | refine tr_cond_f rfl ?_ | refine otl_cons ?_ | refine otl_nil ?_ | refine slist_and (by (repeat (first | exact List.nil_sublist _ | exact List.Sublist.refl _ | refine List.Sublist.cons_cons _ ?_ | refine List.Sublist.cons _ ?_))) ?_))
        exact ⟨arr0.toList.countP (fun x => !(seen.push e.born).toList.contains x.born), [(4, .map (some gM)), (36, .pointer (some ⟨gI, 0, none⟩))], [.obj gI (.mapIter (some gM) clock (seen.push e.born) clock), .obj gM (.map arr clock)], by omega, ⟨rfl, rfl, trivial⟩, (by (repeat (first | exact List.nil_sublist _ | exact List.Sublist.refl _ | refine List.Sublist.cons_cons _ ?_ | refine List.Sublist.cons _ ?_))), rfl, _, _, by rw [harr]; exact (leftE_good hE.2.2 ((leftE_sub arr0.toList seen).subset (by rw [← harr]; exact he)) (by rw [hbe]; exact decide_eq_false hbad)).symm, rfl, rfl, rfl⟩
end Go.Proofs.Ytfjnnegaljfkgaa
