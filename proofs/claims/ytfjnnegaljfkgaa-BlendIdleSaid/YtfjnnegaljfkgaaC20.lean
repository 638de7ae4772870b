/- Layer 3, blends: A call that makes memory, part of it laid behind: lemmas for the rows of this seat. No conditions. -/
import Derived.Test.YtfjnnegaljfkgaaProg
import Derived.Test.YtfjnnegaljfkgaaBase
import Derived.Test.YtfjnnegaljfkgaaPlain
import Derived.Test.YtfjnnegaljfkgaaWA
import Derived.Test.YtfjnnegaljfkgaaSeg
import Derived.Test.YtfjnnegaljfkgaaKeys
import Derived.Test.YtfjnnegaljfkgaaW20
import Derived.Test.YtfjnnegaljfkgaaW21
import Derived.Test.YtfjnnegaljfkgaaW22
import Derived.Test.YtfjnnegaljfkgaaS1
import Derived.Test.YtfjnnegaljfkgaaS5
import Derived.Test.YtfjnnegaljfkgaaS12
import Derived.Test.YtfjnnegaljfkgaaTab
import Derived.Test.YtfjnnegaljfkgaaS14
import Derived.Test.YtfjnnegaljfkgaaArms
import Derived.Test.YtfjnnegaljfkgaaWE
import Derived.Test.YtfjnnegaljfkgaaB1
import Derived.Test.YtfjnnegaljfkgaaB2
import Derived.Test.YtfjnnegaljfkgaaB3
import Derived.Test.YtfjnnegaljfkgaaB4
import Derived.Test.YtfjnnegaljfkgaaB5
import Derived.Test.YtfjnnegaljfkgaaB6
import Derived.Test.YtfjnnegaljfkgaaB7
import Derived.Test.YtfjnnegaljfkgaaB8
import Derived.Test.YtfjnnegaljfkgaaB9
import Derived.Test.YtfjnnegaljfkgaaB10
import Derived.Test.YtfjnnegaljfkgaaB11
import Derived.Test.YtfjnnegaljfkgaaB12
import Derived.Test.YtfjnnegaljfkgaaB13
import Derived.Test.YtfjnnegaljfkgaaB14
import Derived.Test.YtfjnnegaljfkgaaC1
import Derived.Test.YtfjnnegaljfkgaaC2a
import Derived.Test.YtfjnnegaljfkgaaC2
import Derived.Test.YtfjnnegaljfkgaaL1
import Derived.Test.YtfjnnegaljfkgaaL2
import Derived.Test.YtfjnnegaljfkgaaC3a
import Derived.Test.YtfjnnegaljfkgaaC6
import Derived.Test.YtfjnnegaljfkgaaC7
import Derived.Test.YtfjnnegaljfkgaaC9
import Derived.Test.YtfjnnegaljfkgaaC10a
import Derived.Test.YtfjnnegaljfkgaaV
import Derived.Test.YtfjnnegaljfkgaaV2
import Derived.Test.YtfjnnegaljfkgaaV3
set_option linter.all false
namespace Go.Proofs.Ytfjnnegaljfkgaa
open Go.RowKit
/-! ## A call that makes memory, part of it laid behind -/
section
variable {P : Program} {w0 : World} {n : Nat} {ds : List Deferred} {ops : List Oper} {o : Oper} {os : List Oper} {ks : List Kind} {ts : TS} {A : List Chunk} {K : TS → List Chunk → Prop} {d : Tmp} {x : Operand} {xs : Array Operand} {ats : Array TypeId} {f : FuncId} {us bs vs avs : List Value}
/-- A call that makes memory, part of which is laid behind. -/
theorem ot_callT {X : Type} (v : X → Value) (H T : X → List Chunk) (p : X → Prop) (hm : ∀ x, ∀ c ∈ H x ++ T x, c.mut = true) (hh : ks.headD .wr ≠ .rd) (hop : o.op = .call { callee := .value x, args := xs, argTypes := ats }) (hd : o.dst = some d) (hw : wantB ops ts o = some true) (hf : evT ts x = some (.func (.func f) us.toArray vs.toArray)) (hb : hasBody P f = true) (ha : EvL ts xs.toList bs) (hl : us ++ bs ++ vs = avs)
    (hc : ∀ w, St w0 A w → Calls P f avs.toArray w fun e w' => ∃ x, e = .returned (v x) ∧ p x ∧ St w (H x ++ T x) w') (hk : ∀ x, p x → OT P w0 n ds ops os ks.tail ((d, v x) :: ts) (H x ++ (A ++ T x)) K) : OT P w0 n ds ops (o :: os) ks ts A K := by
  subst hl
  refine ot_cr hh fun a w hh => ?_
  unfold wpV
  rw [if_pos (wantB_spec hh hw)]
  refine callv_upV hh hop hf hb ha ((hc w hh.st).mono fun e w' hr => ?_)
  obtain ⟨x, rfl, hp, hr⟩ := hr
  refine ⟨_, rfl, _, fun _ => hr.base, (hh.st.join hr (hm x)).perm ?_, by rw [hd]; exact hk x hp⟩
  rw [List.append_assoc]
  exact List.perm_append_comm.append_left _
end
/-! ## BlendIdle, plainly -/
/-- Lay theorems by their runs: fewer lots, with all corners, have the same prices. -/
theorem ch_sub {xs ys : List (Int × Int)} (h : Good xs) (h' : Good ys) (hs : ∀ p ∈ ys, p ∈ xs) (hc : ∀ c ∈ chainOf xs, pt c ∈ ys) (t : Int) : chR ys t = chR xs t := by
  cases hb : (chR xs t).2 with
  | true =>
    obtain ⟨m, hm⟩ : ∃ m, mixScan t none (chainOf xs) = some m := by
      unfold chR at hb
      cases hm : mixScan t none (chainOf xs) with
      | none => rw [hm] at hb; cases hb
      | some m => exact ⟨m, rfl⟩
    have hI := h.mixIs hm
    have hC := hI.cheap
    have hw := mix_wit h hm (hc _ hI.one) (hc _ hI.two)
    have e : chR xs t = (priceR m, true) := by unfold chR; rw [hm]
    obtain ⟨d, s, k, hd, hl, he⟩ := hC.low
    have hY : Cheap ys t (m.1.2.1 * m.2.2.1 + m.2.1.2.1 * m.2.2.2) (m.2.2.1 + m.2.2.2) := ⟨hC.pos, hw, d, s, k, hd, fun p hp => hl p (hs p hp), he⟩
    rw [e]
    exact h'.ch_is (hI.ok h) hY.ratC
  | false =>
    obtain ⟨h1, h2⟩ := h.ch_false hb
    rw [h'.ch_not (fun ⟨a, ha, b, hb', h3⟩ => h1 ⟨a, hs a ha, b, hs b hb', h3⟩), ← h2, ← hb]
theorem priceOk_one {p : Int} (h : 0 ≤ p ∧ p ≤ 1000) : PriceOk (p, 1) := ⟨⟨Int.le_refl _, by dsimp only; omega⟩, ⟨by dsimp only; omega, by dsimp only; omega⟩, rat_one p⟩
theorem Good.corner_ch {xs : List (Int × Int)} (h : Good xs) {c : Corner} (hc : c ∈ chainOf xs) : chR xs c.1 = ((c.2.1, 1), true) := by
  have hm := h.mem (h.hull.lot_mem hc)
  unfold pt at hm
  exact h.ch_is (priceOk_one (by dsimp only at hm; omega)) (h.corner_cheap hc)
/-- At its own sharpness a lot's price is the cheapest one just if it is not idle. -/
theorem Good.own_price {xs : List (Int × Int)} (h : Good xs) {i : Nat} (hi : i < xs.length) : ∃ z, chR xs (lotAt xs i).1 = (z, true) ∧ PriceOk z ∧ (idleAt xs i = !decide (z = ((lotAt xs i).2, 1))) := by
  have hp := lotAt_mem hi
  have hb := h.mem hp
  have ht := h.ch_had (t := (lotAt xs i).1) ⟨_, hp, _, hp, Int.le_refl _, Int.le_refl _⟩
  obtain ⟨hC, hO⟩ := h.ch_true ht
  obtain ⟨z, b, e⟩ : ∃ z b, chR xs (lotAt xs i).1 = (z, b) := ⟨_, _, rfl⟩
  rw [e] at ht hC hO
  dsimp only at ht hC hO
  subst ht
  refine ⟨z, e, hO, ?_⟩
  have hpr : priceAt xs (lotAt xs i) = z := by
    unfold priceAt
    unfold chR at e
    cases hm : mixScan (lotAt xs i).1 none (chainOf xs) with
    | none => rw [hm] at e; cases e
    | some m => rw [hm] at e; exact (Prod.mk.inj e).1
  have hid : idleAt xs i = decide (z.1 < (lotAt xs i).2 * z.2) := by
    obtain ⟨h1, h2⟩ := h.priced hp
    rw [hpr] at h1
    unfold idleAt
    rw [h1, rat_one]
    unfold less
    simp only [Option.getD_some, Int.mul_one]
  obtain ⟨d, s, k, hd, hl, he⟩ := hC.low
  have h1 := hl _ hp
  have hle : z.1 ≤ (lotAt xs i).2 * z.2 := by
    have h2 := Int.mul_le_mul_of_nonneg_right h1 (show 0 ≤ z.2 by have := hO.den; omega)
    rw [he] at h2
    refine Int.le_of_mul_le_mul_right (a := d) ?_ hd
    rw [Int.mul_right_comm]
    exact h2
  rw [hid]
  by_cases ez : z = ((lotAt xs i).2, 1)
  · rw [decide_eq_true ez, ez]
    simp
  · rw [decide_eq_false ez]
    refine decide_eq_true (Int.not_le.1 fun h3 => ez ?_)
    exact hO.eq (priceOk_one (by omega)) (by dsimp only; omega)
/-! ### Indices -/
theorem nodup_len {α : Type} [DecidableEq α] : ∀ {l m : List α}, l.Nodup → (∀ x ∈ l, x ∈ m) → l.length ≤ m.length
  | [], m, _, _ => Nat.zero_le _
  | a :: l, m, hn, hs => by
    obtain ⟨h1, h2⟩ := List.nodup_cons.1 hn
    have ha := hs a (.head _)
    have := nodup_len (l := l) (m := m.erase a) h2 fun x hx => (List.mem_erase_of_ne (fun e => h1 (by rw [← e]; exact hx))).2 (hs x (.tail _ hx))
    rw [List.length_erase_of_mem ha] at this
    have h0 := List.length_pos_of_mem ha
    rw [List.length_cons]; omega
theorem filter_two (p : Nat → Bool) (l : List Nat) : (l.filter p).length + (l.filter fun i => !p i).length = l.length := by
  induction l with
  | nil => rfl
  | cons a l ih =>
    cases h : p a
    · rw [List.filter_cons_of_neg (by simp [h]), List.filter_cons_of_pos (by simp [h]), List.length_cons, List.length_cons]; omega
    · rw [List.filter_cons_of_pos h, List.filter_cons_of_neg (by simp [h]), List.length_cons, List.length_cons]; omega
/-- The corners' places. -/
def kN (xs : List (Int × Int)) : List Nat := (chainOf xs).map fun c => c.2.2.toNat
def keepN (xs : List (Int × Int)) : List Nat := (List.range xs.length).filter fun i => !idleAt xs i
section
variable {xs : List (Int × Int)}
theorem Good.kN_map (h : Good xs) : (refCorners xs).1 = (kN xs).map Int.ofNat ∧ (refCorners xs).2 = 0 := by
  have h0 : checkLots xs = 0 := h.check
  unfold refCorners
  rw [if_neg (by rw [h0]; decide)]
  refine ⟨?_, rfl⟩
  have := h.cornersUpto_eq 101
  rw [this]
  unfold kN
  rw [List.filter_eq_self.2 fun c hc => decide_eq_true (by
    have := h.mem (h.hull.lot_mem hc)
    unfold pt at this
    dsimp only at this
    omega), List.map_map]
  refine List.map_congr_left fun c hc => ?_
  obtain ⟨i, e, _⟩ := h.hull.lot c hc
  show c.2.2 = ((c.2.2.toNat : Nat) : Int)
  omega
theorem Good.kN_mem (h : Good xs) {i : Nat} (hi : i ∈ kN xs) : i < xs.length ∧ ∃ c ∈ chainOf xs, lotAt xs i = pt c ∧ idleAt xs i = false := by
  unfold kN at hi
  obtain ⟨c, hc, rfl⟩ := List.mem_map.1 hi
  obtain ⟨j, e, hj, hl, _⟩ := h.hull.lot c hc
  rw [show c.2.2.toNat = j by omega]
  refine ⟨hj, c, hc, hl, ?_⟩
  obtain ⟨z, ez, _, hid⟩ := h.own_price hj
  rw [hl] at ez hid
  have := h.corner_ch hc
  rw [show (pt c).1 = c.1 from rfl, this] at ez
  rw [hid, ← (Prod.mk.inj ez).1]
  exact congrArg not (decide_eq_true rfl)
theorem Good.kN_sorted (h : Good xs) : (kN xs).Pairwise fun i k => (lotAt xs i).1 < (lotAt xs k).1 := by
  unfold kN
  rw [List.pairwise_map]
  refine h.hull.sorted.imp_of_mem fun {a b} ha hb hab => ?_
  obtain ⟨i, e1, _, h1, _⟩ := h.hull.lot a ha
  obtain ⟨j, e2, _, h2, _⟩ := h.hull.lot b hb
  rw [show a.2.2.toNat = i by omega, show b.2.2.toNat = j by omega, h1, h2]
  exact hab
theorem Good.kN_nodup (h : Good xs) : (kN xs).Nodup := h.kN_sorted.imp fun hab e => by subst e; exact absurd hab (Int.lt_irrefl _)
theorem Good.kN_pos (h : Good xs) : 0 < (kN xs).length := by
  have hp := lotAt_mem (xs := xs) (j := 0) (by have := h.len; omega)
  have ht := h.ch_had (t := (lotAt xs 0).1) ⟨_, hp, _, hp, Int.le_refl _, Int.le_refl _⟩
  unfold kN
  rw [List.length_map]
  refine Nat.pos_of_ne_zero fun h0 => ?_
  unfold chR at ht
  rw [List.eq_nil_of_length_eq_zero h0] at ht
  cases ht
theorem Good.idle_count (h : Good xs) : (idxs (idleAt xs) xs.length).length + (kN xs).length ≤ xs.length := by
  have h1 := filter_two (idleAt xs) (List.range xs.length)
  have h2 : (kN xs).length ≤ ((List.range xs.length).filter fun i => !idleAt xs i).length := nodup_len h.kN_nodup fun i hi => by
    obtain ⟨h3, _, _, _, h4⟩ := h.kN_mem hi
    exact List.mem_filter.2 ⟨List.mem_range.2 h3, by rw [h4]; rfl⟩
  rw [List.length_range] at h1
  unfold idxs
  rw [List.length_map]
  omega
theorem Good.keep (h : Good xs) : Good ((keepN xs).map (lotAt xs)) ∧ ∀ t, chR ((keepN xs).map (lotAt xs)) t = chR xs t := by
  have hk : ∀ i ∈ kN xs, i ∈ keepN xs := fun i hi => by
    obtain ⟨h3, _, _, _, h4⟩ := h.kN_mem hi
    exact List.mem_filter.2 ⟨List.mem_range.2 h3, by rw [h4]; rfl⟩
  have hlen : (keepN xs).length ≤ xs.length := by
    unfold keepN
    refine Nat.le_trans (List.length_filter_le _ _) ?_
    rw [List.length_range]; exact Nat.le_refl _
  have hpos : 0 < (keepN xs).length := by
    obtain ⟨i, hi⟩ := List.exists_mem_of_length_pos h.kN_pos
    exact List.length_pos_of_mem (hk i hi)
  have hmem : ∀ p ∈ (keepN xs).map (lotAt xs), p ∈ xs := fun p hp => by
    obtain ⟨i, hi, rfl⟩ := List.mem_map.1 hp
    exact lotAt_mem (List.mem_range.1 (List.mem_filter.1 hi).1)
  have hl := h.len
  have hG : Good ((keepN xs).map (lotAt xs)) := Good.of_mem (by rw [List.length_map]; omega) (by rw [List.length_map]; omega) fun p hp => h.mem (hmem p hp)
  refine ⟨hG, fun t => ch_sub h hG hmem (fun c hc => ?_) t⟩
  obtain ⟨j, e, hj, hlt, _⟩ := h.hull.lot c hc
  rw [← hlt]
  exact List.mem_map.2 ⟨j, hk j (List.mem_map.2 ⟨c, hc, by rw [e]; rfl⟩), rfl⟩
theorem Good.corners (h : Good xs) : Good ((kN xs).map (lotAt xs)) ∧ ∀ t, chR ((kN xs).map (lotAt xs)) t = chR xs t := by
  have hmem : ∀ p ∈ (kN xs).map (lotAt xs), p ∈ xs := fun p hp => by
    obtain ⟨i, hi, rfl⟩ := List.mem_map.1 hp
    exact lotAt_mem (h.kN_mem hi).1
  have hc := h.idle_count
  have hpos := h.kN_pos
  have hl := h.len
  have hG : Good ((kN xs).map (lotAt xs)) := Good.of_mem (by rw [List.length_map]; omega) (by rw [List.length_map]; omega) fun p hp => h.mem (hmem p hp)
  refine ⟨hG, fun t => ch_sub h hG hmem (fun c hc => ?_) t⟩
  obtain ⟨j, e, hj, hlt, _⟩ := h.hull.lot c hc
  rw [← hlt]
  exact List.mem_map.2 ⟨j, List.mem_map.2 ⟨c, hc, by rw [e]; rfl⟩, rfl⟩
end
/-! ### Lists of places -/
theorem idxs_at {p : Nat → Bool} {n : Nat} {i : Nat} : (i : Int) ∈ idxs p n ↔ i < n ∧ p i = true := by
  unfold idxs
  rw [List.mem_map]
  constructor
  · rintro ⟨j, hj, e⟩
    obtain rfl : j = i := by have : ((j : Nat) : Int) = i := e; omega
    obtain ⟨h1, h2⟩ := List.mem_filter.1 hj
    exact ⟨List.mem_range.1 h1, h2⟩
  · rintro ⟨h1, h2⟩
    exact ⟨i, List.mem_filter.2 ⟨List.mem_range.2 h1, h2⟩, rfl⟩
/-! ## BlendIdle -/
def iAtB (l : List Int) (j : Nat) : Int := l[j]?.getD 0
theorem i64s_atB (l : List Int) {j : Nat} (h : j < l.length) : (i64s l)[j]? = some (.int .i64 (iAtB l j)) := by
  unfold i64s iAtB
  rw [List.getElem?_map, List.getElem?_eq_getElem h]; rfl
/-- Numbers in a list, as a walk reads them. -/
theorem ints_cell {w0 : World} {R : List Chunk} {B : Option Addr} {l : List Int} (h : ∀ w1, St w0 R w1 → Reads w1 w1.heap.size 1 B l.length (i64s l)) {b o : Nat} (hB : B = some ⟨b, o, none⟩) {A : List Chunk} (hs : R.Sublist A) {j : Nat} (hj : j < l.length) : CellAt w0 A b (o + j * 1) (.int .i64 (iAtB l j)) := fun w1 hw => by
  obtain ⟨b', o', e, _, hc⟩ := (h w1 (hw.sub hs)).2 (by omega)
  rw [hB] at e
  cases e
  have := hc j _ (i64s_atB l hj)
  rwa [Nat.mul_one]
section
variable (B : Option Addr) (c : Nat) (l : List Int) (w : World) (hr : Reads w w.heap.size 1 B l.length (i64s l)) (hm : l.length ≤ 1000)
include hr hm
theorem isList_any (m : Int) (h1 : ∀ j, j < l.length → 0 ≤ iAtB l j ∧ iAtB l j < m) (h2 : ∀ j i, i < j → j < l.length → iAtB l i ≠ iAtB l j) : Calls Try.prog 50 #[.slice B l.length c, .int .i64 m] w fun e w' => e = .returned (.bool true) ∧ Below w.heap.size w w' := by
  have hcell : ∃ b o, (0 < l.length → B = some ⟨b, o, none⟩) ∧ ∀ A j, j < l.length → CellAt w A b (o + j * 1) (.int .i64 (iAtB l j)) := by
    by_cases h0 : 0 < l.length
    · obtain ⟨b, o, e, _⟩ := hr.2 h0
      exact ⟨b, o, fun _ => e, fun A j hj => ints_cell (R := []) (fun w1 hs => hs.reads hr) e (List.nil_sublist _) hj⟩
    · exact ⟨0, 0, fun h => absurd h h0, fun A j hj => by omega⟩
  obtain ⟨b, o, hB, hc⟩ := hcell
  refine fn_v Try.tabOk (n := 40) (A := []) Try.func50 rfl rfl (Nat.le_of_ble_eq_true rfl) (St.nil (Below.refl _ _)) ?_
  ((conv => whnf); apply VStop.mk)
  refine v_loop (fun gm ds ts A => ds = [] ∧ ∃ j : Nat, j + gm = l.length ∧ A = [] ∧ ts = [(0, .slice B l.length c), (1, .int .i64 m), (5, .int .i64 (j : Int))]) l.length (l := [(0, _), (1, _), (5, _)]) (B := []) ?_ (List.Sublist.refl _) ⟨rfl, 0, by omega, rfl, rfl⟩ ?_
  · exact ⟨rfl, rfl, rfl, trivial⟩
  rintro gm ds ts A ⟨rfl, j, hj, rfl, rfl⟩
  by_cases hlt : j < l.length
  · obtain rfl := hB (by omega)
    have cj := fun A => hc A j hlt
    have b1 := h1 j hlt
    (apply tr_v Try.tabOk; (conv => whnf); (repeat ((first | (apply VIx.mk (j := j); exact rfl; omega) | (apply VLd.mk; exact cj _) | apply VBr.t | apply VBr.f | (apply v_t; omega) | (apply v_f; omega)); (conv => whnf))); apply VStop.mk)
    refine v_loop (fun gm2 ds ts A => ds = [] ∧ ∃ k : Nat, k + gm2 = j ∧ A = [] ∧ ts = [(0, .slice (some ⟨b, o, none⟩) l.length c), (1, .int .i64 m), (5, .int .i64 (j : Int)), (6, .int .i64 (k : Int))]) j (l := [(0, _), (1, _), (5, _), (6, _)]) (B := []) ?_ (List.nil_sublist _) ⟨rfl, 0, by omega, rfl, rfl⟩ ?_
    · exact ⟨rfl, rfl, rfl, rfl, trivial⟩
    rintro gm2 ds ts A ⟨rfl, k, hk, rfl, rfl⟩
    by_cases hlt2 : k < j
    · have ck := fun A => hc A k (by omega)
      have hne := h2 j k hlt2 hlt
      generalize iAtB l k = zk at *
      generalize iAtB l j = zj at *
      (apply tr_v Try.tabOk; (conv => whnf); (repeat ((first | (apply VStop.mk; refine tr_region_draw (id := 9) (by kernel_rfl) [0, 1, 2, 3, 4, 5, 6, 7, 8] [.rd, .rd, .rd, .rd, .rd, .rd, .rd, .rd, .rd] rfl (by kernel_rfl) ?_; apply ot_v Try.tabOk) | (apply VLd.mk; first | exact ck _ | exact cj _) | (apply VIx.mk (j := k); exact rfl; omega) | (apply VIx.mk (j := j); exact rfl; omega) | (apply VRng.mk; omega) | apply VBr.t | apply VBr.f | (apply v_t; omega) | (apply v_f; omega)); (conv => whnf))))
      exact v_rnd (gm2 - 1) (by omega) (l := [(0, _), (1, _), (5, _), (6, _)]) (B := []) ⟨rfl, rfl, rfl, rfl, trivial⟩ (List.nil_sublist _) ⟨rfl, k + 1, by omega, rfl, rfl⟩
    · obtain rfl : k = j := by omega
      (apply tr_v Try.tabOk; (conv => whnf); (repeat ((first | (apply VRng.mk; omega) | apply VBr.f | (apply v_f; omega)); (conv => whnf))))
      exact v_rnd (gm - 1) (by omega) (l := [(0, _), (1, _), (5, _)]) (B := []) ⟨rfl, rfl, rfl, trivial⟩ (List.nil_sublist _) ⟨rfl, k + 1, by omega, rfl, rfl⟩
  · obtain rfl : j = l.length := by omega
    (apply tr_v Try.tabOk; (conv => whnf); (repeat ((first | apply VBr.f | (apply v_f; omega)); (conv => whnf))))
    ((apply VRet.mk); refine ret1 (by first | exact .inl rfl | exact .inr rfl) rfl (by exact rv_tmp rfl) ?_; exact fun w h => ⟨rfl, h.base⟩)
end
/-! ### without -/
def anyK (l : List Int) (i k : Nat) : Bool := (l.take k).any fun z => decide (z = (i : Int))
theorem anyK_succ (l : List Int) (i : Nat) {k : Nat} (hk : k < l.length) : anyK l i (k + 1) = (anyK l i k || decide (iAtB l k = (i : Int))) := by
  unfold anyK iAtB
  rw [List.take_succ_eq_append_getElem hk, List.any_append, List.getElem?_eq_getElem hk]
  simp
theorem anyK_all {p : Nat → Bool} {n i : Nat} (hi : i < n) : anyK (idxs p n) i (idxs p n).length = p i := by
  unfold anyK
  rw [List.take_length, Bool.eq_iff_iff, List.any_eq_true]
  constructor
  · rintro ⟨z, hz, h⟩
    rw [of_decide_eq_true h] at hz
    exact (idxs_at.1 hz).2
  · intro h
    exact ⟨_, idxs_at.2 ⟨hi, h⟩, decide_eq_true rfl⟩
def outUpto (xs : List (Int × Int)) (p : Nat → Bool) (i : Nat) : List (Int × Int) := ((List.range i).filter fun j => !p j).map (lotAt xs)
theorem outUpto_succ (xs : List (Int × Int)) (p : Nat → Bool) (i : Nat) : outUpto xs p (i + 1) = outUpto xs p i ++ (if p i then [] else [lotAt xs i]) := by
  unfold outUpto
  rw [List.range_succ, List.filter_append, List.map_append]
  cases hp : p i <;> simp [hp]
theorem outUpto_len (xs : List (Int × Int)) (p : Nat → Bool) (i : Nat) : (outUpto xs p i).length ≤ i := by
  unfold outUpto
  rw [List.length_map]
  have := List.length_filter_le (fun j => !p j) (List.range i)
  rwa [List.length_range] at this
section
variable (Al : Option Addr) (c : Nat) (xs : List (Int × Int)) (w : World) (hr : Reads w w.heap.size 2 Al xs.length (pairCells xs)) (hx : xs.length ≤ 1000)
include hr hx
theorem without_any (p : Nat → Bool) (B : Option Addr) (cb : Nat) (l : List Int) (hl : l = idxs p xs.length) (hb : Reads w w.heap.size 1 B l.length (i64s l)) : Calls Try.prog 51 #[.slice Al xs.length c, .slice B l.length cb] w fun e w' => ∃ x : Option Addr × Nat, e = .returned (.slice x.1 (outUpto xs p xs.length).length x.2) ∧ True ∧ St w ([.own (.slice x.1 (outUpto xs p xs.length).length x.2) 67 2 (outUpto xs p xs.length).length (pairCells (outUpto xs p xs.length))] ++ []) w' := by
  have hll : l.length ≤ xs.length := by rw [hl]; exact idxs_length p xs.length
  have hin : ∀ i, i < xs.length → anyK l i l.length = p i := fun i hi => by rw [hl]; exact anyK_all hi
  have hcell : ∃ b o, (0 < l.length → B = some ⟨b, o, none⟩) ∧ ∀ A j, j < l.length → CellAt w A b (o + j * 1) (.int .i64 (iAtB l j)) := by
    by_cases h0 : 0 < l.length
    · obtain ⟨b, o, e, _⟩ := hb.2 h0
      exact ⟨b, o, fun _ => e, fun A j hj => ints_cell (R := []) (fun w1 hs => hs.reads hb) e (List.nil_sublist _) hj⟩
    · exact ⟨0, 0, fun h => absurd h h0, fun A j hj => by omega⟩
  obtain ⟨b, o, hB, hc⟩ := hcell
  refine fn_v Try.tabOk (n := 40) (A := []) Try.func51 rfl rfl (Nat.le_of_ble_eq_true rfl) (St.nil (Below.refl _ _)) ?_
  ((conv => whnf); apply VStop.mk)
  refine tr_own_nil 67 2 ?_
  refine v_loop (fun gm ds ts A => ds = [] ∧ ∃ (i : Nat) (Bx : Option Addr) (cx : Nat), i + gm = xs.length ∧ A = [.own (.slice Bx (outUpto xs p i).length cx) 67 2 (outUpto xs p i).length (pairCells (outUpto xs p i))] ∧ ts = [(0, .slice Al xs.length c), (1, .slice B l.length cb), (5, .slice Bx (outUpto xs p i).length cx), (6, .int .i64 (i : Int))]) xs.length (l := [(0, _), (1, _), (5, _), (6, _)]) (B := _) ?_ (List.Sublist.refl _) ⟨rfl, 0, none, 0, by omega, rfl, rfl⟩ ?_
  · exact ⟨rfl, rfl, rfl, rfl, trivial⟩
  rintro gm ds ts A ⟨rfl, i, Bx, cx, hi, rfl, rfl⟩
  by_cases hlt : i < xs.length
  · obtain ⟨ba, oa, rfl, _⟩ := hr.2 (show 0 < xs.length by omega)
    have hcx : ∀ A, CellsAt w A ba (oa + i * 2) [.int .i64 (lotAt xs i).1, .int .i64 (lotAt xs i).2] := pair_cells hr hlt
    have hs1 := outUpto_succ xs p i
    have hol := outUpto_len xs p i
    have hpi := hin i hlt
    generalize outUpto xs p i = O at *
    generalize lotAt xs i = q at *
    obtain ⟨q1, q2⟩ := q
    dsimp only at hcx
    (apply tr_v Try.tabOk; (conv => whnf); (repeat ((first | apply VBr.t | (apply v_t; omega)); (conv => whnf))); apply VStop.mk)
    refine v_loop (fun gm2 ds ts A => ds = [] ∧ ∃ k : Nat, k + gm2 = l.length ∧ A = [.own (.slice Bx O.length cx) 67 2 O.length (pairCells O)] ∧ ts = [(0, .slice (some ⟨ba, oa, none⟩) xs.length c), (1, .slice B l.length cb), (5, .slice Bx O.length cx), (6, .int .i64 (i : Int)), (7, .bool (anyK l i k)), (8, .int .i64 (k : Int))]) l.length (l := [(0, _), (1, _), (5, _), (6, _), (7, .bool (anyK l i 0)), (8, _)]) (B := _) ?_ (List.Sublist.refl _) ⟨rfl, 0, by omega, rfl, rfl⟩ ?_
    · exact ⟨rfl, rfl, rfl, rfl, rfl, rfl, trivial⟩
    rintro gm2 ds ts A ⟨rfl, k, hk, rfl, rfl⟩
    by_cases hlt2 : k < l.length
    · obtain rfl := hB (by omega)
      have ck := fun A => hc A k hlt2
      have ha := anyK_succ l i hlt2
      generalize iAtB l k = zk at *
      cases hv : anyK l i k
      · rw [hv, Bool.false_or] at ha
        by_cases e : zk = (i : Int)
        · rw [decide_eq_true e] at ha
          (apply tr_v Try.tabOk; (conv => whnf); (repeat ((first | (apply VLd.mk; exact ck _) | (apply VIx.mk (j := k); exact rfl; omega) | (apply VRng.mk; omega) | apply VBr.t | apply VBr.f | (apply v_t; omega)); (conv => whnf))))
          exact v_rnd (gm2 - 1) (by omega) (l := [(0, _), (1, _), (5, _), (6, _), (7, .bool (anyK l i (k + 1))), (8, _)]) (B := _) ⟨rfl, rfl, rfl, rfl, by show some _ = some _; rw [ha], rfl, trivial⟩ (List.Sublist.refl _) ⟨rfl, k + 1, by omega, rfl, rfl⟩
        · rw [decide_eq_false e] at ha
          (apply tr_v Try.tabOk; (conv => whnf); (repeat ((first | (apply VLd.mk; exact ck _) | (apply VIx.mk (j := k); exact rfl; omega) | (apply VRng.mk; omega) | apply VBr.t | apply VBr.f | (apply v_t; omega) | (apply v_f; omega)); (conv => whnf))))
          exact v_rnd (gm2 - 1) (by omega) (l := [(0, _), (1, _), (5, _), (6, _), (7, .bool (anyK l i (k + 1))), (8, _)]) (B := _) ⟨rfl, rfl, rfl, rfl, by show some _ = some _; rw [ha], rfl, trivial⟩ (List.Sublist.refl _) ⟨rfl, k + 1, by omega, rfl, rfl⟩
      · rw [hv, Bool.true_or] at ha
        (apply tr_v Try.tabOk; (conv => whnf); (repeat ((first | (apply VRng.mk; omega) | apply VBr.t | (apply v_t; omega)); (conv => whnf))))
        exact v_rnd (gm2 - 1) (by omega) (l := [(0, _), (1, _), (5, _), (6, _), (7, .bool (anyK l i (k + 1))), (8, _)]) (B := _) ⟨rfl, rfl, rfl, rfl, by show some _ = some _; rw [ha], rfl, trivial⟩ (List.Sublist.refl _) ⟨rfl, k + 1, by omega, rfl, rfl⟩
    obtain rfl : k = l.length := by omega
    rw [hpi]
    cases hp : p i
    · rw [hp] at hs1
      rw [if_neg (by decide)] at hs1
      have hs2 : (outUpto xs p (i + 1)).length = O.length + 1 := by rw [hs1, List.length_append]; rfl
      have hs3 : pairCells (outUpto xs p (i + 1)) = pairCells O ++ [.int .i64 q1, .int .i64 q2] := by rw [hs1, pairCells_append]; rfl
      (apply tr_v Try.tabOk; (conv => whnf); (repeat ((first | (apply VStop.mk; (refine ot_appendS (sz := 2) (sl := O.length) (A'v := fun v' => _ :: .own v' 67 2 (O.length + 1) (pairCells O ++ [.int .i64 q1, .int .i64 q2]) :: _) Try.tabOk rfl rfl rfl rfl rfl rfl rfl rfl rfl rfl (by decide) rfl (cells_blk_all (.head _)) rfl rfl (fun v' => .there .here) (by omega) (by decide) (fun B1 c1 => ?_)); apply ot_v Try.tabOk) | (apply VIx.mk (j := i); exact rfl; omega) | (apply VLdN.mk; exact hcx _; exact rfl) | (apply VRng.mk; omega) | apply VBr.t | apply VBr.f | (apply v_f; omega) | (apply VNew.mk; intro g hg)); (conv => whnf))))
      exact v_rnd (gm - 1) (by omega) (l := [(0, _), (1, _), (5, _), (6, _)]) (B := [.own (.slice B1 (O.length + 1) c1) 67 2 (O.length + 1) (pairCells O ++ [.int .i64 q1, .int .i64 q2])]) ⟨rfl, rfl, rfl, rfl, trivial⟩ (.cons _ (List.Sublist.refl _)) ⟨rfl, i + 1, B1, c1, by omega, by rw [hs2, hs3], by rw [hs2]; rfl⟩
    · rw [hp] at hs1
      rw [if_pos rfl, List.append_nil] at hs1
      (apply tr_v Try.tabOk; (conv => whnf); (repeat ((first | (apply VRng.mk; omega) | apply VBr.f | (apply v_f; omega)); (conv => whnf))))
      exact v_rnd (gm - 1) (by omega) (l := [(0, _), (1, _), (5, _), (6, _)]) (B := _) ⟨rfl, rfl, rfl, rfl, trivial⟩ (List.Sublist.refl _) ⟨rfl, i + 1, Bx, cx, by omega, by rw [hs1], by rw [hs1]; rfl⟩
  obtain rfl : i = xs.length := by omega
  (apply tr_v Try.tabOk; (conv => whnf); (repeat ((first | apply VBr.f | (apply v_f; omega)); (conv => whnf))))
  (apply VRet.mk)
  refine ret1 (by first | exact .inl rfl | exact .inr rfl) rfl (by exact rv_tmp rfl) ?_
  exact fun w hs => ⟨(Bx, cx), rfl, trivial, hs⟩
end
theorem byte_modC (b n : Nat) (hn : 1 ≤ n) : ∃ i, i < n ∧ Int.tmod (b : Int) (n : Int) = (i : Int) := ⟨b % n, Nat.mod_lt _ (by omega), by rw [Int.tmod_eq_emod_of_nonneg (by omega)]; simp⟩
/-- The corners' lots, one by one. -/
def cUpto (xs : List (Int × Int)) (j : Nat) : List (Int × Int) := ((kN xs).take j).map (lotAt xs)
theorem cUpto_succ {xs : List (Int × Int)} {j : Nat} (h : j < (kN xs).length) : cUpto xs (j + 1) = cUpto xs j ++ [lotAt xs (kN xs)[j]] := by
  unfold cUpto
  rw [List.take_succ_eq_append_getElem h, List.map_append]; rfl
theorem cUpto_len {xs : List (Int × Int)} {j : Nat} (h : j ≤ (kN xs).length) : (cUpto xs j).length = j := by
  unfold cUpto
  rw [List.length_map, List.length_take]; omega
theorem one_mut {v : Value} {t sz m : Nat} {xs : List Value} {d : Chunk} (h : d ∈ [Chunk.own v t sz m xs]) : d.mut = true := by rw [List.mem_singleton.1 h]; rfl
theorem St.own_rdX {w0 w : World} {A : List Chunk} {B : Option Addr} {c t sz m : Nat} {xs : List Value} (hs : St w0 A w) (h : .own (.slice B m c) t sz m xs ∈ A) : Reads w w.heap.size sz B m xs := hs.own_rd h
section
variable (Al : Option Addr) (c : Nat) (xs : List (Int × Int)) (w : World) (hr : Reads w w.heap.size 2 Al xs.length (pairCells xs)) (hm : xs.length ≤ maxLen)
include hr hm
set_option maxHeartbeats 16000000 in
set_option maxRecDepth 100000 in
theorem blendIdle_any (z1 z2 : Int) (h1 : 0 ≤ z1 ∧ z1 ≤ 255) (h2 : 0 ≤ z2 ∧ z2 ≤ 255) : Calls Try.prog 10 #[.slice Al xs.length c, .int .u8 z1, .int .u8 z2] w fun e w' => e = .returned (.bool true) ∧ Below w.heap.size w w' := by
  by_cases hf : checkLots xs = 0
  rotate_left
  · have kg := fine_no Al c xs w hr hm hf
    refine fn_v Try.tabOk (n := 221) (A := []) Try.func10 rfl rfl (Nat.le_of_ble_eq_true rfl) (St.nil (Below.refl _ _)) ?_
    ((conv => whnf); (repeat ((first | (apply VCall.q; kernel_rfl; (focus (intro w1 hs; first | with_reducible apply kg w1 _ hs | with_reducible apply works_any w1))) | apply VBr.t); (conv => whnf))))
    ((apply VRet.mk); refine ret1 (by first | exact .inl rfl | exact .inr rfl) rfl (by exact rv_tmp rfl) ?_; exact fun w h => ⟨rfl, h.base⟩)
  have kg := fine_yes Al c xs w hr hm hf
  have hG := Good.of hf
  have hn := hG.len
  have ht := sharpOf_ok h1.1
  have k1 := sharpness_any z1 h1
  generalize sharpOf z1 = t at *
  obtain ⟨q, rfl⟩ : ∃ q : Nat, z2 = q := ⟨z2.toNat, by omega⟩
  obtain ⟨i, hi, ei⟩ := byte_modC q xs.length (by omega)
  obtain ⟨b, o, rfl, _⟩ := hr.2 (show 0 < xs.length by omega)
  have hlot : ∀ j, j < xs.length → ∀ A, CellsAt w A b (o + j * 2) [.int .i64 (lotAt xs j).1, .int .i64 (lotAt xs j).2] := fun j hj => pair_cells hr hj
  -- the lists
  have hcnt := hG.idle_count
  have hpos := hG.kN_pos
  have hI : refIdle xs = (idxs (idleAt xs) xs.length, 0) := by unfold refIdle; rw [if_neg (by rw [hf]; decide)]
  have hK : refCorners xs = ((kN xs).map Int.ofNat, 0) := Prod.ext hG.kN_map.1 hG.kN_map.2
  have k36 : ∀ w1 A, St w A w1 → Calls Try.prog 36 #[.slice (some ⟨b, o, none⟩) xs.length c] w1 (SliceIntRet 1 (idxs (idleAt xs) xs.length).length (i64s (idxs (idleAt xs) xs.length)) 0 w1) := fun w1 A hs => ints_ret (idleP_any _ c xs w1 (hs.reads hr) hm fun h => h.mixes) ((idle_eq xs).trans hI)
  have k34 : ∀ w1 A, St w A w1 → Calls Try.prog 34 #[.slice (some ⟨b, o, none⟩) xs.length c] w1 (SliceIntRet 1 ((kN xs).map Int.ofNat).length (i64s ((kN xs).map Int.ofNat)) 0 w1) := fun w1 A hs => ints_ret (cornersP_any _ c xs w1 (hs.reads hr) hm) ((corners_eq xs).trans hK)
  have hany := anyK_all (p := idleAt xs) (n := xs.length) hi
  have lmem : ∀ j, j < (idxs (idleAt xs) xs.length).length → 0 ≤ iAtB (idxs (idleAt xs) xs.length) j ∧ iAtB (idxs (idleAt xs) xs.length) j < xs.length := fun j hj => by
    unfold iAtB
    rw [List.getElem?_eq_getElem hj, Option.getD_some]
    obtain ⟨k, hk, e⟩ := List.mem_map.1 (List.getElem_mem hj)
    have := List.mem_range.1 (List.mem_filter.1 hk).1
    rw [← e]
    show 0 ≤ (k : Int) ∧ (k : Int) < xs.length
    omega
  have ldis : ∀ j k, k < j → j < (idxs (idleAt xs) xs.length).length → iAtB (idxs (idleAt xs) xs.length) k ≠ iAtB (idxs (idleAt xs) xs.length) j := fun j k hk hj => by
    have hnd : (idxs (idleAt xs) xs.length).Nodup := by
      unfold idxs
      exact (List.nodup_range.filter _).map _ fun a b hab e => hab (by have : ((a : Nat) : Int) = b := e; omega)
    unfold iAtB
    rw [List.getElem?_eq_getElem hj, Option.getD_some, List.getElem?_eq_getElem (by omega), Option.getD_some]
    exact List.pairwise_iff_getElem.1 hnd k j (by omega) hj hk
  have kl0 : ((kN xs).map Int.ofNat).length = (kN xs).length := List.length_map _
  have kAt : ∀ j (hj : j < (kN xs).length), iAtB ((kN xs).map Int.ofNat) j = (((kN xs)[j] : Nat) : Int) := fun j hj => by
    unfold iAtB
    rw [List.getElem?_map, List.getElem?_eq_getElem hj]; rfl
  have kIn : ∀ j (hj : j < (kN xs).length), (kN xs)[j] < xs.length := fun j hj => (hG.kN_mem (List.getElem_mem hj)).1
  have kUp : ∀ j k (hj : j < (kN xs).length) (hk : k < j), (lotAt xs ((kN xs)[k]'(by omega))).1 < (lotAt xs (kN xs)[j]).1 := fun j k hj hk => List.pairwise_iff_getElem.1 hG.kN_sorted k j (by omega) hj hk
  have kmem : ∀ j, j < ((kN xs).map Int.ofNat).length → 0 ≤ iAtB ((kN xs).map Int.ofNat) j ∧ iAtB ((kN xs).map Int.ofNat) j < xs.length := fun j hj => by
    rw [kAt j (by omega)]
    have := kIn j (by omega)
    omega
  have kdis : ∀ j k, k < j → j < ((kN xs).map Int.ofNat).length → iAtB ((kN xs).map Int.ofNat) k ≠ iAtB ((kN xs).map Int.ofNat) j := fun j k hk hj e => by
    rw [kAt j (by omega), kAt k (by omega)] at e
    have h3 := kUp j k (by omega) hk
    rw [show (kN xs)[k]'(by omega) = (kN xs)[j]'(by omega) by omega] at h3
    exact absurd h3 (Int.lt_irrefl _)
  -- the prices
  obtain ⟨hG1, hc1⟩ := hG.keep
  obtain ⟨hG2, hc2⟩ := hG.corners
  have eX : outUpto xs (idleAt xs) xs.length = (keepN xs).map (lotAt xs) := rfl
  have eY : cUpto xs (kN xs).length = (kN xs).map (lotAt xs) := by unfold cUpto; rw [List.take_length]
  obtain ⟨⟨z3, z4⟩, hz, hzO, hid⟩ := hG.own_price hi
  obtain ⟨⟨⟨r1, r2⟩, ib⟩, e1⟩ : ∃ r, chR xs t = r := ⟨_, rfl⟩
  have hli := not_lotBad.1 (hG.lot i hi)
  have c1 := cheap_call (some ⟨b, o, none⟩) c xs w hr hG t ht e1
  have c4 := cheap_call (some ⟨b, o, none⟩) c xs w hr hG (lotAt xs i).1 (by change 0 ≤ (lotAt xs i).1 ∧ _ at hli; omega) hz
  have cx := fun (Bl : Option Addr) (cl : Nat) => cheap_at (Al := Bl) (c := cl) hG1 ht ((hc1 t).trans e1)
  have cy := fun (Bl : Option Addr) (cl : Nat) => cheap_at (Al := Bl) (c := cl) hG2 ht ((hc2 t).trans e1)
  rw [← eX] at cx
  rw [← eY, cUpto_len (Nat.le_refl _)] at cy
  have hcl := fun j (hj : j ≤ (kN xs).length) => cUpto_len (xs := xs) hj
  have hcs := fun j (hj : j < (kN xs).length) => cUpto_succ hj
  have h51 := fun (B : Option Addr) (cb : Nat) (w1 : World) h3 h4 => without_any (some ⟨b, o, none⟩) c xs w1 h3 (by omega) (idleAt xs) B cb _ rfl h4
  have hlx := outUpto_len xs (idleAt xs) xs.length
  have hm1 := fun B cb w1 h3 => isList_any B cb (idxs (idleAt xs) xs.length) w1 h3 (by omega) xs.length lmem ldis
  have hm2 := fun B cb w1 h3 => isList_any B cb ((kN xs).map Int.ofNat) w1 h3 (by omega) xs.length kmem kdis
  refine fn_k (n := 221) (A := []) Try.func10 rfl rfl (Nat.le_of_ble_eq_true rfl) (St.nil (Below.refl _ _)) ?_
  refine tr_seqK ?_
  (apply tr_v Try.tabOk; (conv => whnf); apply VStop.mk)
  refine tr_seqK ?_
  (apply tr_v Try.tabOk; (conv => whnf); (repeat ((first | (apply VCall.q; kernel_rfl; (focus (intro w1 hs; first | with_reducible apply kg w1 _ hs))) | apply VBr.f); (conv => whnf))); apply VStop.mk)
  refine tr_seqK ?_
  (apply tr_v Try.tabOk; (conv => whnf); (repeat ((first | ((first | apply VStop.mk | apply VCall.stop); refine tr_region_draw (id := 3) (by kernel_rfl) [0, 2, 3, 4, 5, 6, 1, 7, 8] [.rd, .rd, .rd, .rd, .rd, .rd, .cr, .rd, .rd] rfl (by kernel_rfl) ?_; apply ot_v Try.tabOk) | (apply VCall.q; kernel_rfl; (focus (intro w1 hs; first | with_reducible apply k1 w1))) | (apply v_wr64; omega) | (apply VNz.mk; omega)); (conv => whnf))); apply VStop.mk)
  rw [ei]
  refine tr_seqK ?_
  (apply tr_v Try.tabOk; (conv => whnf); apply VCall.stop)
  refine ot_call_any2 (by decide) rfl rfl rfl (by kernel_rfl) (evl_of rfl) (fun w1 hs => k36 w1 _ hs) (fun B1 cb1 R1 hR1 hRr1 => ?_)
  dsimp only [freezeL, List.cons_append, List.nil_append]
  apply ot_v Try.tabOk
  ((conv => whnf); apply VStop.mk)
  refine tr_seqK ?_
  (apply tr_v Try.tabOk; (conv => whnf); apply VCall.stop)
  refine ot_call_any2 (by decide) rfl rfl rfl (by kernel_rfl) (evl_of rfl) (fun w1 hs => k34 w1 _ hs) (fun B2 cb2 R2 hR2 hRr2 => ?_)
  rw [freezeL_of hR1]
  apply ot_v Try.tabOk
  ((conv => whnf); apply VStop.mk)
  have q1 := hRr1 (R1 ++ R2) (List.sublist_append_left _ _)
  have q2 := hRr2 (R1 ++ R2) (List.sublist_append_right _ _)
  generalize R1 ++ R2 = R at *
  refine tr_fact (p := (0 < (idxs (idleAt xs) xs.length).length → ∃ b o, B1 = some ⟨b, o, none⟩) ∧ ∃ b o, B2 = some ⟨b, o, none⟩) (fun w' hs => ⟨fun h => ?_, ?_⟩) ?_
  · obtain ⟨b', o', e, _⟩ := (q1 w' hs).2 h
    exact ⟨b', o', e⟩
  · obtain ⟨b', o', e, _⟩ := (q2 w' hs).2 (by omega)
    exact ⟨b', o', e⟩
  rintro ⟨hB1, b2, o2, rfl⟩
  have cK := fun {A : List Chunk} (h : R.Sublist A) j (hj : j < (kN xs).length) => ints_cell q2 rfl h (j := j) (by omega)
  generalize hLL : idxs (idleAt xs) xs.length = L at *
  refine tr_weak (l := [(0, _), (7, _), (8, _), (9, _), (10, _), (11, _), (12, _)]) (B := R) ⟨rfl, rfl, rfl, rfl, rfl, rfl, rfl, trivial⟩ (List.Sublist.refl _) ?_
  refine tr_seqK ?_
  (apply tr_v Try.tabOk; (conv => whnf); (repeat ((first | (apply VCall.q; kernel_rfl; (focus (intro w1 hs; first | with_reducible apply hm1 _ _ w1 (q1 w1 hs) | with_reducible apply hm2 _ _ w1 (q2 w1 hs)))) | (apply VRng.mk; omega) | apply VBr.f | (apply v_f; omega)); (conv => whnf))); apply VStop.mk)
  refine tr_weak (l := [(0, _), (7, _), (8, _), (9, _), (11, _)]) (B := R) ⟨rfl, rfl, rfl, rfl, rfl, trivial⟩ (List.Sublist.refl _) ?_
  refine tr_seqK ?_
  (apply tr_v Try.tabOk; (conv => whnf); apply VStop.mk)
  refine tr_own_nil 67 2 ?_
  refine tr_seqK ?_
  (apply tr_v Try.tabOk; (conv => whnf); apply VStop.mk)
  refine v_loop (fun gm ds ts A => ds = [] ∧ ∃ (j : Nat) (Bx : Option Addr) (cx : Nat), j + gm = (kN xs).length ∧ A = .own (.slice Bx j cx) 67 2 j (pairCells (cUpto xs j)) :: R ∧ ts = [(0, .slice (some ⟨b, o, none⟩) xs.length c), (7, .int .i64 t), (8, .int .i64 (i : Int)), (9, .slice B1 L.length cb1), (11, .slice (some ⟨b2, o2, none⟩) ((kN xs).map Int.ofNat).length cb2), (13, .slice Bx j cx), (14, .int .i64 (j : Int))]) (kN xs).length (l := [(0, _), (7, _), (8, _), (9, _), (11, _), (13, _), (14, _)]) (B := _) ?_ (List.Sublist.refl _) ⟨rfl, 0, none, 0, by omega, rfl, rfl⟩ ?_
  · exact ⟨rfl, rfl, rfl, rfl, rfl, rfl, rfl, trivial⟩
  rintro gm ds ts A ⟨rfl, j, Bx, cx0, hj, rfl, rfl⟩
  by_cases hlt : j < (kN xs).length
  · have hs1 := hcs j hlt
    have hlc := kIn j hlt
    have ck : ∀ {A}, R.Sublist A → CellAt w A b2 (o2 + j * 1) (.int .i64 (((kN xs)[j] : Nat) : Int)) := fun h => by have := cK h j hlt; rwa [kAt j hlt] at this
    have hcl' := hlot (kN xs)[j] hlc
    cases j with
    | zero =>
      generalize (kN xs)[0] = m at *
      generalize lotAt xs m = pp at *
      obtain ⟨p1, p2⟩ := pp
      generalize hO : cUpto xs 0 = O at *
      (apply tr_v Try.tabOk; (conv => whnf); (repeat ((first | (apply VStop.mk; (first | (refine ot_appendS (sz := 2) (sl := 0) (A'v := fun v' => _ :: .own v' 67 2 (0 + 1) (pairCells O ++ [.int .i64 p1, .int .i64 p2]) :: _) Try.tabOk rfl rfl rfl rfl rfl rfl rfl rfl rfl rfl (by decide) rfl (cells_blk_all (.head _)) rfl rfl (fun v' => .there .here) (by omega) (by decide) (fun B3 c3 => ?_)) | refine tr_region_lex (id := 13) (by kernel_rfl) [.rd, .rd, .rd, .rd, .rd, .rd, .rd, .rd, .rd, .rd, .rd, .rd, .rd, .rd, .rd, .rd, .rd, .rd, .rd, .rd, .rd, .rd] rfl (by kernel_rfl) ?_); apply ot_v Try.tabOk) | (apply VLd.mk; exact ck (by ((repeat refine List.Sublist.cons _ ?_); first | exact List.Sublist.refl _ | exact List.sublist_append_left _ _ | exact List.Sublist.trans (List.sublist_append_left _ _) (List.sublist_append_left _ _) | exact List.Sublist.trans (List.sublist_append_left _ _) (List.Sublist.trans (List.sublist_append_left _ _) (List.sublist_append_left _ _))))) | (apply VIx.mk (j := 0); exact rfl; omega) | (apply VIx.mk (j := m); exact rfl; omega) | (apply VLdN.mk; exact hcl' _; exact rfl) | (apply VRng.mk; omega) | apply VBr.t | apply VBr.f | (apply v_t; omega) | (apply v_f; omega) | (apply VNew.mk; intro g hg)); (conv => whnf))))
      exact v_rnd (gm - 1) (by omega) (l := [(0, _), (7, _), (8, _), (9, _), (11, _), (13, _), (14, _)]) (B := .own (.slice B3 (0 + 1) c3) 67 2 (0 + 1) (pairCells O ++ [.int .i64 p1, .int .i64 p2]) :: R) ⟨rfl, rfl, rfl, rfl, rfl, rfl, rfl, trivial⟩ (.cons _ (List.Sublist.refl _)) ⟨rfl, 0 + 1, B3, c3, by omega, by rw [hs1, pairCells_append]; rfl, rfl⟩
    | succ j' =>
      have ck' : ∀ {A}, R.Sublist A → CellAt w A b2 (o2 + j' * 1) (.int .i64 (((kN xs)[j']'(by omega) : Nat) : Int)) := fun h => by have := cK h j' (by omega); rwa [kAt j' (by omega)] at this
      have hlp := kIn j' (by omega)
      have hcp := hlot ((kN xs)[j']'(by omega)) hlp
      have hup := kUp (j' + 1) j' hlt (by omega)
      generalize (kN xs)[j' + 1] = m at *
      generalize (kN xs)[j']'(by omega) = m' at *
      generalize lotAt xs m = pp at *
      generalize lotAt xs m' = qq at *
      obtain ⟨p1, p2⟩ := pp
      obtain ⟨u1, u2⟩ := qq
      dsimp only at hup hcl' hcp
      generalize hO : cUpto xs (j' + 1) = O at *
      (apply tr_v Try.tabOk; (conv => whnf); (repeat ((first | (apply VStop.mk; (first | (refine ot_appendS (sz := 2) (sl := (j' + 1)) (A'v := fun v' => _ :: .own v' 67 2 ((j' + 1) + 1) (pairCells O ++ [.int .i64 p1, .int .i64 p2]) :: _) Try.tabOk rfl rfl rfl rfl rfl rfl rfl rfl rfl rfl (by decide) rfl (cells_blk_all (.head _)) rfl rfl (fun v' => .there .here) (by omega) (by decide) (fun B3 c3 => ?_)) | refine tr_region_lex (id := 13) (by kernel_rfl) [.rd, .rd, .rd, .rd, .rd, .rd, .rd, .rd, .rd, .rd, .rd, .rd, .rd, .rd, .rd, .rd, .rd, .rd, .rd, .rd, .rd, .rd] rfl (by kernel_rfl) ?_); apply ot_v Try.tabOk) | (apply VLd.mk; first | exact ck (by ((repeat refine List.Sublist.cons _ ?_); first | exact List.Sublist.refl _ | exact List.sublist_append_left _ _ | exact List.Sublist.trans (List.sublist_append_left _ _) (List.sublist_append_left _ _) | exact List.Sublist.trans (List.sublist_append_left _ _) (List.Sublist.trans (List.sublist_append_left _ _) (List.sublist_append_left _ _)))) | exact ck' (by ((repeat refine List.Sublist.cons _ ?_); first | exact List.Sublist.refl _ | exact List.sublist_append_left _ _ | exact List.Sublist.trans (List.sublist_append_left _ _) (List.sublist_append_left _ _) | exact List.Sublist.trans (List.sublist_append_left _ _) (List.Sublist.trans (List.sublist_append_left _ _) (List.sublist_append_left _ _)))) | exact CellAt.of_cells (hcl' _) rfl | exact CellAt.of_cells (hcp _) rfl) | (apply VIx.mk (j := j' + 1); exact rfl; omega) | (apply VIx.mk (j := m); exact rfl; omega) | (apply VIx.mk (j := m'); exact rfl; omega) | (apply VIx.mk (j := j'); omega; omega) | (apply VLdN.mk; exact hcl' _; exact rfl) | (apply VRng.mk; omega) | apply VBr.t | apply VBr.f | (apply v_t; omega) | (apply v_f; omega) | (apply VNew.mk; intro g hg)); (conv => whnf))))
      exact v_rnd (gm - 1) (by omega) (l := [(0, _), (7, _), (8, _), (9, _), (11, _), (13, _), (14, _)]) (B := .own (.slice B3 ((j' + 1) + 1) c3) 67 2 ((j' + 1) + 1) (pairCells O ++ [.int .i64 p1, .int .i64 p2]) :: R) ⟨rfl, rfl, rfl, rfl, rfl, rfl, rfl, trivial⟩ (.cons _ (List.Sublist.refl _)) ⟨rfl, (j' + 1) + 1, B3, c3, by omega, by rw [hs1, pairCells_append]; rfl, rfl⟩
  obtain rfl : j = (kN xs).length := by omega
  (apply tr_v Try.tabOk; (conv => whnf); (repeat ((first | apply VBr.f | (apply v_f; omega)); (conv => whnf))); apply VStop.mk)
  refine tr_seqK ?_
  (apply tr_v Try.tabOk; (conv => whnf); apply VStop.mk)
  refine tr_seqK ?_
  (apply tr_v Try.tabOk; (conv => whnf); apply VStop.mk)
  refine v_loop (fun gm ds ts A => ds = [] ∧ ∃ k : Nat, k + gm = L.length ∧ A = .own (.slice Bx (kN xs).length cx0) 67 2 (kN xs).length (pairCells (cUpto xs (kN xs).length)) :: R ∧ ts = [(0, .slice (some ⟨b, o, none⟩) xs.length c), (7, .int .i64 t), (8, .int .i64 (i : Int)), (9, .slice B1 L.length cb1), (13, .slice Bx (kN xs).length cx0), (15, .bool (anyK L i k)), (16, .int .i64 (k : Int))]) L.length (l := [(0, _), (7, _), (8, _), (9, _), (13, _), (15, .bool (anyK L i 0)), (16, _)]) (B := _) ?_ (List.Sublist.refl _) ⟨rfl, 0, by omega, rfl, rfl⟩ ?_
  · exact ⟨rfl, rfl, rfl, rfl, rfl, rfl, rfl, trivial⟩
  rintro gm2 ds ts A ⟨rfl, k, hk, rfl, rfl⟩
  by_cases hlt2 : k < L.length
  · obtain ⟨b3, o3, rfl⟩ := hB1 (by omega)
    have ck : ∀ {A}, R.Sublist A → CellAt w A b3 (o3 + k * 1) (.int .i64 (iAtB L k)) := fun h => ints_cell q1 rfl h hlt2
    have ha := anyK_succ L i hlt2
    generalize iAtB L k = zk at *
    cases hv : anyK L i k
    · rw [hv, Bool.false_or] at ha
      by_cases e : zk = (i : Int)
      · rw [decide_eq_true e] at ha
        (apply tr_v Try.tabOk; (conv => whnf); (repeat ((first | (apply VLd.mk; exact ck (by ((repeat refine List.Sublist.cons _ ?_); first | exact List.Sublist.refl _ | exact List.sublist_append_left _ _ | exact List.Sublist.trans (List.sublist_append_left _ _) (List.sublist_append_left _ _) | exact List.Sublist.trans (List.sublist_append_left _ _) (List.Sublist.trans (List.sublist_append_left _ _) (List.sublist_append_left _ _))))) | (apply VIx.mk (j := k); exact rfl; omega) | (apply VRng.mk; omega) | apply VBr.t | apply VBr.f | (apply v_t; omega)); (conv => whnf))))
        exact v_rnd (gm2 - 1) (by omega) (l := [(0, _), (7, _), (8, _), (9, _), (13, _), (15, .bool (anyK L i (k + 1))), (16, _)]) (B := _) ⟨rfl, rfl, rfl, rfl, rfl, by show some _ = some _; rw [ha], rfl, trivial⟩ (List.Sublist.refl _) ⟨rfl, k + 1, by omega, rfl, rfl⟩
      · rw [decide_eq_false e] at ha
        (apply tr_v Try.tabOk; (conv => whnf); (repeat ((first | (apply VLd.mk; exact ck (by ((repeat refine List.Sublist.cons _ ?_); first | exact List.Sublist.refl _ | exact List.sublist_append_left _ _ | exact List.Sublist.trans (List.sublist_append_left _ _) (List.sublist_append_left _ _) | exact List.Sublist.trans (List.sublist_append_left _ _) (List.Sublist.trans (List.sublist_append_left _ _) (List.sublist_append_left _ _))))) | (apply VIx.mk (j := k); exact rfl; omega) | (apply VRng.mk; omega) | apply VBr.t | apply VBr.f | (apply v_t; omega) | (apply v_f; omega)); (conv => whnf))))
        exact v_rnd (gm2 - 1) (by omega) (l := [(0, _), (7, _), (8, _), (9, _), (13, _), (15, .bool (anyK L i (k + 1))), (16, _)]) (B := _) ⟨rfl, rfl, rfl, rfl, rfl, by show some _ = some _; rw [ha], rfl, trivial⟩ (List.Sublist.refl _) ⟨rfl, k + 1, by omega, rfl, rfl⟩
    · rw [hv, Bool.true_or] at ha
      (apply tr_v Try.tabOk; (conv => whnf); (repeat ((first | (apply VRng.mk; omega) | apply VBr.t | (apply v_t; omega)); (conv => whnf))))
      exact v_rnd (gm2 - 1) (by omega) (l := [(0, _), (7, _), (8, _), (9, _), (13, _), (15, .bool (anyK L i (k + 1))), (16, _)]) (B := _) ⟨rfl, rfl, rfl, rfl, rfl, by show some _ = some _; rw [ha], rfl, trivial⟩ (List.Sublist.refl _) ⟨rfl, k + 1, by omega, rfl, rfl⟩
  obtain rfl : k = L.length := by omega
  rw [hany]
  (apply tr_v Try.tabOk; (conv => whnf); (repeat ((first | apply VBr.f | (apply v_f; omega)); (conv => whnf))); apply VStop.mk)
  refine tr_seqK ?_
  (apply tr_v Try.tabOk; (conv => whnf); (repeat ((first | (apply VCall.q; kernel_rfl; (focus (intro w1 hs; first | with_reducible apply c1 w1 _ hs))) | (apply VNew.mk; intro g hg) | (apply VSt.mk; (focus ((repeat (first | (with_reducible exact At.here) | (with_reducible apply At.there))); done)); exact rfl)); (conv => whnf))); apply VStop.mk)
  revert g hg
  intro g17 hg17
  refine tr_seqK ?_
  (apply tr_v Try.tabOk; (conv => whnf); apply VCall.stop)
  refine ot_callT (X := Option Addr × Nat) (us := []) (vs := []) (fun x => .slice x.1 (outUpto xs (idleAt xs) xs.length).length x.2) (fun x => []) (fun x => [.own (.slice x.1 (outUpto xs (idleAt xs) xs.length).length x.2) 67 2 (outUpto xs (idleAt xs) xs.length).length (pairCells (outUpto xs (idleAt xs) xs.length))]) _ (fun x c hc => one_mut hc) (by decide) rfl rfl rfl rfl (by kernel_rfl) (evl_of rfl) rfl (fun w1 hs => h51 B1 cb1 w1 (hs.reads hr) (q1 w1 (hs.sub (.cons _ (.cons _ (List.Sublist.refl _)))))) ?_
  intro x _
  (dsimp only [List.cons_append, List.nil_append]; apply ot_v Try.tabOk)
  ((conv => whnf); (repeat ((first | (apply VCall.q; kernel_rfl; (focus (intro w1 hs; first | with_reducible apply cx _ _ w1 (hs.own_rdX (c := x.2) (t := 67) (by simp))))) | (apply VNew.mk; intro g hg) | (apply VSt.mk; (focus ((repeat (first | (with_reducible exact At.here) | (with_reducible apply At.there))); done)); exact rfl)); (conv => whnf))); apply VStop.mk)
  revert g hg
  intro g20 hg20
  refine tr_seqK ?_
  (apply tr_v Try.tabOk; (conv => whnf); (repeat ((first | (apply VCall.q; kernel_rfl; (focus (intro w1 hs; first | with_reducible apply cy _ _ w1 (hs.own_rdX (c := cx0) (t := 67) (by simp))))) | (apply VNew.mk; intro g hg) | (apply VSt.mk; (focus ((repeat (first | (with_reducible exact At.here) | (with_reducible apply At.there))); done)); exact rfl)); (conv => whnf))); apply VStop.mk)
  revert g hg
  intro g23 hg23
  have hli0 : ∀ A, CellAt w A b (o + i * 2 + 0) (.int .i64 (lotAt xs i).1) := fun A => CellAt.of_cells (hlot i hi A) rfl
  have hli1 : ∀ A, CellAt w A b (o + i * 2 + 1) (.int .i64 (lotAt xs i).2) := fun A => CellAt.of_cells (hlot i hi A) rfl
  refine tr_seqK ?_
  (apply tr_v Try.tabOk; (conv => whnf); (repeat ((first | (apply VLd.mk; first | exact hli0 _ | exact hli1 _) | (apply VIx.mk (j := i); exact rfl; omega) | (apply VCall.q; kernel_rfl; (focus (intro w1 hs; first | with_reducible apply c4 w1 _ hs))) | (apply VNew.mk; intro g hg) | (apply VSt.mk; (focus ((repeat (first | (with_reducible exact At.here) | (with_reducible apply At.there))); done)); exact rfl)); (conv => whnf))); apply VStop.mk)
  revert g hg
  intro g26 hg26
  have nb2 : ∀ b : Bool, (b == b) = true := fun b => by cases b <;> rfl
  have hby := fun (x y : Int) w1 => byL_any x y w1
  generalize (lotAt xs i).2 = P at *
  cases hv : idleAt xs i
  · rw [hv] at hid
    have he : decide ((z3, z4) = (P, 1)) = true := by cases hd : decide ((z3, z4) = (P, 1)) <;> rw [hd] at hid <;> first | rfl | cases hid
    (apply tr_v Try.tabOk; (conv => whnf); (repeat ((first | ((first | apply VStop.mk | apply VCall.stop); (first | refine tr_region_draw (id := 24) (by kernel_rfl) [0, 1, 2, 3, 4, 5, 6, 7, 8, 9, 10, 11, 12, 13, 14, 15, 16, 17, 18, 19, 20, 21, 22, 23, 24, 25, 26, 27, 28, 29, 30, 31, 32, 33, 34, 35, 36, 37, 38, 39, 42, 43, 40, 41, 44, 45, 46, 47, 48, 49] [.rd, .rd, .rd, .rd, .rd, .rd, .rd, .rd, .rd, .rd, .rd, .rd, .rd, .rd, .rd, .rd, .rd, .rd, .rd, .rd, .rd, .rd, .rd, .rd, .rd, .rd, .rd, .rd, .rd, .rd, .rd, .rd, .rd, .rd, .rd, .rd, .rd, .rd, .rd, .rd, .rd, .rd, .cr, .rd, .rd, .rd, .rd, .cr, .rd, .rd] rfl (by kernel_rfl) ?_ | (refine ot_eqlb true rfl rfl rfl rfl rfl (bool_eq _ _) (nb2 _) ?_)); apply ot_v Try.tabOk) | (apply VEq.mk true; kernel_rfl; first | exact rat_same _ _ | exact rat_cmp true he) | (apply VLd.mk; first | exact hli0 _ | exact hli1 _) | (apply VIx.mk (j := i); exact rfl; omega) | (apply VCall.q; kernel_rfl; (focus (intro w1 hs; first | with_reducible apply hby _ _ w1 | with_reducible apply works_any w1))) | (apply VLdN.mk; (focus ((repeat (first | (with_reducible apply ldn_blk) | (with_reducible apply ldn_skip))); done)); exact rfl) | apply VBr.t); (conv => whnf))))
    ((apply VRet.mk); refine ret1 (by first | exact .inl rfl | exact .inr rfl) rfl (by exact rv_tmp rfl) ?_; exact fun w h => ⟨rfl, h.base⟩)
  · rw [hv] at hid
    have he : decide ((z3, z4) = (P, 1)) = false := by cases hd : decide ((z3, z4) = (P, 1)) <;> rw [hd] at hid <;> first | rfl | cases hid
    (apply tr_v Try.tabOk; (conv => whnf); (repeat ((first | ((first | apply VStop.mk | apply VCall.stop); (first | refine tr_region_draw (id := 24) (by kernel_rfl) [0, 1, 2, 3, 4, 5, 6, 7, 8, 9, 10, 11, 12, 13, 14, 15, 16, 17, 18, 19, 20, 21, 22, 23, 24, 25, 26, 27, 28, 29, 30, 31, 32, 33, 34, 35, 36, 37, 38, 39, 42, 43, 40, 41, 44, 45, 46, 47, 48, 49] [.rd, .rd, .rd, .rd, .rd, .rd, .rd, .rd, .rd, .rd, .rd, .rd, .rd, .rd, .rd, .rd, .rd, .rd, .rd, .rd, .rd, .rd, .rd, .rd, .rd, .rd, .rd, .rd, .rd, .rd, .rd, .rd, .rd, .rd, .rd, .rd, .rd, .rd, .rd, .rd, .rd, .rd, .cr, .rd, .rd, .rd, .rd, .cr, .rd, .rd] rfl (by kernel_rfl) ?_ | (refine ot_eqlb true rfl rfl rfl rfl rfl (bool_eq _ _) (nb2 _) ?_)); apply ot_v Try.tabOk) | (apply VEq.mk true; kernel_rfl; exact rat_same _ _) | (apply VEq.mk false; kernel_rfl; exact rat_cmp false he) | (apply VLd.mk; first | exact hli0 _ | exact hli1 _) | (apply VIx.mk (j := i); exact rfl; omega) | (apply VCall.q; kernel_rfl; (focus (intro w1 hs; first | with_reducible apply hby _ _ w1 | with_reducible apply works_any w1))) | (apply VLdN.mk; (focus ((repeat (first | (with_reducible apply ldn_blk) | (with_reducible apply ldn_skip))); done)); exact rfl) | apply VBr.t); (conv => whnf))))
    ((apply VRet.mk); refine ret1 (by first | exact .inl rfl | exact .inr rfl) rfl (by exact rv_tmp rfl) ?_; exact fun w h => ⟨rfl, h.base⟩)
end
end Go.Proofs.Ytfjnnegaljfkgaa
