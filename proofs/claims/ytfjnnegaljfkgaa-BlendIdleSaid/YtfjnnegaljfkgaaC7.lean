/- Layer 3, blends: What the laws own functions say, plainly: lemmas for the rows of this seat. No conditions. -/
import Derived.Test.YtfjnnegaljfkgaaProg
import Derived.Test.YtfjnnegaljfkgaaBase
import Derived.Test.YtfjnnegaljfkgaaPlain
import Derived.Test.YtfjnnegaljfkgaaWA
import Derived.Test.YtfjnnegaljfkgaaSeg
import Derived.Test.YtfjnnegaljfkgaaKeys
import Derived.Test.YtfjnnegaljfkgaaW20
import Derived.Test.YtfjnnegaljfkgaaW21
import Derived.Test.YtfjnnegaljfkgaaW22
import Derived.Test.YtfjnnegaljfkgaaS1
import Derived.Test.YtfjnnegaljfkgaaS5
import Derived.Test.YtfjnnegaljfkgaaS12
import Derived.Test.YtfjnnegaljfkgaaTab
import Derived.Test.YtfjnnegaljfkgaaS14
import Derived.Test.YtfjnnegaljfkgaaArms
import Derived.Test.YtfjnnegaljfkgaaWE
import Derived.Test.YtfjnnegaljfkgaaB1
import Derived.Test.YtfjnnegaljfkgaaB2
import Derived.Test.YtfjnnegaljfkgaaB3
import Derived.Test.YtfjnnegaljfkgaaB4
import Derived.Test.YtfjnnegaljfkgaaB5
import Derived.Test.YtfjnnegaljfkgaaB6
import Derived.Test.YtfjnnegaljfkgaaB7
import Derived.Test.YtfjnnegaljfkgaaB8
import Derived.Test.YtfjnnegaljfkgaaB9
import Derived.Test.YtfjnnegaljfkgaaB10
import Derived.Test.YtfjnnegaljfkgaaB11
import Derived.Test.YtfjnnegaljfkgaaB12
import Derived.Test.YtfjnnegaljfkgaaB13
import Derived.Test.YtfjnnegaljfkgaaB14
import Derived.Test.YtfjnnegaljfkgaaC1
import Derived.Test.YtfjnnegaljfkgaaC2a
import Derived.Test.YtfjnnegaljfkgaaC2
import Derived.Test.YtfjnnegaljfkgaaL1
import Derived.Test.YtfjnnegaljfkgaaL2
import Derived.Test.YtfjnnegaljfkgaaC3a
import Derived.Test.YtfjnnegaljfkgaaC6
set_option linter.all false
namespace Go.Proofs.Ytfjnnegaljfkgaa
open Go.RowKit
/-! ## What the laws' own functions say, plainly -/
/-- Lay theorems by their runs: in least terms it is had just so. -/
theorem Wit.ratW {xs : List (Int × Int)} {t N D : Int} (hD : 0 < D) (h : Wit xs t N D) : Wit xs t (rat N D).1 (rat N D).2 := by
  obtain ⟨g, hg, e1, e2, _⟩ := rat_spec N D hD
  generalize rat N D = r at *
  obtain ⟨a, ha, b, hb, h1, h2, h | h⟩ := h
  · refine ⟨a, ha, b, hb, h1, h2, .inl ⟨h.1, ?_⟩⟩
    refine Int.eq_of_mul_eq_mul_left (a := g) (by omega) ?_
    have := h.2
    rw [e1, e2] at this
    rw [← Int.mul_assoc, this, Int.mul_assoc]
  · refine ⟨a, ha, b, hb, h1, h2, .inr ⟨h.1, ?_⟩⟩
    refine Int.eq_of_mul_eq_mul_left (a := g) (by omega) ?_
    have := h.2
    rw [e1, e2] at this
    rw [this, Int.mul_assoc]
theorem Cheap.ratC {xs : List (Int × Int)} {t N D : Int} (h : Cheap xs t N D) : Cheap xs t (rat N D).1 (rat N D).2 := by
  refine ⟨(rat_spec N D h.pos).choose_spec.2.2.2, h.wit.ratW h.pos, ?_⟩
  obtain ⟨d, s, k, hd, hl, he⟩ := h.low
  obtain ⟨g, hg, e1, e2, _⟩ := rat_spec N D h.pos
  refine ⟨d, s, k, hd, hl, ?_⟩
  generalize rat N D = r at *
  refine Int.eq_of_mul_eq_mul_left (a := g) (by omega) ?_
  rw [e1, e2] at he
  grind
/-- A price of blends, in least terms. -/
structure PriceOk (r : Int × Int) : Prop where
  den : 1 ≤ r.2 ∧ r.2 ≤ 200
  num : 0 ≤ r.1 ∧ r.1 ≤ 1000 * r.2
  red : rat r.1 r.2 = r
theorem PriceOk.small {r : Int × Int} (h : PriceOk r) : SmallP r := ⟨h.den.1, by have := h.den; omega, h.num.1, h.num.2, h.red⟩
theorem PriceOk.of {N D : Int} (hD : 0 < D) (h1 : D ≤ 200) (h2 : 0 ≤ N) (h3 : N ≤ 1000 * D) : PriceOk (rat N D) := by
  have h := small_rat hD (by omega) h2 h3
  have hb := rat_bd N D (by omega)
  exact ⟨⟨h.1, by omega⟩, ⟨h.2.2.1, h.2.2.2.1⟩, h.2.2.2.2⟩
theorem PriceOk.eq {r r' : Int × Int} (h : PriceOk r) (h' : PriceOk r') (e : r.1 * r'.2 = r'.1 * r.2) : r = r' := by
  rw [← h.red, ← h'.red]
  exact rat_eq (by have := h.den; omega) (by have := h'.den; omega) e
theorem MixIs.ok {xs : List (Int × Int)} {t : Int} {m : MixT} {o : Int × Int × Int} (hg : Good xs) (h : MixIs xs t m o) : PriceOk (priceR m) := by
  have h1 := hg.mem (hg.hull.lot_mem h.one)
  have h2 := hg.mem (hg.hull.lot_mem h.two)
  have hp := h.parts
  obtain ⟨a, b, p, q⟩ := m
  unfold pt at h1 h2
  dsimp only at *
  have m1 := mul_mono h1.2.2.1 h1.2.2.2 hp.1 hp.2.1
  have m2 := mul_mono h2.2.2.1 h2.2.2.2 hp.2.2.1 hp.2.2.2.1
  have m3 := Int.mul_le_mul_of_nonneg_right h1.2.2.2 hp.1
  have m4 := Int.mul_le_mul_of_nonneg_right h2.2.2.2 hp.2.2.1
  exact PriceOk.of (by omega) (by omega) (by omega) (by omega)
section
variable {xs : List (Int × Int)} {t : Int}
theorem Good.ch_true (h : Good xs) (hc : (chR xs t).2 = true) : Cheap xs t (chR xs t).1.1 (chR xs t).1.2 ∧ PriceOk (chR xs t).1 := by
  unfold chR at hc ⊢
  cases hm : mixScan t none (chainOf xs) with
  | none => rw [hm] at hc; cases hc
  | some m =>
    have hI := h.mixIs hm
    exact ⟨hI.cheap.ratC, hI.ok h⟩
theorem Good.ch_false (h : Good xs) (hc : (chR xs t).2 = false) : ¬ Had xs t ∧ (chR xs t).1 = (0, 0) := by
  unfold chR at hc ⊢
  cases hm : mixScan t none (chainOf xs) with
  | none => exact ⟨h.mix_none.1 hm, rfl⟩
  | some m => rw [hm] at hc; cases hc
theorem Good.ch_had (h : Good xs) (hh : Had xs t) : (chR xs t).2 = true := by
  unfold chR
  obtain ⟨m, hm⟩ := h.had hh
  rw [hm]
theorem Good.ch_not (h : Good xs) (hh : ¬ Had xs t) : chR xs t = ((0, 0), false) := by
  unfold chR
  rw [h.mix_none.2 hh]
/-- What is had at least terms is what the program says. -/
theorem Good.ch_is (h : Good xs) {r : Int × Int} (hr : PriceOk r) (hc : Cheap xs t r.1 r.2) : chR xs t = (r, true) := by
  have h1 := h.ch_had hc.wit.had
  obtain ⟨h2, h3⟩ := h.ch_true h1
  exact Prod.ext (h3.eq hr (h2.eq hc)) h1
theorem Good.le_true (h : Good xs) (ht : 0 ≤ t) (hc : (leR xs t).2 = true) : LeastIs xs t (leR xs t).1.1 (leR xs t).1.2 ∧ PriceOk (leR xs t).1 := by
  unfold leR at hc ⊢
  cases hm : mixScan (riseOf xs t) none (chainOf xs) with
  | none => rw [hm] at hc; cases hc
  | some m =>
    have hL := (h.floorIs ht hm).least
    refine ⟨?_, (h.mixIs hm).ok h⟩
    obtain ⟨g, hg, e1, e2, hpos⟩ := rat_spec (m.1.2.1 * m.2.2.1 + m.2.1.2.1 * m.2.2.2) (m.2.2.1 + m.2.2.2) hL.pos
    have hw := hL.wit
    obtain ⟨d, s, k, hd, hk, hl, he⟩ := hL.low
    have hp : priceR m = rat (m.1.2.1 * m.2.2.1 + m.2.1.2.1 * m.2.2.2) (m.2.2.1 + m.2.2.2) := rfl
    dsimp only
    rw [hp]
    refine ⟨hpos, ?_, d, s, k, hd, hk, hl, ?_⟩
    · rcases hw with ⟨c, hc1, hc2, hc3⟩ | hw
      · refine .inl ⟨c, hc1, hc2, ?_⟩
        generalize rat (m.1.2.1 * m.2.2.1 + m.2.1.2.1 * m.2.2.2) (m.2.2.1 + m.2.2.2) = r at *
        refine Int.eq_of_mul_eq_mul_left (a := g) (by omega) ?_
        rw [← e1, hc3]
        rw [e2]
        exact Int.mul_assoc _ _ _
      · exact .inr (hw.ratW hL.pos)
    · generalize rat (m.1.2.1 * m.2.2.1 + m.2.1.2.1 * m.2.2.2) (m.2.2.1 + m.2.2.2) = r at *
      refine Int.eq_of_mul_eq_mul_left (a := g) (by omega) ?_
      rw [e1, e2] at he
      grind
theorem Good.le_false (h : Good xs) (hc : (leR xs t).2 = false) : (∀ c ∈ xs, c.1 < t) ∧ (leR xs t).1 = (0, 0) := by
  unfold leR at hc ⊢
  cases hm : mixScan (riseOf xs t) none (chainOf xs) with
  | none => exact ⟨h.rise_none hm, rfl⟩
  | some m => rw [hm] at hc; cases hc
theorem Good.le_had (h : Good xs) {c : Int × Int} (hc : c ∈ xs) (ht : t ≤ c.1) : (leR xs t).2 = true := by
  cases hb : (leR xs t).2 with
  | true => rfl
  | false => have := (h.le_false hb).1 c hc; omega
end
/-! ### two sharpnesses, and the one in the middle -/
/-! ## BlendMixed -/
/-- Lay theorems by their runs: a price's numbers fit. -/
theorem PriceOk.fits {r : Int × Int} (h : PriceOk r) : 1 ≤ r.2 ∧ r.2 ≤ 200 ∧ 0 ≤ r.1 ∧ r.1 ≤ 200000 := by
  have := h.den; have := h.num; omega
theorem ok_lt {r : Int × Int} (h : PriceOk r) : 0 ≤ r.1 ∧ r.1 ≤ 1000000000 ∧ 0 ≤ r.2 ∧ r.2 ≤ 1000000000 := by
  have := h.fits; omega
theorem less_fit (x y : Int × Int) (w : World) (hx : 0 ≤ x.1 ∧ x.1 ≤ 1000000000 ∧ 0 ≤ x.2 ∧ x.2 ≤ 1000000000) (hy : 0 ≤ y.1 ∧ y.1 ≤ 1000000000 ∧ 0 ≤ y.2 ∧ y.2 ≤ 1000000000) :
    Calls Try.prog 48 #[.agg #[.int .i64 x.1, .int .i64 x.2], .agg #[.int .i64 y.1, .int .i64 y.2]] w fun e w' => e = .returned (.bool (less x y)) ∧ Below w.heap.size w w' :=
  less_any x.1 x.2 y.1 y.2 w (by omega) (by omega) (by omega) (by omega)
section
variable (Al : Option Addr) (c : Nat) (xs : List (Int × Int)) (w : World) (hr : Reads w w.heap.size 2 Al xs.length (pairCells xs)) (hm : xs.length ≤ maxLen)
include hr hm
theorem fine_no (hf : ¬ checkLots xs = 0) : ∀ w1 A, St w A w1 → Calls Try.prog 41 #[.slice Al xs.length c] w1 fun e w' => e = .returned (.bool false) ∧ Below w1.heap.size w1 w' := fun w1 A hs => by
  have := fine_any Al c xs w1 (hs.reads hr) hm
  rwa [decide_eq_false hf] at this
theorem fine_yes (hf : checkLots xs = 0) : ∀ w1 A, St w A w1 → Calls Try.prog 41 #[.slice Al xs.length c] w1 fun e w' => e = .returned (.bool true) ∧ Below w1.heap.size w1 w' := fun w1 A hs => by
  have := fine_any Al c xs w1 (hs.reads hr) hm
  rwa [decide_eq_true hf] at this
omit hm in
theorem cheap_call (hG : Good xs) (t : Int) (ht : 0 ≤ t ∧ t ≤ 100) {r1 r2 : Int} {b : Bool} (h : chR xs t = ((r1, r2), b)) : ∀ w1 A, St w A w1 → Calls Try.prog 43 #[.slice Al xs.length c, .int .i64 t] w1 fun e w' => e = .returned (.tuple #[.agg #[.int .i64 r1, .int .i64 r2], .bool b, .bool true]) ∧ Below w1.heap.size w1 w' := fun w1 A hs => by
  have := cheapestL_any Al c xs w1 (hs.reads hr) hG t ht
  rwa [h] at this
omit hm in
theorem least_call (hG : Good xs) (t : Int) (ht : 0 ≤ t ∧ t ≤ 100) {r1 r2 : Int} {b : Bool} (h : leR xs t = ((r1, r2), b)) : ∀ w1 A, St w A w1 → Calls Try.prog 49 #[.slice Al xs.length c, .int .i64 t] w1 fun e w' => e = .returned (.tuple #[.agg #[.int .i64 r1, .int .i64 r2], .bool b, .bool true]) ∧ Below w1.heap.size w1 w' := fun w1 A hs => by
  have := leastL_any Al c xs w1 (hs.reads hr) hG t ht
  rwa [h] at this
end
end Go.Proofs.Ytfjnnegaljfkgaa
