/- Layer 3, blends: steps: lemmas for the rows of this seat. No conditions. -/
import Derived.Test.YtfjnnegaljfkgaaProg
import Derived.Test.YtfjnnegaljfkgaaBase
import Derived.Test.YtfjnnegaljfkgaaPlain
import Derived.Test.YtfjnnegaljfkgaaWA
set_option linter.all false
namespace Go.Proofs.Ytfjnnegaljfkgaa
open Go.RowKit
set_option maxHeartbeats 400000 in
theorem within1_any (n lo hi : Int) (g1 g2 : Nat) (w : World) (h1 : w.cell? ⟨g1, 0, none⟩ = some (.int .i64 lo)) (h2 : w.cell? ⟨g2, 0, none⟩ = some (.int .i64 hi)) :
    Calls Try.prog 78 #[.int .i64 n, .pointer (some ⟨g1, 0, none⟩), .pointer (some ⟨g2, 0, none⟩)] w fun e w' => e = .returned (.bool (badIn lo hi n)) ∧ w = w' := by
  have hb : Hid (badIn lo hi n = (decide (n < lo) || decide (hi < n))) := rfl
  by_cases t1 : n < lo
  · go_enter Try.func78, Try.ntmps78
    go_wp2
    go_ret
    exact ⟨ret_bool (by rw [hb.out]; simp [t1]), rfl⟩
  · by_cases t2 : hi < n
    · go_enter Try.func78, Try.ntmps78
      go_wp2
      go_ret
      exact ⟨ret_bool (by rw [hb.out]; simp [t2]), rfl⟩
    · go_enter Try.func78, Try.ntmps78
      go_wp2
      go_ret
      exact ⟨ret_bool (by rw [hb.out]; simp [t1, t2]), rfl⟩
/-- An index, or a number below 0. -/
def IdxRet (b : Bool) (w : World) (e : Ending) (w' : World) : Prop := (∃ r : Int, e = .returned (.int .i64 r) ∧ decide (0 ≤ r) = b ∧ -1 ≤ r ∧ r ≤ 9223372036854775806) ∧ w = w'
set_option maxHeartbeats 1000000 in
theorem indexFuncInt_any (A : Option Addr) (c : Nat) (l : List Int) (lo hi : Int) (g1 g2 : Nat) (w : World) (h : Reads w w.heap.size 1 A l.length (i64s l)) (hm : l.length ≤ maxLen) (h1 : w.cell? ⟨g1, 0, none⟩ = some (.int .i64 lo)) (h2 : w.cell? ⟨g2, 0, none⟩ = some (.int .i64 hi)) :
    Calls Try.prog 85 #[.slice A l.length c, .func (.func 78) #[] #[.pointer (some ⟨g1, 0, none⟩), .pointer (some ⟨g2, 0, none⟩)]] w (IdxRet (l.any (badIn lo hi)) w) := by
  unfold maxLen at hm
  have cw := fun n => within1_any n lo hi g1 g2 w h1 h2
  clear h1 h2
  have Hp : Hid (∀ e w', (∃ r : Int, e = .returned (.int .i64 r) ∧ decide (0 ≤ r) = l.any (badIn lo hi) ∧ -1 ≤ r ∧ r ≤ 9223372036854775806) ∧ w = w' → IdxRet (l.any (badIn lo hi)) w e w') := fun _ _ h => h
  generalize IdxRet (l.any (badIn lo hi)) w = POST at *
  go_enter Try.func85, Try.ntmps85
  go_wp2
  go_loopg [8] l.length (fun g i wr => ∃ k : Nat, k + g = l.length ∧ i = .int .i64 k ∧ (∀ j, j < k → badIn lo hi (l[j]?.getD 0) = false) ∧ w = wr)
  case atStart => exact ⟨0, by omega, rfl, by simp, rfl⟩
  case round =>
    obtain ⟨k, hk, rfl, hp, rfl⟩ := hrel
    have Hk := Lib.hid hk; clear hk
    have Hpp := Lib.hid hp; clear hp
    by_cases hlt : k < l.length
    · have hany := Lib.hid (any_of (badIn lo hi) l k 0 hlt)
      have Hc : Hid (∀ j, j < k + 1 → j < k ∨ j = k) := fun j hj => by omega
      obtain ⟨b, o, rfl, hbb, hc⟩ := h.int hlt
      generalize hx : l[k]?.getD 0 = x at *
      have Hx := Lib.hid hx; clear hx
      go_wp2_with fail
      refine (cw x).mono ?_; rintro e _ ⟨rfl, rfl⟩
      generalize hbx : badIn lo hi x = bx at *
      have Hbx := Lib.hid hbx; clear hbx
      cases bx with
      | true =>
        have ha := Lib.hid (hany.out rfl)
        go_wp2
        exact Hp.out _ _ ⟨⟨k, rfl, by rw [ha.out]; simp, by omega, by omega⟩, rfl⟩
      | false =>
        go_wp2
        go_roundg (gk - 1)
        case measure => have := Hk.out; omega
        case rel =>
          refine ⟨k + 1, by have := Hk.out; omega, by go_num, fun j hj => ?_, rfl⟩
          rcases Hc.out j hj with hj | rfl
          · exact Hpp.out j hj
          · rw [Hx.out]; exact Hbx.out
    · obtain rfl : k = l.length := by have := Hk.out; omega
      have ha := Lib.hid (any_not (badIn lo hi) l 0 Hpp.out)
      go_wp2
      exact Hp.out _ _ ⟨⟨-1, rfl, by rw [ha.out]; simp, by omega, by omega⟩, rfl⟩

set_option maxHeartbeats 1000000 in
theorem containsFuncInt_any (A : Option Addr) (c : Nat) (l : List Int) (lo hi : Int) (g1 g2 : Nat) (w : World) (h : Reads w w.heap.size 1 A l.length (i64s l)) (hm : l.length ≤ maxLen) (h1 : w.cell? ⟨g1, 0, none⟩ = some (.int .i64 lo)) (h2 : w.cell? ⟨g2, 0, none⟩ = some (.int .i64 hi)) :
    Calls Try.prog 77 #[.slice A l.length c, .func (.func 78) #[] #[.pointer (some ⟨g1, 0, none⟩), .pointer (some ⟨g2, 0, none⟩)]] w fun e w' => e = .returned (.bool (l.any (badIn lo hi))) ∧ w = w' := by
  have ci := indexFuncInt_any A c l lo hi g1 g2 w h hm h1 h2
  clear h hm h1 h2
  generalize l.any (badIn lo hi) = b at *
  go_enter Try.func77, Try.ntmps77
  go_wp2_with fail
  refine ci.mono ?_
  rintro e w' ⟨⟨r, rfl, hr, _, _⟩, rfl⟩
  have Hr := Lib.hid hr; clear hr
  go_wp2
  go_ret
  exact ⟨ret_bool Hr.out, rfl⟩

set_option maxHeartbeats 1000000 in
theorem within_any (A : Option Addr) (c : Nat) (l : List Int) (lo hi : Int) (w : World) (h : Reads w w.heap.size 1 A l.length (i64s l)) (hm : l.length ≤ maxLen) :
    Calls Try.prog 58 #[.int .i64 lo, .int .i64 hi, .slice A l.length c] w fun e w' => e = .returned (.bool (within lo hi l)) ∧ Below w.heap.size w w' := by
  have hb0 : Below w.heap.size w ((w.alloc (.cells #[.int .i64 lo] 2)).alloc (.cells #[.int .i64 hi] 2)) := three_new w 2 2 _ _
  have hk := two_new w 2 2 #[.int .i64 lo] #[.int .i64 hi]
  have cc := containsFuncInt_any A c l lo hi w.heap.size (w.heap.size + 1) _ ((h.below hb0).more hb0.size) hm (hk.1.cell 0) (hk.2.cell 0)
  clear h hk
  have hw : Hid (within lo hi l = !l.any (badIn lo hi)) := rfl
  generalize l.any (badIn lo hi) = b at *
  go_enter Try.func58, Try.ntmps58
  go_wp2_with fail
  refine cc.mono ?_
  rintro e _ ⟨rfl, rfl⟩
  go_wp2
  go_ret
  exact ⟨ret_bool hw.out.symm, hb0⟩
theorem within_new (n lo hi : Int) (w : World) :
    Calls Try.prog 58 #[.int .i64 lo, .int .i64 hi, .slice (some ⟨w.heap.size, 0, none⟩) 1 1] (w.alloc (.cells #[.int .i64 n] 2)) fun e w' => e = .returned (.bool (decide (lo ≤ n) && decide (n ≤ hi))) ∧ Below w.heap.size w w' := by
  have hr : Reads (w.alloc (.cells #[.int .i64 n] 2)) (w.alloc (.cells #[.int .i64 n] 2)).heap.size 1 (some ⟨w.heap.size, 0, none⟩) 1 (i64s [n]) :=
    ⟨rfl, fun _ => ⟨w.heap.size, 0, rfl, by simp, by
      intro j u hu
      have := cells_alloc w (i64s [n]) 2 j u hu
      rw [Addr.add_lit] at this
      exact this⟩⟩
  refine (within_any (some ⟨w.heap.size, 0, none⟩) 1 [n] lo hi _ hr (by simp [maxLen])).mono fun e w' ⟨h1, h2⟩ => ⟨by rw [h1, within_one], ?_⟩
  exact ((Below.refl _ _).alloc (Nat.le_refl _) _).trans (h2.mono (by simp))
set_option maxHeartbeats 1000000 in
theorem stray_any (s p : Int) (w : World) :
    Calls Try.prog 60 #[.agg #[.int .i64 s, .int .i64 p]] w fun e w' => e = .returned (.bool (lotBad (s, p))) ∧ Below w.heap.size w w' := by
  have hq := Lib.hid (lotBad_eq s p)
  have C1 := fun w1 => within_new s 0 100 w1
  have C2 := fun w1 => within_new p 0 1000 w1
  have hk0 := Blk.new w 67 #[.int .i64 s, .int .i64 p]
  have hb0 : Below w.heap.size w (w.alloc (.cells #[.int .i64 s, .int .i64 p] 67)) := (Below.refl _ _).alloc (Nat.le_refl _) _
  generalize (decide (0 ≤ s) && decide (s ≤ 100)) = b1 at *
  generalize (decide (0 ≤ p) && decide (p ≤ 1000)) = b2 at *
  generalize lotBad (s, p) = bb at *
  have C1' := C1 (w.alloc (.cells #[.int .i64 s, .int .i64 p] 67))
  rw [World.size_alloc] at C1'
  clear C1
  cases b1 with
  | false =>
    go_enter Try.func60, Try.ntmps60
    go_wp2_with fail
    refine C1'.mono ?_; rintro e w1 ⟨rfl, hb1⟩
    rw [← World.size_alloc w (.cells #[.int .i64 s, .int .i64 p] 67)] at hb1
    go_wp2
    go_ret
    exact ⟨ret_bool (by rw [hq.out]; rfl), hb0.trans (hb1.mono hb0.size)⟩
  | true =>
    go_enter Try.func60, Try.ntmps60
    go_wp2_with fail
    refine C1'.mono ?_; rintro e w1 ⟨rfl, hb1⟩
    rw [← World.size_alloc w (.cells #[.int .i64 s, .int .i64 p] 67)] at hb1
    obtain ⟨q1, q2, q3, q4⟩ := (hk0.kept hb1).two
    have hb2 := hb0.trans (hb1.mono hb0.size)
    clear hb1 hb0 hk0
    go_wp2_with fail
    refine (C2 _).mono ?_; rintro e w2 ⟨rfl, hb3⟩
    go_wp2
    go_ret
    exact ⟨ret_bool (by rw [hq.out]; simp), hb2.trans (hb3.mono hb2.size)⟩

set_option maxHeartbeats 1000000 in
theorem indexFuncLots_any (A : Option Addr) (c : Nat) (l : List (Int × Int)) (w : World) (h : Reads w w.heap.size 2 A l.length (pairCells l)) (hm : l.length ≤ maxLen) :
    Calls Try.prog 79 #[.slice A l.length c, .func (.func 60) #[] #[]] w fun e w' => (∃ r : Int, e = .returned (.int .i64 r) ∧ decide (0 ≤ r) = l.any lotBad ∧ -1 ≤ r ∧ r ≤ 9223372036854775806) ∧ Below w.heap.size w w' := by
  unfold maxLen at hm
  suffices H : ∀ POST : Ending → World → Prop, (∀ e w', (∃ r : Int, e = .returned (.int .i64 r) ∧ decide (0 ≤ r) = l.any lotBad ∧ -1 ≤ r ∧ r ≤ 9223372036854775806) ∧ Below w.heap.size w w' → POST e w') → Calls Try.prog 79 #[.slice A l.length c, .func (.func 60) #[] #[]] w POST from H _ (fun _ _ h => h)
  intro POST hp
  have Hp := Lib.hid hp; clear hp
  go_enter Try.func79, Try.ntmps79
  go_wp2
  go_loopg [8] l.length (fun g i wr => ∃ k : Nat, k + g = l.length ∧ i = .int .i64 k ∧ (∀ j, j < k → lotBad (l[j]?.getD (0, 0)) = false) ∧ Below w.heap.size w wr)
  case atStart => exact ⟨0, by omega, rfl, by simp, Below.refl _ _⟩
  case round =>
    obtain ⟨k, hk, rfl, hp, hb⟩ := hrel
    have Hk := Lib.hid hk; clear hk
    have Hpp := Lib.hid hp; clear hp
    by_cases hlt : k < l.length
    · have hany := Lib.hid (any_of lotBad l k (0, 0) hlt)
      have Hc : Hid (∀ j, j < k + 1 → j < k ∨ j = k) := fun j hj => by omega
      obtain ⟨b, o, rfl, hbb, hc1, hc2⟩ := (h.below hb).pair hlt
      generalize hx : l[k]?.getD (0, 0) = x at *
      have Hx := Lib.hid hx; clear hx
      obtain ⟨s, p⟩ := x
      dsimp only at hc1 hc2
      have cw := stray_any s p
      go_wp2_with fail
      refine (cw _).mono ?_; rintro e w1 ⟨rfl, hb1⟩
      have hB := hb.trans (hb1.mono hb.size)
      generalize hbx : lotBad (s, p) = bx at *
      have Hbx := Lib.hid hbx; clear hbx cw
      cases bx with
      | true =>
        have ha := Lib.hid (hany.out rfl)
        go_wp2
        exact Hp.out _ _ ⟨⟨k, rfl, by rw [ha.out]; simp, by omega, by omega⟩, hB⟩
      | false =>
        go_wp2
        go_roundg (gk - 1)
        case measure => have := Hk.out; omega
        case rel =>
          refine ⟨k + 1, by have := Hk.out; omega, by go_num, fun j hj => ?_, hB⟩
          rcases Hc.out j hj with hj | rfl
          · exact Hpp.out j hj
          · rw [Hx.out]; exact Hbx.out
    · obtain rfl : k = l.length := by have := Hk.out; omega
      have ha := Lib.hid (any_not lotBad l (0, 0) Hpp.out)
      go_wp2
      exact Hp.out _ _ ⟨⟨-1, rfl, by rw [ha.out]; simp, by omega, by omega⟩, hb⟩

set_option maxHeartbeats 1000000 in
theorem containsFuncLots_any (A : Option Addr) (c : Nat) (l : List (Int × Int)) (w : World) (h : Reads w w.heap.size 2 A l.length (pairCells l)) (hm : l.length ≤ maxLen) :
    Calls Try.prog 61 #[.slice A l.length c, .func (.func 60) #[] #[]] w fun e w' => e = .returned (.bool (l.any lotBad)) ∧ Below w.heap.size w w' := by
  have ci := indexFuncLots_any A c l w h hm
  clear h hm
  generalize l.any lotBad = b at *
  go_enter Try.func61, Try.ntmps61
  go_wp2_with fail
  refine ci.mono ?_
  rintro e w' ⟨⟨r, rfl, hr, _, _⟩, hb⟩
  have Hr := Lib.hid hr; clear hr
  go_wp2
  go_ret
  exact ⟨ret_bool Hr.out, hb⟩

set_option maxHeartbeats 1000000 in
theorem checkLots_any (A : Option Addr) (c : Nat) (xs : List (Int × Int)) (w : World) (h : Reads w w.heap.size 2 A xs.length (pairCells xs)) (hm : xs.length ≤ maxLen) :
    Calls Try.prog 20 #[.slice A xs.length c] w fun e w' => e = .returned (.int .i64 (checkLots xs)) ∧ Below w.heap.size w w' := by
  unfold maxLen at hm
  have C1 := fun w1 => within_new (xs.length : Int) 1 8 w1
  have C2 := fun (w1 : World) (hb : Below w.heap.size w w1) => containsFuncLots_any A c xs w1 ((h.below hb).more hb.size) (by unfold maxLen; omega)
  have Hs : Hid (checkLots xs = if xs.length < 1 ∨ 8 < xs.length then 6 else if xs.any lotBad then 3 else 0) := rfl
  by_cases t1 : xs.length < 1 ∨ 8 < xs.length
  · have Hs := Lib.hid (Hs.out.trans (if_pos t1))
    have e1 : (decide ((1 : Int) ≤ (xs.length : Int)) && decide ((xs.length : Int) ≤ 8)) = false := by
      rw [Bool.and_eq_false_iff]; simp; omega
    rw [e1] at C1
    clear e1 t1
    go_enter Try.func20, Try.ntmps20
    go_wp2_with fail
    refine (C1 _).mono ?_; rintro e w1 ⟨rfl, hb1⟩
    go_wp2
    go_ret
    exact ⟨ret_int Hs.out.symm, hb1⟩
  · have Hs := Lib.hid (Hs.out.trans (if_neg t1))
    have e1 : (decide ((1 : Int) ≤ (xs.length : Int)) && decide ((xs.length : Int) ≤ 8)) = true := by
      rw [Bool.and_eq_true]; simp; omega
    rw [e1] at C1
    clear e1 t1
    generalize xs.any lotBad = b at *
    go_enter Try.func20, Try.ntmps20
    go_wp2_with fail
    refine (C1 _).mono ?_; rintro e w1 ⟨rfl, hb1⟩
    go_wp2_with fail
    refine (C2 _ hb1).mono ?_; rintro e w2 ⟨rfl, hb2⟩
    have hB := hb1.trans (hb2.mono hb1.size)
    cases b with
    | true =>
      go_wp2
      go_ret
      exact ⟨ret_int (by rw [Hs.out]; rfl), hB⟩
    | false =>
      go_wp2
      go_ret
      exact ⟨ret_int (by rw [Hs.out]; rfl), hB⟩
end Go.Proofs.Ytfjnnegaljfkgaa
