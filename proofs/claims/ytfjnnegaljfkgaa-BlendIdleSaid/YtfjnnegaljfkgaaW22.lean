/- Layer 3, blends: steps: lemmas for the rows of this seat. No conditions. -/
import Derived.Test.YtfjnnegaljfkgaaProg
import Derived.Test.YtfjnnegaljfkgaaBase
import Derived.Test.YtfjnnegaljfkgaaPlain
import Derived.Test.YtfjnnegaljfkgaaWA
import Derived.Test.YtfjnnegaljfkgaaWF
import Derived.Test.YtfjnnegaljfkgaaSeg
import Derived.Test.YtfjnnegaljfkgaaKeys
import Derived.Test.YtfjnnegaljfkgaaW20
import Derived.Test.YtfjnnegaljfkgaaW21
import Derived.ChangeKeysEq
set_option linter.all false
namespace Go.Proofs.Ytfjnnegaljfkgaa
open Go.RowKit
def openErr (xs : List (Int × Int)) (l : List Int) : Int := if checkLots xs ≠ 0 then checkLots xs else if within 0 100 l then 0 else 3
/-- A shelf is opened, or the error. -/
def OpenRet (A : Option Addr) (c : Nat) (xs : List (Int × Int)) (l : List Int) (w0 : World) (e : Ending) (w' : World) : Prop :=
  ((openErr xs l ≠ 0 ∧ e = .returned (.tuple #[.pointer none, .int .i64 (openErr xs l)])) ∨
   (openErr xs l = 0 ∧ ∃ g, e = .returned (.tuple #[.pointer (some ⟨g, 0, none⟩), .int .i64 0]) ∧ w0.heap.size ≤ g ∧ ShelfIs w' g A c xs)) ∧ Below w0.heap.size w0 w'
set_option maxHeartbeats 1000000 in
theorem open_any (A : Option Addr) (c : Nat) (xs : List (Int × Int)) (S : Option Addr) (cs : Nat) (l : List Int) (w : World) (h : Reads w w.heap.size 2 A xs.length (pairCells xs)) (hm : xs.length ≤ maxLen)
    (hl : Reads w w.heap.size 1 S l.length (i64s l)) (hlm : l.length ≤ maxLen) :
    Calls Try.prog 57 #[.slice A xs.length c, .slice S l.length cs] w (OpenRet A c xs l w) := by
  have c1 := fun (w1 : World) (hb : Below w.heap.size w w1) => checkLots_any A c xs w1 ((h.below hb).more hb.size) hm
  have c2 := fun (w1 : World) (hb : Below w.heap.size w w1) => within_any S cs l 0 100 w1 ((hl.below hb).more hb.size) hlm
  have Hs : Hid (openErr xs l = if checkLots xs ≠ 0 then checkLots xs else if within 0 100 l then 0 else 3) := rfl
  have hb0 := Below.refl w.heap.size w
  by_cases he : checkLots xs = 0
  · obtain ⟨hl1, hl8, hgood⟩ := checkLots_zero he
    have c3 := fun (w1 : World) (hb : Below w.heap.size w w1) => newShelf_any A c xs w1 ((h.below hb).more hb.size) hl8 hgood
    have Hs := Lib.hid (Hs.out.trans (if_neg (by simpa using he)))
    rw [he] at c1
    clear he hgood hl1
    generalize within 0 100 l = b at *
    have Hpost : Hid (∀ e w', (((if b = true then (0 : Int) else 3) ≠ 0 ∧ e = .returned (.tuple #[.pointer none, .int .i64 (if b = true then 0 else 3)])) ∨
      ((if b = true then (0 : Int) else 3) = 0 ∧ ∃ g, e = .returned (.tuple #[.pointer (some ⟨g, 0, none⟩), .int .i64 0]) ∧ w.heap.size ≤ g ∧ ShelfIs w' g A c xs)) → Below w.heap.size w w' → OpenRet A c xs l w e w') := by
      intro e w' h1 h2
      unfold OpenRet
      rw [Hs.out]
      exact ⟨h1, h2⟩
    generalize OpenRet A c xs l w = POST at *
    go_enter Try.func57, Try.ntmps57
    go_wp2_with fail
    refine (c1 _ hb0).mono ?_; rintro e w1 ⟨rfl, hb1⟩
    go_wp2_with fail
    refine (c2 _ hb1).mono ?_; rintro e w2 ⟨rfl, hb2⟩
    have hb2 := hb1.trans (hb2.mono hb1.size)
    cases b with
    | true =>
      go_wp2_with fail
      refine (c3 _ hb2).mono ?_; rintro e w3 ⟨rfl, hS, hb4⟩
      have Hsz := Lib.hid hb2.size
      have hb3 := hb2.trans (hb4.mono hb2.size)
      clear hb1 hb2 hb4
      generalize w2.heap.size = g at *
      go_wp2
      exact Hpost.out _ _ (.inr ⟨rfl, g, rfl, Hsz.out, hS⟩) hb3
    | false =>
      go_wp2
      exact Hpost.out _ _ (.inl ⟨by decide, rfl⟩) hb2
  · have Hs := Lib.hid (Hs.out.trans (if_pos he))
    have Hpost : Hid (∀ e w', (e = .returned (.tuple #[.pointer none, .int .i64 (checkLots xs)])) → Below w.heap.size w w' → OpenRet A c xs l w e w') := by
      intro e w' h1 h2
      unfold OpenRet
      rw [Hs.out]
      exact ⟨.inl ⟨he, h1⟩, h2⟩
    clear Hs
    generalize OpenRet A c xs l w = POST at *
    generalize checkLots xs = er at *
    go_enter Try.func57, Try.ntmps57
    go_wp2_with fail
    refine (c1 _ hb0).mono ?_; rintro e w1 ⟨rfl, hb1⟩
    go_wp2
    exact Hpost.out _ _ rfl hb1
theorem openErr_nil (xs : List (Int × Int)) : openErr xs [] = checkLots xs := by
  unfold openErr
  by_cases h : checkLots xs = 0
  · rw [if_neg (by simpa using h), h]; rfl
  · rw [if_pos h]
theorem within_part (ps : List Int) : within 0 1000 ps = !ps.any partBad := by
  unfold within badIn partBad
  congr 2
  funext n
  rw [Bool.decide_or]
theorem Reads.nil1 (w : World) (B : Nat) : Reads w B 1 none 0 (i64s []) := ⟨rfl, fun h => absurd h (by decide)⟩
set_option maxHeartbeats 2000000 in
theorem checkBlend_any (A A' : Option Addr) (c c' : Nat) (xs : List (Int × Int)) (ps : List Int) (w : World) (h : Reads w w.heap.size 2 A xs.length (pairCells xs)) (hm : xs.length ≤ maxLen)
    (hp : Reads w w.heap.size 1 A' ps.length (i64s ps)) (hpm : ps.length ≤ maxLen) :
    Calls Try.prog 18 #[.slice A xs.length c, .slice A' ps.length c'] w fun e w' => e = .returned (blendVal (checkBlend xs ps)) ∧ Below w.heap.size w w' := by
  have c1 := fun (w1 : World) (hb : Below w.heap.size w w1) => open_any A c xs none 0 [] w1 ((h.below hb).more hb.size) hm (Reads.nil1 _ _) (by decide)
  have c2 := fun (w1 : World) (hb : Below w.heap.size w w1) => within_any A' c' ps 0 1000 w1 ((hp.below hb).more hb.size) hpm
  unfold OpenRet at c1
  rw [openErr_nil] at c1
  rw [within_part] at c2
  have hb0 : Below w.heap.size w ((w.alloc (.cells #[.int .i64 0, .int .i64 0] 27)).alloc (.cells #[.int .i64 0, .int .i64 0] 27)) := ((Below.refl _ _).alloc (Nat.le_refl _) _).alloc (by simp) _
  have hk0 := two_new w 27 27 #[.int .i64 0, .int .i64 0] #[.int .i64 0, .int .i64 0]
  have Hs : Hid (checkBlend xs ps = if checkLots xs ≠ 0 then ((0, 0), (0, 0), checkLots xs) else if ps.length ≠ xs.length then ((0, 0), (0, 0), 15)
    else if ps.any partBad then ((0, 0), (0, 0), 3)
    else if allUpto ps ps.length = 0 then ((0, 0), (0, 0), 6)
    else (rat (sharpUpto xs ps ps.length) (allUpto ps ps.length), rat (priceUpto xs ps ps.length) (allUpto ps ps.length), 0)) := rfl
  by_cases he : checkLots xs = 0
  · obtain ⟨hl1, hl8, hgood⟩ := checkLots_zero he
    have Hs := Lib.hid (Hs.out.trans (if_neg (by simpa using he)))
    rw [he] at c1
    have hgood := Lib.hid hgood
    clear he
    go_enter Try.func18, Try.ntmps18
    go_wp2_with fail
    refine (c1 _ hb0).mono ?_; rintro e w1 ⟨(⟨h0, _⟩ | ⟨_, g, rfl, hg, _⟩), hb1⟩
    · exact absurd rfl h0
    have hk1 := (hk0.1.kept hb1)
    have hk2 := (hk0.2.kept hb1)
    have hB := hb0.trans (hb1.mono hb0.size)
    clear hb0 hb1 hk0 c1 hg
    obtain ⟨q1, q2, q3, q4⟩ := hk1.two
    obtain ⟨r1, r2, r3, r4⟩ := hk2.two
    by_cases hlen : ps.length = xs.length
    · have Hs := Lib.hid (Hs.out.trans (if_neg (by simpa using hlen)))
      have hpl : ps.length ≤ 8 := by omega
      generalize hn : ps.length = n at *
      have Hn := Lib.hid hn
      clear hn
      have h' := h
      rw [← hlen] at h' hl1 hl8 hgood hm ⊢
      clear h hlen
      have hne : ((n : Int) != (n : Int)) = false := by simp
      have hne'' : (n != n) = false := by simp
      go_wp2_with fail
      refine (c2 _ hB).mono ?_; rintro e w2 ⟨rfl, hb2⟩
      have hk1 := hk1.kept hb2
      have hk2 := hk2.kept hb2
      have hB := hB.trans (hb2.mono hB.size)
      clear hb2 q1 q2 q3 q4 r1 r2 r3 r4 c2
      obtain ⟨q1, q2, q3, q4⟩ := hk1.two
      obtain ⟨r1, r2, r3, r4⟩ := hk2.two
      cases hpb : ps.any partBad
      · have Hs := Lib.hid (Hs.out.trans (if_neg (by simp [hpb])))
        have Hpg : Hid (∀ j, j < n → partBad (ps[j]?.getD 0) = false) := by
          intro j hj
          cases hj2 : partBad (ps[j]?.getD 0)
          · rfl
          · rw [any_of partBad ps j 0 (by rw [Hn.out]; exact hj) hj2] at hpb; cases hpb
        clear hpb q1 q2 q3 q4 r1 r2 r3 r4
        have hA := Lib.hid (allUpto_bd ps n Hpg.out)
        have hS := Lib.hid (sharpUpto_bd (xs := xs) (ps := ps) n hgood.out Hpg.out)
        have hP := Lib.hid (priceUpto_bd (xs := xs) (ps := ps) n hgood.out Hpg.out)
        go_wp2
        go_loopg [9, 10, 11, 41] n (fun g a s p i wr => ∃ j : Nat, j + g = n ∧ i = .int .i64 j ∧ a = .int .i64 (allUpto ps j) ∧ s = .int .i64 (sharpUpto xs ps j) ∧ p = .int .i64 (priceUpto xs ps j) ∧ Below w2.heap.size w2 wr)
        case atStart => exact ⟨0, by omega, rfl, rfl, rfl, rfl, Below.refl _ _⟩
        case round =>
          obtain ⟨j, hj, rfl, rfl, rfl, rfl, hbr⟩ := hrel
          have hA1 := hA.out j (by omega)
          have hS1 := hS.out j (by omega)
          have hP1 := hP.out j (by omega)
          by_cases hlt : j < n
          · have a1 := Lib.hid (show allUpto ps (j + 1) = allUpto ps j + ps[j]?.getD 0 from rfl)
            have s1 := Lib.hid (show sharpUpto xs ps (j + 1) = sharpUpto xs ps j + ps[j]?.getD 0 * (xs[j]?.getD (0, 0)).1 from rfl)
            have p1 := Lib.hid (show priceUpto xs ps (j + 1) = priceUpto xs ps j + ps[j]?.getD 0 * (xs[j]?.getD (0, 0)).2 from rfl)
            have hx1 := not_lotBad.1 (hgood.out j hlt)
            have hp1 := partBad_no.1 (Hpg.out j hlt)
            obtain ⟨b, o, rfl, hbb, hc⟩ := ((hp.below hB).below (hbr.mono hB.size)).int hlt
            obtain ⟨b', o', rfl, hbb', hc1, hc2⟩ := ((h'.below hB).below (hbr.mono hB.size)).pair hlt
            generalize ps[j]?.getD 0 = y at *
            generalize xs[j]?.getD (0, 0) = x at *
            obtain ⟨s, p⟩ := x
            have m1 := mul_mono hp1.1 hp1.2 hx1.1 hx1.2.1
            have m2 := mul_mono hp1.1 hp1.2 hx1.2.2.1 hx1.2.2.2
            generalize allUpto ps j = A at *
            generalize sharpUpto xs ps j = S at *
            generalize priceUpto xs ps j = P at *
            go_wp2
            go_roundg (gk - 1)
            case measure => omega
            case rel => exact ⟨j + 1, by omega, by go_num, by rw [a1.out], by rw [s1.out, w64 (y * s) (by omega), w64 (S + y * s) (by omega)], by rw [p1.out, w64 (y * p) (by omega), w64 (P + y * p) (by omega)], hbr⟩
          · obtain rfl : j = n := by omega
            clear hlt
            have hk3 := hk1.kept hbr
            have hk4 := hk2.kept hbr
            have hB2 := hB.trans (hbr.mono hB.size)
            clear hbr hk1 hk2 hB
            by_cases h0 : allUpto ps j = 0
            · have Hs2 := Lib.hid (Hs.out.trans (if_pos h0))
              rw [h0] at hA1 ⊢
              obtain ⟨q1, q2, q3, q4⟩ := hk3.two
              obtain ⟨r1, r2, r3, r4⟩ := hk4.two
              clear h0
              go_wp2
              refine bodyPost_ret (v := blendVal ((0, 0), (0, 0), 6)) (by simp [results, Try.results18, go_sem, q1, q2, r1, r2, blendVal]) rfl ⟨by rw [Hs2.out], ?_⟩
              exact (((hB2.setCell (Nat.le_refl _) _).setCell (Nat.le_refl _) _).setCell (by simp) _).setCell (by simp) _
            · have Hs2 := Lib.hid (Hs.out.trans (if_neg h0))
              generalize allUpto ps j = A at *
              generalize sharpUpto xs ps j = S at *
              generalize priceUpto xs ps j = P at *
              have h0' : (A == 0) = false := by simpa using h0
              go_wp2_with fail
              refine (by_any S A wr (by omega) (by omega)).mono ?_; rintro e w2 ⟨rfl, hb2⟩
              go_wp2_with fail
              refine (by_any P A w2 (by omega) (by omega)).mono ?_; rintro e w3 ⟨rfl, hb3⟩
              obtain ⟨q1, q2, q3, q4⟩ := ((hk3.kept hb2).kept hb3).two
              obtain ⟨r1, r2, r3, r4⟩ := ((hk4.kept hb2).kept hb3).two
              have hB3 := (hB2.trans (hb2.mono hB2.size)).trans (hb3.mono (Nat.le_trans hB2.size hb2.size))
              clear hb2 hb3 hk3 hk4 hB2
              go_wp2
              refine bodyPost_ret (v := blendVal (rat S A, rat P A, 0)) (by simp [results, Try.results18, go_sem, q1, q2, r1, r2, blendVal]) rfl ⟨by rw [Hs2.out], ?_⟩
              exact (((hB3.setCell (Nat.le_refl _) _).setCell (Nat.le_refl _) _).setCell (by simp) _).setCell (by simp) _
      · have Hs := Lib.hid (Hs.out.trans (if_pos (by simp [hpb])))
        go_wp2
        refine bodyPost_ret (v := blendVal ((0, 0), (0, 0), 3)) (by simp [results, Try.results18, go_sem, q1, q2, r1, r2, blendVal]) rfl ⟨by rw [Hs.out], ?_⟩
        exact (((hB.setCell (Nat.le_refl _) _).setCell (Nat.le_refl _) _).setCell (by simp) _).setCell (by simp) _
    · have Hs := Lib.hid (Hs.out.trans (if_pos (by simpa using hlen)))
      have hne : ((ps.length : Int) != (xs.length : Int)) = true := by simp; omega
      go_wp2
      refine bodyPost_ret (v := blendVal ((0, 0), (0, 0), 15)) (by simp [results, Try.results18, go_sem, q1, q2, r1, r2, blendVal]) rfl ⟨by rw [Hs.out], ?_⟩
      exact (((hB.setCell (Nat.le_refl _) _).setCell (Nat.le_refl _) _).setCell (by simp) _).setCell (by simp) _
  · have Hs := Lib.hid (Hs.out.trans (if_pos he))
    generalize checkLots xs = er at *
    have hne : (er != 0) = true := by simpa using he
    go_enter Try.func18, Try.ntmps18
    go_wp2_with fail
    refine (c1 _ hb0).mono ?_; rintro e w1 ⟨(⟨_, rfl⟩ | ⟨h0, _⟩), hb1⟩
    · have hk1 := (hk0.1.kept hb1)
      have hk2 := (hk0.2.kept hb1)
      have hB := hb0.trans (hb1.mono hb0.size)
      clear hb0 hb1 hk0 c1
      obtain ⟨q1, q2, q3, q4⟩ := hk1.two
      obtain ⟨r1, r2, r3, r4⟩ := hk2.two
      go_wp2
      refine bodyPost_ret (v := blendVal ((0, 0), (0, 0), er)) (by simp [results, Try.results18, go_sem, q1, q2, r1, r2, blendVal]) rfl ⟨by rw [Hs.out], ?_⟩
      exact (((hB.setCell (Nat.le_refl _) _).setCell (Nat.le_refl _) _).setCell (by simp) _).setCell (by simp) _
    · exact absurd h0 he
theorem run_eqItems_ints {P : Program} {w : World} {e : TypeId} (he : P.underlying e = some (.int .i64)) (d : Nat) (L M : List Int) : ∀ is : List Nat, (∀ i ∈ is, i < L.length ∧ i < M.length) →
    (Op.eqItems (d + 1) e 1 (i64s L).toArray (i64s M).toArray is).run P w = .ok (is.all (fun i => L[i]?.getD 0 == M[i]?.getD 0)) w := by
  intro is
  induction is with
  | nil => intro _; rfl
  | cons i is ih =>
    intro h
    obtain ⟨h1, h2⟩ := h i (by simp)
    have p1 : (part e (i64s L).toArray i).run P w = .ok (.int .i64 (L[i]?.getD 0)) w := run_part_int he _ _ _ _ (by simp [i64s, h1])
    have p2 : (part e (i64s M).toArray i).run P w = .ok (.int .i64 (M[i]?.getD 0)) w := run_part_int he _ _ _ _ (by simp [i64s, h2])
    have p3 := run_equalIn_int (P := P) w d e .i64 .i64 (L[i]?.getD 0) (M[i]?.getD 0) he
    simp only [Op.eqItems, Nat.mul_one, Sem.run_bind, p1, p2, p3, Result.andThen_ok, List.all_cons]
    cases hb : (L[i]?.getD 0 == M[i]?.getD 0)
    · simp
    · simp only [Bool.not_true, Bool.false_eq_true, if_false, Bool.true_and]
      exact ih (fun j hj => h j (List.mem_cons_of_mem _ hj))
theorem run_equal_ints {P : Program} {w : World} {t e : TypeId} {n : Nat} {i : TypeInfo} (ht : P.underlying t = some (.array n e)) (he : P.underlying e = some (.int .i64)) (hi : P.info? e = some i) (hc : P.cellsOf e = 1) (L M : List Int) (hL : L.length = n) (hM : M.length = n) :
    (Op.equal t (.agg (i64s L).toArray) (.agg (i64s M).toArray)).run P w = .ok ((List.range n).all (fun i => L[i]?.getD 0 == M[i]?.getD 0)) w := by
  rw [show Op.equal t = Op.equalIn (9998 + 1 + 1) t from rfl, run_equalIn_array w _ _ _ ht hi, hc]
  exact run_eqItems_ints he 9998 L M _ (fun i hi => by have := List.mem_range.1 hi; omega)
/-- The sharpest corner's sharpness. -/
def sharpestOf (ch : List Corner) : Int := (ch[ch.length - 1]?.getD (0, 0, 0)).1
set_option maxHeartbeats 1000000 in
theorem sharpest_any (g : Nat) (A : Option Addr) (c : Nat) (xs : List (Int × Int)) (w : World) (hS : ShelfIs w g A c xs) (hne : 0 < (chainOf xs).length) (L : (leastOf xs).length = 101) :
    Calls Try.prog 73 #[.pointer (some ⟨g, 0, none⟩)] w fun e w' => e = .returned (.int .i64 (sharpestOf (chainOf xs))) ∧ Below w.heap.size w w' := by
  obtain ⟨A3, c3, hk, hr, _⟩ := hS
  have hch := (hk.cell 102).trans (shelf_chain _ _ _ L)
  have hl := chainOf_length xs
  unfold sharpestOf
  generalize chainOf xs = ch at *
  obtain ⟨m, hm⟩ : ∃ m, ch.length = m + 1 := ⟨ch.length - 1, by omega⟩
  obtain ⟨b, o, rfl, hb, t1, t2, t3⟩ := hr.triple (k := m) (by omega)
  rw [hm] at hch hl ⊢
  rw [show m + 1 - 1 = m from rfl]
  generalize (ch[m]?.getD (0, 0, 0)) = x at *
  obtain ⟨x1, x2, x3⟩ := x
  clear hr hm hk L hne
  dsimp only at t1 t2 t3 ⊢
  have d1 := fun u : BW w => u.some_ t1
  have d2 := fun u : BW w => u.some_ hch
  go_enter Try.func73, Try.ntmps73
  go_wp2
  refine wp_region_bw (by kernel_rfl) (by kernel_rfl) ?_
  repeat (go_big_quiet_step (fail))
  refine wpQuiet_nil ?_
  intro wq hwq
  have hbq := bw_out hwq
  clear hwq
  try dsimp only
  go_wp2
  go_ret
  exact ⟨rfl, hbq⟩
end Go.Proofs.Ytfjnnegaljfkgaa
