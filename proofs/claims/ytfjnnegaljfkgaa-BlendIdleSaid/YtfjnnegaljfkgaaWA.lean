/- Layer 3, blends: steps: lemmas for the rows of this seat. No conditions. -/
import Derived.Test.YtfjnnegaljfkgaaProg
import Derived.Test.YtfjnnegaljfkgaaBase
import Derived.Test.YtfjnnegaljfkgaaPlain
set_option linter.all false
namespace Go.Proofs.Ytfjnnegaljfkgaa
open Go.RowKit
theorem mulb {a b : Int} {A B : Int} (ha : -A ≤ a ∧ a ≤ A) (hb : -B ≤ b ∧ b ≤ B) : -(A * B) ≤ a * b ∧ a * b ≤ A * B := by
  have hA : 0 ≤ A := by omega
  have h := Int.natAbs_mul a b
  have h1 : a.natAbs ≤ A.toNat := by omega
  have h2 : b.natAbs ≤ B.toNat := by omega
  have h3 : a.natAbs * b.natAbs ≤ A.toNat * B.toNat := Nat.mul_le_mul h1 h2
  have h4 : ((A.toNat * B.toNat : Nat) : Int) = A * B := by
    rw [Int.natCast_mul, Int.toNat_of_nonneg hA, Int.toNat_of_nonneg (by omega)]
  omega
set_option maxHeartbeats 400000 in
theorem less_any (a b c d : Int) (w : World) (ha : -1000000000 ≤ a ∧ a ≤ 1000000000) (hb : -1000000000 ≤ b ∧ b ≤ 1000000000) (hc : -1000000000 ≤ c ∧ c ≤ 1000000000) (hd : -1000000000 ≤ d ∧ d ≤ 1000000000) :
    Calls Try.prog 48 #[.agg #[.int .i64 a, .int .i64 b], .agg #[.int .i64 c, .int .i64 d]] w fun e w' => e = .returned (.bool (less (a, b) (c, d))) ∧ Below w.heap.size w w' := by
  have h1 : -1000000000000000000 ≤ a * d ∧ a * d ≤ 1000000000000000000 := mulb ha hd
  have h2 : -1000000000000000000 ≤ c * b ∧ c * b ≤ 1000000000000000000 := mulb hc hb
  go_enter Try.func48, Try.ntmps48
  go_wp2
  go_ret
  exact ⟨by simp [less], ((Below.refl _ _).alloc (Nat.le_refl _) _).alloc (by simp) _⟩

theorem gcd_step (a b : Int) (ha : 0 ≤ a) (hb : 0 ≤ b) : Int.gcd b (a % b) = Int.gcd a b := by
  obtain ⟨m, rfl⟩ := Int.eq_ofNat_of_zero_le ha
  obtain ⟨k, rfl⟩ := Int.eq_ofNat_of_zero_le hb
  rw [← Int.natCast_emod]
  show Nat.gcd k (m % k) = Nat.gcd m k
  rw [Nat.gcd_comm k, ← Nat.gcd_rec, Nat.gcd_comm]
theorem gcd_zero' (a : Int) (h : 0 ≤ a) : (Int.gcd a 0 : Int) = a := by simp; omega
theorem rat_parts (n d : Int) : (n.tdiv (Int.gcd n d : Int) = (rat n d).1 ∧ n / (Int.gcd n d : Int) = (rat n d).1) ∧ d / (Int.gcd n d : Int) = (rat n d).2 :=
  ⟨⟨Int.tdiv_eq_ediv_of_dvd (Int.gcd_dvd_left ..), rfl⟩, rfl⟩
theorem max_gcd (n d : Int) : Int.gcd (-n) d = Int.gcd n d := by simp
set_option maxHeartbeats 1000000 in
theorem refBy_any (n d : Int) (w : World) (hn : -4000000000000000000 ≤ n ∧ n ≤ 4000000000000000000) (hd : 1 ≤ d ∧ d ≤ 4000000000000000000) :
    Calls Try.prog 47 #[.int .i64 n, .int .i64 d] w fun e w' => e = .returned (.agg #[.int .i64 (rat n d).1, .int .i64 (rat n d).2]) ∧ Below w.heap.size w w' := by
  have hgp : 0 < (Int.gcd n d : Int) := by have := Int.gcd_pos_of_ne_zero_right n (b := d) (by omega); omega
  have Hq := Lib.hid (rat_parts n d)
  generalize hG : Int.gcd n d = G at *
  have HG := Lib.hid hG
  clear hG
  go_enter Try.func47, Try.ntmps47
  go_wp2
  all_goals
    go_loopg [5, 6] d.toNat (fun g x y wr => ∃ a b : Int, x = .int .i64 a ∧ y = .int .i64 b ∧ 0 ≤ a ∧ 0 ≤ b ∧ a ≤ 4000000000000000000 ∧ b ≤ 4000000000000000000 ∧ Int.gcd a b = G ∧ 0 < a + b ∧ b ≤ g ∧ Blk wr w.heap.size 27 #[.int .i64 0, .int .i64 0] ∧ Below w.heap.size w wr)
    case atStart => exact ⟨_, _, rfl, rfl, by omega, by omega, by omega, by omega, by first | exact HG.out | (rw [max_gcd]; exact HG.out), by omega, by omega, Blk.new _ _ _, (Below.refl _ _).alloc (Nat.le_refl _) _⟩
    case round =>
      obtain ⟨a, b, rfl, rfl, ha0, hb0, ha1, hb1, hg, hp, hm, hk, hb⟩ := hrel
      have Hg := Lib.hid hg; clear hg
      by_cases h0 : b = 0
      · subst h0
        have e1 : a = (G : Int) := by have := Hg.out; have h2 := gcd_zero' a ha0; omega
        subst e1
        clear Hg
        go_wp2
        refine wp_region_bw_tail 7 (by kernel_rfl) (by kernel_rfl) ?_
        simp only [List.take_succ_cons, List.take_zero, List.drop_succ_cons, List.drop_zero]
        repeat (go_big_quiet_step (fail))
        refine wpQuiet_nil ?_
        intro _ hw'
        obtain ⟨u, hw''⟩ := hw'
        subst hw''
        obtain ⟨w1, hb1⟩ := u
        have hk1 := hk.below hb1 (by have := hk.lt; omega)
        have hc0 := hk1.cell 0
        have hc1 := hk1.cell 1
        have hf0 := hk1.frozen 0
        have hf1 := hk1.frozen 1
        go_wp2
        refine bodyPost_ret (v := .agg #[.int .i64 (rat n d).1, .int .i64 (rat n d).2]) (by simp [results, Try.results47, go_sem, hc0, hc1]; exact ⟨by first | exact Hq.out.1.1 | exact Hq.out.1.2, Hq.out.2⟩) rfl ⟨rfl, ?_⟩
        exact ((hb.trans (hb1.mono hb.size)).setCell (Nat.le_refl _) _).setCell (Nat.le_refl _) _
      · have h0' : (b != 0) = true := by simpa using h0
        have hmod := Int.emod_nonneg a h0
        have hmod2 := Int.emod_lt_of_pos a (by omega : 0 < b)
        go_wp2
        go_quiet (fail)
        go_wp2
        go_roundg (a % b).toNat
        case measure => omega
        case rel => exact ⟨b, a % b, rfl, rfl, by omega, by omega, by omega, by omega, by rw [gcd_step a b ha0 hb0]; exact Hg.out, by omega, by omega, hk, below_drewN hb _⟩
set_option maxHeartbeats 1000000 in
theorem by_any (n d : Int) (w : World) (hn : -4000000000000000000 ≤ n ∧ n ≤ 4000000000000000000) (hd : 1 ≤ d ∧ d ≤ 4000000000000000000) :
    Calls Try.prog 59 #[.int .i64 n, .int .i64 d] w fun e w' => e = .returned (.agg #[.int .i64 (rat n d).1, .int .i64 (rat n d).2]) ∧ Below w.heap.size w w' := by
  have hgp : 0 < (Int.gcd n d : Int) := by have := Int.gcd_pos_of_ne_zero_right n (b := d) (by omega); omega
  have Hq := Lib.hid (rat_parts n d)
  generalize hG : Int.gcd n d = G at *
  have HG := Lib.hid hG
  clear hG
  go_enter Try.func59, Try.ntmps59
  go_wp2
  all_goals
    go_loopg [5, 6] d.toNat (fun g x y wr => ∃ a b : Int, x = .int .i64 a ∧ y = .int .i64 b ∧ 0 ≤ a ∧ 0 ≤ b ∧ a ≤ 4000000000000000000 ∧ b ≤ 4000000000000000000 ∧ Int.gcd a b = G ∧ 0 < a + b ∧ b ≤ g ∧ Blk wr w.heap.size 27 #[.int .i64 0, .int .i64 0] ∧ Below w.heap.size w wr)
    case atStart => exact ⟨_, _, rfl, rfl, by omega, by omega, by omega, by omega, by first | exact HG.out | (rw [max_gcd]; exact HG.out), by omega, by omega, Blk.new _ _ _, (Below.refl _ _).alloc (Nat.le_refl _) _⟩
    case round =>
      obtain ⟨a, b, rfl, rfl, ha0, hb0, ha1, hb1, hg, hp, hm, hk, hb⟩ := hrel
      have Hg := Lib.hid hg; clear hg
      by_cases h0 : b = 0
      · subst h0
        have e1 : a = (G : Int) := by have := Hg.out; have h2 := gcd_zero' a ha0; omega
        subst e1
        clear Hg
        go_wp2
        refine wp_region_bw_tail 7 (by kernel_rfl) (by kernel_rfl) ?_
        simp only [List.take_succ_cons, List.take_zero, List.drop_succ_cons, List.drop_zero]
        repeat (go_big_quiet_step (fail))
        refine wpQuiet_nil ?_
        intro _ hw'
        obtain ⟨u, hw''⟩ := hw'
        subst hw''
        obtain ⟨w1, hb1⟩ := u
        have hk1 := hk.below hb1 (by have := hk.lt; omega)
        have hc0 := hk1.cell 0
        have hc1 := hk1.cell 1
        have hf0 := hk1.frozen 0
        have hf1 := hk1.frozen 1
        go_wp2
        refine bodyPost_ret (v := .agg #[.int .i64 (rat n d).1, .int .i64 (rat n d).2]) (by simp [results, Try.results59, go_sem, hc0, hc1]; exact ⟨by first | exact Hq.out.1.1 | exact Hq.out.1.2, Hq.out.2⟩) rfl ⟨rfl, ?_⟩
        exact ((hb.trans (hb1.mono hb.size)).setCell (Nat.le_refl _) _).setCell (Nat.le_refl _) _
      · have h0' : (b != 0) = true := by simpa using h0
        have hmod := Int.emod_nonneg a h0
        have hmod2 := Int.emod_lt_of_pos a (by omega : 0 < b)
        go_wp2
        go_quiet (fail)
        go_wp2
        go_roundg (a % b).toNat
        case measure => omega
        case rel => exact ⟨b, a % b, rfl, rfl, by omega, by omega, by omega, by omega, by rw [gcd_step a b ha0 hb0]; exact Hg.out, by omega, by omega, hk, below_drewN hb _⟩
set_option maxHeartbeats 400000 in
theorem refCheckLots_any (A : Option Addr) (c : Nat) (xs : List (Int × Int)) (w : World) (h : Reads w w.heap.size 2 A xs.length (pairCells xs)) (hm : xs.length ≤ maxLen) :
    Calls Try.prog 21 #[.slice A xs.length c] w fun e w' => e = .returned (.int .i64 (checkLots xs)) ∧ Below w.heap.size w w' := by
  unfold maxLen at hm
  by_cases h1 : xs.length < 1
  · have h1' : (xs.length : Int) < 1 := by omega
    go_enter Try.func21, Try.ntmps21
    go_wp2
    go_ret
    exact ⟨by simp [checkLots, h1], Below.refl _ _⟩
  by_cases h8 : 8 < xs.length
  · go_enter Try.func21, Try.ntmps21
    go_wp2
    go_ret
    exact ⟨by simp [checkLots, h8], Below.refl _ _⟩
  go_enter Try.func21, Try.ntmps21
  go_wp2
  go_loopg [3] xs.length (fun g i wr => ∃ k : Nat, k + g = xs.length ∧ i = .int .i64 k ∧ (∀ j, j < k → lotBad (xs[j]?.getD (0, 0)) = false) ∧ Below w.heap.size w wr)
  case atStart => exact ⟨0, by omega, rfl, by simp, Below.refl _ _⟩
  case round =>
    obtain ⟨k, hk, rfl, hgood, hb⟩ := hrel
    have hgood := Lib.hid hgood
    by_cases hlt : k < xs.length
    · have hany := Lib.hid (any_of lotBad xs k (0, 0) hlt)
      obtain ⟨b, o, rfl, hbb, hc1, hc2⟩ := (h.below hb).pair hlt
      generalize hx : xs[k]?.getD (0, 0) = x at *
      obtain ⟨s, p⟩ := x
      have Hx := Lib.hid hx; clear hx
      go_wp2
      all_goals first
        | (go_ret
           refine ⟨ret_int ?_, (hb.alloc hb.size _)⟩
           rw [checkLots, if_neg (by omega), if_pos (hany.out (by unfold lotBad; apply decide_eq_true; dsimp only; omega))])
        | (go_roundg (gk - 1)
           case measure => omega
           case rel =>
             refine ⟨k + 1, by omega, by go_num, fun j hj => ?_, hb.alloc hb.size _⟩
             rcases Nat.lt_or_ge j k with hjk | hjk
             · exact hgood.out j hjk
             · obtain rfl : j = k := by omega
               rw [Hx.out]; unfold lotBad; apply decide_eq_false; dsimp only; omega)
    · go_wp2
      go_ret
      exact ⟨ret_int (by rw [checkLots, if_neg (by omega), if_neg (by rw [any_not lotBad xs (0, 0) (fun j hj => hgood.out j (by omega))]; simp)]), hb⟩

set_option maxHeartbeats 400000 in
theorem isLine_any (d s t : Int) (w : World) :
    Calls Try.prog 46 #[.agg #[.int .i64 d, .int .i64 s, .int .i64 t]] w fun e w' => e = .returned (.bool (isLine d s t)) ∧ Below w.heap.size w w' := by
  go_enter Try.func46, Try.ntmps46
  go_wp2
  all_goals
    go_ret
    exact ⟨ret_bool (by simp only [isLine]; first | (symm; apply decide_eq_true; omega) | (symm; apply decide_eq_false; omega) | (apply decide_eq_decide.2; omega)), (Below.refl _ _).alloc (Nat.le_refl _) _⟩

set_option maxHeartbeats 400000 in
theorem sharped_any (A : Option Addr) (c : Nat) (xs : List (Int × Int)) (t : Int) (w : World) (h : Reads w w.heap.size 2 A xs.length (pairCells xs)) (hm : xs.length ≤ maxLen) :
    Calls Try.prog 64 #[.slice A xs.length c, .int .i64 t] w fun e w' => e = .returned (.int .i64 (sharped xs t)) ∧ Below w.heap.size w w' := by
  have c1 := fun (w1 : World) (hb : Below w.heap.size w w1) => refCheckLots_any A c xs w1 ((h.below hb).more hb.size) hm
  have hs : ∀ n, checkLots xs = n → sharped xs t = if n ≠ 0 then n else if t < 0 ∨ 100 < t then 3 else 0 := by rintro n rfl; rfl
  generalize checkLots xs = e at *
  have Hs := Lib.hid (hs _ rfl); clear hs
  by_cases he : e = 0
  · subst he
    go_enter Try.func64, Try.ntmps64
    go_wp2_with (go_at_call 21; refine (c1 _ (Below.refl _ _)).mono ?_; rintro e w1 ⟨rfl, hb1⟩)
    all_goals
      go_ret
      exact ⟨ret_int (by rw [Hs.out, if_neg (by simp)]; first | rw [if_pos (by omega)] | rw [if_neg (by omega)]), hb1⟩
  · have he' : (e != 0) = true := by simpa using he
    go_enter Try.func64, Try.ntmps64
    go_wp2_with fail
    refine (c1 _ (Below.refl _ _)).mono ?_; rintro e w1 ⟨rfl, hb1⟩
    go_wp2_with fail
    refine (c1 _ hb1).mono ?_; rintro e w2 ⟨rfl, hb2⟩
    go_wp2
    go_ret
    exact ⟨ret_int (by rw [Hs.out, if_pos he]), hb1.trans (hb2.mono hb1.size)⟩
/-- What CheckBlend hands back. -/
def blendVal (r : (Int × Int) × (Int × Int) × Int) : Value := .tuple #[.agg #[.int .i64 r.1.1, .int .i64 r.1.2], .agg #[.int .i64 r.2.1.1, .int .i64 r.2.1.2], .int .i64 r.2.2]
theorem two_new (w : World) (t t' : TypeId) (cs cs' : Array Value) : Blk ((w.alloc (.cells cs t)).alloc (.cells cs' t')) w.heap.size t cs ∧ Blk ((w.alloc (.cells cs t)).alloc (.cells cs' t')) (w.heap.size + 1) t' cs' := by
  refine ⟨(Blk.new _ _ _).alloc _, ?_⟩
  have := Blk.new (w.alloc (.cells cs t)) t' cs'
  simpa using this

set_option maxHeartbeats 1000000 in
theorem refCheckBlend_err (A A' : Option Addr) (c c' : Nat) (xs : List (Int × Int)) (ps : List Int) (w : World) (h : Reads w w.heap.size 2 A xs.length (pairCells xs)) (hm : xs.length ≤ maxLen)
    (he : checkLots xs ≠ 0) :
    Calls Try.prog 19 #[.slice A xs.length c, .slice A' ps.length c'] w fun e w' => e = .returned (blendVal (checkBlend xs ps)) ∧ Below w.heap.size w w' := by
  have c1 := fun (w1 : World) (hb : Below w.heap.size w w1) => refCheckLots_any A c xs w1 ((h.below hb).more hb.size) hm
  have Hs : Hid (checkBlend xs ps = ((0, 0), (0, 0), checkLots xs)) := if_pos he
  generalize checkLots xs = e at *
  have he' : (e != 0) = true := by simpa using he
  have hb0 : Below w.heap.size w ((w.alloc (.cells #[.int .i64 0, .int .i64 0] 27)).alloc (.cells #[.int .i64 0, .int .i64 0] 27)) := ((Below.refl _ _).alloc (Nat.le_refl _) _).alloc (by simp) _
  have hk0 := two_new w 27 27 #[.int .i64 0, .int .i64 0] #[.int .i64 0, .int .i64 0]
  go_enter Try.func19, Try.ntmps19
  go_wp2_with fail
  refine (c1 _ hb0).mono ?_; rintro e w1 ⟨rfl, hb1⟩
  go_wp2_with fail
  refine (c1 _ (hb0.trans (hb1.mono hb0.size))).mono ?_; rintro e w2 ⟨rfl, hb2⟩
  obtain ⟨q1, q2, q3, q4⟩ := ((hk0.1.kept hb1).kept hb2).two
  obtain ⟨r1, r2, r3, r4⟩ := ((hk0.2.kept hb1).kept hb2).two
  have hB := (hb0.trans (hb1.mono hb0.size)).trans (hb2.mono (Nat.le_trans hb0.size hb1.size))
  clear hb0 hb1 hb2 hk0
  go_wp2
  refine bodyPost_ret (v := blendVal ((0, 0), (0, 0), e)) (by simp [results, Try.results19, go_sem, q1, q2, r1, r2, blendVal]) rfl ⟨by rw [Hs.out], ?_⟩
  exact (((hB.setCell (Nat.le_refl _) _).setCell (Nat.le_refl _) _).setCell (by simp) _).setCell (by simp) _

set_option maxHeartbeats 1000000 in
theorem refCheckBlend_len (A A' : Option Addr) (c c' : Nat) (xs : List (Int × Int)) (ps : List Int) (w : World) (h : Reads w w.heap.size 2 A xs.length (pairCells xs)) (hm : xs.length ≤ maxLen)
    (he : checkLots xs = 0) (hne : ps.length ≠ xs.length) :
    Calls Try.prog 19 #[.slice A xs.length c, .slice A' ps.length c'] w fun e w' => e = .returned (blendVal (checkBlend xs ps)) ∧ Below w.heap.size w w' := by
  have c1 := fun (w1 : World) (hb : Below w.heap.size w w1) => refCheckLots_any A c xs w1 ((h.below hb).more hb.size) hm
  have Hs : Hid (checkBlend xs ps = ((0, 0), (0, 0), 15)) := by
    unfold checkBlend Hid; rw [if_neg (by simpa using he), if_pos hne]
  rw [he] at c1
  have hne' : ((ps.length : Int) != (xs.length : Int)) = true := by simp; omega
  have hne'' : (ps.length != xs.length) = true := by simp; omega
  have hb0 : Below w.heap.size w ((w.alloc (.cells #[.int .i64 0, .int .i64 0] 27)).alloc (.cells #[.int .i64 0, .int .i64 0] 27)) := ((Below.refl _ _).alloc (Nat.le_refl _) _).alloc (by simp) _
  have hk0 := two_new w 27 27 #[.int .i64 0, .int .i64 0] #[.int .i64 0, .int .i64 0]
  go_enter Try.func19, Try.ntmps19
  go_wp2_with fail
  refine (c1 _ hb0).mono ?_; rintro e w1 ⟨rfl, hb1⟩
  obtain ⟨q1, q2, q3, q4⟩ := (hk0.1.kept hb1).two
  obtain ⟨r1, r2, r3, r4⟩ := (hk0.2.kept hb1).two
  have hB := hb0.trans (hb1.mono hb0.size)
  clear hb0 hb1 hk0
  go_wp2
  refine bodyPost_ret (v := blendVal ((0, 0), (0, 0), 15)) (by simp [results, Try.results19, go_sem, q1, q2, r1, r2, blendVal]) rfl ⟨by rw [Hs.out], ?_⟩
  exact (((hB.setCell (Nat.le_refl _) _).setCell (Nat.le_refl _) _).setCell (by simp) _).setCell (by simp) _
set_option maxHeartbeats 2000000 in
theorem refCheckBlend_ok (A A' : Option Addr) (c c' : Nat) (xs : List (Int × Int)) (ps : List Int) (w : World) (h : Reads w w.heap.size 2 A xs.length (pairCells xs)) (hm : xs.length ≤ maxLen)
    (he : checkLots xs = 0) (hlen : ps.length = xs.length) (hp : Reads w w.heap.size 1 A' ps.length (i64s ps)) :
    Calls Try.prog 19 #[.slice A xs.length c, .slice A' ps.length c'] w fun e w' => e = .returned (blendVal (checkBlend xs ps)) ∧ Below w.heap.size w w' := by
  have c1 := fun (w1 : World) (hb : Below w.heap.size w w1) => refCheckLots_any A c xs w1 ((h.below hb).more hb.size) hm
  obtain ⟨hl1, hl8, hgood⟩ := checkLots_zero he
  have Hs : Hid (checkBlend xs ps = if ps.any partBad then ((0, 0), (0, 0), 3)
    else if allUpto ps ps.length = 0 then ((0, 0), (0, 0), 6)
    else (rat (sharpUpto xs ps ps.length) (allUpto ps ps.length), rat (priceUpto xs ps ps.length) (allUpto ps ps.length), 0)) := by
    unfold checkBlend Hid; rw [if_neg (by simpa using he), if_neg (by simpa using hlen)]
  rw [he] at c1
  have hpl : ps.length ≤ 8 := by omega
  generalize hn : ps.length = n at *
  have Hn := Lib.hid hn
  clear hn
  have h' := h
  rw [← hlen] at h' hl1 hl8 hgood c1 hm ⊢
  clear h he hlen
  have hne : ((n : Int) != (n : Int)) = false := by simp
  have hne'' : (n != n) = false := by simp
  have hgood := Lib.hid hgood
  have hb0 : Below w.heap.size w ((w.alloc (.cells #[.int .i64 0, .int .i64 0] 27)).alloc (.cells #[.int .i64 0, .int .i64 0] 27)) := ((Below.refl _ _).alloc (Nat.le_refl _) _).alloc (by simp) _
  have hk0 := two_new w 27 27 #[.int .i64 0, .int .i64 0] #[.int .i64 0, .int .i64 0]
  go_enter Try.func19, Try.ntmps19
  go_wp2_with fail
  refine (c1 _ hb0).mono ?_; rintro e w1 ⟨rfl, hb1⟩
  have hk1 := (hk0.1.kept hb1)
  have hk2 := (hk0.2.kept hb1)
  have hB := hb0.trans (hb1.mono hb0.size)
  clear hb0 hb1 hk0 c1
  go_wp2
  go_loopg [7] n (fun g i wr => ∃ k : Nat, k + g = n ∧ i = .int .i64 k ∧ (∀ j, j < k → partBad (ps[j]?.getD 0) = false) ∧ w1 = wr)
  case atStart => exact ⟨0, by omega, rfl, by simp, rfl⟩
  case round =>
    obtain ⟨k, hk, rfl, hpg, rfl⟩ := hrel
    have hpg := Lib.hid hpg
    by_cases hlt : k < n
    · have hany := Lib.hid (any_of partBad ps k 0 (by rw [Hn.out]; exact hlt))
      obtain ⟨b, o, rfl, hbb, hc⟩ := (hp.below hB).int hlt
      generalize hx : ps[k]?.getD 0 = x at *
      have Hx := Lib.hid hx; clear hx
      obtain ⟨q1, q2, q3, q4⟩ := hk1.two
      obtain ⟨r1, r2, r3, r4⟩ := hk2.two
      go_wp2
      all_goals first
        | (go_roundg (gk - 1)
           case measure => omega
           case rel =>
             refine ⟨k + 1, by omega, by go_num, fun j hj => ?_, rfl⟩
             rcases Nat.lt_or_ge j k with hjk | hjk
             · exact hpg.out j hjk
             · obtain rfl : j = k := by omega
               rw [Hx.out]; unfold partBad; apply decide_eq_false; omega)
        | (refine bodyPost_ret (v := blendVal ((0, 0), (0, 0), 3)) (by simp [results, Try.results19, go_sem, q1, q2, r1, r2, blendVal]) rfl ⟨by rw [Hs.out, if_pos (hany.out (by unfold partBad; apply decide_eq_true; omega))], ?_⟩
           exact (((hB.setCell (Nat.le_refl _) _).setCell (Nat.le_refl _) _).setCell (by simp) _).setCell (by simp) _)
    · obtain rfl : k = n := by omega
      have hnot := Lib.hid (any_not partBad ps 0 (by rw [Hn.out]; exact hpg.out))
      have hA := Lib.hid (allUpto_bd ps k hpg.out)
      have hS := Lib.hid (sharpUpto_bd (xs := xs) (ps := ps) k hgood.out hpg.out)
      have hP := Lib.hid (priceUpto_bd (xs := xs) (ps := ps) k hgood.out hpg.out)
      clear hlt
      go_wp2
      go_loopg [8, 9, 10, 11] k (fun g a s p i wr => ∃ j : Nat, j + g = k ∧ i = .int .i64 j ∧ a = .int .i64 (allUpto ps j) ∧ s = .int .i64 (sharpUpto xs ps j) ∧ p = .int .i64 (priceUpto xs ps j) ∧ Below w1.heap.size w1 wr)
      case atStart => exact ⟨0, by omega, rfl, rfl, rfl, rfl, Below.refl _ _⟩
      case round =>
        obtain ⟨j, hj, rfl, rfl, rfl, rfl, hbr⟩ := hrel
        have hA1 := hA.out j (by omega)
        have hS1 := hS.out j (by omega)
        have hP1 := hP.out j (by omega)
        by_cases hlt : j < k
        · have a1 := Lib.hid (show allUpto ps (j + 1) = allUpto ps j + ps[j]?.getD 0 from rfl)
          have s1 := Lib.hid (show sharpUpto xs ps (j + 1) = sharpUpto xs ps j + ps[j]?.getD 0 * (xs[j]?.getD (0, 0)).1 from rfl)
          have p1 := Lib.hid (show priceUpto xs ps (j + 1) = priceUpto xs ps j + ps[j]?.getD 0 * (xs[j]?.getD (0, 0)).2 from rfl)
          have hx1 := not_lotBad.1 (hgood.out j hlt)
          have hp1 := partBad_no.1 (hpg.out j hlt)
          obtain ⟨b, o, rfl, hbb, hc⟩ := ((hp.below hB).below (hbr.mono hB.size)).int hlt
          obtain ⟨b', o', rfl, hbb', hc1, hc2⟩ := ((h'.below hB).below (hbr.mono hB.size)).pair hlt
          generalize ps[j]?.getD 0 = y at *
          generalize xs[j]?.getD (0, 0) = x at *
          obtain ⟨s, p⟩ := x
          have m1 := mul_mono hp1.1 hp1.2 hx1.1 hx1.2.1
          have m2 := mul_mono hp1.1 hp1.2 hx1.2.2.1 hx1.2.2.2
          generalize allUpto ps j = A at *
          generalize sharpUpto xs ps j = S at *
          generalize priceUpto xs ps j = P at *
          go_wp2
          have d1 := fun u : BW wr => u.some_ hc
          have d2 := fun u : BW wr => u.some_ hc1
          have d3 := fun u : BW wr => u.some_ hc2
          refine wp_region_bw (by kernel_rfl) (by kernel_rfl) ?_
          repeat (go_big_quiet_step (fail))
          refine wpQuiet_nil ?_
          intro wq hwq
          have hbq := bw_out hwq
          clear hwq
          try dsimp only
          clear d1 d2 d3
          go_wp2
          have d1 := fun u : BW wq => u.some_ ((hbq.cell (p := ⟨_, _, none⟩) (Nat.lt_of_lt_of_le hbb (Nat.le_trans hB.size hbr.size))).trans hc)
          have d2 := fun u : BW wq => u.some_ ((hbq.cell (p := ⟨_, _, none⟩) (Nat.lt_of_lt_of_le hbb' (Nat.le_trans hB.size hbr.size))).trans hc2)
          have hbr2 := hbr.trans (hbq.mono hbr.size)
          clear hbq
          refine wp_region_bw (by kernel_rfl) (by kernel_rfl) ?_
          repeat (go_big_quiet_step (fail))
          refine wpQuiet_nil ?_
          intro wq hwq
          have hbq := bw_out hwq
          clear hwq
          try dsimp only
          go_wp2
          go_roundg (gk - 1)
          case measure => omega
          case rel => exact ⟨j + 1, by omega, by go_num, by rw [a1.out], by rw [s1.out], by rw [p1.out], hbr2.trans (hbq.mono hbr2.size)⟩
        · obtain rfl : j = k := by omega
          clear hlt
          have hk3 := hk1.kept hbr
          have hk4 := hk2.kept hbr
          have hB2 := hB.trans (hbr.mono hB.size)
          clear hbr hk1 hk2 hB
          by_cases h0 : allUpto ps j = 0
          · have Hs2 := Lib.hid (Hs.out.trans (by rw [if_neg (by rw [hnot.out]; simp), if_pos h0]))
            rw [h0] at hA1 ⊢
            obtain ⟨q1, q2, q3, q4⟩ := hk3.two
            obtain ⟨r1, r2, r3, r4⟩ := hk4.two
            clear h0
            go_wp2
            refine bodyPost_ret (v := blendVal ((0, 0), (0, 0), 6)) (by simp [results, Try.results19, go_sem, q1, q2, r1, r2, blendVal]) rfl ⟨by rw [Hs2.out], ?_⟩
            exact (((hB2.setCell (Nat.le_refl _) _).setCell (Nat.le_refl _) _).setCell (by simp) _).setCell (by simp) _
          · have Hs2 := Lib.hid (Hs.out.trans (by rw [if_neg (by rw [hnot.out]; simp), if_neg h0]))
            generalize allUpto ps j = A at *
            generalize sharpUpto xs ps j = S at *
            generalize priceUpto xs ps j = P at *
            have h0' : (A == 0) = false := by simpa using h0
            go_wp2_with fail
            refine (refBy_any S A wr (by omega) (by omega)).mono ?_; rintro e w2 ⟨rfl, hb2⟩
            go_wp2_with fail
            refine (refBy_any P A w2 (by omega) (by omega)).mono ?_; rintro e w3 ⟨rfl, hb3⟩
            obtain ⟨q1, q2, q3, q4⟩ := ((hk3.kept hb2).kept hb3).two
            obtain ⟨r1, r2, r3, r4⟩ := ((hk4.kept hb2).kept hb3).two
            have hB3 := (hB2.trans (hb2.mono hB2.size)).trans (hb3.mono (Nat.le_trans hB2.size hb2.size))
            clear hb2 hb3 hk3 hk4 hB2
            go_wp2
            refine bodyPost_ret (v := blendVal (rat S A, rat P A, 0)) (by simp [results, Try.results19, go_sem, q1, q2, r1, r2, blendVal]) rfl ⟨by rw [Hs2.out], ?_⟩
            exact (((hB3.setCell (Nat.le_refl _) _).setCell (Nat.le_refl _) _).setCell (by simp) _).setCell (by simp) _

theorem refCheckBlend_any (A A' : Option Addr) (c c' : Nat) (xs : List (Int × Int)) (ps : List Int) (w : World) (h : Reads w w.heap.size 2 A xs.length (pairCells xs)) (hm : xs.length ≤ maxLen)
    (hp : Reads w w.heap.size 1 A' ps.length (i64s ps)) :
    Calls Try.prog 19 #[.slice A xs.length c, .slice A' ps.length c'] w fun e w' => e = .returned (blendVal (checkBlend xs ps)) ∧ Below w.heap.size w w' := by
  by_cases he : checkLots xs = 0
  · by_cases hlen : ps.length = xs.length
    · exact refCheckBlend_ok A A' c c' xs ps w h hm he hlen hp
    · exact refCheckBlend_len A A' c c' xs ps w h hm he hlen
  · exact refCheckBlend_err A A' c c' xs ps w h hm he
/-- A fraction and an error. -/
def priceVal (r : (Int × Int) × Int) : Value := .tuple #[.agg #[.int .i64 r.1.1, .int .i64 r.1.2], .int .i64 r.2]
theorem three_new (w : World) (t t' : TypeId) (cs cs' : Array Value) : Below w.heap.size w ((w.alloc (.cells cs t)).alloc (.cells cs' t')) := ((Below.refl _ _).alloc (Nat.le_refl _) _).alloc (by simp) _

set_option maxHeartbeats 2000000 in
theorem refCheckLine_any (A : Option Addr) (c : Nat) (xs : List (Int × Int)) (d s st t : Int) (w : World) (h : Reads w w.heap.size 2 A xs.length (pairCells xs)) (hm : xs.length ≤ maxLen) :
    Calls Try.prog 30 #[.slice A xs.length c, .agg #[.int .i64 d, .int .i64 s, .int .i64 st], .int .i64 t] w fun e w' => e = .returned (priceVal (refCheckLine xs d s st t)) ∧ Below w.heap.size w w' := by
  have c1 := fun (w1 : World) (hb : Below w.heap.size w w1) => sharped_any A c xs t w1 ((h.below hb).more hb.size) hm
  have hb0 := three_new w 41 27 #[.int .i64 d, .int .i64 s, .int .i64 st] #[.int .i64 0, .int .i64 0]
  have hk0 := (two_new w 41 27 #[.int .i64 d, .int .i64 s, .int .i64 st] #[.int .i64 0, .int .i64 0])
  by_cases he : sharped xs t = 0
  · obtain ⟨h1, h2⟩ := sharped_zero he
    obtain ⟨hl1, hl8, hgood⟩ := checkLots_zero h1
    have Hs : Hid (refCheckLine xs d s st t = if isLine d s st = false then ((0, 0), 3) else if xs.any (above d s st) then ((0, 0), 16) else (rat (s + st * t) d, 0)) := if_neg (by simpa using he)
    have Hg : Hid (∀ j, j < xs.length → lotBad (lotAt xs j) = false) := hgood
    rw [he] at c1
    clear h1 hgood he hl1
    have ci := isLine_any d s st
    by_cases hL : isLine d s st = true
    · have Hs := Lib.hid (Hs.out.trans (if_neg (by simp [hL])))
      have hbd := isLine_true hL
      rw [hL] at ci
      go_enter Try.func30, Try.ntmps30
      go_wp2_with fail
      refine (c1 _ hb0).mono ?_; rintro e w1 ⟨rfl, hb1⟩
      have hk1 := hk0.1.kept hb1
      have hk2 := hk0.2.kept hb1
      have hB := hb0.trans (hb1.mono hb0.size)
      obtain ⟨q1, q2, q3, q4, q5, q6⟩ := hk1.three
      clear hb0 hb1 hk0 c1
      go_wp2_with fail
      refine (ci _).mono ?_; rintro e w2 ⟨rfl, hb2⟩
      have hk1 := hk1.kept hb2
      have hk2 := hk2.kept hb2
      have hB := hB.trans (hb2.mono hB.size)
      clear hb2 q1 q2 q3 q4 q5 q6
      go_wp2
      go_loopg [8] xs.length (fun g i wr => ∃ k : Nat, k + g = xs.length ∧ i = .int .i64 k ∧ (∀ j, j < k → above d s st (lotAt xs j) = false) ∧ Below w2.heap.size w2 wr)
      case atStart => exact ⟨0, by omega, rfl, by simp, Below.refl _ _⟩
      case round =>
        obtain ⟨k, hk, rfl, hp, hb⟩ := hrel
        have Hk := Lib.hid hk; clear hk
        have Hp := Lib.hid hp; clear hp
        have hk1 := hk1.kept hb
        have hk2 := hk2.kept hb
        have hB := hB.trans (hb.mono hB.size)
        by_cases hlt : k < xs.length
        · have hany := Lib.hid (any_of (above d s st) xs k (0, 0) hlt)
          have hg := not_lotBad.1 (Hg.out k hlt)
          obtain ⟨b, o, rfl, hbb, ha1, ha2⟩ := (h.below hB).pair hlt
          have Hx : Hid (∀ j, j < k + 1 → j < k ∨ j = k) := fun j hj => by omega
          unfold lotAt at *
          generalize hx : xs[k]?.getD (0, 0) = x at *
          have Hx2 := Lib.hid hx; clear hx
          obtain ⟨a1, a2⟩ := x
          dsimp only at hg ha1 ha2
          have m1 := mulb (a := st) (b := a1) (A := 1048576) (B := 100) (by omega) (by omega)
          have m2 := mulb (a := a2) (b := d) (A := 1000) (B := 100) (by omega) (by omega)
          obtain ⟨q1, q2, q3, q4, q5, q6⟩ := hk1.three
          go_upto_region 8 with (fail)
          have d1 := fun u : BW wr => u.some_ ha1
          have d2 := fun u : BW wr => u.some_ ha2
          have d3 := fun u : BW wr => u.some_ q1
          have d4 := fun u : BW wr => u.some_ q2
          have d5 := fun u : BW wr => u.some_ q3
          refine wp_region_bw (by kernel_rfl) (by kernel_rfl) ?_
          repeat (go_big_quiet_step (fail))
          refine wpQuiet_nil ?_
          intro wq hwq
          have hbq := bw_out hwq
          clear hwq
          try dsimp only
          clear d1 d2 d3 d4 d5
          by_cases ha : a2 * d < s + st * a1
          · have Ha := Lib.hid (Hs.out.trans (if_pos (hany.out (decide_eq_true ha))))
            obtain ⟨r1, r2, r3, r4⟩ := (hk2.kept hbq).two
            have hB := hB.trans (hbq.mono hB.size)
            clear hbq
            go_wp2
            refine bodyPost_ret (v := priceVal ((0, 0), 16)) (by simp [results, Try.results30, go_sem, r1, r2, priceVal]) rfl ⟨by rw [Ha.out], ?_⟩
            exact below_put2 hB (by omega) _ _
          · go_wp2
            go_roundg (gk - 1)
            case measure => have := Hk.out; omega
            case rel =>
              refine ⟨k + 1, by have := Hk.out; omega, by go_num, fun j hj => ?_, hb.trans (hbq.mono hb.size)⟩
              rcases Hx.out j hj with hj | rfl
              · exact Hp.out j hj
              · rw [Hx2.out]; exact decide_eq_false (by dsimp only; omega)
        · obtain rfl : k = xs.length := by have := Hk.out; omega
          have Ha := Lib.hid (Hs.out.trans (if_neg (by rw [any_not (above d s st) xs (0, 0) Hp.out]; simp)))
          have m1 := mulb (a := st) (b := t) (A := 1048576) (B := 100) (by omega) (by omega)
          obtain ⟨q1, q2, q3, q4, q5, q6⟩ := hk1.three
          go_wp2_with fail
          refine (refBy_any _ _ _ (by omega) (by omega)).mono ?_; rintro e w4 ⟨rfl, hb4⟩
          obtain ⟨r1, r2, r3, r4⟩ := (hk2.kept hb4).two
          have hB := hB.trans (hb4.mono hB.size)
          clear hb4
          go_wp2
          refine bodyPost_ret (v := priceVal (rat (s + st * t) d, 0)) (by simp [results, Try.results30, go_sem, r1, r2, priceVal]) rfl ⟨by rw [Ha.out], ?_⟩
          exact below_put2 hB (by omega) _ _
    · have hL' : isLine d s st = false := by simpa using hL
      have Hs := Lib.hid (Hs.out.trans (if_pos hL'))
      rw [hL'] at ci
      go_enter Try.func30, Try.ntmps30
      go_wp2_with fail
      refine (c1 _ hb0).mono ?_; rintro e w1 ⟨rfl, hb1⟩
      have hk1 := hk0.1.kept hb1
      have hk2 := hk0.2.kept hb1
      have hB := hb0.trans (hb1.mono hb0.size)
      obtain ⟨q1, q2, q3, q4, q5, q6⟩ := hk1.three
      clear hb0 hb1 hk0 c1
      go_wp2_with fail
      refine (ci _).mono ?_; rintro e w2 ⟨rfl, hb2⟩
      obtain ⟨r1, r2, r3, r4⟩ := (hk2.kept hb2).two
      have hB := hB.trans (hb2.mono hB.size)
      clear hb2 q1 q2 q3 q4 q5 q6
      go_wp2
      refine bodyPost_ret (v := priceVal ((0, 0), 3)) (by simp [results, Try.results30, go_sem, r1, r2, priceVal]) rfl ⟨by rw [Hs.out], ?_⟩
      exact below_put2 hB (by omega) _ _
  · have Hs : Hid (refCheckLine xs d s st t = ((0, 0), sharped xs t)) := if_pos he
    generalize sharped xs t = e at *
    have he' : (e != 0) = true := by simpa using he
    go_enter Try.func30, Try.ntmps30
    go_wp2_with fail
    refine (c1 _ hb0).mono ?_; rintro e w1 ⟨rfl, hb1⟩
    go_wp2_with fail
    refine (c1 _ (hb0.trans (hb1.mono hb0.size))).mono ?_; rintro e w2 ⟨rfl, hb2⟩
    obtain ⟨r1, r2, r3, r4⟩ := ((hk0.2.kept hb1).kept hb2).two
    have hB := (hb0.trans (hb1.mono hb0.size)).trans (hb2.mono (Nat.le_trans hb0.size hb1.size))
    clear hb0 hb1 hb2 hk0
    go_wp2
    refine bodyPost_ret (v := priceVal ((0, 0), e)) (by simp [results, Try.results30, go_sem, r1, r2, priceVal]) rfl ⟨by rw [Hs.out], ?_⟩
    exact below_put2 hB (by omega) _ _
end Go.Proofs.Ytfjnnegaljfkgaa
