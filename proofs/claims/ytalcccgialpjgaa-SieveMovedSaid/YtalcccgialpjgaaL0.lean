/- Helpers of the laws: lemmas for the rows of this seat. No conditions. -/
import Derived.Test.YtalcccgialpjgaaN27
import Derived.Test.YtalcccgialpjgaaQ1
set_option linter.all false
namespace Go.Proofs.Ytalcccgialpjgaa
open Go.RowKit
/-! ## Helpers of the laws -/
/-- Numbers of one's own, as a list of lists. -/
def numCh (n : Nat) (L : List (List Int)) (x : NumX) : List Chunk := .own (.slice x.x.1 n x.x.2) 66 1 n (nsVs x.xs (nestI L)) :: nsCh 2 1 x.xs (nestI L)
theorem numCh_mut {n : Nat} {L : List (List Int)} {x : NumX} : ∀ {c : Chunk}, c ∈ numCh n L x → c.mut = true := fun {c} hc => by
 rcases List.mem_cons.1 hc with rfl | hc
 ·rfl
 ·exact nsCh_mut c hc
theorem tabCh_mut' {R C : List R2} {X : List (List R2)} {x : TabX} : ∀ {c : Chunk}, c ∈ tabCh R C X x → c.mut = true := fun {c} hc => tabCh_mut c hc
theorem nestI_len (L : List (List Int)) : (nestI L).length = L.length := by unfold nestI; rw [List.length_map]
theorem St.numX {w0 w : World} {A : List Chunk} (hs : St w0 A w) {n : Nat} {L : List (List Int)} (x : NumX) (hl : L.length = n) (hx : x.xs.length = n) (h : ∀ {d : Chunk}, d ∈ numCh n L x → d ∈ A) : NestR w 1 x.x.1 (nestI L) := by
 subst hl
 refine hs.nestL (e := 2) (t := 66) (c := x.x.2) (xs := x.xs) (by rw [nestI_len]; exact hx) ?_ fun d hd => h (.tail _ hd)
 rw [nestI_len]
 exact h (.head _)
theorem St.tabX' {w0 w : World} {A : List Chunk} (hs : St w0 A w) {R C : List R2} {X : List (List R2)} (x : TabX) (hx : x.xs.length = X.length) (h : ∀ {d : Chunk}, d ∈ tabCh R C X x → d ∈ A) : TabR w x.r.1 x.c.1 x.x.1 R C X := hs.tabX x hx fun d hd => h hd
section
variable (RA : Option Addr) (rc : Nat) (CA : Option Addr) (cc : Nat) (XA : Option Addr) (xc : Nat) (R C : List R2) (X : List (List R2)) (w : World) (hT : TabR w RA CA XA R C X)
include hT
theorem truth_okN (hV : Valid R C X) (hH : HasT R C X) : Calls Try.prog 23 #[tabV RA rc CA cc XA xc R C X] w fun e w' => ∃ x : NumX, e = .returned (.tuple #[.slice x.x.1 R.length x.x.2, .int .i64 0]) ∧ x.xs.length = R.length ∧ St w ([] ++ numCh R.length (truL R C X R.length) x) w' := truth_ok RA rc CA cc XA xc R C X w hT hV hH
theorem narrow_okN (hV : Valid R C X) (hH : HasT R C X) : Calls Try.prog 39 #[tabV RA rc CA cc XA xc R C X] w fun e w' => ∃ x : TabX, e = .returned (.tuple #[tabX x (nrR R C X R.length) (nrC R C X C.length) (nrX R C X R.length), .int .i64 0]) ∧ x.xs.length = (nrX R C X R.length).length ∧ St w ([] ++ tabCh (nrR R C X R.length) (nrC R C X C.length) (nrX R C X R.length) x) w' := narrow_ok RA rc CA cc XA xc R C X w hT hV hH
end
theorem nest_nil (w : World) : NestR w 1 none (nestI []) := ⟨[], ⟨rfl, fun h => absurd h (by decide)⟩, fun i hi => absurd hi (Nat.not_lt_zero _)⟩
theorem nest_nilR (w : World) : NestR w 2 none (nestR []) := ⟨[], ⟨rfl, fun h => absurd h (by decide)⟩, fun i hi => absurd hi (Nat.not_lt_zero _)⟩
theorem reads_nil (w : World) (sz : Nat) : Reads w w.heap.size sz none 0 [] := ⟨by simp, fun h => absurd h (by decide)⟩
theorem tab_nil (w : World) : TabR w none none none [] [] [] := ⟨reads_nil w 2, reads_nil w 2, nest_nilR w⟩
/-- Valid and with a truth, or why not. -/
theorem errT_cases (R C : List R2) (X : List (List R2)) : (Valid R C X ∧ HasT R C X ∧ errT R C X = 0) ∨ errT R C X ≠ 0 := by
 by_cases h : errT R C X = 0
 ·exact .inl ⟨(errT_zero h).1, (errT_zero h).2, h⟩
 ·exact .inr h
theorem errT_20 {R C : List R2} {X : List (List R2)} (h : errT R C X = 20) : Valid R C X ∧ ¬HasT R C X := by
 by_cases hz : chkTab R C X = 0
 ·have hV := chk_valid hz
  refine ⟨hV, fun hH => ?_⟩
  rw [errT_ok hV hH] at h; omega
 ·rw [errT_chk hz] at h
  rcases chkTab_vals (R := R) (C := C) (X := X) with h' | h' | h' | h' <;> omega
theorem cellA_err {R C : List R2} {X : List (List R2)} (i k : Int) : ∃ r z, cellA R C X i k = (r, z) := ⟨_, _, rfl⟩
theorem longs_nil (w : World) : Calls Try.prog 27 #[.slice none 0 0, .slice none 0 0] w fun e w' => e = .returned (.bool true) ∧ Below w.heap.size w w' := longs_any none 0 none 0 [] w (nest_nil w) (nest_nil w) (Nat.zero_le _) (fun s hs' => by cases hs')
theorem ints_nil (w : World) : Calls Try.prog 38 #[.slice none 0 0, .slice none 0 0] w fun e w' => e = .returned (.bool true) ∧ Below w.heap.size w w' := ints_any none 0 none 0 [] w (reads_nil w 1) (reads_nil w 1) (Nat.zero_le _)
theorem same_nil (w : World) : Calls Try.prog 41 #[.agg #[.slice none 0 0, .slice none 0 0, .slice none 0 0], .agg #[.slice none 0 0, .slice none 0 0, .slice none 0 0]] w fun e w' => e = .returned (.bool true) ∧ Below w.heap.size w w' := same_any none 0 none 0 none 0 none 0 none 0 none 0 [] [] [] w (tab_nil w) (tab_nil w) (Nat.zero_le _) (Nat.zero_le _) (Nat.zero_le _) (fun s hs' => by cases hs')
theorem chkPr_has {R C : List R2} {X : List (List R2)} (hV : Valid R C X) (hH : HasT R C X) {P Q : List Int} {side : Int} (hok : prOK R C P Q side) : chkPr R C X P Q side = (0, 14) := by
 rw [chkPr_ok hV hok, if_pos]
 by_cases h : shP R C X P Q side ≤ 0
 ·exact h
 ·exact absurd hH (proof_no hV hok (by omega))
theorem tru_no {R C : List R2} {X : List (List R2)} (hV : Valid R C X) (hH : ¬HasT R C X) {L : List (List Int)} (hl : L.length = R.length) (hs : ∀ s ∈ L, s.length = C.length) : chkTru R C X L ≠ 0 := fun h => hH ⟨_, (tru_iff hV hl hs).1 h⟩
/-- Lists that are handed in and read. -/
theorem Valid.fits {R C : List R2} {X : List (List R2)} (hV : Valid R C X) {L : List (List Int)} (hl : L.length = R.length) (hs : ∀ s ∈ L, s.length = C.length) : L.length ≤ 7 ∧ ∀ s ∈ L, s.length ≤ 7 := ⟨by have := hV.r4; omega, fun s h => by have := hs s h; have := hV.c4; omega⟩
section
variable (RA : Option Addr) (rc : Nat) (CA : Option Addr) (cc : Nat) (XA : Option Addr) (xc : Nat) (R C : List R2) (X : List (List R2)) (w : World) (hT : TabR w RA CA XA R C X)
include hT
theorem check_numX (hV : Valid R C X) {L : List (List Int)} (hl : L.length = R.length) (hs : ∀ s ∈ L, s.length = C.length) {NA : Option Addr} {nc : Nat} (hN : NestR w 1 NA (nestI L)) {z : Int} (hz : chkTru R C X L = z) : Calls Try.prog 21 #[tabV RA rc CA cc XA xc R C X, .slice NA R.length nc] w fun e w' => e = .returned (.int .i64 z) ∧ Below w.heap.size w w' := by
 have hf := hV.fits hl hs
 have := checkTruth_any RA rc CA cc XA xc R C X w hT NA nc L hN hV.fit hf.1 hf.2
 rw [hl, hz] at this
 exact this
end
theorem wide_numX {n m : Nat} {L : List (List Int)} (hl : L.length = n) (hs : ∀ s ∈ L, s.length = m) (hn : n ≤ 4) (hm : m ≤ 4) {NA : Option Addr} {nc : Nat} {w : World} (hN : NestR w 1 NA (nestI L)) : Calls Try.prog 17 #[.slice NA n nc] w fun e w' => e = .returned (.bool false) ∧ Below w.heap.size w w' := by
 have := wide_any NA nc L w hN (by unfold maxLen; omega)
 rw [wide_fit.2 ⟨by omega, fun s h => by have := hs s h; omega⟩, hl] at this
 exact this
theorem fine_yes (RA : Option Addr) (rc : Nat) (CA : Option Addr) (cc : Nat) (XA : Option Addr) (xc : Nat) (R C : List R2) (X : List (List R2)) (w : World) (hT : TabR w RA CA XA R C X) (hV : Valid R C X) : Calls Try.prog 42 #[tabV RA rc CA cc XA xc R C X] w fun e w' => e = .returned (.bool true) ∧ Below w.heap.size w w' :=
 fine_any RA rc CA cc XA xc R C X w hT (by have := hV.x; have := hV.r4; unfold maxLen; omega) ⟨fun _ => hV, fun _ => rfl⟩
theorem fine_no (RA : Option Addr) (rc : Nat) (CA : Option Addr) (cc : Nat) (XA : Option Addr) (xc : Nat) (R C : List R2) (X : List (List R2)) (w : World) (hT : TabR w RA CA XA R C X) (hx : X.length ≤ maxLen) (hV : ¬Valid R C X) : Calls Try.prog 42 #[tabV RA rc CA cc XA xc R C X] w fun e w' => e = .returned (.bool false) ∧ Below w.heap.size w w' :=
 fine_any RA rc CA cc XA xc R C X w hT hx ⟨fun h => absurd h (by decide), fun h => absurd h hV⟩
end Go.Proofs.Ytalcccgialpjgaa
