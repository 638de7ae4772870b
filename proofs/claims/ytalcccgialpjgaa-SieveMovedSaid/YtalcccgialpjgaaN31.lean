/- What the examples calls return: lemmas for the rows of this seat. No conditions. -/
import Derived.Test.YtalcccgialpjgaaN30
import Derived.Test.YtalcccgialpjgaaQ1
set_option linter.all false
namespace Go.Proofs.Ytalcccgialpjgaa
open Go.RowKit
/-! ## What the examples' calls return -/
section
variable {R C : List R2} {X : List (List R2)}
theorem cellA_ok (hV : Valid R C X) (hH : HasT R C X) {i k : Nat} (hi : i < R.length) (hk : k < C.length) : cellA R C X i k = (cellR R C X i k, 0) := by
 unfold cellA
 rw [chk0 hV, errT_ok hV hH, if_neg (show ¬((0 : Int) ≠ 0) by decide), if_neg (show ¬¬_ from fun h => h ⟨by omega, by omega, by omega, by omega⟩), if_neg (show ¬((0 : Int) ≠ 0) by decide)]
 rfl
theorem cellA_no (hV : Valid R C X) (hH : ¬HasT R C X) {i k : Nat} (hi : i < R.length) (hk : k < C.length) : cellA R C X i k = ((0, 0), 20) := by
 unfold cellA
 rw [chk0 hV, errT_no hV hH, if_neg (show ¬((0 : Int) ≠ 0) by decide), if_neg (show ¬¬_ from fun h => h ⟨by omega, by omega, by omega, by omega⟩), if_pos (show ((20 : Int) ≠ 0) by decide)]
theorem rowA_ok (hV : Valid R C X) (hH : HasT R C X) {i : Nat} (hi : i < R.length) : rowA R C X i = (rowR R C X i, 0) := by
 unfold rowA
 rw [chk0 hV, errT_ok hV hH, if_neg (show ¬((0 : Int) ≠ 0) by decide), if_neg (show ¬¬_ from fun h => h ⟨by omega, by omega⟩), if_neg (show ¬((0 : Int) ≠ 0) by decide)]
 rfl
theorem rowA_no (hV : Valid R C X) (hH : ¬HasT R C X) {i : Nat} (hi : i < R.length) : rowA R C X i = ((0, 0), 20) := by
 unfold rowA
 rw [chk0 hV, errT_no hV hH, if_neg (show ¬((0 : Int) ≠ 0) by decide), if_neg (show ¬¬_ from fun h => h ⟨by omega, by omega⟩), if_pos (show ((20 : Int) ≠ 0) by decide)]
theorem allA_ok (hV : Valid R C X) (hH : HasT R C X) : allA R C X = (allR R C X, 0) := by
 unfold allA
 rw [errT_ok hV hH, if_neg (show ¬((0 : Int) ≠ 0) by decide)]
theorem allA_no (hV : Valid R C X) (hH : ¬HasT R C X) : allA R C X = ((0, 0), 20) := by
 unfold allA
 rw [errT_no hV hH, if_pos (show ((20 : Int) ≠ 0) by decide)]
end
theorem vT : Valid (twoR 5 6) twoC twoT := two_valid (by omega)
theorem vU : Valid (twoR 2 2) twoC twoT := two_valid (by omega)
theorem nT : nrR (twoR 5 6) twoC twoT 2 = [(3, 4), (5, 6)] ∧ nrC (twoR 5 6) twoC twoT 2 = [(2, 3), (5, 6)] ∧ nrX (twoR 5 6) twoC twoT 2 = [[(1, 3), (1, 2)], [(0, 2), (3, 5)]] := by
 refine ⟨?_, ?_, ?_⟩
 ·show [rowR (twoR 5 6) twoC twoT 0, rowR (twoR 5 6) twoC twoT 1] = _
  rw [tR0, tR1]
 ·show [colR (twoR 5 6) twoC twoT 0, colR (twoR 5 6) twoC twoT 1] = _
  rw [tK0, tK1]
 ·show [[cellR (twoR 5 6) twoC twoT 0 0, cellR (twoR 5 6) twoC twoT 0 1], [cellR (twoR 5 6) twoC twoT 1 0, cellR (twoR 5 6) twoC twoT 1 1]] = _
  rw [tC00, tC01, tC10, tC11]
theorem mT (many : Int) : moreL (twoR 5 6) twoC twoT many 2 = [moreI many (3, 4), moreI many (5, 6)] := by
 show [moreI many (rowR (twoR 5 6) twoC twoT 0), moreI many (rowR (twoR 5 6) twoC twoT 1)] = _
 rw [tR0, tR1]
theorem two_of {α : Type} {l : List α} (h : l.length = 2) : ∃ a b, l = [a, b] := by
 match l, h with
 | [a, b], _ => exact ⟨a, b, rfl⟩
/-- Two lists of numbers of one's own, in a list of one's own. -/
structure Nu2 where
 x : NsX
 a : NsX
 b : NsX
def nu2Ch (l m : List Int) (x : Nu2) : List Chunk := [.own (.slice x.x.1 2 x.x.2) 66 1 2 [.slice x.a.1 2 x.a.2, .slice x.b.1 2 x.b.2], .own (.slice x.a.1 2 x.a.2) 2 1 2 (i64s l), .own (.slice x.b.1 2 x.b.2) 2 1 2 (i64s m)]
theorem nu2_nest {w0 w : World} {A : List Chunk} (hs : St w0 A w) {l m : List Int} (hl : l.length = 2) (hm : m.length = 2) (x : Nu2) (h : ∀ d ∈ nu2Ch l m x, d ∈ A) : NestR w 1 x.x.1 (nestI [l, m]) := by
 have e1 : nsVs [x.a, x.b] (nestI [l, m]) = [.slice x.a.1 2 x.a.2, .slice x.b.1 2 x.b.2] := by
  show [Value.slice x.a.1 l.length x.a.2, .slice x.b.1 m.length x.b.2] = _
  rw [hl, hm]
 have e2 : nsCh 2 1 [x.a, x.b] (nestI [l, m]) = [.own (.slice x.a.1 2 x.a.2) 2 1 2 (i64s l), .own (.slice x.b.1 2 x.b.2) 2 1 2 (i64s m)] := by
  show [Chunk.own (.slice x.a.1 l.length x.a.2) 2 1 l.length (i64s l), .own (.slice x.b.1 m.length x.b.2) 2 1 m.length (i64s m)] = _
  rw [hl, hm]
 refine hs.nestL (e := 2) (t := 66) (c := x.x.2) (xs := [x.a, x.b]) rfl ?_ ?_
 ·rw [e1]; exact h _ (.head _)
 ·rw [e2]; exact fun d hd => h _ (.tail _ hd)
theorem nu2_mut {l m : List Int} : ∀ (x : Nu2), ∀ c ∈ nu2Ch l m x, c.mut = true := fun x c hc => by
 unfold nu2Ch at hc
 simp only [List.mem_cons, List.not_mem_nil, or_false] at hc
 rcases hc with rfl | rfl | rfl <;> rfl
theorem mut_one {a : Chunk} (h1 : a.mut = true) : ∀ c ∈ [a], c.mut = true := fun c hc => by
 rw [List.mem_singleton] at hc
 rw [hc]; exact h1
/-- A table of one's own of two rows and columns. -/
structure Ta2 where
 r : NsX
 c : NsX
 x : NsX
 a : NsX
 b : NsX
def ta2V (x : Ta2) : Value := .agg #[.slice x.r.1 2 x.r.2, .slice x.c.1 2 x.c.2, .slice x.x.1 2 x.x.2]
def ta2Ch (R C l m : List R2) (x : Ta2) : List Chunk := [.own (.slice x.r.1 2 x.r.2) 37 2 2 (rgC R), .own (.slice x.c.1 2 x.c.2) 37 2 2 (rgC C), .own (.slice x.x.1 2 x.x.2) 22 1 2 [.slice x.a.1 2 x.a.2, .slice x.b.1 2 x.b.2], .own (.slice x.a.1 2 x.a.2) 37 2 2 (rgC l), .own (.slice x.b.1 2 x.b.2) 37 2 2 (rgC m)]
theorem ta2_tab {w0 w : World} {A : List Chunk} (hs : St w0 A w) {R C l m : List R2} (hR : R.length = 2) (hC : C.length = 2) (hl : l.length = 2) (hm : m.length = 2) (x : Ta2) (h : ∀ d ∈ ta2Ch R C l m x, d ∈ A) : TabR w x.r.1 x.c.1 x.x.1 R C [l, m] := by
 refine hs.tabX ⟨x.r, x.c, x.x, [x.a, x.b]⟩ rfl fun d hd => h d ?_
 have e : tabCh R C [l, m] ⟨x.r, x.c, x.x, [x.a, x.b]⟩ = ta2Ch R C l m x := by
  show [Chunk.own (.slice x.r.1 R.length x.r.2) 37 2 R.length (rgC R), .own (.slice x.c.1 C.length x.c.2) 37 2 C.length (rgC C), .own (.slice x.x.1 2 x.x.2) 22 1 2 [.slice x.a.1 l.length x.a.2, .slice x.b.1 m.length x.b.2], .own (.slice x.a.1 l.length x.a.2) 37 2 l.length (rgC l), .own (.slice x.b.1 m.length x.b.2) 37 2 m.length (rgC m)] = _
  rw [hR, hC, hl, hm]; rfl
 rw [← e]; exact hd
theorem ta2_mut {R C l m : List R2} : ∀ (x : Ta2), ∀ c ∈ ta2Ch R C l m x, c.mut = true := fun x c hc => by
 unfold ta2Ch at hc
 simp only [List.mem_cons, List.not_mem_nil, or_false] at hc
 rcases hc with rfl | rfl | rfl | rfl | rfl <;> rfl
section
variable (RA : Option Addr) (CA : Option Addr) (XA : Option Addr) (w : World)
def exV (RA CA XA : Option Addr) : Value := .agg #[.slice RA 2 2, .slice CA 2 2, .slice XA 2 2]
theorem exT_truth (hT : TabR w RA CA XA (twoR 5 6) twoC twoT) : Calls Try.prog 23 #[exV RA CA XA] w fun e w' => ∃ x : Nu2, e = .returned (.tuple #[.slice x.x.1 2 x.x.2, .int .i64 0]) ∧ True ∧ St w (nu2Ch [1, 2] [1, 4] x) w' :=
 (truth_ok RA 2 CA 2 XA 2 _ _ _ w hT vT tT_has).mono fun e w' ⟨x, he, hx, hs⟩ => by
  obtain ⟨a, b, hab⟩ := two_of hx
  refine ⟨⟨x.x, a, b⟩, he, trivial, ?_⟩
  rw [hab] at hs
  rw [show (twoR 5 6).length = 2 from rfl, tTru] at hs
  exact hs
theorem exU_truth (hT : TabR w RA CA XA (twoR 2 2) twoC twoT) : Calls Try.prog 23 #[exV RA CA XA] w fun e w' => e = .returned (.tuple #[.slice none 0 0, .int .i64 20]) ∧ Below w.heap.size w w' := by
 have := truth_err RA 2 CA 2 XA 2 _ _ _ w hT vU.fit (by rw [errT_no vU uT_no]; decide)
 rw [errT_no vU uT_no] at this
 exact this
theorem exT_check {l m : List Int} (hl : l.length = 2) (hm : m.length = 2) {NA : Option Addr} (hT : TabR w RA CA XA (twoR 5 6) twoC twoT) (hN : NestR w 1 NA (nestI [l, m])) {q : Int} (hq : chkTru (twoR 5 6) twoC twoT [l, m] = q) : Calls Try.prog 21 #[exV RA CA XA, .slice NA 2 2] w fun e w' => e = .returned (.int .i64 q) ∧ Below w.heap.size w w' := by
 have := checkTruth_any RA 2 CA 2 XA 2 _ _ _ w hT NA 2 _ hN vT.fit (by simp) (fun s hs => by
  rcases List.mem_cons.1 hs with rfl | hs
  ·omega
  rcases List.mem_cons.1 hs with rfl | hs
  ·omega
  ·cases hs)
 rw [hq] at this
 exact this
theorem exT_check1 {l : List Int} (hl : l.length = 2) {NA : Option Addr} (hT : TabR w RA CA XA (twoR 5 6) twoC twoT) (hN : NestR w 1 NA (nestI [l])) {q : Int} (hq : chkTru (twoR 5 6) twoC twoT [l] = q) : Calls Try.prog 21 #[exV RA CA XA, .slice NA 1 1] w fun e w' => e = .returned (.int .i64 q) ∧ Below w.heap.size w w' := by
 have := checkTruth_any RA 2 CA 2 XA 2 _ _ _ w hT NA 1 _ hN vT.fit (by simp) (fun s hs => by
  rcases List.mem_cons.1 hs with rfl | hs
  ·omega
  ·cases hs)
 rw [hq] at this
 exact this
theorem exT_cell (hT : TabR w RA CA XA (twoR 5 6) twoC twoT) {i k : Int} {r : R2 × Int} (hr : cellA (twoR 5 6) twoC twoT i k = r) : Calls Try.prog 25 #[exV RA CA XA, .int .i64 i, .int .i64 k] w fun e w' => e = .returned (resV r) ∧ Below w.heap.size w w' := by
 subst hr
 exact cell25_any RA 2 CA 2 XA 2 _ _ _ w hT vT.fit i k
theorem exT_row (hT : TabR w RA CA XA (twoR 5 6) twoC twoT) {i : Int} {r : R2 × Int} (hr : rowA (twoR 5 6) twoC twoT i = r) : Calls Try.prog 32 #[exV RA CA XA, .int .i64 i] w fun e w' => e = .returned (resV r) ∧ Below w.heap.size w w' := by
 subst hr
 exact row32_any RA 2 CA 2 XA 2 _ _ _ w hT vT.fit i
theorem exT_all (hT : TabR w RA CA XA (twoR 5 6) twoC twoT) : Calls Try.prog 34 #[exV RA CA XA] w fun e w' => e = .returned (resV ((8, 9), 0)) ∧ Below w.heap.size w w' := by
 have := all_any RA 2 CA 2 XA 2 _ _ _ w hT vT.fit
 rw [allA_ok vT tT_has, tAll] at this
 exact this
theorem exT_more (hT : TabR w RA CA XA (twoR 5 6) twoC twoT) {many : Int} {l : List Int} (hl : [moreI many (3, 4), moreI many (5, 6)] = l) : Calls Try.prog 36 #[exV RA CA XA, .int .i64 many] w fun e w' => ∃ x : SlX, e = .returned (.tuple #[.slice x.B 2 x.c, .int .i64 0]) ∧ True ∧ St w [.own (.slice x.B 2 x.c) 3 1 2 (i64s l)] w' := by
 have := more_ok RA 2 CA 2 XA 2 _ _ _ w hT vT tT_has many
 rw [show (twoR 5 6).length = 2 from rfl, mT, hl] at this
 exact this
theorem exU_more (hT : TabR w RA CA XA (twoR 2 2) twoC twoT) {many : Int} : Calls Try.prog 36 #[exV RA CA XA, .int .i64 many] w fun e w' => e = .returned (.tuple #[.slice none 0 0, .int .i64 20]) ∧ Below w.heap.size w w' := by
 have := more_err RA 2 CA 2 XA 2 _ _ _ w hT vU.fit many (by rw [errT_no vU uT_no]; decide)
 rw [errT_no vU uT_no] at this
 exact this
theorem exT_narrow (hT : TabR w RA CA XA (twoR 5 6) twoC twoT) : Calls Try.prog 39 #[exV RA CA XA] w fun e w' => ∃ x : Ta2, e = .returned (.tuple #[ta2V x, .int .i64 0]) ∧ True ∧ St w (ta2Ch [(3, 4), (5, 6)] [(2, 3), (5, 6)] [(1, 3), (1, 2)] [(0, 2), (3, 5)] x) w' :=
 (narrow_ok RA 2 CA 2 XA 2 _ _ _ w hT vT tT_has).mono fun e w' ⟨x, he, hx, hs⟩ => by
  rw [show (twoR 5 6).length = 2 from rfl, show twoC.length = 2 from rfl] at hs he
  rw [show (twoR 5 6).length = 2 from rfl] at hx
  rw [nT.2.2] at hx hs he
  rw [nT.1, nT.2.1] at hs he
  obtain ⟨a, b, hab⟩ := two_of hx
  refine ⟨⟨x.r, x.c, x.x, a, b⟩, he, trivial, ?_⟩
  unfold tabCh at hs
  rw [hab] at hs
  exact hs
theorem exT_proof30 (hT : TabR w RA CA XA (twoR 5 6) twoC twoT) : Calls Try.prog 30 #[exV RA CA XA] w fun e w' => e = .returned (.tuple #[proofV none 0 0 none 0 0 0, .int .i64 5]) ∧ Below w.heap.size w w' :=
 (proof30_any RA 2 CA 2 XA 2 _ _ _ w hT vT).mono fun e w' h => by
  rcases h with ⟨_, h⟩ | ⟨h, _⟩
  ·exact h
  ·exact absurd tT_has h
/-- A proof of one's own: its numbers. -/
structure PfQ where
 B1 : Option Addr
 c1 : Nat
 P : List Int
 B2 : Option Addr
 c2 : Nat
 Q : List Int
 side : Int
def pfV (x : PfQ) : Value := proofV x.B1 x.c1 x.P.length x.B2 x.c2 x.Q.length x.side
def pfCh (x : PfQ) : List Chunk := [.own (.slice x.B1 x.P.length x.c1) 3 1 x.P.length (i64s x.P), .own (.slice x.B2 x.Q.length x.c2) 3 1 x.Q.length (i64s x.Q)]
structure PfGood (R C : List R2) (X : List (List R2)) (x : PfQ) : Prop where
 ok : prOK R C x.P x.Q x.side
 pos : 0 < shP R C X x.P x.Q x.side
 p4 : x.P.length ≤ 4
 q4 : x.Q.length ≤ 4
theorem pfCh_mut {x : PfQ} : ∀ c ∈ pfCh x, c.mut = true := fun c hc => by
 unfold pfCh at hc
 simp only [List.mem_cons, List.not_mem_nil, or_false] at hc
 rcases hc with rfl | rfl <;> rfl
end
section
variable (RA : Option Addr) (rc : Nat) (CA : Option Addr) (cc : Nat) (XA : Option Addr) (xc : Nat) (R C : List R2) (X : List (List R2)) (w : World) (hT : TabR w RA CA XA R C X)
include hT
/-- Proof of a table without a truth. -/
theorem proof30_no (hV : Valid R C X) (hH : ¬HasT R C X) : Calls Try.prog 30 #[tabV RA rc CA cc XA xc R C X] w fun e w' => ∃ x : PfQ, e = .returned (.tuple #[pfV x, .int .i64 0]) ∧ PfGood R C X x ∧ St w (pfCh x) w' :=
 (proof30_any RA rc CA cc XA xc R C X w hT hV).mono fun e w' h => by
  rcases h with ⟨h, _⟩ | ⟨_, x, he, hc, hs⟩
  ·exact absurd h hH
  obtain ⟨h1, h2⟩ := cut_proof hV hc
  have hn := hV.r4
  have hm := hV.c4
  have l1 : (prRows R.length x.seen).length ≤ R.length := rowL_len _ _
  have l2 : (prCols R.length C.length x.seen).length ≤ C.length := rowL_len _ _
  refine ⟨⟨x.p.B1, x.p.c1, natI (prRows R.length x.seen), x.p.B2, x.p.c2, natI (prCols R.length C.length x.seen), prSide x.seen⟩, ?_, ⟨h1, h2, by dsimp only; rw [natI_len]; omega, by dsimp only; rw [natI_len]; omega⟩, ?_⟩
  ·unfold pfV
   dsimp only
   rw [natI_len, natI_len]; exact he
  ·unfold pfCh
   dsimp only
   rw [natI_len, natI_len, ← natV_i64s, ← natV_i64s]; exact hs
theorem proof30_yes (hV : Valid R C X) (hH : HasT R C X) : Calls Try.prog 30 #[tabV RA rc CA cc XA xc R C X] w fun e w' => e = .returned (.tuple #[proofV none 0 0 none 0 0 0, .int .i64 5]) ∧ Below w.heap.size w w' :=
 (proof30_any RA rc CA cc XA xc R C X w hT hV).mono fun e w' h => by
  rcases h with ⟨_, h⟩ | ⟨h, _⟩
  ·exact h
  ·exact absurd hH h
end
/-! ## Works: what is made -/
theorem wantB_g {ops : List Oper} {ts : TS} {o og : Oper} {g : Nat} {want : Bool} {d : Tmp} (hg : o.guard = some (g, want)) (ho : ops[g]? = some og) (hd : og.dst = some d) (hl : look ts d = some (.bool want)) : wantB ops ts o = some true := by
 unfold wantB
 rw [hg]
 dsimp only
 rw [ho]
 dsimp only
 rw [hd]
 dsimp only
 rw [hl]
 simp
def vf (v : Value) : Value × List Chunk := (v, [])
def lfI (e : TypeId) (l : List Int) (x : TwoX) : Value × List Chunk := (.slice (some ⟨x.gr, 0, none⟩) 2 2, [.blk x.gr e (i64s l)])
def lf2 (l m : List Int) (x : TwoX) : Value × List Chunk := (.slice (some ⟨x.gr, 0, none⟩) 2 2, [.blk x.gr 66 [.slice (some ⟨x.g1, 0, none⟩) 2 2, .slice (some ⟨x.g2, 0, none⟩) 2 2], .blk x.g1 2 (i64s l), .blk x.g2 2 (i64s m)])
def lf1 (l : List Int) (x : TwoX) : Value × List Chunk := (.slice (some ⟨x.gr, 0, none⟩) 1 1, [.blk x.gr 66 [.slice (some ⟨x.g1, 0, none⟩) 2 2], .blk x.g1 2 (i64s l)])
def lfR (l : List R2) (x : TwoX) : Value × List Chunk := (.slice (some ⟨x.gr, 0, none⟩) 2 2, [.blk x.gr 37 (rgC l)])
def lfRR (l m : List R2) (x : TwoX) : Value × List Chunk := (.slice (some ⟨x.gr, 0, none⟩) 2 2, [.blk x.gr 22 [.slice (some ⟨x.g1, 0, none⟩) 2 2, .slice (some ⟨x.g2, 0, none⟩) 2 2], .blk x.g1 37 (rgC l), .blk x.g2 37 (rgC m)])
def lfT (R C l m : List R2) (x : TwoX) : Value × List Chunk := (twoV x, [.blk x.gr 37 (rgC R), .blk x.gc 37 (rgC C), .blk x.gx 22 [.slice (some ⟨x.g1, 0, none⟩) 2 2, .slice (some ⟨x.g2, 0, none⟩) 2 2], .blk x.g1 37 (rgC l), .blk x.g2 37 (rgC m)])
theorem hm0 {A : List Chunk} : ∀ c ∈ ([] : List Chunk), c ∈ A := fun c h => by cases h
theorem hm1 {c0 : Chunk} {A : List Chunk} : ∀ c ∈ [c0], c ∈ c0 :: A := fun c h => by
 rcases List.mem_cons.1 h with rfl | h
 ·exact .head _
 ·cases h
theorem hm2 {c0 c1 c2 : Chunk} {A : List Chunk} (h1 : c1 ∈ A) (h2 : c2 ∈ A) : ∀ c ∈ [c0, c1, c2], c ∈ c0 :: A := fun c h => by
 rcases List.mem_cons.1 h with rfl | h
 ·exact .head _
 rcases List.mem_cons.1 h with rfl | h
 ·exact .tail _ h1
 rcases List.mem_cons.1 h with rfl | h
 ·exact .tail _ h2
 ·cases h
theorem hm3 {c0 c1 : Chunk} {A : List Chunk} (h1 : c1 ∈ A) : ∀ c ∈ [c0, c1], c ∈ c0 :: A := fun c h => by
 rcases List.mem_cons.1 h with rfl | h
 ·exact .head _
 rcases List.mem_cons.1 h with rfl | h
 ·exact .tail _ h1
 ·cases h
theorem nest_two {w0 w : World} {A : List Chunk} (hs : St w0 A w) {x : TwoX} {l m : List Int} (hl : l.length = 2) (hm : m.length = 2) (h : ∀ c ∈ (lf2 l m x).2, c ∈ A) : NestR w 1 (some ⟨x.gr, 0, none⟩) (nestI [l, m]) := by
 have m1 := h _ (.head _)
 have m2 := h _ (.tail _ (.head _))
 have m3 := h _ (.tail _ (.tail _ (.head _)))
 refine ⟨_, hs.blk_reads m1 rfl, fun i hi => ?_⟩
 rcases (show i = 0 ∨ i = 1 by have : (nestI [l, m]).length = 2 := rfl; omega) with rfl | rfl
 ·exact ⟨some ⟨x.g1, 0, none⟩, 2, by rw [← hl]; rfl, by
   have := hs.blk_reads (sz := 1) (n := l.length) m2 (by simp [i64s])
   exact this⟩
 ·exact ⟨some ⟨x.g2, 0, none⟩, 2, by rw [← hm]; rfl, by
   have := hs.blk_reads (sz := 1) (n := m.length) m3 (by simp [i64s])
   exact this⟩
theorem nest_one {w0 w : World} {A : List Chunk} (hs : St w0 A w) {x : TwoX} {l : List Int} (hl : l.length = 2) (h : ∀ c ∈ (lf1 l x).2, c ∈ A) : NestR w 1 (some ⟨x.gr, 0, none⟩) (nestI [l]) := by
 have m1 := h _ (.head _)
 have m2 := h _ (.tail _ (.head _))
 refine ⟨_, hs.blk_reads m1 rfl, fun i hi => ?_⟩
 obtain rfl : i = 0 := by have : (nestI [l]).length = 1 := rfl; omega
 exact ⟨some ⟨x.g1, 0, none⟩, 2, by rw [← hl]; rfl, by
  have := hs.blk_reads (sz := 1) (n := l.length) m2 (by simp [i64s])
  exact this⟩
theorem tab_lfT {w0 w : World} {A : List Chunk} (hs : St w0 A w) {x : TwoX} {R C l m : List R2} (hR : R.length = 2) (hC : C.length = 2) (hl : l.length = 2) (hm : m.length = 2) (h : ∀ c ∈ (lfT R C l m x).2, c ∈ A) : TabR w (some ⟨x.gr, 0, none⟩) (some ⟨x.gc, 0, none⟩) (some ⟨x.gx, 0, none⟩) R C [l, m] := by
 have m1 := h _ (.head _)
 have m2 := h _ (.tail _ (.head _))
 have m3 := h _ (.tail _ (.tail _ (.head _)))
 have m4 := h _ (.tail _ (.tail _ (.tail _ (.head _))))
 have m5 := h _ (.tail _ (.tail _ (.tail _ (.tail _ (.head _)))))
 refine ⟨hs.blk_reads m1 (by rw [rgC_length]), hs.blk_reads m2 (by rw [rgC_length]), _, hs.blk_reads m3 rfl, fun i hi => ?_⟩
 rcases (show i = 0 ∨ i = 1 by have : (nestR [l, m]).length = 2 := rfl; omega) with rfl | rfl
 ·exact ⟨some ⟨x.g1, 0, none⟩, 2, by rw [← hl]; rfl, hs.blk_reads m4 (rgC_length l)⟩
 ·exact ⟨some ⟨x.g2, 0, none⟩, 2, by rw [← hm]; rfl, hs.blk_reads m5 (rgC_length m)⟩
def fA3 : Nat → TwoX → Value × List Chunk := fun i x => match i with
 | 1 | 2 => lfI 2 [1, 2] x
 | 3 | 4 => lfI 2 [1, 4] x
 | 5 | 6 => lf2 [1, 2] [1, 4] x
 | 7 | 16 => vf (.int .i64 0)
 | 9 | 10 => lfI 2 [1, 2] x
 | 11 | 12 => lfI 2 [2, 5] x
 | 13 | 14 => lf2 [1, 2] [2, 5] x
 | _ => vf (.int .i64 20)
def fA4 : Nat → TwoX → Value × List Chunk := fun i x => match i with
 | 1 | 2 => lfI 2 [0, 2] x
 | 3 | 4 => lfI 2 [2, 4] x
 | 5 | 6 => lf2 [0, 2] [2, 4] x
 | 7 | 14 => vf (.int .i64 20)
 | 9 | 10 => lfI 2 [1, 2] x
 | 11 | 12 => lf1 [1, 2] x
 | _ => vf (.int .i64 15)
def fA24 (kq : Int) (m3 m5 : SlX) (tw : Ta2) : Nat → TwoX → Value × List Chunk := fun i x => match i with
 | 1 | 2 => lfI 2 [1, 2] x
 | 3 | 4 => lfI 2 [1, 4] x
 | 5 | 6 => lf2 [1, 2] [1, 4] x
 | 9 => vf (.int .i64 1)
 | 13 => vf (.int .i64 0)
 | 17 => vf (.int .i64 kq)
 | 21 | 22 | 62 => vf (.agg #[.int .i64 1, .int .i64 3])
 | 26 | 27 | 67 => vf (.agg #[.int .i64 3, .int .i64 5])
 | 31 | 32 | 55 | 59 => vf (.agg #[.int .i64 5, .int .i64 6])
 | 36 | 37 => vf (.agg #[.int .i64 8, .int .i64 9])
 | 41 => vf (.slice m3.B 2 m3.c)
 | 42 | 43 => lfI 3 [1, 2] x
 | 47 => vf (.slice m5.B 2 m5.c)
 | 48 | 49 => lfI 3 [0, 1] x
 | 53 => vf (ta2V tw)
 | 54 => vf (.agg #[.int .i64 3, .int .i64 4])
 | 56 | 57 => lfR [(3, 4), (5, 6)] x
 | 58 => vf (.agg #[.int .i64 2, .int .i64 3])
 | 60 | 61 => lfR [(2, 3), (5, 6)] x
 | 63 => vf (.agg #[.int .i64 1, .int .i64 2])
 | 64 | 65 => lfR [(1, 3), (1, 2)] x
 | 66 => vf (.agg #[.int .i64 0, .int .i64 2])
 | 68 | 69 => lfR [(0, 2), (3, 5)] x
 | 70 => lfRR [(1, 3), (1, 2)] [(0, 2), (3, 5)] x
 | 71 => lfT [(3, 4), (5, 6)] [(2, 3), (5, 6)] [(1, 3), (1, 2)] [(0, 2), (3, 5)] x
 | _ => vf (.bool true)
theorem tr_nameA2 {P : Program} {r : Option Nat} {w0 : World} {n : Nat} {c : Code} {ds : List Deferred} {ts : TS} {A : List Chunk} {Q : PostT} (h : ∀ A0, A0 = A → Tr P r w0 n c ds ts A0 Q) : Tr P r w0 n c ds ts A Q := h A rfl
set_option maxHeartbeats 4000000 in
set_option maxRecDepth 20000 in
theorem works_any (w : World) : Calls Try.prog 18 #[] w fun e w' => e = .returned (.bool true) ∧ Below w.heap.size w w' := by
 have hto := fun (a b : Int) w1 => to_any a b w1
 refine fn_k (n := 324) (args := []) (A := []) Try.func18 rfl rfl (Nat.zero_le _) (St.nil (Below.refl _ _)) ?_
 refine tr_seqK ?_
 (apply tr_v tk; (conv => whnf); apply VStop.mk)
 refine tr_seqK ?_
 (apply tr_v tk; (conv => whnf); (repeat ((apply VCall.q; kernel_rfl; (focus (intro w1 hs; first | with_reducible apply hto _ _ w1))); (conv => whnf))); apply VCall.stop)
 refine ot_callC (X := TwoX) (us := []) (vs := []) twoV (twoCh 5 6) (fun _ => True) (fun x c hc => twoCh_mut c hc) (by decide) rfl rfl rfl rfl (by kernel_rfl) (evl_of rfl) rfl (fun w1 hs => two_any 5 6 w1) (fun xt _ => ?_)
 apply ot_v tk
 ((conv => whnf); (repeat ((apply VCall.q; kernel_rfl; (focus (intro w1 hs; first | with_reducible apply hto _ _ w1))); (conv => whnf))); apply VCall.stop)
 refine ot_callC (X := TwoX) (us := []) (vs := []) twoV (twoCh 2 2) (fun _ => True) (fun x c hc => twoCh_mut c hc) (by decide) rfl rfl rfl rfl (by kernel_rfl) (evl_of rfl) rfl (fun w1 hs => two_any 2 2 w1) (fun xu _ => ?_)
 dsimp only [twoV, twoCh, List.cons_append, List.nil_append]
 apply ot_v tk
 ((conv => whnf); (repeat ((first | (apply VNew.mk; intro g hg) | (apply VSt.mk; (focus ((repeat (first | (with_reducible exact At.here) | (with_reducible apply At.there))); done)); exact rfl)); (conv => whnf))); apply VStop.mk)
 revert g hg
 intro g2 hg2
 revert g hg
 intro g1 hg1
 refine tr_seqK ?_
 (apply tr_v tk; (conv => whnf); (repeat ((first | (apply VCall.q; kernel_rfl; (focus (intro w1 hs; first | with_reducible apply of_any _ _ _ w1))) | (apply VNew.mk; intro g hg) | (apply VSt.mk; (focus ((repeat (first | (with_reducible exact At.here) | (with_reducible apply At.there))); done)); exact rfl)); (conv => whnf))); apply VStop.mk)
 rename_i ga hga gb hgb
 refine tr_nameA2 ?_
 intro A0 hA0
 have hAT : ∀ d ∈ twoCh 5 6 xt, d ∈ A0 := fun d hd => by
  rw [hA0]
  exact .tail _ (.tail _ (.tail _ (.tail _ (.tail _ (.tail _ (.tail _ (.tail _ (.tail _ (.tail _ hd)))))))))
 have hAU : ∀ d ∈ twoCh 2 2 xu, d ∈ A0 := fun d hd => by
  rw [hA0]
  exact .tail _ (.tail _ (.tail _ (.tail _ (.tail _ (show d ∈ twoCh 2 2 xu ++ twoCh 5 6 xt from List.mem_append_left _ hd)))))
 have c1 : .blk g1 25 [.slice (some ⟨xt.gr, 0, none⟩) 2 2, .slice (some ⟨xt.gc, 0, none⟩) 2 2, .slice (some ⟨xt.gx, 0, none⟩) 2 2] ∈ A0 := by rw [hA0]; exact .tail _ (.tail _ (.tail _ (.tail _ (.head _))))
 have c2 : .blk g2 25 [.slice (some ⟨xu.gr, 0, none⟩) 2 2, .slice (some ⟨xu.gc, 0, none⟩) 2 2, .slice (some ⟨xu.gx, 0, none⟩) 2 2] ∈ A0 := by rw [hA0]; exact .tail _ (.tail _ (.tail _ (.head _)))
 have c3 : .blk g 44 [.slice (some ⟨ga, 0, none⟩) 1 1, .slice (some ⟨gb, 0, none⟩) 1 1, .int .i64 0] ∈ A0 := by rw [hA0]; exact .head _
 have c4 : .blk ga 3 (i64s [1]) ∈ A0 := by rw [hA0]; exact .tail _ (.tail _ (.head _))
 have c5 : .blk gb 3 (i64s [1]) ∈ A0 := by rw [hA0]; exact .tail _ (.head _)
 clear hA0
 have hTT : ∀ {A' w1}, A0.Sublist A' → St w A' w1 → TabR w1 (some ⟨xt.gr, 0, none⟩) (some ⟨xt.gc, 0, none⟩) (some ⟨xt.gx, 0, none⟩) (twoR 5 6) twoC twoT := fun hA hs => two_tab hs fun d hd => hA.subset (hAT d hd)
 have hTU : ∀ {A' w1}, A0.Sublist A' → St w A' w1 → TabR w1 (some ⟨xu.gr, 0, none⟩) (some ⟨xu.gc, 0, none⟩) (some ⟨xu.gx, 0, none⟩) (twoR 2 2) twoC twoT := fun hA hs => two_tab hs fun d hd => hA.subset (hAU d hd)
 refine tr_seqK ?_
 refine tr_region_factsX (id := 3) (by kernel_rfl) A0 (by (repeat (first | exact sl0 _ | exact sl1 _ | refine sl2 _ ?_ | refine sl3 _ ?_))) [0, 8] [1, 2, 3, 4, 5, 6, 7, 9, 10, 11, 12, 13, 14, 15, 16, 17] [.rd, .rd] (fun i => [.wr, .cr, .cr, .cr, .cr, .cr, .cr, .cr, .wr, .cr, .cr, .cr, .cr, .cr, .cr, .cr, .wr, .wr].getD i .wr) _ rfl rfl (by kernel_rfl) (by kernel_rfl) (by kernel_rfl) (fun i => [51, 52, 53, 54, 55, 56, 57, 58, 59, 60, 61, 62, 63, 64, 65, 66, 4, 5].getD i 0) ([(1, .pointer (some ⟨g1, 0, none⟩)), (2, .pointer (some ⟨g2, 0, none⟩)), (3, .pointer (some ⟨g, 0, none⟩)), (51, twoV xt), (59, twoV xt)]) fA3 (by kernel_rfl) ?_ ?_ ?_
 ·(apply ot_v tk; (conv => whnf); (repeat ((apply VLdN.mk; (first | exact cells_blk_all c1); exact rfl); (conv => whnf))))
  exact ⟨rfl, rfl, rfl, rfl, rfl, trivial⟩
 ·refine ⟨?_, ?_, ?_, ?_, ?_, ?_, ?_, ?_, ?_, ?_, ?_, ?_, ?_, ?_, ?_, ?_, trivial⟩
  ·rintro ts A hb hA -
   refine ot_buildSlice tk (by decide) rfl rfl rfl rfl rfl rfl (pts_of rfl) rfl (by decide) ?_
   intro g hg
   exact ⟨_, [_], ⟨g, g, g, g, g⟩, rfl, rfl, rfl, hm1⟩
  ·rintro ts A hb hA ⟨⟨x1, h1, c1⟩, _⟩
   refine ot_call_q rfl rfl rfl (by kernel_rfl) (.cons h1 .nil) (fun w1 hs => longsV_any _ _ _ w1) ?_
   exact ⟨_, [], x1, rfl, rfl, rfl, fun c h => c1 c h⟩
  ·rintro ts A hb hA -
   refine ot_buildSlice tk (by decide) rfl rfl rfl rfl rfl rfl (pts_of rfl) rfl (by decide) ?_
   intro g hg
   exact ⟨_, [_], ⟨g, g, g, g, g⟩, rfl, rfl, rfl, hm1⟩
  ·rintro ts A hb hA ⟨⟨x3, h3, c3⟩, _⟩
   refine ot_call_q rfl rfl rfl (by kernel_rfl) (.cons h3 .nil) (fun w1 hs => longsV_any _ _ _ w1) ?_
   exact ⟨_, [], x3, rfl, rfl, rfl, fun c h => c3 c h⟩
  ·rintro ts A hb hA ⟨⟨x2, h2, c2⟩, ⟨x4, h4, c4⟩, _⟩
   refine ot_buildSlice tk (by decide) rfl rfl rfl rfl rfl rfl (.cons h2 rfl (.cons h4 rfl .nil)) rfl (by decide) ?_
   intro g hg
   exact ⟨_, [_], ⟨g, g, x2.gr, x4.gr, g⟩, rfl, rfl, rfl, hm2 (c2 _ (.head _)) (c4 _ (.head _))⟩
  ·rintro ts A hb hA ⟨⟨x5, h5, c5⟩, _⟩
   refine ot_call_q rfl rfl rfl (by kernel_rfl) (.cons h5 .nil) (fun w1 hs => lists_any _ w1 _ _ _ rfl) ?_
   exact ⟨_, [], x5, rfl, rfl, rfl, fun c h => c5 c h⟩
  ·rintro ts A hb hA ⟨⟨x6, h6, c6⟩, _⟩
   refine ot_call_q (v := .int .i64 0) rfl rfl rfl (by kernel_rfl) (.cons hb.2.2.2.1 (.cons h6 .nil)) (fun w1 hs => exT_check _ _ _ w1 rfl rfl (hTT hA hs) (nest_two hs rfl rfl c6) (by decide +kernel)) ?_
   exact ⟨_, [], ⟨0, 0, 0, 0, 0⟩, rfl, rfl, rfl, hm0⟩
  ·rintro ts A hb hA -
   refine ot_buildSlice tk (by decide) rfl rfl rfl rfl rfl rfl (pts_of rfl) rfl (by decide) ?_
   intro g hg
   exact ⟨_, [_], ⟨g, g, g, g, g⟩, rfl, rfl, rfl, hm1⟩
  ·rintro ts A hb hA ⟨⟨x9, h9, c9⟩, _⟩
   refine ot_call_q rfl rfl rfl (by kernel_rfl) (.cons h9 .nil) (fun w1 hs => longsV_any _ _ _ w1) ?_
   exact ⟨_, [], x9, rfl, rfl, rfl, fun c h => c9 c h⟩
  ·rintro ts A hb hA -
   refine ot_buildSlice tk (by decide) rfl rfl rfl rfl rfl rfl (pts_of rfl) rfl (by decide) ?_
   intro g hg
   exact ⟨_, [_], ⟨g, g, g, g, g⟩, rfl, rfl, rfl, hm1⟩
  ·rintro ts A hb hA ⟨⟨x11, h11, c11⟩, _⟩
   refine ot_call_q rfl rfl rfl (by kernel_rfl) (.cons h11 .nil) (fun w1 hs => longsV_any _ _ _ w1) ?_
   exact ⟨_, [], x11, rfl, rfl, rfl, fun c h => c11 c h⟩
  ·rintro ts A hb hA ⟨⟨x10, h10, c10⟩, ⟨x12, h12, c12⟩, _⟩
   refine ot_buildSlice tk (by decide) rfl rfl rfl rfl rfl rfl (.cons h10 rfl (.cons h12 rfl .nil)) rfl (by decide) ?_
   intro g hg
   exact ⟨_, [_], ⟨g, g, x10.gr, x12.gr, g⟩, rfl, rfl, rfl, hm2 (c10 _ (.head _)) (c12 _ (.head _))⟩
  ·rintro ts A hb hA ⟨⟨x13, h13, c13⟩, _⟩
   refine ot_call_q rfl rfl rfl (by kernel_rfl) (.cons h13 .nil) (fun w1 hs => lists_any _ w1 _ _ _ rfl) ?_
   exact ⟨_, [], x13, rfl, rfl, rfl, fun c h => c13 c h⟩
  ·rintro ts A hb hA ⟨⟨x14, h14, c14⟩, _⟩
   refine ot_call_q (v := .int .i64 20) rfl rfl rfl (by kernel_rfl) (.cons hb.2.2.2.2.1 (.cons h14 .nil)) (fun w1 hs => exT_check _ _ _ w1 rfl rfl (hTT hA hs) (nest_two hs rfl rfl c14) (by decide +kernel)) ?_
   exact ⟨_, [], ⟨0, 0, 0, 0, 0⟩, rfl, rfl, rfl, hm0⟩
  ·rintro ts A hb hA ⟨⟨x7, h7, c7⟩, _⟩
   refine ot_assign rfl rfl rfl h7 ?_
   exact ⟨_, [], ⟨0, 0, 0, 0, 0⟩, rfl, rfl, rfl, hm0⟩
  ·rintro ts A hb hA ⟨⟨x15, h15, c15⟩, _⟩
   refine ot_assign rfl rfl rfl h15 ?_
   exact ⟨_, [], ⟨0, 0, 0, 0, 0⟩, rfl, rfl, rfl, hm0⟩
 intro ts A hb hA hf
 have h4 : look ts 4 = some (.int .i64 0) := (hf 16 (by decide)).elim fun x hx => hx.1
 have h5 : look ts 5 = some (.int .i64 20) := (hf 17 (by decide)).elim fun x hx => hx.1
 refine VStop.mk (tr_weak (l := [(1, .pointer (some ⟨g1, 0, none⟩)), (2, .pointer (some ⟨g2, 0, none⟩)), (3, .pointer (some ⟨g, 0, none⟩)), (4, .int .i64 0), (5, .int .i64 20)]) (B := A0) ⟨hb.1, hb.2.1, hb.2.2.1, h4, h5, trivial⟩ hA ?_)
 clear hf h4 h5 hb hA
 clear ts A
 refine tr_seqK ?_
 refine tr_region_factsX (id := 4) (by kernel_rfl) A0 (by (repeat (first | exact sl0 _ | exact sl1 _ | refine sl2 _ ?_ | refine sl3 _ ?_))) [0, 8] [1, 2, 3, 4, 5, 6, 7, 9, 10, 11, 12, 13, 14, 15] [.rd, .rd] (fun i => [.wr, .cr, .cr, .cr, .cr, .cr, .cr, .cr, .wr, .cr, .cr, .cr, .cr, .cr, .wr, .wr].getD i .wr) _ rfl rfl (by kernel_rfl) (by kernel_rfl) (by kernel_rfl) (fun i => [67, 68, 69, 70, 71, 72, 73, 74, 75, 76, 77, 78, 79, 80, 6, 7].getD i 0) ([(1, .pointer (some ⟨g1, 0, none⟩)), (2, .pointer (some ⟨g2, 0, none⟩)), (3, .pointer (some ⟨g, 0, none⟩)), (4, .int .i64 0), (5, .int .i64 20), (67, twoV xt), (75, twoV xt)]) fA4 (by kernel_rfl) ?_ ?_ ?_
 ·(apply ot_v tk; (conv => whnf); (repeat ((apply VLdN.mk; (first | exact cells_blk_all c1); exact rfl); (conv => whnf))))
  exact ⟨rfl, rfl, rfl, rfl, rfl, rfl, rfl, trivial⟩
 ·refine ⟨?_, ?_, ?_, ?_, ?_, ?_, ?_, ?_, ?_, ?_, ?_, ?_, ?_, ?_, trivial⟩
  ·rintro ts A hb hA -
   refine ot_buildSlice tk (by decide) rfl rfl rfl rfl rfl rfl (pts_of rfl) rfl (by decide) ?_
   intro g hg
   exact ⟨_, [_], ⟨g, g, g, g, g⟩, rfl, rfl, rfl, hm1⟩
  ·rintro ts A hb hA ⟨⟨x1, h1, c1⟩, _⟩
   refine ot_call_q rfl rfl rfl (by kernel_rfl) (.cons h1 .nil) (fun w1 hs => longsV_any _ _ _ w1) ?_
   exact ⟨_, [], x1, rfl, rfl, rfl, fun c h => c1 c h⟩
  ·rintro ts A hb hA -
   refine ot_buildSlice tk (by decide) rfl rfl rfl rfl rfl rfl (pts_of rfl) rfl (by decide) ?_
   intro g hg
   exact ⟨_, [_], ⟨g, g, g, g, g⟩, rfl, rfl, rfl, hm1⟩
  ·rintro ts A hb hA ⟨⟨x3, h3, c3⟩, _⟩
   refine ot_call_q rfl rfl rfl (by kernel_rfl) (.cons h3 .nil) (fun w1 hs => longsV_any _ _ _ w1) ?_
   exact ⟨_, [], x3, rfl, rfl, rfl, fun c h => c3 c h⟩
  ·rintro ts A hb hA ⟨⟨x2, h2, c2⟩, ⟨x4, h4, c4⟩, _⟩
   refine ot_buildSlice tk (by decide) rfl rfl rfl rfl rfl rfl (.cons h2 rfl (.cons h4 rfl .nil)) rfl (by decide) ?_
   intro g hg
   exact ⟨_, [_], ⟨g, g, x2.gr, x4.gr, g⟩, rfl, rfl, rfl, hm2 (c2 _ (.head _)) (c4 _ (.head _))⟩
  ·rintro ts A hb hA ⟨⟨x5, h5, c5⟩, _⟩
   refine ot_call_q rfl rfl rfl (by kernel_rfl) (.cons h5 .nil) (fun w1 hs => lists_any _ w1 _ _ _ rfl) ?_
   exact ⟨_, [], x5, rfl, rfl, rfl, fun c h => c5 c h⟩
  ·rintro ts A hb hA ⟨⟨x6, h6, c6⟩, _⟩
   refine ot_call_q (v := .int .i64 20) rfl rfl rfl (by kernel_rfl) (.cons hb.2.2.2.2.2.1 (.cons h6 .nil)) (fun w1 hs => exT_check _ _ _ w1 rfl rfl (hTT hA hs) (nest_two hs rfl rfl c6) (by decide +kernel)) ?_
   exact ⟨_, [], ⟨0, 0, 0, 0, 0⟩, rfl, rfl, rfl, hm0⟩
  ·rintro ts A hb hA -
   refine ot_buildSlice tk (by decide) rfl rfl rfl rfl rfl rfl (pts_of rfl) rfl (by decide) ?_
   intro g hg
   exact ⟨_, [_], ⟨g, g, g, g, g⟩, rfl, rfl, rfl, hm1⟩
  ·rintro ts A hb hA ⟨⟨x9, h9, c9⟩, _⟩
   refine ot_call_q rfl rfl rfl (by kernel_rfl) (.cons h9 .nil) (fun w1 hs => longsV_any _ _ _ w1) ?_
   exact ⟨_, [], x9, rfl, rfl, rfl, fun c h => c9 c h⟩
  ·rintro ts A hb hA ⟨⟨x10, h10, c10⟩, _⟩
   refine ot_buildSlice tk (by decide) rfl rfl rfl rfl rfl rfl (.cons h10 rfl .nil) rfl (by decide) ?_
   intro g hg
   exact ⟨_, [_], ⟨g, g, x10.gr, g, g⟩, rfl, rfl, rfl, hm3 (c10 _ (.head _))⟩
  ·rintro ts A hb hA ⟨⟨x11, h11, c11⟩, _⟩
   refine ot_call_q rfl rfl rfl (by kernel_rfl) (.cons h11 .nil) (fun w1 hs => lists_any _ w1 _ _ _ rfl) ?_
   exact ⟨_, [], x11, rfl, rfl, rfl, fun c h => c11 c h⟩
  ·rintro ts A hb hA ⟨⟨x12, h12, c12⟩, _⟩
   refine ot_call_q (v := .int .i64 15) rfl rfl rfl (by kernel_rfl) (.cons hb.2.2.2.2.2.2.1 (.cons h12 .nil)) (fun w1 hs => exT_check1 _ _ _ w1 rfl (hTT hA hs) (nest_one hs rfl c12) (by decide +kernel)) ?_
   exact ⟨_, [], ⟨0, 0, 0, 0, 0⟩, rfl, rfl, rfl, hm0⟩
  ·rintro ts A hb hA ⟨⟨x7, h7, c7⟩, _⟩
   refine ot_assign rfl rfl rfl h7 ?_
   exact ⟨_, [], ⟨0, 0, 0, 0, 0⟩, rfl, rfl, rfl, hm0⟩
  ·rintro ts A hb hA ⟨⟨x13, h13, c13⟩, _⟩
   refine ot_assign rfl rfl rfl h13 ?_
   exact ⟨_, [], ⟨0, 0, 0, 0, 0⟩, rfl, rfl, rfl, hm0⟩
 intro ts A hb hA hf
 have h6 : look ts 6 = some (.int .i64 20) := (hf 14 (by decide)).elim fun x hx => hx.1
 have h7 : look ts 7 = some (.int .i64 15) := (hf 15 (by decide)).elim fun x hx => hx.1
 refine VStop.mk (tr_weak (l := [(1, .pointer (some ⟨g1, 0, none⟩)), (2, .pointer (some ⟨g2, 0, none⟩)), (3, .pointer (some ⟨g, 0, none⟩)), (4, .int .i64 0), (5, .int .i64 20), (6, .int .i64 20), (7, .int .i64 15)]) (B := A0) ⟨hb.1, hb.2.1, hb.2.2.1, hb.2.2.2.1, hb.2.2.2.2.1, h6, h7, trivial⟩ hA ?_)
 clear hf h6 h7 hb hA
 clear ts A
 have k23 : ∀ {A' w1}, A0.Sublist A' → St w A' w1 → Calls Try.prog 23 #[.agg #[.slice (some ⟨xu.gr, 0, none⟩) 2 2, .slice (some ⟨xu.gc, 0, none⟩) 2 2, .slice (some ⟨xu.gx, 0, none⟩) 2 2]] w1 fun e w' => e = .returned (.tuple #[.slice none 0 0, .int .i64 20]) ∧ Below w1.heap.size w1 w' := fun {A' w1}  hA hs => exU_truth _ _ _ w1 (hTU hA hs)
 have k28U : ∀ {A' w1}, A0.Sublist A' → St w A' w1 → Calls Try.prog 28 #[.agg #[.slice (some ⟨xu.gr, 0, none⟩) 2 2, .slice (some ⟨xu.gc, 0, none⟩) 2 2, .slice (some ⟨xu.gx, 0, none⟩) 2 2], .agg #[.slice (some ⟨ga, 0, none⟩) 1 1, .slice (some ⟨gb, 0, none⟩) 1 1, .int .i64 0]] w1 fun e w' => e = .returned (.tuple #[.int .i64 1, .int .i64 0]) ∧ Below w1.heap.size w1 w' := fun {A' w1}  hA hs => by
  have := checkProof_any _ 2 _ 2 _ 2 _ _ _ w1 (hTU hA hs) vU.fit (some ⟨ga, 0, none⟩) 1 [1] (hs.blk_reads (hA.subset c4) rfl) (by decide) (some ⟨gb, 0, none⟩) 1 [1] (hs.blk_reads (hA.subset c5) rfl) (by decide) 0
  rw [show chkPr (twoR 2 2) twoC twoT [1] [1] 0 = (1, 0) by decide +kernel] at this
  exact this
 have k28T : ∀ {A' w1}, A0.Sublist A' → St w A' w1 → Calls Try.prog 28 #[.agg #[.slice (some ⟨xt.gr, 0, none⟩) 2 2, .slice (some ⟨xt.gc, 0, none⟩) 2 2, .slice (some ⟨xt.gx, 0, none⟩) 2 2], .agg #[.slice (some ⟨ga, 0, none⟩) 1 1, .slice (some ⟨gb, 0, none⟩) 1 1, .int .i64 0]] w1 fun e w' => e = .returned (.tuple #[.int .i64 0, .int .i64 14]) ∧ Below w1.heap.size w1 w' := fun {A' w1}  hA hs => by
  have := checkProof_any _ 2 _ 2 _ 2 _ _ _ w1 (hTT hA hs) vT.fit (some ⟨ga, 0, none⟩) 1 [1] (hs.blk_reads (hA.subset c4) rfl) (by decide) (some ⟨gb, 0, none⟩) 1 [1] (hs.blk_reads (hA.subset c5) rfl) (by decide) 0
  rw [show chkPr (twoR 5 6) twoC twoT [1] [1] 0 = (0, 14) by decide +kernel] at this
  exact this
 have k28V : ∀ {A' w1}, St w A' w1 → A0.Sublist A' → ∀ gn : Nat, .blk gn 3 [.int .i64 2] ∈ A' → Calls Try.prog 28 #[.agg #[.slice (some ⟨xu.gr, 0, none⟩) 2 2, .slice (some ⟨xu.gc, 0, none⟩) 2 2, .slice (some ⟨xu.gx, 0, none⟩) 2 2], .agg #[.slice (some ⟨gn, 0, none⟩) 1 1, .slice none 0 0, .int .i64 0]] w1 fun e w' => e = .returned (.tuple #[.int .i64 0, .int .i64 2]) ∧ Below w1.heap.size w1 w' := fun {A' w1} hs hA gn hgn => by
  have := checkProof_any _ 2 _ 2 _ 2 _ _ _ w1 (hTU hA hs) vU.fit (some ⟨gn, 0, none⟩) 1 [2] (hs.blk_reads hgn rfl) (by decide) none 0 [] ⟨rfl, fun h => absurd h (by decide)⟩ (by decide) 0
  rw [show chkPr (twoR 2 2) twoC twoT [2] [] 0 = (0, 2) by decide +kernel] at this
  exact this
 have k30 : ∀ {A' w1}, A0.Sublist A' → St w A' w1 → Calls Try.prog 30 #[.agg #[.slice (some ⟨xt.gr, 0, none⟩) 2 2, .slice (some ⟨xt.gc, 0, none⟩) 2 2, .slice (some ⟨xt.gx, 0, none⟩) 2 2]] w1 fun e w' => e = .returned (.tuple #[.agg #[.slice none 0 0, .slice none 0 0, .int .i64 0], .int .i64 5]) ∧ Below w1.heap.size w1 w' := fun {A' w1}  hA hs => exT_proof30 _ _ _ w1 (hTT hA hs)
 have kc0 : ∀ {A' w1}, A0.Sublist A' → St w A' w1 → Calls Try.prog 25 #[.agg #[.slice (some ⟨xt.gr, 0, none⟩) 2 2, .slice (some ⟨xt.gc, 0, none⟩) 2 2, .slice (some ⟨xt.gx, 0, none⟩) 2 2], .int .i64 0, .int .i64 0] w1 fun e w' => e = .returned (.tuple #[.agg #[.int .i64 1, .int .i64 3], .int .i64 0]) ∧ Below w1.heap.size w1 w' := fun {A' w1}  hA hs => exT_cell _ _ _ w1 (hTT hA hs) (r := ((1, 3), 0)) ((cellA_ok vT tT_has (i := 0) (k := 0) (by decide) (by decide)).trans (by rw [tC00]))
 have kc1 : ∀ {A' w1}, A0.Sublist A' → St w A' w1 → Calls Try.prog 25 #[.agg #[.slice (some ⟨xt.gr, 0, none⟩) 2 2, .slice (some ⟨xt.gc, 0, none⟩) 2 2, .slice (some ⟨xt.gx, 0, none⟩) 2 2], .int .i64 1, .int .i64 1] w1 fun e w' => e = .returned (.tuple #[.agg #[.int .i64 3, .int .i64 5], .int .i64 0]) ∧ Below w1.heap.size w1 w' := fun {A' w1}  hA hs => exT_cell _ _ _ w1 (hTT hA hs) (r := ((3, 5), 0)) ((cellA_ok vT tT_has (i := 1) (k := 1) (by decide) (by decide)).trans (by rw [tC11]))
 have kc2 : ∀ {A' w1}, A0.Sublist A' → St w A' w1 → Calls Try.prog 25 #[.agg #[.slice (some ⟨xt.gr, 0, none⟩) 2 2, .slice (some ⟨xt.gc, 0, none⟩) 2 2, .slice (some ⟨xt.gx, 0, none⟩) 2 2], .int .i64 0, .int .i64 2] w1 fun e w' => e = .returned (.tuple #[.agg #[.int .i64 0, .int .i64 0], .int .i64 2]) ∧ Below w1.heap.size w1 w' := fun {A' w1}  hA hs => exT_cell _ _ _ w1 (hTT hA hs) (r := ((0, 0), 2)) (by unfold cellA; rw [chk0 vT]; rfl)
 have kr : ∀ {A' w1}, A0.Sublist A' → St w A' w1 → Calls Try.prog 32 #[.agg #[.slice (some ⟨xt.gr, 0, none⟩) 2 2, .slice (some ⟨xt.gc, 0, none⟩) 2 2, .slice (some ⟨xt.gx, 0, none⟩) 2 2], .int .i64 1] w1 fun e w' => e = .returned (.tuple #[.agg #[.int .i64 5, .int .i64 6], .int .i64 0]) ∧ Below w1.heap.size w1 w' := fun {A' w1}  hA hs => exT_row _ _ _ w1 (hTT hA hs) (r := ((5, 6), 0)) ((rowA_ok vT tT_has (i := 1) (by decide)).trans (by rw [tR1]))
 have ka : ∀ {A' w1}, A0.Sublist A' → St w A' w1 → Calls Try.prog 34 #[.agg #[.slice (some ⟨xt.gr, 0, none⟩) 2 2, .slice (some ⟨xt.gc, 0, none⟩) 2 2, .slice (some ⟨xt.gx, 0, none⟩) 2 2]] w1 fun e w' => e = .returned (.tuple #[.agg #[.int .i64 8, .int .i64 9], .int .i64 0]) ∧ Below w1.heap.size w1 w' := fun {A' w1}  hA hs => exT_all _ _ _ w1 (hTT hA hs)
 have km : ∀ {A' w1}, A0.Sublist A' → St w A' w1 → Calls Try.prog 36 #[.agg #[.slice (some ⟨xu.gr, 0, none⟩) 2 2, .slice (some ⟨xu.gc, 0, none⟩) 2 2, .slice (some ⟨xu.gx, 0, none⟩) 2 2], .int .i64 3] w1 fun e w' => e = .returned (.tuple #[.slice none 0 0, .int .i64 20]) ∧ Below w1.heap.size w1 w' := fun {A' w1}  hA hs => exU_more _ _ _ w1 (hTU hA hs)
 refine tr_seqK ?_
 (apply tr_v tk; (conv => whnf); (repeat ((apply VLdN.mk; (first | exact cells_blk_all (((by (repeat (first | exact sl0 _ | exact sl1 _ | refine sl2 _ ?_ | refine sl3 _ ?_)) : List.Sublist A0 _)).subset c1)); exact rfl); (conv => whnf))); apply VCall.stop)
 refine ot_callC (X := Nu2) (us := []) (vs := []) (fun x => .tuple #[.slice x.x.1 2 x.x.2, .int .i64 0]) (nu2Ch [1, 2] [1, 4]) (fun _ => True) nu2_mut (by decide) rfl rfl rfl rfl (by kernel_rfl) (evl_of rfl) rfl (fun w1 hs => exT_truth _ _ _ w1 (hTT (by (repeat (first | exact sl0 _ | exact sl1 _ | refine sl2 _ ?_ | refine sl3 _ ?_))) hs)) (fun y hy => ?_)
 dsimp only [nu2Ch, ta2Ch, ta2V, pfV, pfCh, proofV, List.cons_append, List.nil_append]
 apply ot_v tk
 ((conv => whnf); apply VStop.mk)
 refine tr_seqK ?_
 (apply tr_v tk; (conv => whnf); (repeat ((first | (apply VLdN.mk; (first | exact cells_blk_all (((by (repeat (first | exact sl0 _ | exact sl1 _ | refine sl2 _ ?_ | refine sl3 _ ?_)) : List.Sublist A0 _)).subset c2)); exact rfl) | (apply VCall.q; kernel_rfl; (focus (intro w1 hs; first | with_reducible apply k23 (by (repeat (first | exact sl0 _ | exact sl1 _ | refine sl2 _ ?_ | refine sl3 _ ?_))) hs)))); (conv => whnf))); apply VStop.mk)
 refine tr_seqK ?_
 (apply tr_v tk; (conv => whnf); (repeat ((first | (apply VLdN.mk; (first | exact cells_blk_all (((by (repeat (first | exact sl0 _ | exact sl1 _ | refine sl2 _ ?_ | refine sl3 _ ?_)) : List.Sublist A0 _)).subset c2)); exact rfl) | (apply VLdN.mk; (first | exact cells_blk_all (((by (repeat (first | exact sl0 _ | exact sl1 _ | refine sl2 _ ?_ | refine sl3 _ ?_)) : List.Sublist A0 _)).subset c3)); exact rfl) | (apply VCall.q; kernel_rfl; (focus (intro w1 hs; first | with_reducible apply k28U (by (repeat (first | exact sl0 _ | exact sl1 _ | refine sl2 _ ?_ | refine sl3 _ ?_))) hs)))); (conv => whnf))); apply VStop.mk)
 refine tr_seqK ?_
 (apply tr_v tk; (conv => whnf); (repeat ((first | (apply VLdN.mk; (first | exact cells_blk_all (((by (repeat (first | exact sl0 _ | exact sl1 _ | refine sl2 _ ?_ | refine sl3 _ ?_)) : List.Sublist A0 _)).subset c1)); exact rfl) | (apply VLdN.mk; (first | exact cells_blk_all (((by (repeat (first | exact sl0 _ | exact sl1 _ | refine sl2 _ ?_ | refine sl3 _ ?_)) : List.Sublist A0 _)).subset c3)); exact rfl) | (apply VCall.q; kernel_rfl; (focus (intro w1 hs; first | with_reducible apply k28T (by (repeat (first | exact sl0 _ | exact sl1 _ | refine sl2 _ ?_ | refine sl3 _ ?_))) hs)))); (conv => whnf))); apply VStop.mk)
 refine tr_seqK ?_
 (apply tr_v tk; (conv => whnf); (repeat ((first | ((first | apply VStop.mk | apply VCall.stop); refine tr_region_lex (id := 9) (by kernel_rfl) [.rd, .cr, .cr, .rd, .cr, .rd, .rd, .rd, .rd, .rd] rfl (by kernel_rfl) ?_; apply ot_v tk) | (apply VLdN.mk; (first | exact cells_blk_all (((by (repeat (first | exact sl0 _ | exact sl1 _ | refine sl2 _ ?_ | refine sl3 _ ?_)) : List.Sublist A0 _)).subset c2)); exact rfl) | (apply VCall.q; kernel_rfl; (focus (intro w1 hs; first | with_reducible apply of_any _ _ _ w1 | with_reducible apply k28V hs (by (repeat (first | exact sl0 _ | exact sl1 _ | refine sl2 _ ?_ | refine sl3 _ ?_))) _ List.mem_cons_self))) | (apply VNew.mk; intro g hg)); (conv => whnf))); apply VStop.mk)
 refine tr_seqK ?_
 (apply tr_v tk; (conv => whnf); (repeat ((first | (apply VLdN.mk; (first | exact cells_blk_all (((by (repeat (first | exact sl0 _ | exact sl1 _ | refine sl2 _ ?_ | refine sl3 _ ?_)) : List.Sublist A0 _)).subset c1)); exact rfl) | (apply VCall.q; kernel_rfl; (focus (intro w1 hs; first | with_reducible apply k30 (by (repeat (first | exact sl0 _ | exact sl1 _ | refine sl2 _ ?_ | refine sl3 _ ?_))) hs))) | (apply VNew.mk; intro g hg) | (apply VSt.mk; (focus ((repeat (first | (with_reducible exact At.here) | (with_reducible apply At.there))); done)); exact rfl)); (conv => whnf))); apply VStop.mk)
 revert g hg
 intro g18 hg18
 refine tr_seqK ?_
 (apply tr_v tk; (conv => whnf); (repeat ((apply VLdN.mk; (first | exact cells_blk_all (((by (repeat (first | exact sl0 _ | exact sl1 _ | refine sl2 _ ?_ | refine sl3 _ ?_)) : List.Sublist A0 _)).subset c2)); exact rfl); (conv => whnf))); apply VCall.stop)
 refine ot_callC (X := PfQ) (us := []) (vs := []) (fun x => .tuple #[pfV x, .int .i64 0]) (pfCh) (PfGood (twoR 2 2) twoC twoT) (fun x => pfCh_mut) (by decide) rfl rfl rfl rfl (by kernel_rfl) (evl_of rfl) rfl (fun w1 hs => proof30_no _ 2 _ 2 _ 2 _ _ _ w1 (hTU (by (repeat (first | exact sl0 _ | exact sl1 _ | refine sl2 _ ?_ | refine sl3 _ ?_))) hs) vU uT_no) (fun q hq => ?_)
 dsimp only [nu2Ch, ta2Ch, ta2V, pfV, pfCh, proofV, List.cons_append, List.nil_append]
 apply ot_v tk
 ((conv => whnf); (repeat ((first | (apply VNew.mk; intro g hg) | (apply VSt.mk; (focus ((repeat (first | (with_reducible exact At.here) | (with_reducible apply At.there))); done)); exact rfl)); (conv => whnf))); apply VStop.mk)
 revert g hg
 intro g20 hg20
 refine tr_seqK ?_
 (apply tr_v tk; (conv => whnf); (repeat ((first | (apply VLdN.mk; (first | exact cells_blk_all (((by (repeat (first | exact sl0 _ | exact sl1 _ | refine sl2 _ ?_ | refine sl3 _ ?_)) : List.Sublist A0 _)).subset c1)); exact rfl) | (apply VCall.q; kernel_rfl; (focus (intro w1 hs; first | with_reducible apply kc0 (by (repeat (first | exact sl0 _ | exact sl1 _ | refine sl2 _ ?_ | refine sl3 _ ?_))) hs))) | (apply VNew.mk; intro g hg) | (apply VSt.mk; (focus ((repeat (first | (with_reducible exact At.here) | (with_reducible apply At.there))); done)); exact rfl)); (conv => whnf))); apply VStop.mk)
 revert g hg
 intro a ha
 refine tr_seqK ?_
 (apply tr_v tk; (conv => whnf); (repeat ((first | (apply VLdN.mk; (first | exact cells_blk_all (((by (repeat (first | exact sl0 _ | exact sl1 _ | refine sl2 _ ?_ | refine sl3 _ ?_)) : List.Sublist A0 _)).subset c1)); exact rfl) | (apply VCall.q; kernel_rfl; (focus (intro w1 hs; first | with_reducible apply kc1 (by (repeat (first | exact sl0 _ | exact sl1 _ | refine sl2 _ ?_ | refine sl3 _ ?_))) hs))) | (apply VNew.mk; intro g hg) | (apply VSt.mk; (focus ((repeat (first | (with_reducible exact At.here) | (with_reducible apply At.there))); done)); exact rfl)); (conv => whnf))); apply VStop.mk)
 revert g hg
 intro b hb
 refine tr_seqK ?_
 (apply tr_v tk; (conv => whnf); (repeat ((first | (apply VLdN.mk; (first | exact cells_blk_all (((by (repeat (first | exact sl0 _ | exact sl1 _ | refine sl2 _ ?_ | refine sl3 _ ?_)) : List.Sublist A0 _)).subset c1)); exact rfl) | (apply VCall.q; kernel_rfl; (focus (intro w1 hs; first | with_reducible apply kc2 (by (repeat (first | exact sl0 _ | exact sl1 _ | refine sl2 _ ?_ | refine sl3 _ ?_))) hs))) | (apply VNew.mk; intro g hg) | (apply VSt.mk; (focus ((repeat (first | (with_reducible exact At.here) | (with_reducible apply At.there))); done)); exact rfl)); (conv => whnf))); apply VStop.mk)
 revert g hg
 intro g26 hg26
 refine tr_seqK ?_
 (apply tr_v tk; (conv => whnf); (repeat ((first | (apply VLdN.mk; (first | exact cells_blk_all (((by (repeat (first | exact sl0 _ | exact sl1 _ | refine sl2 _ ?_ | refine sl3 _ ?_)) : List.Sublist A0 _)).subset c1)); exact rfl) | (apply VCall.q; kernel_rfl; (focus (intro w1 hs; first | with_reducible apply kr (by (repeat (first | exact sl0 _ | exact sl1 _ | refine sl2 _ ?_ | refine sl3 _ ?_))) hs))) | (apply VNew.mk; intro g hg) | (apply VSt.mk; (focus ((repeat (first | (with_reducible exact At.here) | (with_reducible apply At.there))); done)); exact rfl)); (conv => whnf))); apply VStop.mk)
 revert g hg
 intro r hr
 refine tr_seqK ?_
 (apply tr_v tk; (conv => whnf); (repeat ((first | (apply VLdN.mk; (first | exact cells_blk_all (((by (repeat (first | exact sl0 _ | exact sl1 _ | refine sl2 _ ?_ | refine sl3 _ ?_)) : List.Sublist A0 _)).subset c1)); exact rfl) | (apply VCall.q; kernel_rfl; (focus (intro w1 hs; first | with_reducible apply ka (by (repeat (first | exact sl0 _ | exact sl1 _ | refine sl2 _ ?_ | refine sl3 _ ?_))) hs))) | (apply VNew.mk; intro g hg) | (apply VSt.mk; (focus ((repeat (first | (with_reducible exact At.here) | (with_reducible apply At.there))); done)); exact rfl)); (conv => whnf))); apply VStop.mk)
 revert g hg
 intro l hl
 refine tr_seqK ?_
 (apply tr_v tk; (conv => whnf); (repeat ((apply VLdN.mk; (first | exact cells_blk_all (((by (repeat (first | exact sl0 _ | exact sl1 _ | refine sl2 _ ?_ | refine sl3 _ ?_)) : List.Sublist A0 _)).subset c1)); exact rfl); (conv => whnf))); apply VCall.stop)
 refine ot_callC (X := SlX) (us := []) (vs := []) (fun x => .tuple #[.slice x.B 2 x.c, .int .i64 0]) (fun x => [.own (.slice x.B 2 x.c) 3 1 2 (i64s [1, 2])]) (fun _ => True) (fun x => mut_one rfl) (by decide) rfl rfl rfl rfl (by kernel_rfl) (evl_of rfl) rfl (fun w1 hs => exT_more _ _ _ w1 (hTT (by (repeat (first | exact sl0 _ | exact sl1 _ | refine sl2 _ ?_ | refine sl3 _ ?_))) hs) (by decide)) (fun m3 hm3 => ?_)
 dsimp only [nu2Ch, ta2Ch, ta2V, pfV, pfCh, proofV, List.cons_append, List.nil_append]
 apply ot_v tk
 ((conv => whnf); apply VStop.mk)
 refine tr_seqK ?_
 (apply tr_v tk; (conv => whnf); (repeat ((apply VLdN.mk; (first | exact cells_blk_all (((by (repeat (first | exact sl0 _ | exact sl1 _ | refine sl2 _ ?_ | refine sl3 _ ?_)) : List.Sublist A0 _)).subset c1)); exact rfl); (conv => whnf))); apply VCall.stop)
 refine ot_callC (X := SlX) (us := []) (vs := []) (fun x => .tuple #[.slice x.B 2 x.c, .int .i64 0]) (fun x => [.own (.slice x.B 2 x.c) 3 1 2 (i64s [0, 1])]) (fun _ => True) (fun x => mut_one rfl) (by decide) rfl rfl rfl rfl (by kernel_rfl) (evl_of rfl) rfl (fun w1 hs => exT_more _ _ _ w1 (hTT (by (repeat (first | exact sl0 _ | exact sl1 _ | refine sl2 _ ?_ | refine sl3 _ ?_))) hs) (by decide)) (fun m5 hm5 => ?_)
 dsimp only [nu2Ch, ta2Ch, ta2V, pfV, pfCh, proofV, List.cons_append, List.nil_append]
 apply ot_v tk
 ((conv => whnf); apply VStop.mk)
 refine tr_seqK ?_
 (apply tr_v tk; (conv => whnf); (repeat ((first | (apply VLdN.mk; (first | exact cells_blk_all (((by (repeat (first | exact sl0 _ | exact sl1 _ | refine sl2 _ ?_ | refine sl3 _ ?_)) : List.Sublist A0 _)).subset c2)); exact rfl) | (apply VCall.q; kernel_rfl; (focus (intro w1 hs; first | with_reducible apply km (by (repeat (first | exact sl0 _ | exact sl1 _ | refine sl2 _ ?_ | refine sl3 _ ?_))) hs)))); (conv => whnf))); apply VStop.mk)
 refine tr_seqK ?_
 (apply tr_v tk; (conv => whnf); (repeat ((apply VLdN.mk; (first | exact cells_blk_all (((by (repeat (first | exact sl0 _ | exact sl1 _ | refine sl2 _ ?_ | refine sl3 _ ?_)) : List.Sublist A0 _)).subset c1)); exact rfl); (conv => whnf))); apply VCall.stop)
 refine ot_callC (X := Ta2) (us := []) (vs := []) (fun x => .tuple #[ta2V x, .int .i64 0]) (ta2Ch [(3, 4), (5, 6)] [(2, 3), (5, 6)] [(1, 3), (1, 2)] [(0, 2), (3, 5)]) (fun _ => True) ta2_mut (by decide) rfl rfl rfl rfl (by kernel_rfl) (evl_of rfl) rfl (fun w1 hs => exT_narrow _ _ _ w1 (hTT (by (repeat (first | exact sl0 _ | exact sl1 _ | refine sl2 _ ?_ | refine sl3 _ ?_))) hs)) (fun tw htw => ?_)
 dsimp only [nu2Ch, ta2Ch, ta2V, pfV, pfCh, proofV, List.cons_append, List.nil_append]
 apply ot_v tk
 ((conv => whnf); (repeat ((first | (apply VNew.mk; intro g hg) | (apply VSt.mk; (focus ((repeat (first | (with_reducible exact At.here) | (with_reducible apply At.there))); done)); exact rfl)); (conv => whnf))); apply VStop.mk)
 revert g hg
 intro wq hwq
 refine tr_seqK ?_
 (apply tr_v tk; (conv => whnf); (repeat ((first | apply VBr.f | (apply v_f; omega)); (conv => whnf))); apply VStop.mk)
 obtain ⟨kq, hkq, ekq⟩ : ∃ kq, 0 < kq ∧ shP (twoR 2 2) twoC twoT q.P q.Q q.side = kq := ⟨_, hq.pos, rfl⟩
 have k29 : ∀ {A' w1}, St w A' w1 → A0.Sublist A' → .own (.slice q.B1 q.P.length q.c1) 3 1 q.P.length (i64s q.P) ∈ A' → .own (.slice q.B2 q.Q.length q.c2) 3 1 q.Q.length (i64s q.Q) ∈ A' → Calls Try.prog 29 #[.agg #[.slice (some ⟨xu.gr, 0, none⟩) 2 2, .slice (some ⟨xu.gc, 0, none⟩) 2 2, .slice (some ⟨xu.gx, 0, none⟩) 2 2], .agg #[.slice q.B1 q.P.length q.c1, .slice q.B2 q.Q.length q.c2, .int .i64 q.side]] w1 fun e w' => e = .returned (.tuple #[.int .i64 kq, .int .i64 0]) ∧ Below w1.heap.size w1 w' := fun {A' w1} hs hA h1 h2 => by
  have := refProof_any _ 2 _ 2 _ 2 _ _ _ w1 (hTU hA hs) vU.fit q.B1 q.c1 q.P (hs.own_rd h1) (by have := hq.p4; omega) q.B2 q.c2 q.Q (hs.own_rd h2) (by have := hq.q4; omega) q.side
  rw [chkPr_ok vU hq.ok, if_neg (by have := hq.pos; omega), ekq] at this
  exact this
 refine tr_seqK ?_
 (apply tr_v tk; (conv => whnf); (repeat ((first | (apply VLdN.mk; (first | exact cells_blk_all (((by (repeat (first | exact sl0 _ | exact sl1 _ | refine sl2 _ ?_ | refine sl3 _ ?_)) : List.Sublist A0 _)).subset c2)); exact rfl) | (apply VLdN.mk; (focus ((repeat (first | (with_reducible apply ldn_blk) | (with_reducible apply ldn_skip))); done)); exact rfl)); (conv => whnf))); apply VCall.stop)
 refine ot_call_q rfl rfl rfl (by kernel_rfl) (evl_of rfl) (fun w1 hs => k29 hs (by (repeat (first | exact sl0 _ | exact sl1 _ | refine sl2 _ ?_ | refine sl3 _ ?_))) (by (repeat (first | exact List.Mem.head _ | assumption | refine List.Mem.tail _ ?_))) (by (repeat (first | exact List.Mem.head _ | assumption | refine List.Mem.tail _ ?_)))) ?_
 apply ot_v tk
 ((conv => whnf); apply VStop.mk)
 refine tr_seqK ?_
 refine tr_nameA2 ?_
 intro A1 hA1
 have m_a : .blk a 37 [.int .i64 1, .int .i64 3] ∈ A1 := by rw [hA1]; (repeat (first | exact List.Mem.head _ | assumption | refine List.Mem.tail _ ?_))
 have m_b : .blk b 37 [.int .i64 3, .int .i64 5] ∈ A1 := by rw [hA1]; (repeat (first | exact List.Mem.head _ | assumption | refine List.Mem.tail _ ?_))
 have m_r : .blk r 37 [.int .i64 5, .int .i64 6] ∈ A1 := by rw [hA1]; (repeat (first | exact List.Mem.head _ | assumption | refine List.Mem.tail _ ?_))
 have m_l : .blk l 37 [.int .i64 8, .int .i64 9] ∈ A1 := by rw [hA1]; (repeat (first | exact List.Mem.head _ | assumption | refine List.Mem.tail _ ?_))
 have m_w : .blk wq 25 [.slice tw.r.1 2 tw.r.2, .slice tw.c.1 2 tw.c.2, .slice tw.x.1 2 tw.x.2] ∈ A1 := by rw [hA1]; (repeat (first | exact List.Mem.head _ | assumption | refine List.Mem.tail _ ?_))
 have m_3 : .own (.slice m3.B 2 m3.c) 3 1 2 (i64s [1, 2]) ∈ A1 := by rw [hA1]; (repeat (first | exact List.Mem.head _ | assumption | refine List.Mem.tail _ ?_))
 have m_5 : .own (.slice m5.B 2 m5.c) 3 1 2 (i64s [0, 1]) ∈ A1 := by rw [hA1]; (repeat (first | exact List.Mem.head _ | assumption | refine List.Mem.tail _ ?_))
 have hAy : ∀ d ∈ nu2Ch [1, 2] [1, 4] y, d ∈ A1 := fun d hd => by
  unfold nu2Ch at hd
  simp only [List.mem_cons, List.not_mem_nil, or_false] at hd
  rw [hA1]
  rcases hd with rfl | rfl | rfl <;> (repeat (first | exact List.Mem.head _ | assumption | refine List.Mem.tail _ ?_))
 have hAw : ∀ d ∈ ta2Ch [(3, 4), (5, 6)] [(2, 3), (5, 6)] [(1, 3), (1, 2)] [(0, 2), (3, 5)] tw, d ∈ A1 := fun d hd => by
  unfold ta2Ch at hd
  simp only [List.mem_cons, List.not_mem_nil, or_false] at hd
  rw [hA1]
  rcases hd with rfl | rfl | rfl | rfl | rfl <;> (repeat (first | exact List.Mem.head _ | assumption | refine List.Mem.tail _ ?_))
 have hNy : ∀ {A' w1}, A1.Sublist A' → St w A' w1 → NestR w1 1 y.x.1 (nestI [[1, 2], [1, 4]]) := fun hA hs => nu2_nest hs rfl rfl y fun d hd => hA.subset (hAy d hd)
 have hTw : ∀ {A' w1}, A1.Sublist A' → St w A' w1 → TabR w1 tw.r.1 tw.c.1 tw.x.1 [(3, 4), (5, 6)] [(2, 3), (5, 6)] [[(1, 3), (1, 2)], [(0, 2), (3, 5)]] := fun hA hs => ta2_tab hs rfl rfl rfl rfl tw fun d hd => hA.subset (hAw d hd)
 have hI_m3 : ∀ {A' w1}, A1.Sublist A' → St w A' w1 → Reads w1 w1.heap.size 1 m3.B 2 (i64s [1, 2]) := fun hA hs => hs.own_rd (hA.subset m_3)
 have hI_m5 : ∀ {A' w1}, A1.Sublist A' → St w A' w1 → Reads w1 w1.heap.size 1 m5.B 2 (i64s [0, 1]) := fun hA hs => hs.own_rd (hA.subset m_5)
 clear hA1
 refine tr_region_factsX (id := 24) (by kernel_rfl) A1 (by (repeat (first | exact sl0 _ | exact sl1 _ | refine sl2 _ ?_ | refine sl3 _ ?_))) [0] [1, 2, 3, 4, 5, 6, 7, 8, 9, 10, 11, 12, 13, 14, 15, 16, 17, 18, 19, 20, 21, 22, 23, 24, 25, 26, 27, 28, 29, 30, 31, 32, 33, 34, 35, 36, 37, 38, 39, 40, 41, 42, 43, 44, 45, 46, 47, 48, 49, 50, 51, 52, 53, 54, 55, 56, 57, 58, 59, 60, 61, 62, 63, 64, 65, 66, 67, 68, 69, 70, 71, 72, 73, 74] [.rd] (fun i => [.wr, .cr, .cr, .cr, .cr, .cr, .cr, .cr, .wr, .wr, .wr, .wr, .wr, .wr, .wr, .wr, .wr, .wr, .wr, .wr, .wr, .wr, .cr, .wr, .wr, .wr, .wr, .cr, .wr, .wr, .wr, .wr, .cr, .wr, .wr, .wr, .wr, .cr, .wr, .wr, .wr, .wr, .cr, .cr, .cr, .wr, .wr, .wr, .cr, .cr, .cr, .wr, .wr, .wr, .cr, .cr, .cr, .cr, .cr, .cr, .cr, .cr, .cr, .cr, .cr, .cr, .cr, .cr, .cr, .cr, .cr, .cr, .cr, .wr, .wr].getD i .wr) _ rfl rfl (by kernel_rfl) (by kernel_rfl) (by kernel_rfl) (fun i => [250, 251, 252, 253, 254, 255, 256, 257, 258, 259, 260, 261, 262, 263, 264, 265, 266, 267, 268, 269, 270, 271, 272, 273, 274, 275, 276, 277, 278, 279, 280, 281, 282, 283, 284, 285, 286, 287, 288, 289, 290, 291, 292, 293, 294, 295, 296, 297, 298, 299, 300, 301, 302, 303, 304, 305, 306, 307, 308, 309, 310, 311, 312, 313, 314, 315, 316, 317, 318, 319, 320, 321, 322, 323, 0].getD i 0) ([(250, .slice y.x.1 2 y.x.2), (12, .int .i64 1), (41, .int .i64 0), (40, .int .i64 kq), (22, .pointer (some ⟨a, 0, none⟩)), (24, .pointer (some ⟨b, 0, none⟩)), (28, .pointer (some ⟨r, 0, none⟩)), (30, .pointer (some ⟨l, 0, none⟩)), (32, .slice m3.B 2 m3.c), (34, .slice m5.B 2 m5.c), (38, .pointer (some ⟨wq, 0, none⟩))]) (fA24 kq m3 m5 tw) (by kernel_rfl) ?_ ?_ ?_
 ·(apply ot_v tk; (conv => whnf))
  exact ⟨rfl, rfl, rfl, rfl, rfl, rfl, rfl, rfl, rfl, rfl, rfl, trivial⟩
 ·refine ⟨?_, ?_, ?_, ?_, ?_, ?_, ?_, ?_, ?_, ?_, ?_, ?_, ?_, ?_, ?_, ?_, ?_, ?_, ?_, ?_, ?_, ?_, ?_, ?_, ?_, ?_, ?_, ?_, ?_, ?_, ?_, ?_, ?_, ?_, ?_, ?_, ?_, ?_, ?_, ?_, ?_, ?_, ?_, ?_, ?_, ?_, ?_, ?_, ?_, ?_, ?_, ?_, ?_, ?_, ?_, ?_, ?_, ?_, ?_, ?_, ?_, ?_, ?_, ?_, ?_, ?_, ?_, ?_, ?_, ?_, ?_, ?_, ?_, ?_, trivial⟩
  ·rintro ts A hb hA -
   refine ot_buildSlice tk (by decide) rfl rfl rfl rfl rfl rfl (pts_of rfl) rfl (by decide) ?_
   intro g hg
   exact ⟨_, [_], ⟨g, g, g, g, g⟩, rfl, rfl, rfl, hm1⟩
  ·rintro ts A hb hA ⟨⟨x1, h1, c1⟩, _⟩
   refine ot_call_q rfl rfl rfl (by kernel_rfl) (.cons h1 .nil) (fun w1 hs => longsV_any _ _ _ w1) ?_
   exact ⟨_, [], x1, rfl, rfl, rfl, fun c h => c1 c h⟩
  ·rintro ts A hb hA -
   refine ot_buildSlice tk (by decide) rfl rfl rfl rfl rfl rfl (pts_of rfl) rfl (by decide) ?_
   intro g hg
   exact ⟨_, [_], ⟨g, g, g, g, g⟩, rfl, rfl, rfl, hm1⟩
  ·rintro ts A hb hA ⟨⟨x3, h3, c3⟩, _⟩
   refine ot_call_q rfl rfl rfl (by kernel_rfl) (.cons h3 .nil) (fun w1 hs => longsV_any _ _ _ w1) ?_
   exact ⟨_, [], x3, rfl, rfl, rfl, fun c h => c3 c h⟩
  ·rintro ts A hb hA ⟨⟨x2, h2, c2⟩, ⟨x4, h4, c4⟩, _⟩
   refine ot_buildSlice tk (by decide) rfl rfl rfl rfl rfl rfl (.cons h2 rfl (.cons h4 rfl .nil)) rfl (by decide) ?_
   intro g hg
   exact ⟨_, [_], ⟨g, g, x2.gr, x4.gr, g⟩, rfl, rfl, rfl, hm2 (c2 _ (.head _)) (c4 _ (.head _))⟩
  ·rintro ts A hb hA ⟨⟨x5, h5, c5⟩, _⟩
   refine ot_call_q rfl rfl rfl (by kernel_rfl) (.cons h5 .nil) (fun w1 hs => lists_any _ w1 _ _ _ rfl) ?_
   exact ⟨_, [], x5, rfl, rfl, rfl, fun c h => c5 c h⟩
  ·rintro ts A hb hA ⟨⟨x6, h6, c6⟩, _⟩
   refine ot_call_q (v := .bool true) rfl rfl rfl (by kernel_rfl) (.cons hb.1 (.cons h6 .nil)) (fun w1 hs => longs_any _ _ _ _ [[1, 2], [1, 4]] w1 (hNy hA hs) (nest_two hs rfl rfl c6) (by decide) (by decide)) ?_
   exact ⟨_, [], ⟨0, 0, 0, 0, 0⟩, rfl, rfl, rfl, hm0⟩
  ·rintro ts A hb hA ⟨⟨x7, h7, c7⟩, _⟩
   refine ot_move rfl rfl rfl h7 ?_
   exact ⟨_, [], ⟨0, 0, 0, 0, 0⟩, rfl, rfl, rfl, hm0⟩
  ·rintro ts A hb hA ⟨⟨x8, h8, c8⟩, _⟩
   refine ot_move rfl rfl (wantB_g rfl rfl rfl h8) hb.2.1 ?_
   exact ⟨_, [], ⟨0, 0, 0, 0, 0⟩, rfl, rfl, rfl, hm0⟩
  ·rintro ts A hb hA ⟨⟨x9, h9, c9⟩, ⟨x8, h8, c8⟩, _⟩
   refine ot_eql rfl rfl (wantB_g rfl rfl rfl h8) h9 rfl true (by decide) ?_
   exact ⟨_, [], ⟨0, 0, 0, 0, 0⟩, rfl, rfl, rfl, hm0⟩
  ·rintro ts A hb hA ⟨⟨x8, h8, c8⟩, ⟨x10, h10, c10⟩, _⟩
   refine ot_pick_t rfl rfl rfl h8 h10 ?_
   exact ⟨_, [], ⟨0, 0, 0, 0, 0⟩, rfl, rfl, rfl, hm0⟩
  ·rintro ts A hb hA ⟨⟨x11, h11, c11⟩, _⟩
   refine ot_move rfl rfl rfl h11 ?_
   exact ⟨_, [], ⟨0, 0, 0, 0, 0⟩, rfl, rfl, rfl, hm0⟩
  ·rintro ts A hb hA ⟨⟨x12, h12, c12⟩, _⟩
   refine ot_move rfl rfl (wantB_g rfl rfl rfl h12) hb.2.2.1 ?_
   exact ⟨_, [], ⟨0, 0, 0, 0, 0⟩, rfl, rfl, rfl, hm0⟩
  ·rintro ts A hb hA ⟨⟨x13, h13, c13⟩, ⟨x12, h12, c12⟩, _⟩
   refine ot_eql rfl rfl (wantB_g rfl rfl rfl h12) h13 rfl true (by decide) ?_
   exact ⟨_, [], ⟨0, 0, 0, 0, 0⟩, rfl, rfl, rfl, hm0⟩
  ·rintro ts A hb hA ⟨⟨x12, h12, c12⟩, ⟨x14, h14, c14⟩, _⟩
   refine ot_pick_t rfl rfl rfl h12 h14 ?_
   exact ⟨_, [], ⟨0, 0, 0, 0, 0⟩, rfl, rfl, rfl, hm0⟩
  ·rintro ts A hb hA ⟨⟨x15, h15, c15⟩, _⟩
   refine ot_move rfl rfl rfl h15 ?_
   exact ⟨_, [], ⟨0, 0, 0, 0, 0⟩, rfl, rfl, rfl, hm0⟩
  ·rintro ts A hb hA ⟨⟨x16, h16, c16⟩, _⟩
   refine ot_move rfl rfl (wantB_g rfl rfl rfl h16) hb.2.2.2.1 ?_
   exact ⟨_, [], ⟨0, 0, 0, 0, 0⟩, rfl, rfl, rfl, hm0⟩
  ·rintro ts A hb hA ⟨⟨x17, h17, c17⟩, ⟨x16, h16, c16⟩, _⟩
   refine ot_gtr rfl rfl (wantB_g rfl rfl rfl h16) h17 rfl true (decide_eq_true hkq) ?_
   exact ⟨_, [], ⟨0, 0, 0, 0, 0⟩, rfl, rfl, rfl, hm0⟩
  ·rintro ts A hb hA ⟨⟨x16, h16, c16⟩, ⟨x18, h18, c18⟩, _⟩
   refine ot_pick_t rfl rfl rfl h16 h18 ?_
   exact ⟨_, [], ⟨0, 0, 0, 0, 0⟩, rfl, rfl, rfl, hm0⟩
  ·rintro ts A hb hA ⟨⟨x19, h19, c19⟩, _⟩
   refine ot_move rfl rfl rfl h19 ?_
   exact ⟨_, [], ⟨0, 0, 0, 0, 0⟩, rfl, rfl, rfl, hm0⟩
  ·rintro ts A hb hA ⟨⟨x20, h20, c20⟩, _⟩
   refine ot_loadN tk rfl rfl (wantB_g rfl rfl rfl h20) hb.2.2.2.2.1 rfl rfl (cells_blk_all (hA.subset m_a)) rfl ?_
   exact ⟨_, [], ⟨0, 0, 0, 0, 0⟩, rfl, rfl, rfl, hm0⟩
  ·rintro ts A hb hA ⟨⟨x20, h20, c20⟩, _⟩
   refine ot_call_q (v := .agg #[.int .i64 1, .int .i64 3]) rfl rfl (wantB_g rfl rfl rfl h20) (by kernel_rfl) (.cons rfl (.cons rfl .nil)) (fun w1 hs => to_any _ _ w1) ?_
   exact ⟨_, [], ⟨0, 0, 0, 0, 0⟩, rfl, rfl, rfl, hm0⟩
  ·rintro ts A hb hA ⟨⟨x21, h21, c21⟩, ⟨x22, h22, c22⟩, ⟨x20, h20, c20⟩, _⟩
   refine ot_eqls true rfl rfl (wantB_g rfl rfl rfl h20) h21 h22 (by kernel_rfl) (fun w => rng_same _ _ w) ?_
   exact ⟨_, [], ⟨0, 0, 0, 0, 0⟩, rfl, rfl, rfl, hm0⟩
  ·rintro ts A hb hA ⟨⟨x20, h20, c20⟩, ⟨x23, h23, c23⟩, _⟩
   refine ot_pick_t rfl rfl rfl h20 h23 ?_
   exact ⟨_, [], ⟨0, 0, 0, 0, 0⟩, rfl, rfl, rfl, hm0⟩
  ·rintro ts A hb hA ⟨⟨x24, h24, c24⟩, _⟩
   refine ot_move rfl rfl rfl h24 ?_
   exact ⟨_, [], ⟨0, 0, 0, 0, 0⟩, rfl, rfl, rfl, hm0⟩
  ·rintro ts A hb hA ⟨⟨x25, h25, c25⟩, _⟩
   refine ot_loadN tk rfl rfl (wantB_g rfl rfl rfl h25) hb.2.2.2.2.2.1 rfl rfl (cells_blk_all (hA.subset m_b)) rfl ?_
   exact ⟨_, [], ⟨0, 0, 0, 0, 0⟩, rfl, rfl, rfl, hm0⟩
  ·rintro ts A hb hA ⟨⟨x25, h25, c25⟩, _⟩
   refine ot_call_q (v := .agg #[.int .i64 3, .int .i64 5]) rfl rfl (wantB_g rfl rfl rfl h25) (by kernel_rfl) (.cons rfl (.cons rfl .nil)) (fun w1 hs => to_any _ _ w1) ?_
   exact ⟨_, [], ⟨0, 0, 0, 0, 0⟩, rfl, rfl, rfl, hm0⟩
  ·rintro ts A hb hA ⟨⟨x26, h26, c26⟩, ⟨x27, h27, c27⟩, ⟨x25, h25, c25⟩, _⟩
   refine ot_eqls true rfl rfl (wantB_g rfl rfl rfl h25) h26 h27 (by kernel_rfl) (fun w => rng_same _ _ w) ?_
   exact ⟨_, [], ⟨0, 0, 0, 0, 0⟩, rfl, rfl, rfl, hm0⟩
  ·rintro ts A hb hA ⟨⟨x25, h25, c25⟩, ⟨x28, h28, c28⟩, _⟩
   refine ot_pick_t rfl rfl rfl h25 h28 ?_
   exact ⟨_, [], ⟨0, 0, 0, 0, 0⟩, rfl, rfl, rfl, hm0⟩
  ·rintro ts A hb hA ⟨⟨x29, h29, c29⟩, _⟩
   refine ot_move rfl rfl rfl h29 ?_
   exact ⟨_, [], ⟨0, 0, 0, 0, 0⟩, rfl, rfl, rfl, hm0⟩
  ·rintro ts A hb hA ⟨⟨x30, h30, c30⟩, _⟩
   refine ot_loadN tk rfl rfl (wantB_g rfl rfl rfl h30) hb.2.2.2.2.2.2.1 rfl rfl (cells_blk_all (hA.subset m_r)) rfl ?_
   exact ⟨_, [], ⟨0, 0, 0, 0, 0⟩, rfl, rfl, rfl, hm0⟩
  ·rintro ts A hb hA ⟨⟨x30, h30, c30⟩, _⟩
   refine ot_call_q (v := .agg #[.int .i64 5, .int .i64 6]) rfl rfl (wantB_g rfl rfl rfl h30) (by kernel_rfl) (.cons rfl (.cons rfl .nil)) (fun w1 hs => to_any _ _ w1) ?_
   exact ⟨_, [], ⟨0, 0, 0, 0, 0⟩, rfl, rfl, rfl, hm0⟩
  ·rintro ts A hb hA ⟨⟨x31, h31, c31⟩, ⟨x32, h32, c32⟩, ⟨x30, h30, c30⟩, _⟩
   refine ot_eqls true rfl rfl (wantB_g rfl rfl rfl h30) h31 h32 (by kernel_rfl) (fun w => rng_same _ _ w) ?_
   exact ⟨_, [], ⟨0, 0, 0, 0, 0⟩, rfl, rfl, rfl, hm0⟩
  ·rintro ts A hb hA ⟨⟨x30, h30, c30⟩, ⟨x33, h33, c33⟩, _⟩
   refine ot_pick_t rfl rfl rfl h30 h33 ?_
   exact ⟨_, [], ⟨0, 0, 0, 0, 0⟩, rfl, rfl, rfl, hm0⟩
  ·rintro ts A hb hA ⟨⟨x34, h34, c34⟩, _⟩
   refine ot_move rfl rfl rfl h34 ?_
   exact ⟨_, [], ⟨0, 0, 0, 0, 0⟩, rfl, rfl, rfl, hm0⟩
  ·rintro ts A hb hA ⟨⟨x35, h35, c35⟩, _⟩
   refine ot_loadN tk rfl rfl (wantB_g rfl rfl rfl h35) hb.2.2.2.2.2.2.2.1 rfl rfl (cells_blk_all (hA.subset m_l)) rfl ?_
   exact ⟨_, [], ⟨0, 0, 0, 0, 0⟩, rfl, rfl, rfl, hm0⟩
  ·rintro ts A hb hA ⟨⟨x35, h35, c35⟩, _⟩
   refine ot_call_q (v := .agg #[.int .i64 8, .int .i64 9]) rfl rfl (wantB_g rfl rfl rfl h35) (by kernel_rfl) (.cons rfl (.cons rfl .nil)) (fun w1 hs => to_any _ _ w1) ?_
   exact ⟨_, [], ⟨0, 0, 0, 0, 0⟩, rfl, rfl, rfl, hm0⟩
  ·rintro ts A hb hA ⟨⟨x36, h36, c36⟩, ⟨x37, h37, c37⟩, ⟨x35, h35, c35⟩, _⟩
   refine ot_eqls true rfl rfl (wantB_g rfl rfl rfl h35) h36 h37 (by kernel_rfl) (fun w => rng_same _ _ w) ?_
   exact ⟨_, [], ⟨0, 0, 0, 0, 0⟩, rfl, rfl, rfl, hm0⟩
  ·rintro ts A hb hA ⟨⟨x35, h35, c35⟩, ⟨x38, h38, c38⟩, _⟩
   refine ot_pick_t rfl rfl rfl h35 h38 ?_
   exact ⟨_, [], ⟨0, 0, 0, 0, 0⟩, rfl, rfl, rfl, hm0⟩
  ·rintro ts A hb hA ⟨⟨x39, h39, c39⟩, _⟩
   refine ot_move rfl rfl rfl h39 ?_
   exact ⟨_, [], ⟨0, 0, 0, 0, 0⟩, rfl, rfl, rfl, hm0⟩
  ·rintro ts A hb hA ⟨⟨x40, h40, c40⟩, _⟩
   refine ot_move rfl rfl (wantB_g rfl rfl rfl h40) hb.2.2.2.2.2.2.2.2.1 ?_
   exact ⟨_, [], ⟨0, 0, 0, 0, 0⟩, rfl, rfl, rfl, hm0⟩
  ·rintro ts A hb hA ⟨⟨x40, h40, c40⟩, _⟩
   refine ot_buildSlice tk (by decide) rfl rfl (wantB_g rfl rfl rfl h40) rfl rfl rfl (pts_of rfl) rfl (by decide) ?_
   intro g hg
   exact ⟨_, [_], ⟨g, g, g, g, g⟩, rfl, rfl, rfl, hm1⟩
  ·rintro ts A hb hA ⟨⟨x42, h42, c42⟩, ⟨x40, h40, c40⟩, _⟩
   refine ot_call_q rfl rfl (wantB_g rfl rfl rfl h40) (by kernel_rfl) (.cons h42 .nil) (fun w1 hs => of_any _ _ _ w1) ?_
   exact ⟨_, [], x42, rfl, rfl, rfl, fun c h => c42 c h⟩
  ·rintro ts A hb hA ⟨⟨x41, h41, c41⟩, ⟨x43, h43, c43⟩, _, ⟨x40, h40, c40⟩, _⟩
   refine ot_call_q (v := .bool true) rfl rfl (wantB_g rfl rfl rfl h40) (by kernel_rfl) (.cons h41 (.cons h43 .nil)) (fun w1 hs => ints_any _ _ _ _ [1, 2] w1 (hI_m3 hA hs) (hs.blk_reads (c43 _ (.head _)) rfl) (by decide)) ?_
   exact ⟨_, [], ⟨0, 0, 0, 0, 0⟩, rfl, rfl, rfl, hm0⟩
  ·rintro ts A hb hA ⟨⟨x40, h40, c40⟩, ⟨x44, h44, c44⟩, _⟩
   refine ot_pick_t rfl rfl rfl h40 h44 ?_
   exact ⟨_, [], ⟨0, 0, 0, 0, 0⟩, rfl, rfl, rfl, hm0⟩
  ·rintro ts A hb hA ⟨⟨x45, h45, c45⟩, _⟩
   refine ot_move rfl rfl rfl h45 ?_
   exact ⟨_, [], ⟨0, 0, 0, 0, 0⟩, rfl, rfl, rfl, hm0⟩
  ·rintro ts A hb hA ⟨⟨x46, h46, c46⟩, _⟩
   refine ot_move rfl rfl (wantB_g rfl rfl rfl h46) hb.2.2.2.2.2.2.2.2.2.1 ?_
   exact ⟨_, [], ⟨0, 0, 0, 0, 0⟩, rfl, rfl, rfl, hm0⟩
  ·rintro ts A hb hA ⟨⟨x46, h46, c46⟩, _⟩
   refine ot_buildSlice tk (by decide) rfl rfl (wantB_g rfl rfl rfl h46) rfl rfl rfl (pts_of rfl) rfl (by decide) ?_
   intro g hg
   exact ⟨_, [_], ⟨g, g, g, g, g⟩, rfl, rfl, rfl, hm1⟩
  ·rintro ts A hb hA ⟨⟨x48, h48, c48⟩, ⟨x46, h46, c46⟩, _⟩
   refine ot_call_q rfl rfl (wantB_g rfl rfl rfl h46) (by kernel_rfl) (.cons h48 .nil) (fun w1 hs => of_any _ _ _ w1) ?_
   exact ⟨_, [], x48, rfl, rfl, rfl, fun c h => c48 c h⟩
  ·rintro ts A hb hA ⟨⟨x47, h47, c47⟩, ⟨x49, h49, c49⟩, _, ⟨x46, h46, c46⟩, _⟩
   refine ot_call_q (v := .bool true) rfl rfl (wantB_g rfl rfl rfl h46) (by kernel_rfl) (.cons h47 (.cons h49 .nil)) (fun w1 hs => ints_any _ _ _ _ [0, 1] w1 (hI_m5 hA hs) (hs.blk_reads (c49 _ (.head _)) rfl) (by decide)) ?_
   exact ⟨_, [], ⟨0, 0, 0, 0, 0⟩, rfl, rfl, rfl, hm0⟩
  ·rintro ts A hb hA ⟨⟨x46, h46, c46⟩, ⟨x50, h50, c50⟩, _⟩
   refine ot_pick_t rfl rfl rfl h46 h50 ?_
   exact ⟨_, [], ⟨0, 0, 0, 0, 0⟩, rfl, rfl, rfl, hm0⟩
  ·rintro ts A hb hA ⟨⟨x51, h51, c51⟩, _⟩
   refine ot_move rfl rfl rfl h51 ?_
   exact ⟨_, [], ⟨0, 0, 0, 0, 0⟩, rfl, rfl, rfl, hm0⟩
  ·rintro ts A hb hA ⟨⟨x52, h52, c52⟩, _⟩
   refine ot_loadN tk rfl rfl (wantB_g rfl rfl rfl h52) hb.2.2.2.2.2.2.2.2.2.2.1 rfl rfl (cells_blk_all (hA.subset m_w)) rfl ?_
   exact ⟨_, [], ⟨0, 0, 0, 0, 0⟩, rfl, rfl, rfl, hm0⟩
  ·rintro ts A hb hA ⟨⟨x52, h52, c52⟩, _⟩
   refine ot_call_q (v := .agg #[.int .i64 3, .int .i64 4]) rfl rfl (wantB_g rfl rfl rfl h52) (by kernel_rfl) (.cons rfl (.cons rfl .nil)) (fun w1 hs => to_any _ _ w1) ?_
   exact ⟨_, [], ⟨0, 0, 0, 0, 0⟩, rfl, rfl, rfl, hm0⟩
  ·rintro ts A hb hA ⟨_, ⟨x52, h52, c52⟩, _⟩
   refine ot_call_q (v := .agg #[.int .i64 5, .int .i64 6]) rfl rfl (wantB_g rfl rfl rfl h52) (by kernel_rfl) (.cons rfl (.cons rfl .nil)) (fun w1 hs => to_any _ _ w1) ?_
   exact ⟨_, [], ⟨0, 0, 0, 0, 0⟩, rfl, rfl, rfl, hm0⟩
  ·rintro ts A hb hA ⟨⟨x54, h54, c54⟩, ⟨x55, h55, c55⟩, ⟨x52, h52, c52⟩, _⟩
   refine ot_buildSlice tk (by decide) rfl rfl (wantB_g rfl rfl rfl h52) rfl rfl rfl (.cons h54 rfl (.cons h55 rfl .nil)) rfl (by decide) ?_
   intro g hg
   exact ⟨_, [_], ⟨g, g, g, g, g⟩, rfl, rfl, rfl, hm1⟩
  ·rintro ts A hb hA ⟨⟨x56, h56, c56⟩, _, ⟨x52, h52, c52⟩, _⟩
   refine ot_call_q rfl rfl (wantB_g rfl rfl rfl h52) (by kernel_rfl) (.cons h56 .nil) (fun w1 hs => ranges_any _ _ _ w1) ?_
   exact ⟨_, [], x56, rfl, rfl, rfl, fun c h => c56 c h⟩
  ·rintro ts A hb hA ⟨_, ⟨x52, h52, c52⟩, _⟩
   refine ot_call_q (v := .agg #[.int .i64 2, .int .i64 3]) rfl rfl (wantB_g rfl rfl rfl h52) (by kernel_rfl) (.cons rfl (.cons rfl .nil)) (fun w1 hs => to_any _ _ w1) ?_
   exact ⟨_, [], ⟨0, 0, 0, 0, 0⟩, rfl, rfl, rfl, hm0⟩
  ·rintro ts A hb hA ⟨_, ⟨x52, h52, c52⟩, _⟩
   refine ot_call_q (v := .agg #[.int .i64 5, .int .i64 6]) rfl rfl (wantB_g rfl rfl rfl h52) (by kernel_rfl) (.cons rfl (.cons rfl .nil)) (fun w1 hs => to_any _ _ w1) ?_
   exact ⟨_, [], ⟨0, 0, 0, 0, 0⟩, rfl, rfl, rfl, hm0⟩
  ·rintro ts A hb hA ⟨⟨x58, h58, c58⟩, ⟨x59, h59, c59⟩, ⟨x52, h52, c52⟩, _⟩
   refine ot_buildSlice tk (by decide) rfl rfl (wantB_g rfl rfl rfl h52) rfl rfl rfl (.cons h58 rfl (.cons h59 rfl .nil)) rfl (by decide) ?_
   intro g hg
   exact ⟨_, [_], ⟨g, g, g, g, g⟩, rfl, rfl, rfl, hm1⟩
  ·rintro ts A hb hA ⟨⟨x60, h60, c60⟩, _, ⟨x52, h52, c52⟩, _⟩
   refine ot_call_q rfl rfl (wantB_g rfl rfl rfl h52) (by kernel_rfl) (.cons h60 .nil) (fun w1 hs => ranges_any _ _ _ w1) ?_
   exact ⟨_, [], x60, rfl, rfl, rfl, fun c h => c60 c h⟩
  ·rintro ts A hb hA ⟨_, ⟨x52, h52, c52⟩, _⟩
   refine ot_call_q (v := .agg #[.int .i64 1, .int .i64 3]) rfl rfl (wantB_g rfl rfl rfl h52) (by kernel_rfl) (.cons rfl (.cons rfl .nil)) (fun w1 hs => to_any _ _ w1) ?_
   exact ⟨_, [], ⟨0, 0, 0, 0, 0⟩, rfl, rfl, rfl, hm0⟩
  ·rintro ts A hb hA ⟨_, ⟨x52, h52, c52⟩, _⟩
   refine ot_call_q (v := .agg #[.int .i64 1, .int .i64 2]) rfl rfl (wantB_g rfl rfl rfl h52) (by kernel_rfl) (.cons rfl (.cons rfl .nil)) (fun w1 hs => to_any _ _ w1) ?_
   exact ⟨_, [], ⟨0, 0, 0, 0, 0⟩, rfl, rfl, rfl, hm0⟩
  ·rintro ts A hb hA ⟨⟨x62, h62, c62⟩, ⟨x63, h63, c63⟩, ⟨x52, h52, c52⟩, _⟩
   refine ot_buildSlice tk (by decide) rfl rfl (wantB_g rfl rfl rfl h52) rfl rfl rfl (.cons h62 rfl (.cons h63 rfl .nil)) rfl (by decide) ?_
   intro g hg
   exact ⟨_, [_], ⟨g, g, g, g, g⟩, rfl, rfl, rfl, hm1⟩
  ·rintro ts A hb hA ⟨⟨x64, h64, c64⟩, _, ⟨x52, h52, c52⟩, _⟩
   refine ot_call_q rfl rfl (wantB_g rfl rfl rfl h52) (by kernel_rfl) (.cons h64 .nil) (fun w1 hs => ranges_any _ _ _ w1) ?_
   exact ⟨_, [], x64, rfl, rfl, rfl, fun c h => c64 c h⟩
  ·rintro ts A hb hA ⟨_, ⟨x52, h52, c52⟩, _⟩
   refine ot_call_q (v := .agg #[.int .i64 0, .int .i64 2]) rfl rfl (wantB_g rfl rfl rfl h52) (by kernel_rfl) (.cons rfl (.cons rfl .nil)) (fun w1 hs => to_any _ _ w1) ?_
   exact ⟨_, [], ⟨0, 0, 0, 0, 0⟩, rfl, rfl, rfl, hm0⟩
  ·rintro ts A hb hA ⟨_, ⟨x52, h52, c52⟩, _⟩
   refine ot_call_q (v := .agg #[.int .i64 3, .int .i64 5]) rfl rfl (wantB_g rfl rfl rfl h52) (by kernel_rfl) (.cons rfl (.cons rfl .nil)) (fun w1 hs => to_any _ _ w1) ?_
   exact ⟨_, [], ⟨0, 0, 0, 0, 0⟩, rfl, rfl, rfl, hm0⟩
  ·rintro ts A hb hA ⟨⟨x66, h66, c66⟩, ⟨x67, h67, c67⟩, ⟨x52, h52, c52⟩, _⟩
   refine ot_buildSlice tk (by decide) rfl rfl (wantB_g rfl rfl rfl h52) rfl rfl rfl (.cons h66 rfl (.cons h67 rfl .nil)) rfl (by decide) ?_
   intro g hg
   exact ⟨_, [_], ⟨g, g, g, g, g⟩, rfl, rfl, rfl, hm1⟩
  ·rintro ts A hb hA ⟨⟨x68, h68, c68⟩, _, ⟨x52, h52, c52⟩, _⟩
   refine ot_call_q rfl rfl (wantB_g rfl rfl rfl h52) (by kernel_rfl) (.cons h68 .nil) (fun w1 hs => ranges_any _ _ _ w1) ?_
   exact ⟨_, [], x68, rfl, rfl, rfl, fun c h => c68 c h⟩
  ·rintro ts A hb hA ⟨⟨x65, h65, c65⟩, ⟨x69, h69, c69⟩, ⟨x52, h52, c52⟩, _⟩
   refine ot_buildSlice tk (by decide) rfl rfl (wantB_g rfl rfl rfl h52) rfl rfl rfl (.cons h65 rfl (.cons h69 rfl .nil)) rfl (by decide) ?_
   intro g hg
   exact ⟨_, [_], ⟨g, g, x65.gr, x69.gr, g⟩, rfl, rfl, rfl, hm2 (c65 _ (.head _)) (c69 _ (.head _))⟩
  ·rintro ts A hb hA ⟨⟨x57, h57, c57⟩, ⟨x61, h61, c61⟩, ⟨x70, h70, c70⟩, _, ⟨x52, h52, c52⟩, _⟩
   refine ot_call_q rfl rfl (wantB_g rfl rfl rfl h52) (by kernel_rfl) (.cons h57 (.cons h61 (.cons h70 .nil))) (fun w1 hs => table_any _ _ _ _ _ _ _ _ _ w1) ?_
   refine ⟨_, [], ⟨x57.gr, x61.gr, x70.g1, x70.g2, x70.gr⟩, rfl, rfl, rfl, fun c h => ?_⟩
   rcases List.mem_cons.1 h with rfl | h
   ·exact c57 _ (.head _)
   rcases List.mem_cons.1 h with rfl | h
   ·exact c61 _ (.head _)
   exact c70 c h
  ·rintro ts A hb hA ⟨⟨x53, h53, c53⟩, ⟨x71, h71, c71⟩, _, ⟨x52, h52, c52⟩, _⟩
   refine ot_call_q (v := .bool true) rfl rfl (wantB_g rfl rfl rfl h52) (by kernel_rfl) (.cons h53 (.cons h71 .nil)) (fun w1 hs => same_any _ _ _ _ _ _ _ _ _ _ _ _ [(3, 4), (5, 6)] [(2, 3), (5, 6)] [[(1, 3), (1, 2)], [(0, 2), (3, 5)]] w1 (hTw hA hs) (tab_lfT hs rfl rfl rfl rfl c71) (by decide) (by decide) (by decide) (by decide)) ?_
   exact ⟨_, [], ⟨0, 0, 0, 0, 0⟩, rfl, rfl, rfl, hm0⟩
  ·rintro ts A hb hA ⟨⟨x52, h52, c52⟩, ⟨x72, h72, c72⟩, _⟩
   refine ot_pick_t rfl rfl rfl h52 h72 ?_
   exact ⟨_, [], ⟨0, 0, 0, 0, 0⟩, rfl, rfl, rfl, hm0⟩
  ·rintro ts A hb hA ⟨⟨x73, h73, c73⟩, _⟩
   refine ot_assign rfl rfl rfl h73 ?_
   exact ⟨_, [], ⟨0, 0, 0, 0, 0⟩, rfl, rfl, rfl, hm0⟩
 intro ts A hb hA hf
 have h0 : look ts 0 = some (.bool true) := (hf 74 (by decide)).elim fun x hx => hx.1
 refine VStop.mk (tr_weak (l := [(0, .bool true)]) (B := A1) ⟨h0, trivial⟩ hA ?_)
 (apply tr_v tk; (conv => whnf))
 (apply VRet.mk)
 refine ret1 (by first | exact .inl rfl | exact .inr rfl) rfl (by exact rv_tmp rfl) ?_
 exact fun w h => ⟨rfl, h.base⟩
end Go.Proofs.Ytalcccgialpjgaa
