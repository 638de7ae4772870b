/- The tables of the examples: lemmas for the rows of this seat. No conditions. -/
import Derived.Test.YtalcccgialpjgaaN17
import Derived.Test.YtalcccgialpjgaaN27
set_option linter.all false
namespace Go.Proofs.Ytalcccgialpjgaa
open Go.RowKit
/-! ## The tables of the examples -/
structure TwoX where
 gr : Nat
 gc : Nat
 g1 : Nat
 g2 : Nat
 gx : Nat
def twoR (a b : Int) : List R2 := [(3, 4), (a, b)]
def twoC : List R2 := [(2, 3), (5, 6)]
def twoT : List (List R2) := [[(0, 3), (1, 2)], [(0, 4), (2, 5)]]
def twoV (x : TwoX) : Value := .agg #[.slice (some ⟨x.gr, 0, none⟩) 2 2, .slice (some ⟨x.gc, 0, none⟩) 2 2, .slice (some ⟨x.gx, 0, none⟩) 2 2]
def twoCh (a b : Int) (x : TwoX) : List Chunk := [.blk x.gr 37 (rgC (twoR a b)), .blk x.gc 37 (rgC twoC), .blk x.gx 22 [.slice (some ⟨x.g1, 0, none⟩) 2 2, .slice (some ⟨x.g2, 0, none⟩) 2 2], .blk x.g1 37 (rgC [(0, 3), (1, 2)]), .blk x.g2 37 (rgC [(0, 4), (2, 5)])]
theorem twoCh_mut {a b : Int} {x : TwoX} : ∀ c ∈ twoCh a b x, c.mut = true := fun c hc => by
 unfold twoCh at hc
 simp only [List.mem_cons, List.not_mem_nil, or_false] at hc
 rcases hc with rfl | rfl | rfl | rfl | rfl <;> rfl
set_option maxHeartbeats 1000000 in
set_option maxRecDepth 20000 in
theorem two_any (a b : Int) (w : World) : Calls Try.prog 52 #[.agg #[.int .i64 a, .int .i64 b]] w fun e w' => ∃ x : TwoX, e = .returned (twoV x) ∧ True ∧ St w (twoCh a b x) w' := by
 have hto := fun (a b : Int) w1 => to_any a b w1
 refine fn_v tk (n := 21) (A := []) Try.func52 rfl rfl (Nat.le_of_ble_eq_true rfl) (St.nil (Below.refl _ _)) ?_
 ((conv => whnf); (repeat ((apply VNew.mk; intro g hg); (conv => whnf))); apply VStop.mk)
 (apply tr_v tk; (conv => whnf); (repeat ((first | ((first | apply VStop.mk | apply VCall.stop); refine tr_region_draw (id := 1) (by kernel_rfl) [1, 0, 2, 3, 4, 5, 6, 7, 8, 9, 10, 11, 12, 13, 14, 15, 16, 17, 18] [.rd, .cr, .cr, .cr, .cr, .cr, .cr, .cr, .cr, .cr, .cr, .cr, .cr, .cr, .cr, .cr, .cr, .cr, .wr] rfl (by kernel_rfl) ?_; apply ot_v tk) | (apply VCall.q; kernel_rfl; (focus (intro w1 hs; first | with_reducible apply hto _ _ w1 | with_reducible apply ranges_any _ _ _ w1 | with_reducible apply table_any _ _ _ _ _ _ _ _ _ w1))) | (apply VLdN.mk; (focus ((repeat (first | (with_reducible apply ldn_blk) | (with_reducible apply ldn_skip))); done)); exact rfl) | (apply VNew.mk; intro g hg) | (apply VSt.mk; (focus ((repeat (first | (with_reducible exact At.here) | (with_reducible apply At.there))); done)); exact rfl)); (conv => whnf))))
 rename_i q1 z1 q2 z2 gr z3 gc z4 g1 z5 g2 z6
 (apply VRet.mk)
 refine ret1 (by first | exact .inl rfl | exact .inr rfl) rfl (by exact rv_row tk rfl rfl rfl (by first | exact cells_blk_all (by (repeat (first | exact List.Mem.head _ | assumption | refine List.Mem.tail _ ?_))) | exact cells_row0 (by (repeat (first | exact List.Mem.head _ | assumption | refine List.Mem.tail _ ?_)))) rfl) ?_
 exact fun w hs => ⟨⟨gr, gc, g1, g2, g⟩, rfl, trivial, Pick.st (A := _) (B := [.blk gr 37 [.int .i64 3, .int .i64 4, .int .i64 a, .int .i64 b], .blk gc 37 [.int .i64 2, .int .i64 3, .int .i64 5, .int .i64 6], .blk g 22 [.slice (some ⟨g1, 0, none⟩) 2 2, .slice (some ⟨g2, 0, none⟩) 2 2], .blk g1 37 [.int .i64 0, .int .i64 3, .int .i64 1, .int .i64 2], .blk g2 37 [.int .i64 0, .int .i64 4, .int .i64 2, .int .i64 5]]) (by ((try dsimp only); repeat (first | exact Pick.nil | ((apply Pick.cons); (focus (repeat (first | exact Rem.here | apply Rem.there)); done))))) hs⟩
theorem two_tab {w0 w : World} {A : List Chunk} {a b : Int} {x : TwoX} (hs : St w0 A w) (h : ∀ d ∈ twoCh a b x, d ∈ A) : TabR w (some ⟨x.gr, 0, none⟩) (some ⟨x.gc, 0, none⟩) (some ⟨x.gx, 0, none⟩) (twoR a b) twoC twoT := by
 have m1 := h _ (show _ ∈ twoCh a b x from .head _)
 have m2 := h _ (show _ ∈ twoCh a b x from .tail _ (.head _))
 have m3 := h _ (show _ ∈ twoCh a b x from .tail _ (.tail _ (.head _)))
 have m4 := h _ (show _ ∈ twoCh a b x from .tail _ (.tail _ (.tail _ (.head _))))
 have m5 := h _ (show _ ∈ twoCh a b x from .tail _ (.tail _ (.tail _ (.tail _ (.head _)))))
 refine ⟨hs.blk_reads m1 rfl, hs.blk_reads m2 rfl, _, hs.blk_reads m3 rfl, fun i hi => ?_⟩
 rcases (show i = 0 ∨ i = 1 by have : (nestR twoT).length = 2 := rfl; omega) with rfl | rfl
 ·exact ⟨some ⟨x.g1, 0, none⟩, 2, rfl, hs.blk_reads m4 rfl⟩
 ·exact ⟨some ⟨x.g2, 0, none⟩, 2, rfl, hs.blk_reads m5 rfl⟩
theorem two_valid {a b : Int} (h : 0 ≤ a ∧ a ≤ b ∧ b ≤ 48) : Valid (twoR a b) twoC twoT := by
 have lr : (twoR a b).length = 2 := rfl
 refine ⟨by rw [lr]; decide, by rw [lr]; decide, by decide, by decide, rfl, by decide, fun i hi => ?_, by decide, fun i k hi hk => ?_⟩
 ·have hi' : i < 2 := hi
  rcases (show i = 0 ∨ i = 1 by omega) with rfl | rfl
  ·rfl
  ·exact rangeB_iff.2 h
 ·have hi' : i < 2 := hi
  have hk' : k < 2 := hk
  rcases (show i = 0 ∨ i = 1 by omega) with rfl | rfl <;> rcases (show k = 0 ∨ k = 1 by omega) with rfl | rfl <;> rfl
/-- A truth of a table of two rows and columns, in full. -/
theorem isT_two {a b : Int} {X : List (List R2)} {f : Nat → Nat → Int} : IsT (twoR a b) twoC X f ↔
  ((xAt X 0 0).1 ≤ f 0 0 ∧ f 0 0 ≤ (xAt X 0 0).2 ∧ (xAt X 0 1).1 ≤ f 0 1 ∧ f 0 1 ≤ (xAt X 0 1).2 ∧ (xAt X 1 0).1 ≤ f 1 0 ∧ f 1 0 ≤ (xAt X 1 0).2 ∧ (xAt X 1 1).1 ≤ f 1 1 ∧ f 1 1 ≤ (xAt X 1 1).2) ∧
  (3 ≤ f 0 0 + f 0 1 ∧ f 0 0 + f 0 1 ≤ 4 ∧ a ≤ f 1 0 + f 1 1 ∧ f 1 0 + f 1 1 ≤ b) ∧ (2 ≤ f 0 0 + f 1 0 ∧ f 0 0 + f 1 0 ≤ 3 ∧ 5 ≤ f 0 1 + f 1 1 ∧ f 0 1 + f 1 1 ≤ 6) := by
 have s2 : ∀ g : Nat → Int, sm g 2 = g 0 + g 1 := fun g => by simp [sm]
 have lr : (twoR a b).length = 2 := rfl
 have lc : twoC.length = 2 := rfl
 have r0 : rAt (twoR a b) 0 = (3, 4) := rfl
 have r1 : rAt (twoR a b) 1 = (a, b) := rfl
 have c0 : rAt twoC 0 = (2, 3) := rfl
 have c1 : rAt twoC 1 = (5, 6) := rfl
 constructor
 ·intro h
  have x00 := h.x 0 0 (by rw [lr]; decide) (by decide)
  have x01 := h.x 0 1 (by rw [lr]; decide) (by decide)
  have x10 := h.x 1 0 (by rw [lr]; decide) (by decide)
  have x11 := h.x 1 1 (by rw [lr]; decide) (by decide)
  have y0 := h.r 0 (by rw [lr]; decide)
  have y1 := h.r 1 (by rw [lr]; decide)
  have z0 := h.c 0 (by decide)
  have z1 := h.c 1 (by decide)
  rw [lc, s2] at y0 y1
  rw [lr, s2] at z0 z1
  rw [r0] at y0
  rw [r1] at y1
  rw [c0] at z0
  rw [c1] at z1
  dsimp only at y0 y1 z0 z1
  omega
 ·rintro ⟨h1, h2, h3⟩
  refine ⟨fun i k hi hk => ?_, fun i hi => ?_, fun k hk => ?_⟩
  ·have hi' : i < 2 := hi
   have hk' : k < 2 := hk
   rcases (show i = 0 ∨ i = 1 by omega) with rfl | rfl <;> rcases (show k = 0 ∨ k = 1 by omega) with rfl | rfl <;> omega
  ·have hi' : i < 2 := hi
   rw [lc, s2]
   rcases (show i = 0 ∨ i = 1 by omega) with rfl | rfl
   ·rw [r0]; dsimp only; omega
   ·rw [r1]; dsimp only; omega
  ·have hk' : k < 2 := hk
   rw [lr, s2]
   rcases (show k = 0 ∨ k = 1 by omega) with rfl | rfl
   ·rw [c0]; dsimp only; omega
   ·rw [c1]; dsimp only; omega
/-! ## What the examples say, plainly -/
def f4 (p q r s : Int) (i k : Nat) : Int := if i = 0 then (if k = 0 then p else q) else (if k = 0 then r else s)
theorem isT_T {a b : Int} {f : Nat → Nat → Int} : IsT (twoR a b) twoC twoT f ↔
  (0 ≤ f 0 0 ∧ f 0 0 ≤ 3 ∧ 1 ≤ f 0 1 ∧ f 0 1 ≤ 2 ∧ 0 ≤ f 1 0 ∧ f 1 0 ≤ 4 ∧ 2 ≤ f 1 1 ∧ f 1 1 ≤ 5) ∧
  (3 ≤ f 0 0 + f 0 1 ∧ f 0 0 + f 0 1 ≤ 4 ∧ a ≤ f 1 0 + f 1 1 ∧ f 1 0 + f 1 1 ≤ b) ∧ (2 ≤ f 0 0 + f 1 0 ∧ f 0 0 + f 1 0 ≤ 3 ∧ 5 ≤ f 0 1 + f 1 1 ∧ f 0 1 + f 1 1 ≤ 6) := isT_two
theorem f4_T {p q r s : Int} (h : (0 ≤ p ∧ p ≤ 3 ∧ 1 ≤ q ∧ q ≤ 2 ∧ 0 ≤ r ∧ r ≤ 4 ∧ 2 ≤ s ∧ s ≤ 5) ∧ (3 ≤ p + q ∧ p + q ≤ 4 ∧ 5 ≤ r + s ∧ r + s ≤ 6) ∧ (2 ≤ p + r ∧ p + r ≤ 3 ∧ 5 ≤ q + s ∧ q + s ≤ 6)) : IsT (twoR 5 6) twoC twoT (f4 p q r s) := isT_T.2 h
theorem tT_has : HasT (twoR 5 6) twoC twoT := ⟨_, f4_T (p := 1) (q := 2) (r := 1) (s := 4) (by omega)⟩
theorem uT_no : ¬HasT (twoR 2 2) twoC twoT := fun ⟨f, h⟩ => by
 rw [isT_T] at h
 omega
theorem tot_two (f : Nat → Nat → Int) : totS 2 2 f = f 0 0 + f 0 1 + (f 1 0 + f 1 1) := by simp [totS, sm]
theorem tC00 : cellR (twoR 5 6) twoC twoT 0 0 = (1, 3) := RngP.eq ⟨⟨_, f4_T (p := 1) (q := 2) (r := 1) (s := 4) (by omega), rfl⟩, ⟨_, f4_T (p := 3) (q := 1) (r := 0) (s := 5) (by omega), rfl⟩, fun x ⟨f, hf, e⟩ => by rw [isT_T] at hf; dsimp only; omega⟩
theorem tC01 : cellR (twoR 5 6) twoC twoT 0 1 = (1, 2) := RngP.eq ⟨⟨_, f4_T (p := 3) (q := 1) (r := 0) (s := 5) (by omega), rfl⟩, ⟨_, f4_T (p := 1) (q := 2) (r := 1) (s := 4) (by omega), rfl⟩, fun x ⟨f, hf, e⟩ => by rw [isT_T] at hf; dsimp only; omega⟩
theorem tC10 : cellR (twoR 5 6) twoC twoT 1 0 = (0, 2) := RngP.eq ⟨⟨_, f4_T (p := 3) (q := 1) (r := 0) (s := 5) (by omega), rfl⟩, ⟨_, f4_T (p := 1) (q := 2) (r := 2) (s := 3) (by omega), rfl⟩, fun x ⟨f, hf, e⟩ => by rw [isT_T] at hf; dsimp only; omega⟩
theorem tC11 : cellR (twoR 5 6) twoC twoT 1 1 = (3, 5) := RngP.eq ⟨⟨_, f4_T (p := 1) (q := 2) (r := 2) (s := 3) (by omega), rfl⟩, ⟨_, f4_T (p := 3) (q := 1) (r := 0) (s := 5) (by omega), rfl⟩, fun x ⟨f, hf, e⟩ => by rw [isT_T] at hf; dsimp only; omega⟩
theorem tR0 : rowR (twoR 5 6) twoC twoT 0 = (3, 4) := RngP.eq ⟨⟨_, f4_T (p := 1) (q := 2) (r := 1) (s := 4) (by omega), rfl⟩, ⟨_, f4_T (p := 3) (q := 1) (r := 0) (s := 5) (by omega), rfl⟩, fun x ⟨f, hf, e⟩ => by
 rw [isT_T] at hf
 have e2 : f 0 0 + f 0 1 = x := by rw [← e]; simp [sm, twoC]
 dsimp only; omega⟩
theorem tR1 : rowR (twoR 5 6) twoC twoT 1 = (5, 6) := RngP.eq ⟨⟨_, f4_T (p := 1) (q := 2) (r := 1) (s := 4) (by omega), rfl⟩, ⟨_, f4_T (p := 1) (q := 2) (r := 2) (s := 4) (by omega), rfl⟩, fun x ⟨f, hf, e⟩ => by
 rw [isT_T] at hf
 have e2 : f 1 0 + f 1 1 = x := by rw [← e]; simp [sm, twoC]
 dsimp only; omega⟩
theorem tK0 : colR (twoR 5 6) twoC twoT 0 = (2, 3) := RngP.eq ⟨⟨_, f4_T (p := 1) (q := 2) (r := 1) (s := 4) (by omega), rfl⟩, ⟨_, f4_T (p := 3) (q := 1) (r := 0) (s := 5) (by omega), rfl⟩, fun x ⟨f, hf, e⟩ => by
 rw [isT_T] at hf
 have e2 : f 0 0 + f 1 0 = x := by rw [← e]; simp [sm, twoR]
 dsimp only; omega⟩
theorem tK1 : colR (twoR 5 6) twoC twoT 1 = (5, 6) := RngP.eq ⟨⟨_, f4_T (p := 1) (q := 2) (r := 2) (s := 3) (by omega), rfl⟩, ⟨_, f4_T (p := 3) (q := 1) (r := 0) (s := 5) (by omega), rfl⟩, fun x ⟨f, hf, e⟩ => by
 rw [isT_T] at hf
 have e2 : f 0 1 + f 1 1 = x := by rw [← e]; simp [sm, twoR]
 dsimp only; omega⟩
theorem tAll : allR (twoR 5 6) twoC twoT = (8, 9) := RngP.eq ⟨⟨_, f4_T (p := 1) (q := 2) (r := 1) (s := 4) (by omega), rfl⟩, ⟨_, f4_T (p := 1) (q := 2) (r := 2) (s := 4) (by omega), rfl⟩, fun x ⟨f, hf, e⟩ => by
 rw [isT_T] at hf
 have e2 : f 0 0 + f 0 1 + (f 1 0 + f 1 1) = x := by rw [← e]; exact (tot_two f).symm
 dsimp only; omega⟩
theorem t1C01 : cellR (twoR 5 6) twoC [[(1, 1), (1, 2)], [(0, 4), (2, 5)]] 0 1 = (2, 2) := RngP.eq ⟨⟨f4 1 2 1 4, isT_two.2 (by decide), rfl⟩, ⟨f4 1 2 1 4, isT_two.2 (by decide), rfl⟩, fun x ⟨f, hf, e⟩ => by
 have h : (1 ≤ f 0 0 ∧ f 0 0 ≤ 1 ∧ 1 ≤ f 0 1 ∧ f 0 1 ≤ 2 ∧ _) ∧ _ ∧ _ := isT_two.1 hf
 dsimp only; omega⟩
theorem t2C10 : cellR (twoR 5 6) twoC [[(1, 1), (2, 2)], [(0, 4), (2, 5)]] 1 0 = (1, 2) := RngP.eq ⟨⟨f4 1 2 1 4, isT_two.2 (by decide), rfl⟩, ⟨f4 1 2 2 3, isT_two.2 (by decide), rfl⟩, fun x ⟨f, hf, e⟩ => by
 have h : (1 ≤ f 0 0 ∧ f 0 0 ≤ 1 ∧ 2 ≤ f 0 1 ∧ f 0 1 ≤ 2 ∧ 0 ≤ f 1 0 ∧ f 1 0 ≤ 4 ∧ _) ∧ _ ∧ _ := isT_two.1 hf
 dsimp only; omega⟩
theorem t3C11 : cellR (twoR 5 6) twoC [[(1, 1), (2, 2)], [(1, 1), (2, 5)]] 1 1 = (4, 4) := RngP.eq ⟨⟨f4 1 2 1 4, isT_two.2 (by decide), rfl⟩, ⟨f4 1 2 1 4, isT_two.2 (by decide), rfl⟩, fun x ⟨f, hf, e⟩ => by
 have h : (1 ≤ f 0 0 ∧ f 0 0 ≤ 1 ∧ 2 ≤ f 0 1 ∧ f 0 1 ≤ 2 ∧ 1 ≤ f 1 0 ∧ f 1 0 ≤ 1 ∧ 2 ≤ f 1 1 ∧ f 1 1 ≤ 5) ∧ _ ∧ _ := isT_two.1 hf
 dsimp only; omega⟩
theorem tTru : truL (twoR 5 6) twoC twoT 2 = [[1, 2], [1, 4]] := by
 have a1 : rowT (twoR 5 6) twoC twoT 0 1 = [[(1, 1), (1, 2)], [(0, 4), (2, 5)]] := by
  show setX twoT 0 0 ((cellR (twoR 5 6) twoC twoT 0 0).1, (cellR (twoR 5 6) twoC twoT 0 0).1) = _
  rw [tC00]; rfl
 have a2 : rowT (twoR 5 6) twoC twoT 0 2 = [[(1, 1), (2, 2)], [(0, 4), (2, 5)]] := by
  show setX (rowT (twoR 5 6) twoC twoT 0 1) 0 1 ((cellR (twoR 5 6) twoC (rowT (twoR 5 6) twoC twoT 0 1) 0 1).1, (cellR (twoR 5 6) twoC (rowT (twoR 5 6) twoC twoT 0 1) 0 1).1) = _
  rw [a1, t1C01]; rfl
 have a3 : rowT (twoR 5 6) twoC [[(1, 1), (2, 2)], [(0, 4), (2, 5)]] 1 1 = [[(1, 1), (2, 2)], [(1, 1), (2, 5)]] := by
  show setX [[(1, 1), (2, 2)], [(0, 4), (2, 5)]] 1 0 ((cellR (twoR 5 6) twoC [[(1, 1), (2, 2)], [(0, 4), (2, 5)]] 1 0).1, (cellR (twoR 5 6) twoC [[(1, 1), (2, 2)], [(0, 4), (2, 5)]] 1 0).1) = _
  rw [t2C10]; rfl
 have b0 : allT (twoR 5 6) twoC twoT 1 = [[(1, 1), (2, 2)], [(0, 4), (2, 5)]] := a2
 show [[(cellR (twoR 5 6) twoC twoT 0 0).1, (cellR (twoR 5 6) twoC (rowT (twoR 5 6) twoC twoT 0 1) 0 1).1], [(cellR (twoR 5 6) twoC (allT (twoR 5 6) twoC twoT 1) 1 0).1, (cellR (twoR 5 6) twoC (rowT (twoR 5 6) twoC (allT (twoR 5 6) twoC twoT 1) 1 1) 1 1).1]] = _
 rw [b0, a3, a1, tC00, t1C01, t2C10, t3C11]
end Go.Proofs.Ytalcccgialpjgaa
