/- Lists of a proof: lemmas for the rows of this seat. No conditions. -/
import Derived.Test.YtalcccgialpjgaaN14
set_option linter.all false
namespace Go.Proofs.Ytalcccgialpjgaa
open Go.RowKit
/-! ## Lists of a proof -/
def hasB (l : List Int) (v : Int) : Bool := l.any fun x => decide (v = x)
/-- Rising numbers below another one. -/
def risB (below : Int) (l : List Int) : Nat → Nat → Int → Bool
 | 0, _, _ => true
 | g + 1, j, lo => if l[j]?.getD 0 < lo ∨ below ≤ l[j]?.getD 0 then false else risB below l g (j + 1) (l[j]?.getD 0 + 1)
set_option maxRecDepth 20000 in
theorem rising_any (Al : Option Addr) (c : Nat) (l : List Int) (below : Nat) (hb : below ≤ 1000) (w : World) (h : Reads w w.heap.size 1 Al l.length (i64s l)) (hm : l.length ≤ maxLen) :
  Calls Try.prog 75 #[.slice Al l.length c, .int .i64 (below : Int)] w fun e w' => e = .returned (.bool (risB below l l.length 0 0)) ∧ Below w.heap.size w w' := by
 unfold maxLen at hm
 refine fn_v tk (n := 25) (A := []) Try.func75 rfl rfl (Nat.le_of_ble_eq_true rfl) (St.nil (Below.refl _ _)) ?_
 ((conv => whnf); apply VStop.mk)
 refine v_loop (fun gm ds ts A => ds = [] ∧ A = [] ∧ ∃ (j : Nat) (lo : Int), j + gm = l.length ∧ 0 ≤ lo ∧ lo ≤ 1000 ∧ risB below l l.length 0 0 = risB below l gm j lo ∧ ts = [(0, .slice Al l.length c), (1, .int .i64 (below : Int)), (5, .int .i64 lo), (8, .slice Al l.length c), (9, .int .i64 (l.length : Int)), (10, .int .i64 (j : Int))]) l.length (l := [(0, _), (1, _), (5, _), (8, _), (9, _), (10, _)]) (B := _) ?_ (List.Sublist.refl _) ⟨rfl, rfl, 0, 0, by omega, by omega, by omega, rfl, rfl⟩ ?_
 ·exact ⟨rfl, rfl, rfl, rfl, rfl, rfl, trivial⟩
 rintro gm ds ts A ⟨rfl, rfl, j, lo, hj, hl0, hl1, hres, rfl⟩
 by_cases hlt : j < l.length
 ·obtain ⟨b, o, rfl, _⟩ := h.2 (by omega)
  have hc := int_cell h hlt
  obtain ⟨gm, rfl⟩ : ∃ g, gm = g + 1 := ⟨gm - 1, by omega⟩
  rw [risB] at hres
  generalize l[j]?.getD 0 = x at *
  by_cases h1 : x < lo
  ·rw [if_pos (.inl h1)] at hres
   (apply tr_v tk; (conv => whnf); (repeat ((first | (apply VIx.mk (j := j); exact rfl; omega) | (apply VLd.mk; first | exact hc _) | apply VBr.t | (apply v_t; omega)); (conv => whnf))))
   (apply VRet.mk)
   refine ret1 (by first | exact .inl rfl | exact .inr rfl) rfl (by exact rv_tmp rfl) ?_
   exact fun w h => ⟨by rw [hres], h.base⟩
  ·by_cases h2 : (below : Int) ≤ x
   ·rw [if_pos (.inr h2)] at hres
    (apply tr_v tk; (conv => whnf); (repeat ((first | (apply VIx.mk (j := j); exact rfl; omega) | (apply VLd.mk; first | exact hc _) | apply VBr.t | apply VBr.f | (apply v_t; omega) | (apply v_f; omega)); (conv => whnf))))
    (apply VRet.mk)
    refine ret1 (by first | exact .inl rfl | exact .inr rfl) rfl (by exact rv_tmp rfl) ?_
    exact fun w h => ⟨by rw [hres], h.base⟩
   ·rw [if_neg (by omega)] at hres
    (apply tr_v tk; (conv => whnf); (repeat ((first | (apply VIx.mk (j := j); exact rfl; omega) | (apply VLd.mk; first | exact hc _) | (apply VRng.mk; omega) | apply VBr.t | apply VBr.f | (apply v_t; omega) | (apply v_f; omega)); (conv => whnf))))
    exact v_rnd gm (by omega) (l := [(0, _), (1, _), (5, _), (8, _), (9, _), (10, _)]) (B := []) ⟨rfl, rfl, rfl, rfl, rfl, rfl, trivial⟩ (List.nil_sublist _) ⟨rfl, rfl, j + 1, x + 1, by omega, by omega, by omega, hres, rfl⟩
 ·obtain rfl : gm = 0 := by omega
  (apply tr_v tk; (conv => whnf); (repeat ((first | apply VBr.f | (apply v_f; omega)); (conv => whnf))))
  (apply VRet.mk)
  refine ret1 (by first | exact .inl rfl | exact .inr rfl) rfl (by exact rv_tmp rfl) ?_
  exact fun w h => ⟨by rw [hres]; rfl, h.base⟩
set_option maxRecDepth 20000 in
theorem index97_any (Al : Option Addr) (c : Nat) (l : List Int) (v : Int) (w : World) (h : Reads w w.heap.size 1 Al l.length (i64s l)) (hm : l.length ≤ maxLen) :
  Calls Try.prog 97 #[.slice Al l.length c, .int .i64 v] w fun e w' => e = .returned (.int .i64 (firstBad (fun x => decide (v = x)) 0 l l.length 0)) ∧ Below w.heap.size w w' := by
 unfold maxLen at hm
 refine fn_v tk (n := 19) (A := []) Try.func97 rfl rfl (Nat.le_of_ble_eq_true rfl) (St.nil (Below.refl _ _)) ?_
 ((conv => whnf); apply VStop.mk)
 refine v_loop (fun gm ds ts A => ds = [] ∧ A = [] ∧ ∃ j : Nat, j + gm = l.length ∧ firstBad (fun x => decide (v = x)) 0 l l.length 0 = firstBad (fun x => decide (v = x)) 0 l gm j ∧ ts = [(0, .slice Al l.length c), (1, .int .i64 v), (7, .int .i64 (l.length : Int)), (8, .int .i64 (j : Int))]) l.length (l := [(0, _), (1, _), (7, _), (8, _)]) (B := _) ?_ (List.Sublist.refl _) ⟨rfl, rfl, 0, by omega, rfl, rfl⟩ ?_
 ·exact ⟨rfl, rfl, rfl, rfl, trivial⟩
 rintro gm ds ts A ⟨rfl, rfl, j, hj, hres, rfl⟩
 by_cases hlt : j < l.length
 ·obtain ⟨b, o, rfl, _⟩ := h.2 (by omega)
  have hc := int_cell h hlt
  obtain ⟨gm, rfl⟩ : ∃ g, gm = g + 1 := ⟨gm - 1, by omega⟩
  rw [firstBad] at hres
  generalize l[j]?.getD 0 = x at *
  by_cases h1 : v = x
  ·rw [if_pos (decide_eq_true h1)] at hres
   (apply tr_v tk; (conv => whnf); (repeat ((first | (apply VIx.mk (j := j); exact rfl; omega) | (apply VLd.mk; first | exact hc _) | apply VBr.t | (apply v_t; omega)); (conv => whnf))))
   (apply VRet.mk)
   refine ret1 (by first | exact .inl rfl | exact .inr rfl) rfl (by exact rv_tmp rfl) ?_
   exact fun w h => ⟨by rw [hres], h.base⟩
  ·rw [if_neg (by simp [h1])] at hres
   (apply tr_v tk; (conv => whnf); (repeat ((first | (apply VIx.mk (j := j); exact rfl; omega) | (apply VLd.mk; first | exact hc _) | (apply VRng.mk; omega) | apply VBr.t | apply VBr.f | (apply v_t; omega) | (apply v_f; omega)); (conv => whnf))))
   exact v_rnd gm (by omega) (l := [(0, _), (1, _), (7, _), (8, _)]) (B := []) ⟨rfl, rfl, rfl, rfl, trivial⟩ (List.nil_sublist _) ⟨rfl, rfl, j + 1, by omega, hres, rfl⟩
 ·obtain rfl : gm = 0 := by omega
  (apply tr_v tk; (conv => whnf); (repeat ((first | apply VBr.f | (apply v_f; omega)); (conv => whnf))))
  (apply VRet.mk)
  refine ret1 (by first | exact .inl rfl | exact .inr rfl) rfl (by exact rv_tmp rfl) ?_
  exact fun w h => ⟨by rw [hres]; rfl, h.base⟩
set_option maxRecDepth 20000 in
theorem contains77_any (Al : Option Addr) (c : Nat) (l : List Int) (v : Int) (w : World) (h : Reads w w.heap.size 1 Al l.length (i64s l)) (hm : l.length ≤ maxLen) :
  Calls Try.prog 77 #[.slice Al l.length c, .int .i64 v] w fun e w' => e = .returned (.bool (hasB l v)) ∧ Below w.heap.size w w' := by
 have hq := firstBad_any (fun x => decide (v = x)) 0 l l.length 0 (by omega)
 rw [List.drop_zero] at hq
 unfold hasB
 rw [← hq]
 refine fn_v tk (n := 9) (A := []) Try.func77 rfl rfl (Nat.le_of_ble_eq_true rfl) (St.nil (Below.refl _ _)) ?_
 ((conv => whnf); (repeat ((first | (apply VCall.q; kernel_rfl; (focus (intro w1 hs; first | with_reducible apply index97_any Al c l v w1 (hs.reads h) hm))) | apply v_d); (conv => whnf))))
 ((apply VRet.mk); refine ret1 (by first | exact .inl rfl | exact .inr rfl) rfl (by exact rv_tmp rfl) ?_; exact fun w h => ⟨rfl, h.base⟩)
section
variable (RA : Option Addr) (rc : Nat) (CA : Option Addr) (cc : Nat) (XA : Option Addr) (xc : Nat) (R C : List R2) (X : List (List R2)) (w : World) (hT : TabR w RA CA XA R C X)
include hT
set_option maxRecDepth 20000 in
theorem cell76_any (hV : Valid R C X) (side : Int) (g3 g2 : Nat) (h3 : w.cell? ⟨g3, 2, none⟩ = some (.int .i64 side)) (h2 : w.cell? ⟨g2, 2, none⟩ = some (.slice XA X.length xc)) (i k : Nat) (hik : if side = 1 then k < R.length ∧ i < C.length else i < R.length ∧ k < C.length) :
  Calls Try.prog 76 #[.int .i64 (i : Int), .int .i64 (k : Int), .pointer (some ⟨g3, 0, none⟩), .pointer (some ⟨g2, 0, none⟩)] w fun e w' => e = .returned (.agg #[.int .i64 (if side = 1 then xAt X k i else xAt X i k).1, .int .i64 (if side = 1 then xAt X k i else xAt X i k).2]) ∧ Below w.heap.size w w' := by
 have c3 : ∀ A, CellAt w A g3 2 _ := fun A => CellAt.base h3
 have c2 : ∀ A, CellAt w A g2 2 _ := fun A => CellAt.base h2
 have hxl := hV.x
 have key : ∀ a b, a < R.length → b < C.length → ∃ xb xo B o c, XA = some ⟨xb, xo, none⟩ ∧ (∀ Ch, CellAt w Ch xb (xo + a * 1) (.slice (some ⟨B, o, none⟩) C.length c)) ∧ ∀ Ch, CellsAt w Ch B (o + b * 2) [.int .i64 (xAt X a b).1, .int .i64 (xAt X a b).2] := fun a b ha hb => by
  have hxk := hV.xs _ (List.getElem_mem (show a < X.length by omega))
  obtain ⟨xb, xo, rfl, B, c, hce, hrd⟩ := nest_gen hT.x (show a < X.length by omega)
  obtain ⟨b2, o2, rfl, _⟩ := hrd.2 (by omega)
  refine ⟨xb, xo, b2, o2, c, rfl, by rw [← hxk]; exact hce, ?_⟩
  have := rg_cells hrd (k := b) (by omega) (by omega)
  unfold xAt
  rw [List.getElem?_eq_getElem (by omega), Option.getD_some]
  exact this
 by_cases hs : side = 1
 ·rw [if_pos hs] at hik ⊢
  obtain ⟨xb, xo, B, o, c, rfl, k1, k2⟩ := key k i hik.1 hik.2
  refine fn_v tk (n := 26) (A := []) Try.func76 rfl rfl (Nat.le_of_ble_eq_true rfl) (St.nil (Below.refl _ _)) ?_
  ((conv => whnf); (repeat ((first | (apply VIx.mk (j := k); exact rfl; omega) | (apply VIx.mk (j := i); exact rfl; omega) | (apply VLd.mk; first | exact c3 _ | exact c2 _ | exact k1 _) | (apply VLdN.mk; (first | exact k2 _); exact rfl) | apply VBr.t | (apply v_t; omega) | (apply VNew.mk; intro g hg) | (apply VSt.mk; (focus ((repeat (first | (with_reducible exact At.here) | (with_reducible apply At.there))); done)); exact rfl)); (conv => whnf))))
  ((apply VRet.mk); refine ret1 (by first | exact .inl rfl | exact .inr rfl) rfl (by exact rv_row tk rfl rfl rfl (by first | exact cells_blk_all (by (repeat (first | exact List.Mem.head _ | assumption | refine List.Mem.tail _ ?_))) | exact cells_row0 (by (repeat (first | exact List.Mem.head _ | assumption | refine List.Mem.tail _ ?_)))) rfl) ?_; exact fun w h => ⟨rfl, h.base⟩)
 ·rw [if_neg hs] at hik ⊢
  obtain ⟨xb, xo, B, o, c, rfl, k1, k2⟩ := key i k hik.1 hik.2
  refine fn_v tk (n := 26) (A := []) Try.func76 rfl rfl (Nat.le_of_ble_eq_true rfl) (St.nil (Below.refl _ _)) ?_
  ((conv => whnf); (repeat ((first | (apply VIx.mk (j := k); exact rfl; omega) | (apply VIx.mk (j := i); exact rfl; omega) | (apply VLd.mk; first | exact c3 _ | exact c2 _ | exact k1 _) | (apply VLdN.mk; (first | exact k2 _); exact rfl) | apply VBr.f | (apply v_f; omega) | (apply VNew.mk; intro g hg) | (apply VSt.mk; (focus ((repeat (first | (with_reducible exact At.here) | (with_reducible apply At.there))); done)); exact rfl)); (conv => whnf))))
  ((apply VRet.mk); refine ret1 (by first | exact .inl rfl | exact .inr rfl) rfl (by exact rv_row tk rfl rfl rfl (by first | exact cells_blk_all (by (repeat (first | exact List.Mem.head _ | assumption | refine List.Mem.tail _ ?_))) | exact cells_row0 (by (repeat (first | exact List.Mem.head _ | assumption | refine List.Mem.tail _ ?_)))) rfl) ?_; exact fun w h => ⟨rfl, h.base⟩)
end
/-! ## CheckProof -/
def sLo (L : List R2) (l : List Int) (k : Nat) : Int := sm (fun j => (rAt L (l[j]?.getD 0).toNat).1) k
def sHi (L : List R2) (l : List Int) (k : Nat) : Int := sm (fun j => (rAt L (l[j]?.getD 0).toNat).2) k
def termF (cell : Nat → Nat → R2) (pc pr : List Int) (i k : Nat) : Int := if hasB pr i = true ∧ hasB pc k = false then (cell i k).1 else if hasB pc k = true ∧ hasB pr i = false then -(cell i k).2 else 0
/-- By how much rows and columns, by lists, are short. -/
def shF (L7 L8 : List R2) (cell : Nat → Nat → R2) (pc pr : List Int) : Int := sLo L7 pc pc.length - sHi L8 pr pr.length + sm (fun i => sm (fun k => termF cell pc pr i k) L7.length) L8.length
def shP (R C : List R2) (X : List (List R2)) (P Q : List Int) (side : Int) : Int := if side = 1 then shF R C (fun i k => xAt X k i) P Q else shF C R (xAt X) Q P
def prOK (R C : List R2) (P Q : List Int) (side : Int) : Prop := risB R.length P P.length 0 0 = true ∧ risB C.length Q Q.length 0 0 = true ∧ 0 ≤ side ∧ side ≤ 1
instance (R C : List R2) (P Q : List Int) (side : Int) : Decidable (prOK R C P Q side) := by unfold prOK; infer_instance
def chkPr (R C : List R2) (X : List (List R2)) (P Q : List Int) (side : Int) : Int × Int :=
 if chkTab R C X ≠ 0 then (0, chkTab R C X) else if ¬prOK R C P Q side then (0, 2) else if shP R C X P Q side ≤ 0 then (0, 14) else (shP R C X P Q side, 0)
theorem risB_in {b : Int} {l : List Int} : ∀ {g j : Nat} {lo : Int}, risB b l g j lo = true → 0 ≤ lo → ∀ i, j ≤ i → i < j + g → 0 ≤ l[i]?.getD 0 ∧ l[i]?.getD 0 < b := by
 intro g
 induction g with
 | zero => intro j lo _ _ i h1 h2; omega
 | succ g ih =>
  intro j lo h h0 i h1 h2
  rw [risB] at h
  by_cases e : l[j]?.getD 0 < lo ∨ b ≤ l[j]?.getD 0
  ·rw [if_pos e] at h; cases h
  ·rw [if_neg e] at h
   by_cases e2 : i = j
   ·rw [e2]; omega
   ·exact ih h (by omega) i (by omega) (by omega)
set_option maxHeartbeats 4000000 in
set_option maxRecDepth 20000 in
theorem checkProof_any (RA : Option Addr) (rc : Nat) (CA : Option Addr) (cc : Nat) (XA : Option Addr) (xc : Nat) (R C : List R2) (X : List (List R2)) (w : World) (hT : TabR w RA CA XA R C X) (hF : FitT R C X)
  (PA : Option Addr) (pcap : Nat) (P : List Int) (hP : Reads w w.heap.size 1 PA P.length (i64s P)) (hp7 : P.length ≤ 7) (QA : Option Addr) (qcap : Nat) (Q : List Int) (hQ : Reads w w.heap.size 1 QA Q.length (i64s Q)) (hq7 : Q.length ≤ 7) (side : Int) :
  Calls Try.prog 28 #[tabV RA rc CA cc XA xc R C X, proofV PA pcap P.length QA qcap Q.length side] w fun e w' => e = .returned (.tuple #[.int .i64 (chkPr R C X P Q side).1, .int .i64 (chkPr R C X P Q side).2]) ∧ Below w.heap.size w w' := by
 have hct := fun w1 (h : TabR w1 RA CA XA R C X) => checkTable_any RA rc CA cc XA xc R C X w1 h hF
 have hfr := hF.r
 have hfc := hF.c
 have hrp : ∀ {A1 w1}, St w A1 w1 → _ := fun {A1 w1} (hs : St w A1 w1) => rising_any PA pcap P R.length (by omega) w1 (hs.reads hP) (by unfold maxLen; omega)
 have hrq : ∀ {A1 w1}, St w A1 w1 → _ := fun {A1 w1} (hs : St w A1 w1) => rising_any QA qcap Q C.length (by omega) w1 (hs.reads hQ) (by unfold maxLen; omega)
 unfold tabV proofV at *
 by_cases hz : chkTab R C X = 0
 rotate_left
 ·have hq : chkPr R C X P Q side = (0, chkTab R C X) := by unfold chkPr; rw [if_pos hz]
  rw [hq]
  generalize chkTab R C X = z at *
  refine fn_v tk (n := 148) (A := []) Try.func28 rfl rfl (Nat.le_of_ble_eq_true rfl) (St.nil (Below.refl _ _)) ?_
  ((conv => whnf); (repeat ((first | (apply VCall.q; kernel_rfl; (focus (intro w1 hs; first | with_reducible apply hct w1 (hs.tab hT)))) | (apply VLdN.mk; (focus ((repeat (first | (with_reducible apply ldn_blk) | (with_reducible apply ldn_skip))); done)); exact rfl) | apply VBr.t | (apply v_t; omega) | (apply VNew.mk; intro g hg)); (conv => whnf))))
  (apply VRet.mk)
  refine ret2 (by first | exact .inl rfl | exact .inr rfl) rfl (by exact rv_tmp rfl) (by exact rv_tmp rfl) ?_
  exact fun w h => ⟨rfl, h.base⟩
 have hV := chk_valid hz
 have hz' := hz
 rw [hz] at hct
 by_cases hok : prOK R C P Q side
 rotate_left
 ·have hq : chkPr R C X P Q side = (0, 2) := by unfold chkPr; rw [if_neg (by rw [hz]; simp), if_pos hok]
  rw [hq]
  unfold prOK at hok
  generalize risB R.length P P.length 0 0 = b1 at *
  generalize risB C.length Q Q.length 0 0 = b2 at *
  refine fn_v tk (n := 148) (A := []) Try.func28 rfl rfl (Nat.le_of_ble_eq_true rfl) (St.nil (Below.refl _ _)) ?_
  cases b1
  ·((conv => whnf); (repeat ((first | (apply VCall.q; kernel_rfl; (focus (intro w1 hs; first | with_reducible apply hct w1 (hs.tab hT) | with_reducible apply hrp hs))) | (apply VLd.mk; (focus ((repeat (first | ((with_reducible apply ld_blk); exact rfl) | (with_reducible apply ld_skip))); done))) | (apply VLdN.mk; (focus ((repeat (first | (with_reducible apply ldn_blk) | (with_reducible apply ldn_skip))); done)); exact rfl) | apply VBr.t | apply VBr.f | (apply v_f; omega) | (apply VNew.mk; intro g hg)); (conv => whnf))))
   (apply VRet.mk)
   refine ret2 (by first | exact .inl rfl | exact .inr rfl) rfl (by exact rv_tmp rfl) (by exact rv_tmp rfl) ?_
   exact fun w h => ⟨rfl, h.base⟩
  cases b2
  ·((conv => whnf); (repeat ((first | (apply VCall.q; kernel_rfl; (focus (intro w1 hs; first | with_reducible apply hct w1 (hs.tab hT) | with_reducible apply hrp hs | with_reducible apply hrq hs))) | (apply VLd.mk; (focus ((repeat (first | ((with_reducible apply ld_blk); exact rfl) | (with_reducible apply ld_skip))); done))) | (apply VLdN.mk; (focus ((repeat (first | (with_reducible apply ldn_blk) | (with_reducible apply ldn_skip))); done)); exact rfl) | apply VBr.t | apply VBr.f | (apply v_f; omega) | (apply VNew.mk; intro g hg)); (conv => whnf))))
   (apply VRet.mk)
   refine ret2 (by first | exact .inl rfl | exact .inr rfl) rfl (by exact rv_tmp rfl) (by exact rv_tmp rfl) ?_
   exact fun w h => ⟨rfl, h.base⟩
  by_cases h0 : side < 0
  ·((conv => whnf); (repeat ((first | (apply VCall.q; kernel_rfl; (focus (intro w1 hs; first | with_reducible apply hct w1 (hs.tab hT) | with_reducible apply hrp hs | with_reducible apply hrq hs))) | (apply VLd.mk; (focus ((repeat (first | ((with_reducible apply ld_blk); exact rfl) | (with_reducible apply ld_skip))); done))) | (apply VLdN.mk; (focus ((repeat (first | (with_reducible apply ldn_blk) | (with_reducible apply ldn_skip))); done)); exact rfl) | apply VBr.t | apply VBr.f | (apply v_t; omega) | (apply v_f; omega) | (apply VNew.mk; intro g hg)); (conv => whnf))))
   (apply VRet.mk)
   refine ret2 (by first | exact .inl rfl | exact .inr rfl) rfl (by exact rv_tmp rfl) (by exact rv_tmp rfl) ?_
   exact fun w h => ⟨rfl, h.base⟩
  ·have h1 : 1 < side := Int.not_le.1 fun h1 => hok ⟨rfl, rfl, by omega, h1⟩
   ((conv => whnf); (repeat ((first | (apply VCall.q; kernel_rfl; (focus (intro w1 hs; first | with_reducible apply hct w1 (hs.tab hT) | with_reducible apply hrp hs | with_reducible apply hrq hs))) | (apply VLd.mk; (focus ((repeat (first | ((with_reducible apply ld_blk); exact rfl) | (with_reducible apply ld_skip))); done))) | (apply VLdN.mk; (focus ((repeat (first | (with_reducible apply ldn_blk) | (with_reducible apply ldn_skip))); done)); exact rfl) | apply VBr.t | apply VBr.f | (apply v_t; omega) | (apply v_f; omega) | (apply VNew.mk; intro g hg)); (conv => whnf))))
   (apply VRet.mk)
   refine ret2 (by first | exact .inl rfl | exact .inr rfl) rfl (by exact rv_tmp rfl) (by exact rv_tmp rfl) ?_
   exact fun w h => ⟨rfl, h.base⟩
 have hq : chkPr R C X P Q side = if shP R C X P Q side ≤ 0 then (0, 14) else (shP R C X P Q side, 0) := by unfold chkPr; rw [if_neg (by rw [hz]; simp), if_neg (fun h => h hok)]
 rw [hq]
 clear hq
 obtain ⟨hb1, hb2, hs0, hs1⟩ := hok
 have hin1 := risB_in hb1 (Int.le_refl _)
 have hin2 := risB_in hb2 (Int.le_refl _)
 rw [hb1] at hrp
 rw [hb2] at hrq
 -- what the side says
 obtain ⟨A7, c7, L7, A8, c8, L8, A9, c9, pc, A10, c10, pr, cell, hD, hr7, hr8, hr9, hr10, hsh, hi9, hi10, hb7, hb8, hcl, hbc⟩ : ∃ (A7 : Option Addr) (c7 : Nat) (L7 : List R2) (A8 : Option Addr) (c8 : Nat) (L8 : List R2) (A9 : Option Addr) (c9 : Nat) (pc : List Int) (A10 : Option Addr) (c10 : Nat) (pr : List Int) (cell : Nat → Nat → R2),
   ((side = 1 ∧ A7 = RA ∧ c7 = rc ∧ L7 = R ∧ A8 = CA ∧ c8 = cc ∧ L8 = C ∧ A9 = PA ∧ c9 = pcap ∧ pc = P ∧ A10 = QA ∧ c10 = qcap ∧ pr = Q) ∨ (side = 0 ∧ A7 = CA ∧ c7 = cc ∧ L7 = C ∧ A8 = RA ∧ c8 = rc ∧ L8 = R ∧ A9 = QA ∧ c9 = qcap ∧ pc = Q ∧ A10 = PA ∧ c10 = pcap ∧ pr = P)) ∧
   Reads w w.heap.size 2 A7 L7.length (rgC L7) ∧ Reads w w.heap.size 2 A8 L8.length (rgC L8) ∧ Reads w w.heap.size 1 A9 pc.length (i64s pc) ∧ Reads w w.heap.size 1 A10 pr.length (i64s pr) ∧ shP R C X P Q side = shF L7 L8 cell pc pr ∧
   (pc.length ≤ 7 ∧ ∀ i, i < pc.length → 0 ≤ pc[i]?.getD 0 ∧ pc[i]?.getD 0 < L7.length) ∧ (pr.length ≤ 7 ∧ ∀ i, i < pr.length → 0 ≤ pr[i]?.getD 0 ∧ pr[i]?.getD 0 < L8.length) ∧
   (L7.length ≤ 4 ∧ ∀ i, i < L7.length → 0 ≤ (rAt L7 i).1 ∧ (rAt L7 i).1 ≤ 48) ∧ (L8.length ≤ 4 ∧ ∀ i, i < L8.length → 0 ≤ (rAt L8 i).2 ∧ (rAt L8 i).2 ≤ 48) ∧
   (∀ {A1 w1} {g3 g2 : Nat}, St w A1 w1 → w1.cell? ⟨g3, 2, none⟩ = some (.int .i64 side) → w1.cell? ⟨g2, 2, none⟩ = some (.slice XA X.length xc) → ∀ i k, i < L8.length → k < L7.length → Calls Try.prog 76 #[.int .i64 (i : Int), .int .i64 (k : Int), .pointer (some ⟨g3, 0, none⟩), .pointer (some ⟨g2, 0, none⟩)] w1 fun e w' => e = .returned (.agg #[.int .i64 (cell i k).1, .int .i64 (cell i k).2]) ∧ Below w1.heap.size w1 w') ∧
   (∀ i k, i < L8.length → k < L7.length → 0 ≤ (cell i k).1 ∧ (cell i k).1 ≤ 12 ∧ 0 ≤ (cell i k).2 ∧ (cell i k).2 ≤ 12) := by
  by_cases h1 : side = 1
  ·refine ⟨RA, rc, R, CA, cc, C, PA, pcap, P, QA, qcap, Q, fun i k => xAt X k i, .inl ⟨h1, rfl, rfl, rfl, rfl, rfl, rfl, rfl, rfl, rfl, rfl, rfl, rfl⟩, hT.r, hT.c, hP, hQ, by unfold shP; rw [if_pos h1], ⟨hp7, fun i hi => hin1 i (by omega) (by omega)⟩, ⟨hq7, fun i hi => hin2 i (by omega) (by omega)⟩, ⟨hV.r4, fun i hi => by have := hV.rR hi; omega⟩, ⟨hV.c4, fun i hi => by have := hV.rC hi; omega⟩, fun {A1 w1 g3 g2} hs e3 e2 i k hi hk => ?_, fun i k hi hk => by have := hV.rX hk hi; dsimp only; omega⟩
   have := cell76_any RA CA XA xc R C X w1 (hs.tab hT) hV side g3 g2 e3 e2 i k (by rw [if_pos h1]; omega)
   rw [if_pos h1] at this
   exact this
  ·refine ⟨CA, cc, C, RA, rc, R, QA, qcap, Q, PA, pcap, P, xAt X, .inr ⟨by omega, rfl, rfl, rfl, rfl, rfl, rfl, rfl, rfl, rfl, rfl, rfl, rfl⟩, hT.c, hT.r, hQ, hP, by unfold shP; rw [if_neg h1], ⟨hq7, fun i hi => hin2 i (by omega) (by omega)⟩, ⟨hp7, fun i hi => hin1 i (by omega) (by omega)⟩, ⟨hV.c4, fun i hi => by have := hV.rC hi; omega⟩, ⟨hV.r4, fun i hi => by have := hV.rR hi; omega⟩, fun {A1 w1 g3 g2} hs e3 e2 i k hi hk => ?_, fun i k hi hk => by have := hV.rX hi hk; omega⟩
   have := cell76_any RA CA XA xc R C X w1 (hs.tab hT) hV side g3 g2 e3 e2 i k (by rw [if_neg h1]; omega)
   rw [if_neg h1] at this
   exact this
 rw [hsh]
 refine fn_k Try.func28 rfl rfl (Nat.le_of_ble_eq_true rfl) (n := 148) (A := []) (St.nil (Below.refl _ _)) ?_
 refine tr_seqK ?_
 (apply tr_v tk; (conv => whnf); (repeat ((apply VNew.mk; intro g hg); (conv => whnf))); apply VStop.mk)
 refine tr_seqK ?_
 (apply tr_v tk; (conv => whnf); (repeat ((first | (apply VCall.q; kernel_rfl; (focus (intro w1 hs; first | with_reducible apply hct w1 (hs.tab hT)))) | (apply VLdN.mk; (focus ((repeat (first | (with_reducible apply ldn_blk) | (with_reducible apply ldn_skip))); done)); exact rfl)); (conv => whnf))); apply VStop.mk)
 refine tr_seqK ?_
 (apply tr_v tk; (conv => whnf); (repeat ((first | (apply VCall.q; kernel_rfl; (focus (intro w1 hs; first | with_reducible apply hrp hs | with_reducible apply hrq hs))) | (apply VLd.mk; (focus ((repeat (first | ((with_reducible apply ld_blk); exact rfl) | (with_reducible apply ld_skip))); done))) | apply VBr.f | (apply v_f; omega)); (conv => whnf))); apply VStop.mk)
 revert g hg
 intro g3 hg3
 revert g hg
 intro g2 hg2
 refine tr_seqK ?_
 (apply tr_v tk; (conv => whnf); (repeat ((first | (apply VStop.mk; refine tr_region_draw (id := 6) (by kernel_rfl) [0, 1, 2, 3, 4, 5, 6, 7, 8, 9, 10, 11] [.rd, .rd, .rd, .rd, .rd, .rd, .rd, .rd, .rd, .rd, .rd, .rd] rfl (by kernel_rfl) ?_; apply ot_v tk) | (apply VLd.mk; (focus ((repeat (first | ((with_reducible apply ld_blk); exact rfl) | (with_reducible apply ld_skip))); done)))); (conv => whnf))); apply VStop.mk)
 refine tr_cut (fun _ : Unit => ([(2, .pointer (some ⟨g2, 0, none⟩)), (3, .pointer (some ⟨g3, 0, none⟩)), (7, .slice A7 L7.length c7), (8, .slice A8 L8.length c8), (9, .slice A9 pc.length c9), (10, .slice A10 pr.length c10)], [.blk g3 44 [.slice PA P.length pcap, .slice QA Q.length qcap, .int .i64 side], .blk g2 25 [.slice RA R.length rc, .slice CA C.length cc, .slice XA X.length xc]])) ?_ ?_
 ·rcases hD with ⟨rfl, rfl, rfl, rfl, rfl, rfl, rfl, rfl, rfl, rfl, rfl, rfl, rfl⟩ | ⟨rfl, rfl, rfl, rfl, rfl, rfl, rfl, rfl, rfl, rfl, rfl, rfl, rfl⟩
  ·(apply tr_v tk; (conv => whnf); (repeat ((first | (apply VStop.mk; refine tr_region_draw (id := 8) (by kernel_rfl) [0, 1, 2, 3, 4, 5, 6, 7, 8, 9, 10, 11] [.rd, .rd, .rd, .rd, .rd, .rd, .rd, .rd, .rd, .rd, .rd, .rd] rfl (by kernel_rfl) ?_; apply ot_v tk) | (apply VLd.mk; (focus ((repeat (first | ((with_reducible apply ld_blk); exact rfl) | (with_reducible apply ld_skip))); done))) | apply VBr.t | (apply v_t; omega)); (conv => whnf))))
   refine VJ.mk () rfl ⟨rfl, rfl, rfl, rfl, rfl, rfl, trivial⟩ ?_
   ((try dsimp only); repeat (first | exact Pick.nil | ((apply Pick.cons); (focus (repeat (first | exact Rem.here | apply Rem.there)); done))))
  ·(apply tr_v tk; (conv => whnf); (repeat ((first | (apply VLd.mk; (focus ((repeat (first | ((with_reducible apply ld_blk); exact rfl) | (with_reducible apply ld_skip))); done))) | apply VBr.f | (apply v_f; omega)); (conv => whnf))))
   refine VJ.mk () rfl ⟨rfl, rfl, rfl, rfl, rfl, rfl, trivial⟩ ?_
   ((try dsimp only); repeat (first | exact Pick.nil | ((apply Pick.cons); (focus (repeat (first | exact Rem.here | apply Rem.there)); done))))
 intro _
 dsimp only
 clear hD hsh hin1 hin2 hb1 hb2 hrp hrq
 refine tr_seqK ?_
 (apply tr_v tk; (conv => whnf); apply VStop.mk)
 refine tr_seqK ?_
 (apply tr_v tk; (conv => whnf); apply VStop.mk)
 have bnd7 : ∀ j, j < pc.length → 0 ≤ (rAt L7 (pc[j]?.getD 0).toNat).1 ∧ (rAt L7 (pc[j]?.getD 0).toNat).1 ≤ 48 := fun j hj => by
  have := hi9.2 j hj
  exact hb7.2 _ (by omega)
 have bnd8 : ∀ j, j < pr.length → 0 ≤ (rAt L8 (pr[j]?.getD 0).toNat).2 ∧ (rAt L8 (pr[j]?.getD 0).toNat).2 ≤ 48 := fun j hj => by
  have := hi10.2 j hj
  exact hb8.2 _ (by omega)
 have sb7 : ∀ k, k ≤ pc.length → 0 ≤ sLo L7 pc k ∧ sLo L7 pc k ≤ 48 * k := fun k hk => ⟨sm_nonneg fun j hj => (bnd7 j (by omega)).1, sm_bound fun j hj => (bnd7 j (by omega)).2⟩
 have sb8 : ∀ k, k ≤ pr.length → 0 ≤ sHi L8 pr k ∧ sHi L8 pr k ≤ 48 * k := fun k hk => ⟨sm_nonneg fun j hj => (bnd8 j (by omega)).1, sm_bound fun j hj => (bnd8 j (by omega)).2⟩
 have tb : ∀ i k, i < L8.length → k < L7.length → -12 ≤ termF cell pc pr i k ∧ termF cell pc pr i k ≤ 12 := fun i k hi hk => by
  have := hbc i k hi hk
  unfold termF
  split
  ·omega
  ·split <;> omega
 have rb : ∀ i k, i < L8.length → k ≤ L7.length → -48 ≤ sm (fun k => termF cell pc pr i k) k ∧ sm (fun k => termF cell pc pr i k) k ≤ 48 := fun i k hi hk => by
  have h1 := sm_bound (f := fun k => termF cell pc pr i k) (c := 12) (n := k) fun q hq => (tb i q hi (by omega)).2
  have h2 := sm_bound' (f := fun k => termF cell pc pr i k) (c := -12) (n := k) fun q hq => (tb i q hi (by omega)).1
  omega
 have ab : ∀ i, i ≤ L8.length → -192 ≤ sm (fun i => sm (fun k => termF cell pc pr i k) L7.length) i ∧ sm (fun i => sm (fun k => termF cell pc pr i k) L7.length) i ≤ 192 := fun i hi => by
  have h1 := sm_bound (f := fun i => sm (fun k => termF cell pc pr i k) L7.length) (c := 48) (n := i) fun q hq => (rb q _ (by omega) (Nat.le_refl _)).2
  have h2 := sm_bound' (f := fun i => sm (fun k => termF cell pc pr i k) L7.length) (c := -48) (n := i) fun q hq => (rb q _ (by omega) (Nat.le_refl _)).1
  omega
 refine tr_seqK ?_
 (apply tr_v tk; (conv => whnf); apply VStop.mk)
 refine v_loop (fun gm ds ts A => ds = [] ∧ ∃ j : Nat, j + gm = pc.length ∧ A = [.blk g3 44 [.slice PA P.length pcap, .slice QA Q.length qcap, .int .i64 side], .blk g2 25 [.slice RA R.length rc, .slice CA C.length cc, .slice XA X.length xc]] ∧ ts = [(12, .int .i64 (sLo L7 pc j)), (7, .slice A7 L7.length c7), (8, .slice A8 L8.length c8), (9, .slice A9 pc.length c9), (10, .slice A10 pr.length c10), (11, .func (.func 76) #[] #[.pointer (some ⟨g3, 0, none⟩), .pointer (some ⟨g2, 0, none⟩)]), (75, .slice A9 pc.length c9), (76, .int .i64 (pc.length : Int)), (77, .int .i64 (j : Int))]) pc.length (l := [(12, _), (7, _), (8, _), (9, _), (10, _), (11, _), (75, _), (76, _), (77, _)]) (B := _) ?_ (List.Sublist.refl _) ⟨rfl, 0, by omega, rfl, rfl⟩ ?_
 ·exact ⟨rfl, rfl, rfl, rfl, rfl, rfl, rfl, rfl, rfl, trivial⟩
 rintro gm ds ts A ⟨rfl, j, hj, rfl, rfl⟩
 by_cases hlt : j < pc.length
 ·obtain ⟨b9, o9, rfl, _⟩ := hr9.2 (by omega)
  have hc := int_cell hr9 hlt
  have hx := hi9.2 j hlt
  have s1 := sb7 j (by omega)
  have s2 := bnd7 j hlt
  have hst : sLo L7 pc (j + 1) = sLo L7 pc j + (rAt L7 (pc[j]?.getD 0).toNat).1 := rfl
  obtain ⟨b7, o7, rfl, _⟩ := hr7.2 (by omega)
  have hx7 := rg_cell hr7 (k := (pc[j]?.getD 0).toNat) (by omega) (by omega)
  generalize pc[j]?.getD 0 = x at *
  obtain ⟨x, rfl⟩ : ∃ q : Nat, x = q := ⟨x.toNat, by omega⟩
  rw [Int.toNat_natCast] at *
  (apply tr_v tk; (conv => whnf); (repeat ((first | (apply VIx.mk (j := j); exact rfl; omega) | (apply VIx.mk (j := x); exact rfl; omega) | (apply VLd.mk; first | exact hc _ | exact (hx7 _).1) | (apply VRng.mk; omega) | apply VBr.t | (apply v_t; omega)); (conv => whnf))))
  rw [← hst]
  exact v_rnd (gm - 1) (by omega) (l := [(12, _), (7, _), (8, _), (9, _), (10, _), (11, _), (75, _), (76, _), (77, _)]) (B := _) ⟨rfl, rfl, rfl, rfl, rfl, rfl, rfl, rfl, rfl, trivial⟩ (List.Sublist.refl _) ⟨rfl, j + 1, by omega, rfl, rfl⟩
 obtain rfl : j = pc.length := by omega
 (apply tr_v tk; (conv => whnf); (repeat ((first | apply VBr.f | (apply v_f; omega)); (conv => whnf))); apply VStop.mk)
 have s7 := sb7 _ (Nat.le_refl _)
 clear hlt hj
 refine tr_seqK ?_
 (apply tr_v tk; (conv => whnf); apply VStop.mk)
 refine v_loop (fun gm ds ts A => ds = [] ∧ ∃ j : Nat, j + gm = pr.length ∧ A = [.blk g3 44 [.slice PA P.length pcap, .slice QA Q.length qcap, .int .i64 side], .blk g2 25 [.slice RA R.length rc, .slice CA C.length cc, .slice XA X.length xc]] ∧ ts = [(12, .int .i64 (sLo L7 pc pc.length - sHi L8 pr j)), (7, .slice A7 L7.length c7), (8, .slice A8 L8.length c8), (9, .slice A9 pc.length c9), (10, .slice A10 pr.length c10), (11, .func (.func 76) #[] #[.pointer (some ⟨g3, 0, none⟩), .pointer (some ⟨g2, 0, none⟩)]), (89, .slice A10 pr.length c10), (90, .int .i64 (pr.length : Int)), (91, .int .i64 (j : Int))]) pr.length (l := [(12, .int .i64 (sLo L7 pc pc.length - sHi L8 pr 0)), (7, _), (8, _), (9, _), (10, _), (11, _), (89, _), (90, _), (91, _)]) (B := _) ?_ (List.Sublist.refl _) ⟨rfl, 0, by omega, rfl, rfl⟩ ?_
 ·exact ⟨by show some _ = some _; rw [show sLo L7 pc pc.length - sHi L8 pr 0 = sLo L7 pc pc.length from Int.sub_zero _], rfl, rfl, rfl, rfl, rfl, rfl, rfl, rfl, trivial⟩
 rintro gm ds ts A ⟨rfl, j, hj, rfl, rfl⟩
 by_cases hlt : j < pr.length
 ·obtain ⟨b9, o9, rfl, _⟩ := hr10.2 (by omega)
  have hc := int_cell hr10 hlt
  have hx := hi10.2 j hlt
  have s1 := sb8 j (by omega)
  have s2 := bnd8 j hlt
  have hst : sHi L8 pr (j + 1) = sHi L8 pr j + (rAt L8 (pr[j]?.getD 0).toNat).2 := rfl
  obtain ⟨b7, o7, rfl, _⟩ := hr8.2 (by omega)
  have hx7 := rg_cell hr8 (k := (pr[j]?.getD 0).toNat) (by omega) (by omega)
  generalize pr[j]?.getD 0 = x at *
  obtain ⟨x, rfl⟩ : ∃ q : Nat, x = q := ⟨x.toNat, by omega⟩
  rw [Int.toNat_natCast] at *
  (apply tr_v tk; (conv => whnf); (repeat ((first | (apply VIx.mk (j := j); exact rfl; omega) | (apply VIx.mk (j := x); exact rfl; omega) | (apply VLd.mk; first | exact hc _ | exact (hx7 _).2) | (apply VRng.mk; omega) | apply VBr.t | (apply v_t; omega)); (conv => whnf))))
  exact v_rnd (gm - 1) (by omega) (l := [(12, .int .i64 (sLo L7 pc pc.length - sHi L8 pr (j + 1))), (7, _), (8, _), (9, _), (10, _), (11, _), (89, _), (90, _), (91, _)]) (B := _) ⟨by show some _ = some _; rw [hst]; rw [Int.sub_sub], rfl, rfl, rfl, rfl, rfl, rfl, rfl, rfl, trivial⟩ (List.Sublist.refl _) ⟨rfl, j + 1, by omega, rfl, rfl⟩
 obtain rfl : j = pr.length := by omega
 (apply tr_v tk; (conv => whnf); (repeat ((first | apply VBr.f | (apply v_f; omega)); (conv => whnf))); apply VStop.mk)
 have s8 := sb8 _ (Nat.le_refl _)
 clear hlt hj
 have hn9 : ∀ (v : Nat) {A1 w1}, St w A1 w1 → _ := fun v {A1 w1} (hs : St w A1 w1) => contains77_any A9 c9 pc v w1 (hs.reads hr9) (by unfold maxLen; omega)
 have hn10 : ∀ (v : Nat) {A1 w1}, St w A1 w1 → _ := fun v {A1 w1} (hs : St w A1 w1) => contains77_any A10 c10 pr v w1 (hs.reads hr10) (by unfold maxLen; omega)
 unfold shF
 generalize hS : sLo L7 pc pc.length - sHi L8 pr pr.length = S at *
 have hSb : -400 ≤ S ∧ S ≤ 400 := by omega
 refine tr_seqK ?_
 (apply tr_v tk; (conv => whnf); apply VStop.mk)
 refine v_loop (fun gm ds ts A => ds = [] ∧ ∃ i : Nat, i + gm = L8.length ∧ A = [.blk g3 44 [.slice PA P.length pcap, .slice QA Q.length qcap, .int .i64 side], .blk g2 25 [.slice RA R.length rc, .slice CA C.length cc, .slice XA X.length xc]] ∧ ts = [(12, .int .i64 (S + sm (fun i => sm (fun k => termF cell pc pr i k) L7.length) i)), (7, .slice A7 L7.length c7), (8, .slice A8 L8.length c8), (9, .slice A9 pc.length c9), (10, .slice A10 pr.length c10), (11, .func (.func 76) #[] #[.pointer (some ⟨g3, 0, none⟩), .pointer (some ⟨g2, 0, none⟩)]), (104, .int .i64 (L8.length : Int)), (105, .int .i64 (i : Int))]) L8.length (l := [(12, .int .i64 (S + sm (fun i => sm (fun k => termF cell pc pr i k) L7.length) 0)), (7, _), (8, _), (9, _), (10, _), (11, _), (104, _), (105, _)]) (B := _) ?_ (List.Sublist.refl _) ⟨rfl, 0, by omega, rfl, rfl⟩ ?_
 ·exact ⟨by show some _ = some _; rw [show S + sm (fun i => sm (fun k => termF cell pc pr i k) L7.length) 0 = S from Int.add_zero _], rfl, rfl, rfl, rfl, rfl, rfl, rfl, trivial⟩
 rintro gm ds ts A ⟨rfl, i, hi, rfl, rfl⟩
 by_cases hlt : i < L8.length
 ·have a1 := ab i (by omega)
  have hst : sm (fun i => sm (fun k => termF cell pc pr i k) L7.length) (i + 1) = sm (fun i => sm (fun k => termF cell pc pr i k) L7.length) i + sm (fun k => termF cell pc pr i k) L7.length := rfl
  generalize sm (fun i => sm (fun k => termF cell pc pr i k) L7.length) i = S2 at *
  (apply tr_v tk; (conv => whnf); (repeat ((first | apply VBr.t | (apply v_t; omega)); (conv => whnf))); apply VStop.mk)
  refine v_loop (fun gm2 ds ts A => ds = [] ∧ ∃ k : Nat, k + gm2 = L7.length ∧ A = [.blk g3 44 [.slice PA P.length pcap, .slice QA Q.length qcap, .int .i64 side], .blk g2 25 [.slice RA R.length rc, .slice CA C.length cc, .slice XA X.length xc]] ∧ ts = [(12, .int .i64 (S + S2 + sm (fun k => termF cell pc pr i k) k)), (7, .slice A7 L7.length c7), (8, .slice A8 L8.length c8), (9, .slice A9 pc.length c9), (10, .slice A10 pr.length c10), (11, .func (.func 76) #[] #[.pointer (some ⟨g3, 0, none⟩), .pointer (some ⟨g2, 0, none⟩)]), (104, .int .i64 (L8.length : Int)), (105, .int .i64 (i : Int)), (17, .int .i64 (i : Int)), (109, .int .i64 (L7.length : Int)), (110, .int .i64 (k : Int))]) L7.length (l := [(12, .int .i64 (S + S2 + sm (fun k => termF cell pc pr i k) 0)), (7, _), (8, _), (9, _), (10, _), (11, _), (104, _), (105, _), (17, _), (109, _), (110, _)]) (B := _) ?_ (List.Sublist.refl _) ⟨rfl, 0, by omega, rfl, rfl⟩ ?_
  ·exact ⟨by show some _ = some _; rw [show S + S2 + sm (fun k => termF cell pc pr i k) 0 = S + S2 from Int.add_zero _], rfl, rfl, rfl, rfl, rfl, rfl, rfl, rfl, rfl, rfl, trivial⟩
  rintro gm2 ds ts A ⟨rfl, k, hk, rfl, rfl⟩
  by_cases hlt2 : k < L7.length
  ·have b1 := rb i k hlt (by omega)
   have b2 := hbc i k hlt hlt2
   obtain ⟨T, hT⟩ : ∃ T, T = termF cell pc pr i k := ⟨_, rfl⟩
   have hst2 : sm (fun k => termF cell pc pr i k) (k + 1) = sm (fun k => termF cell pc pr i k) k + T := by rw [hT]; rfl
   have h9 := fun {A1 w1} hs => hn9 k (A1 := A1) (w1 := w1) hs
   have h10 := fun {A1 w1} hs => hn10 i (A1 := A1) (w1 := w1) hs
   generalize sm (fun k => termF cell pc pr i k) k = S3 at *
   unfold termF at hT
   have hcc := fun {w1} (hs : St w [.blk g3 44 [.slice PA P.length pcap, .slice QA Q.length qcap, .int .i64 side], .blk g2 25 [.slice RA R.length rc, .slice CA C.length cc, .slice XA X.length xc]] w1) => hcl (g3 := g3) (g2 := g2) hs (cell_blk (.head _) rfl w1 hs) (cell_blk (.tail _ (.head _)) rfl w1 hs) i k hlt hlt2
   generalize hasB pc k = q9 at h9 hT
   generalize hasB pr i = q10 at h10 hT
   generalize cell i k = r at b2 hcc hT
   obtain ⟨rl, rh⟩ := r
   dsimp only at b2 hT hcc
   cases q9 <;> cases q10
   ·rw [if_neg (by simp), if_neg (by simp)] at hT
    subst hT
    (apply tr_v tk; (conv => whnf); (repeat ((first | (apply VCall.q; kernel_rfl; (focus (intro w1 hs; first | with_reducible apply hcc hs | with_reducible apply h9 hs | with_reducible apply h10 hs))) | (apply VRng.mk; omega) | apply VBr.t | apply VBr.f | (apply v_t; omega) | (apply VNew.mk; intro g hg) | (apply VSt.mk; (focus ((repeat (first | (with_reducible exact At.here) | (with_reducible apply At.there))); done)); exact rfl)); (conv => whnf))))
    exact v_rnd (gm2 - 1) (by omega) (l := [(12, .int .i64 (S + S2 + sm (fun k => termF cell pc pr i k) (k + 1))), (7, _), (8, _), (9, _), (10, _), (11, _), (104, _), (105, _), (17, _), (109, _), (110, _)]) (B := _) ⟨by show some _ = some _; rw [hst2, Int.add_zero], rfl, rfl, rfl, rfl, rfl, rfl, rfl, rfl, rfl, rfl, trivial⟩ (.cons _ (List.Sublist.refl _)) ⟨rfl, k + 1, by omega, rfl, rfl⟩
   ·rw [if_pos (by simp)] at hT
    subst hT
    (apply tr_v tk; (conv => whnf); (repeat ((first | (apply VCall.q; kernel_rfl; (focus (intro w1 hs; first | with_reducible apply hcc hs | with_reducible apply h9 hs | with_reducible apply h10 hs))) | (apply VLd.mk; (focus ((repeat (first | ((with_reducible apply ld_blk); exact rfl) | (with_reducible apply ld_skip))); done))) | (apply VRng.mk; omega) | apply VBr.t | (apply v_t; omega) | (apply VNew.mk; intro g hg) | (apply VSt.mk; (focus ((repeat (first | (with_reducible exact At.here) | (with_reducible apply At.there))); done)); exact rfl)); (conv => whnf))))
    exact v_rnd (gm2 - 1) (by omega) (l := [(12, .int .i64 (S + S2 + sm (fun k => termF cell pc pr i k) (k + 1))), (7, _), (8, _), (9, _), (10, _), (11, _), (104, _), (105, _), (17, _), (109, _), (110, _)]) (B := _) ⟨by show some _ = some _; rw [hst2, Int.add_assoc (S + S2)], rfl, rfl, rfl, rfl, rfl, rfl, rfl, rfl, rfl, rfl, trivial⟩ (.cons _ (List.Sublist.refl _)) ⟨rfl, k + 1, by omega, rfl, rfl⟩
   ·rw [if_neg (by simp), if_pos (by simp)] at hT
    subst hT
    (apply tr_v tk; (conv => whnf); (repeat ((first | (apply VCall.q; kernel_rfl; (focus (intro w1 hs; first | with_reducible apply hcc hs | with_reducible apply h9 hs | with_reducible apply h10 hs))) | (apply VLd.mk; (focus ((repeat (first | ((with_reducible apply ld_blk); exact rfl) | (with_reducible apply ld_skip))); done))) | (apply VRng.mk; omega) | apply VBr.t | apply VBr.f | (apply v_t; omega) | (apply VNew.mk; intro g hg) | (apply VSt.mk; (focus ((repeat (first | (with_reducible exact At.here) | (with_reducible apply At.there))); done)); exact rfl)); (conv => whnf))))
    exact v_rnd (gm2 - 1) (by omega) (l := [(12, .int .i64 (S + S2 + sm (fun k => termF cell pc pr i k) (k + 1))), (7, _), (8, _), (9, _), (10, _), (11, _), (104, _), (105, _), (17, _), (109, _), (110, _)]) (B := _) ⟨by show some _ = some _; rw [hst2, Int.sub_eq_add_neg, Int.add_assoc (S + S2)], rfl, rfl, rfl, rfl, rfl, rfl, rfl, rfl, rfl, rfl, trivial⟩ (.cons _ (List.Sublist.refl _)) ⟨rfl, k + 1, by omega, rfl, rfl⟩
   ·rw [if_neg (by simp), if_neg (by simp)] at hT
    subst hT
    (apply tr_v tk; (conv => whnf); (repeat ((first | (apply VCall.q; kernel_rfl; (focus (intro w1 hs; first | with_reducible apply hcc hs | with_reducible apply h9 hs | with_reducible apply h10 hs))) | (apply VRng.mk; omega) | apply VBr.t | apply VBr.f | (apply v_t; omega) | (apply VNew.mk; intro g hg) | (apply VSt.mk; (focus ((repeat (first | (with_reducible exact At.here) | (with_reducible apply At.there))); done)); exact rfl)); (conv => whnf))))
    exact v_rnd (gm2 - 1) (by omega) (l := [(12, .int .i64 (S + S2 + sm (fun k => termF cell pc pr i k) (k + 1))), (7, _), (8, _), (9, _), (10, _), (11, _), (104, _), (105, _), (17, _), (109, _), (110, _)]) (B := _) ⟨by show some _ = some _; rw [hst2, Int.add_zero], rfl, rfl, rfl, rfl, rfl, rfl, rfl, rfl, rfl, rfl, trivial⟩ (.cons _ (List.Sublist.refl _)) ⟨rfl, k + 1, by omega, rfl, rfl⟩
  obtain rfl : k = L7.length := by omega
  (apply tr_v tk; (conv => whnf); (repeat ((first | (apply VRng.mk; omega) | apply VBr.f | (apply v_f; omega)); (conv => whnf))))
  exact v_rnd (gm - 1) (by omega) (l := [(12, .int .i64 (S + sm (fun i => sm (fun k => termF cell pc pr i k) L7.length) (i + 1))), (7, _), (8, _), (9, _), (10, _), (11, _), (104, _), (105, _)]) (B := _) ⟨by show some _ = some _; rw [hst, Int.add_assoc], rfl, rfl, rfl, rfl, rfl, rfl, rfl, trivial⟩ (List.Sublist.refl _) ⟨rfl, i + 1, by omega, rfl, rfl⟩
 obtain rfl : i = L8.length := by omega
 have a1 := ab _ (Nat.le_refl _)
 generalize sm (fun i => sm (fun k => termF cell pc pr i k) L7.length) L8.length = S2 at *
 (apply tr_v tk; (conv => whnf); (repeat ((first | apply VBr.f | (apply v_f; omega)); (conv => whnf))); apply VStop.mk)
 by_cases h0 : S + S2 ≤ 0
 ·rw [if_pos h0]
  (apply tr_v tk; (conv => whnf); (repeat ((first | apply VBr.t | (apply v_t; omega)); (conv => whnf))))
  (apply VRet.mk)
  refine ret2 (by first | exact .inl rfl | exact .inr rfl) rfl (by exact rv_tmp rfl) (by exact rv_tmp rfl) ?_
  exact fun w h => ⟨rfl, h.base⟩
 ·rw [if_neg h0]
  (apply tr_v tk; (conv => whnf); (repeat ((first | apply VBr.f | (apply v_f; omega)); (conv => whnf))))
  (apply VRet.mk)
  refine ret2 (by first | exact .inl rfl | exact .inr rfl) rfl (by exact rv_tmp rfl) (by exact rv_tmp rfl) ?_
  exact fun w h => ⟨rfl, h.base⟩
/-! ## Proof -/
structure PfX where
 p : PrX
 seen : Nat → Int
def natI (l : List Nat) : List Int := l.map Int.ofNat
theorem natV_i64s (l : List Nat) : natV l = i64s (natI l) := by unfold natV i64s natI; rw [List.map_map]; rfl
section
variable (RA : Option Addr) (rc : Nat) (CA : Option Addr) (cc : Nat) (XA : Option Addr) (xc : Nat) (R C : List R2) (X : List (List R2)) (w : World) (hT : TabR w RA CA XA R C X)
include hT
set_option maxHeartbeats 2000000 in
set_option maxRecDepth 20000 in
theorem proof30_err (hF : FitT R C X) (hz : chkTab R C X ≠ 0) : Calls Try.prog 30 #[tabV RA rc CA cc XA xc R C X] w fun e w' => e = .returned (.tuple #[proofV none 0 0 none 0 0 0, .int .i64 (chkTab R C X)]) ∧ Below w.heap.size w w' := by
 have her := fun w1 (h : TabR w1 RA CA XA R C X) => open_err RA rc CA cc XA xc R C X w1 h hF hz
 unfold tabV at *
 generalize chkTab R C X = z at *
 refine fn_v tk (n := 27) (A := []) Try.func30 rfl rfl (Nat.le_of_ble_eq_true rfl) (St.nil (Below.refl _ _)) ?_
 ((conv => whnf); (repeat ((first | (apply VCall.q; kernel_rfl; (focus (intro w1 hs; first | with_reducible apply her w1 (hs.tab hT)))) | (apply VLdN.mk; (focus ((repeat (first | (with_reducible apply ldn_blk) | (with_reducible apply ldn_skip))); done)); exact rfl) | apply VBr.t | (apply v_t; omega) | (apply VNew.mk; intro g hg) | (apply VSt.mk; (focus ((repeat (first | (with_reducible exact At.here) | (with_reducible apply At.there))); done)); exact rfl)); (conv => whnf))))
 (apply VRet.mk)
 refine ret2 (by first | exact .inl rfl | exact .inr rfl) rfl (by exact rv_row tk rfl rfl rfl (by first | exact cells_blk_all (by (repeat (first | exact List.Mem.head _ | assumption | refine List.Mem.tail _ ?_))) | exact cells_row0 (by (repeat (first | exact List.Mem.head _ | assumption | refine List.Mem.tail _ ?_)))) rfl) (by exact rv_tmp rfl) ?_
 exact fun w h => ⟨rfl, h.base⟩
set_option maxHeartbeats 2000000 in
set_option maxRecDepth 20000 in
theorem proof30_any (hV : Valid R C X) : Calls Try.prog 30 #[tabV RA rc CA cc XA xc R C X] w fun e w' => (HasT R C X ∧ e = .returned (.tuple #[proofV none 0 0 none 0 0 0, .int .i64 5]) ∧ Below w.heap.size w w') ∨
  (¬HasT R C X ∧ ∃ x : PfX, e = .returned (.tuple #[proofV x.p.B1 x.p.c1 (prRows R.length x.seen).length x.p.B2 x.p.c2 (prCols R.length C.length x.seen).length (prSide x.seen), .int .i64 0]) ∧ CutS (2 + R.length + C.length) (netLo R C X) (netHi R C X) x.seen ∧
   St w [.own (.slice x.p.B1 (prRows R.length x.seen).length x.p.c1) 3 1 (prRows R.length x.seen).length (natV (prRows R.length x.seen)), .own (.slice x.p.B2 (prCols R.length C.length x.seen).length x.p.c2) 3 1 (prCols R.length C.length x.seen).length (natV (prCols R.length C.length x.seen))] w') := by
 have hop := fun w1 (h : TabR w1 RA CA XA R C X) => open_ok RA rc CA cc XA xc R C X w1 h hV
 rw [bdV_net] at hop
 have hfi := fun {gn bm fm} {w0 w1 : World} {stb : List (Nat × (Int × Int))} {rest : List Chunk} hs => fill_any (RA := RA) (rc := rc) (CA := CA) (cc := cc) (XA := XA) (xc := xc) (R := R) (C := C) (X := X) (gn := gn) (bm := bm) (fm := fm) (lo := netLo R C X) (hi := netHi R C X) hV.r4 hV.c4 (net_bnds hV) (fun u v => (net_le hV u v).2.1) (w0 := w0) (w := w1) (stb := stb) (rest := rest) hs
 have hn4 := hV.r4
 have hm4 := hV.c4
 unfold tabV at *
 refine fn_v tk (n := 27) (A := []) Try.func30 rfl rfl (Nat.le_of_ble_eq_true rfl) (St.nil (Below.refl _ _)) ?_
 ((conv => whnf); (repeat ((first | (apply VLdN.mk; (focus ((repeat (first | (with_reducible apply ldn_blk) | (with_reducible apply ldn_skip))); done)); exact rfl) | (apply VNew.mk; intro g hg)); (conv => whnf))); apply VCall.stop)
 refine ot_callC (X := NetX) (us := []) (vs := []) (fun x => .tuple #[.pointer (some ⟨x.gn, 0, none⟩), .int .i64 0]) (fun x => [.blk x.gn 103 (netC RA rc CA cc XA xc R C X x.bm x.fm), .prd x.bm (MapP pairE (keyM (netE R.length C.length) (rngV (netLo R C X) (netHi R C X))) x.st), .prd x.fm (MapP pairE (fun _ => none) [])]) (fun _ => True) (fun x c hc => by simp at hc; rcases hc with rfl | rfl | rfl <;> rfl) (by decide) rfl rfl rfl rfl (by kernel_rfl) (evl_of rfl) rfl (fun w1 hs => hop w1 (hs.tab hT)) ?_
 rintro ⟨gn, bm, fm, st0⟩ -
 (dsimp only [List.cons_append, List.nil_append]; apply ot_v tk)
 ((conv => whnf); (repeat ((first | apply VBr.f | (apply v_f; omega)); (conv => whnf))); apply VCall.stop)
 refine ot_callW (X := FillX) (us := []) (vs := []) (fun x => .tuple #[.agg (fnC x.seen 10).toArray, .bool x.ok]) _ _ rfl rfl rfl rfl rfl (by kernel_rfl) (evl_of rfl) rfl (fun w1 hs => hfi hs) ?_
 rintro ⟨ok, seen, fl, st⟩ ⟨hfl, h1, h2⟩
 dsimp only at hfl h1 h2 ⊢
 cases ok with
 | true =>
  have hH := (hasT_circ hV).2 ⟨_, h1 rfl⟩
  apply ot_v tk
  ((conv => whnf); (repeat ((first | apply VBr.t | (apply VNew.mk; intro g hg) | (apply VSt.mk; (focus ((repeat (first | (with_reducible exact At.here) | (with_reducible apply At.there))); done)); exact rfl)); (conv => whnf))))
  (apply VRet.mk)
  refine ret2 (by first | exact .inl rfl | exact .inr rfl) rfl (by exact rv_row tk rfl rfl rfl (by first | exact cells_blk_all (by (repeat (first | exact List.Mem.head _ | assumption | refine List.Mem.tail _ ?_))) | exact cells_row0 (by (repeat (first | exact List.Mem.head _ | assumption | refine List.Mem.tail _ ?_)))) rfl) (by exact rv_tmp rfl) ?_
  exact fun w h => .inl ⟨hH, rfl, h.base⟩
 | false =>
  have hcut := h2 rfl
  have hno := cutS_no hV hcut
  apply ot_v tk
  ((conv => whnf); (repeat ((first | (apply VLdN.mk; (focus ((repeat (first | (with_reducible apply ldn_blk) | (with_reducible apply ldn_skip))); done)); exact rfl) | apply VBr.f | (apply VNew.mk; intro g hg) | (apply VSt.mk; (focus ((repeat (first | (with_reducible exact At.here) | (with_reducible apply At.there))); done)); exact rfl)); (conv => whnf))); apply VCall.stop)
  have hs1 : ∃ v, v < 10 ∧ seen v ≠ 0 := by
   obtain ⟨v, hv, hne⟩ := hcut.some_
   exact ⟨v, by omega, hne⟩
  refine ot_callC (X := PrX) (us := []) (vs := []) _ _ _ (fun x c hc => by simp at hc; rcases hc with rfl | rfl <;> rfl) (by decide) rfl rfl rfl rfl (by kernel_rfl) (evl_of rfl) rfl (fun w1 hs => proof_any (RA := RA) (rc := rc) (CA := CA) (cc := cc) hn4 hm4 seen hs1 w1 (cell_blk (.tail _ (.head _)) rfl w1 hs) (cell_blk (.tail _ (.head _)) rfl w1 hs)) ?_
  rintro ⟨B1, c1, B2, c2⟩ -
  (dsimp only [List.cons_append, List.nil_append]; apply ot_v tk)
  ((conv => whnf); (repeat ((apply VSt.mk; (focus ((repeat (first | (with_reducible exact At.here) | (with_reducible apply At.there))); done)); exact rfl); (conv => whnf))))
  (apply VRet.mk)
  refine ret2 (by first | exact .inl rfl | exact .inr rfl) rfl (by exact rv_row tk rfl rfl rfl (by first | exact cells_blk_all (by (repeat (first | exact List.Mem.head _ | assumption | refine List.Mem.tail _ ?_))) | exact cells_row0 (by (repeat (first | exact List.Mem.head _ | assumption | refine List.Mem.tail _ ?_)))) rfl) (by exact rv_tmp rfl) ?_
  exact fun w hs => .inr ⟨hno, ⟨⟨B1, c1, B2, c2⟩, seen⟩, rfl, hcut, Pick.st (by ((try dsimp only); repeat (first | exact Pick.nil | ((apply Pick.cons); (focus (repeat (first | exact Rem.here | apply Rem.there)); done))))) hs⟩
end
end Go.Proofs.Ytalcccgialpjgaa
