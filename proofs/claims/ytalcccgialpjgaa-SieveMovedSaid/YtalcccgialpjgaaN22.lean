/- Is, Error: lemmas for the rows of this seat. No conditions. -/
import Derived.Test.YtalcccgialpjgaaN21
set_option linter.all false
namespace Go.Proofs.Ytalcccgialpjgaa
open Go.RowKit
/-! ## Is, Error -/
def natOf (p : Nat → Bool) : Nat → Nat
 | 0 => 0
 | n + 1 => natOf p n ||| (if p n = true then 2 ^ n else 0)
theorem natOf_lt (p : Nat → Bool) : ∀ n, natOf p n < 2 ^ n
 | 0 => by simp [natOf]
 | n + 1 => by
  have h := natOf_lt p n
  have h2 : (2 : Nat) ^ n < 2 ^ (n + 1) := Nat.pow_lt_pow_right (by decide) (by omega)
  rw [natOf]
  refine Nat.or_lt_two_pow (by omega) ?_
  split
  ·exact h2
  ·exact Nat.two_pow_pos _
theorem natOf_bit (p : Nat → Bool) {i : Nat} : ∀ {n : Nat}, i < n → (natOf p n).testBit i = p i
 | 0, h => absurd h (Nat.not_lt_zero _)
 | n + 1, h => by
  rw [natOf, Nat.testBit_or]
  by_cases e : i = n
  ·subst e
   rw [Nat.testBit_lt_two_pow (natOf_lt p i), Bool.false_or]
   cases p i
   ·simp
   ·simp
  ·rw [natOf_bit p (show i < n by omega)]
   have : (if p n = true then 2 ^ n else 0).testBit i = false := by
    split
    ·rw [Nat.testBit_two_pow]; exact decide_eq_false (by omega)
    ·simp
   rw [this, Bool.or_false]
theorem shS_congr {R C : List R2} {X : List (List R2)} {rs cs rs' cs' : Nat → Bool} (h1 : ∀ i, i < R.length → rs i = rs' i) (h2 : ∀ k, k < C.length → cs k = cs' k) : shS R C X rs cs = shS R C X rs' cs' := by
 rw [shS_parts, shS_parts, wS_congr h1, wS_congr h2, wD_congr (p := fun i k => rs i && !cs k) (q := fun i k => rs' i && !cs' k) (fun i k hi hk => by rw [h1 i hi, h2 k hk]), wD_congr (p := fun i k => !rs i && cs k) (q := fun i k => !rs' i && cs' k) (fun i k hi hk => by rw [h1 i hi, h2 k hk])]
theorem shT_congr {R C : List R2} {X : List (List R2)} {rs cs rs' cs' : Nat → Bool} (h1 : ∀ i, i < R.length → rs i = rs' i) (h2 : ∀ k, k < C.length → cs k = cs' k) : shT R C X rs cs = shT R C X rs' cs' := shS_congr h2 h1
theorem hasT_bits {R C : List R2} {X : List (List R2)} (hV : Valid R C X) (h : ∀ a b, a < 2 ^ R.length → b < 2 ^ C.length → shS R C X a.testBit b.testBit ≤ 0 ∧ shT R C X a.testBit b.testBit ≤ 0) : HasT R C X := by
 rw [hasT_iff hV]
 intro rs cs
 have := h (natOf rs R.length) (natOf cs C.length) (natOf_lt _ _) (natOf_lt _ _)
 rwa [shS_congr (rs' := rs) (cs' := cs) (fun i hi => natOf_bit rs hi) (fun k hk => natOf_bit cs hk), shT_congr (rs' := rs) (cs' := cs) (fun i hi => natOf_bit rs hi) (fun k hk => natOf_bit cs hk)] at this
theorem tr_nameA {P : Program} {r : Option Nat} {w0 : World} {n : Nat} {c : Code} {ds : List Deferred} {ts : TS} {A : List Chunk} {Q : PostT} (h : ∀ A0, A0 = A → Tr P r w0 n c ds ts A0 Q) : Tr P r w0 n c ds ts A Q := h A rfl
/-! ## Error, Short, CheckProof of the definition -/
section
variable (RA : Option Addr) (rc : Nat) (CA : Option Addr) (cc : Nat) (XA : Option Addr) (xc : Nat) (R C : List R2) (X : List (List R2)) (w : World) (hT : TabR w RA CA XA R C X)
include hT
set_option maxHeartbeats 1000000 in
set_option maxRecDepth 20000 in
theorem refShort_any (hV : Valid R C X) (PA : Option Addr) (pcap : Nat) (P : List Int) (hP : Reads w w.heap.size 1 PA P.length (i64s P)) (hp7 : P.length ≤ 7) (QA : Option Addr) (qcap : Nat) (Q : List Int) (hQ : Reads w w.heap.size 1 QA Q.length (i64s Q)) (hq7 : Q.length ≤ 7) (side : Int) (hok : prOK R C P Q side) :
  Calls Try.prog 79 #[tabV RA rc CA cc XA xc R C X, proofV PA pcap P.length QA qcap Q.length side] w fun e w' => e = .returned (.int .i64 (shP R C X P Q side)) ∧ Below w.heap.size w w' := by
 have hn4 := hV.r4
 have hm4 := hV.c4
 have i1 := risB_in hok.1 (Int.le_refl _)
 have i2 := risB_in hok.2.1 (Int.le_refl _)
 rw [shP_eq hok]
 have z1 : ∀ j, j < P.length → 0 ≤ P[j]?.getD 0 ∧ P[j]?.getD 0 < 60 := fun j hj => by have := i1 j (by omega) (by omega); omega
 have z2 : ∀ j, j < Q.length → 0 ≤ Q[j]?.getD 0 ∧ Q[j]?.getD 0 < 60 := fun j hj => by have := i2 j (by omega) (by omega); omega
 have hbp : ∀ {A1 w1}, St w A1 w1 → _ := fun {A1 w1} (hs : St w A1 w1) => bits_any PA pcap P w1 (hs.reads hP) (by unfold maxLen; omega) z1
 have hbq : ∀ {A1 w1}, St w A1 w1 → _ := fun {A1 w1} (hs : St w A1 w1) => bits_any QA qcap Q w1 (hs.reads hQ) (by unfold maxLen; omega) z2
 have t1 := bitsN_has fun j hj => (z1 j hj).1
 have t2 := bitsN_has fun j hj => (z2 j hj).1
 have l1 := bitsN_lt (l := P) (b := 60) (k := P.length) fun j hj => by have := z1 j hj; omega
 have l2 := bitsN_lt (l := Q) (b := 60) (k := Q.length) fun j hj => by have := z2 j hj; omega
 have htu := fun w1 (h : TabR w1 RA CA XA R C X) => turned_any RA rc CA cc XA xc R C X w1 h hV
 have hsh := fun w1 (h : TabR w1 RA CA XA R C X) => short_any RA rc CA cc XA xc R C X w1 h hV _ _ l1 l2
 have hst := fun (x : TabX) w1 (h : TabR w1 x.r.1 x.c.1 x.x.1 C R (turnX R.length C.length X)) => short_any x.r.1 x.r.2 x.c.1 x.c.2 x.x.1 x.x.2 C R (turnX R.length C.length X) w1 h hV.turn _ _ l2 l1
 rw [t1, t2] at hsh hst
 unfold tabV proofV at *
 by_cases h1 : side = 1
 ·rw [if_pos h1]
  unfold shT
  generalize bitsN P P.length = nP at *
  generalize bitsN Q Q.length = nQ at *
  generalize shS C R (turnX R.length C.length X) (fun k => hasB Q k) (fun i => hasB P i) = v at *
  refine fn_v tk (n := 25) (A := []) Try.func79 rfl rfl (Nat.le_of_ble_eq_true rfl) (St.nil (Below.refl _ _)) ?_
  ((conv => whnf); (repeat ((first | ((first | apply VStop.mk | apply VCall.stop); refine tr_region_draw (id := 2) (by kernel_rfl) [0, 2, 3, 5, 6, 1, 4, 7, 8, 9] [.rd, .rd, .rd, .rd, .rd, .cr, .cr, .cr, .cr, .rd] rfl (by kernel_rfl) ?_; apply ot_v tk) | (apply VLd.mk; (focus ((repeat (first | ((with_reducible apply ld_blk); exact rfl) | (with_reducible apply ld_skip))); done))) | (apply VLdN.mk; (focus ((repeat (first | (with_reducible apply ldn_blk) | (with_reducible apply ldn_skip))); done)); exact rfl) | apply VBr.t | (apply v_t; omega) | (apply VNew.mk; intro g hg)); (conv => whnf))); apply VCall.stop)
  refine ot_callC (X := TabX) (us := []) (vs := []) (fun x => tabX x C R (turnX R.length C.length X)) (fun x => tabCh C R (turnX R.length C.length X) x) _ (fun x c hc => tabCh_mut (x := x) c hc) (by decide) rfl rfl rfl rfl (by kernel_rfl) (evl_of rfl) rfl (fun w1 hs => htu w1 (hs.tab hT)) ?_
  intro x hx
  have h2 := hst x
  unfold tabX tabV at *
  apply ot_v tk
  ((conv => whnf); (repeat ((apply VCall.q; kernel_rfl; (focus (intro w1 hs; first | with_reducible apply hbp hs | with_reducible apply hbq hs | with_reducible apply h2 w1 (hs.tabX x hx (fun d hd => List.mem_append_left _ hd))))); (conv => whnf))))
  ((apply VRet.mk); refine ret1 (by first | exact .inl rfl | exact .inr rfl) rfl (by exact rv_tmp rfl) ?_; exact fun w h => ⟨rfl, h.base⟩)
 ·rw [if_neg h1]
  generalize bitsN P P.length = nP at *
  generalize bitsN Q Q.length = nQ at *
  generalize shS R C X (fun k => hasB P k) (fun i => hasB Q i) = v at *
  refine fn_v tk (n := 25) (A := []) Try.func79 rfl rfl (Nat.le_of_ble_eq_true rfl) (St.nil (Below.refl _ _)) ?_
  ((conv => whnf); (repeat ((first | ((first | apply VStop.mk | apply VCall.stop); refine tr_region_draw (id := 3) (by kernel_rfl) [0, 1, 2, 4, 5, 3, 6, 7, 8] [.rd, .rd, .rd, .rd, .rd, .cr, .cr, .cr, .rd] rfl (by kernel_rfl) ?_; apply ot_v tk) | (apply VCall.q; kernel_rfl; (focus (intro w1 hs; first | with_reducible apply hbp hs | with_reducible apply hbq hs | with_reducible apply hsh w1 (hs.tab hT)))) | (apply VLd.mk; (focus ((repeat (first | ((with_reducible apply ld_blk); exact rfl) | (with_reducible apply ld_skip))); done))) | (apply VLdN.mk; (focus ((repeat (first | (with_reducible apply ldn_blk) | (with_reducible apply ldn_skip))); done)); exact rfl) | apply VBr.f | (apply v_f; omega) | (apply VNew.mk; intro g hg)); (conv => whnf))))
  ((apply VRet.mk); refine ret1 (by first | exact .inl rfl | exact .inr rfl) rfl (by exact rv_tmp rfl) ?_; exact fun w h => ⟨rfl, h.base⟩)
end
set_option maxHeartbeats 1000000 in
set_option maxRecDepth 20000 in
theorem refProof_any (RA : Option Addr) (rc : Nat) (CA : Option Addr) (cc : Nat) (XA : Option Addr) (xc : Nat) (R C : List R2) (X : List (List R2)) (w : World) (hT : TabR w RA CA XA R C X) (hF : FitT R C X)
  (PA : Option Addr) (pcap : Nat) (P : List Int) (hP : Reads w w.heap.size 1 PA P.length (i64s P)) (hp7 : P.length ≤ 7) (QA : Option Addr) (qcap : Nat) (Q : List Int) (hQ : Reads w w.heap.size 1 QA Q.length (i64s Q)) (hq7 : Q.length ≤ 7) (side : Int) :
  Calls Try.prog 29 #[tabV RA rc CA cc XA xc R C X, proofV PA pcap P.length QA qcap Q.length side] w fun e w' => e = .returned (.tuple #[.int .i64 (chkPr R C X P Q side).1, .int .i64 (chkPr R C X P Q side).2]) ∧ Below w.heap.size w w' := by
 have hct := fun w1 (h : TabR w1 RA CA XA R C X) => refTable_any RA rc CA cc XA xc R C X w1 h hF
 have hrp : ∀ {A1 w1}, St w A1 w1 → _ := fun {A1 w1} (hs : St w A1 w1) => isList_any PA pcap P R.length w1 (hs.reads hP) (by unfold maxLen; omega)
 have hrq : ∀ {A1 w1}, St w A1 w1 → _ := fun {A1 w1} (hs : St w A1 w1) => isList_any QA qcap Q C.length w1 (hs.reads hQ) (by unfold maxLen; omega)
 have hsh : ∀ {A1 w1}, St w A1 w1 → _ := fun {A1 w1} (hs : St w A1 w1) hV hok => refShort_any RA rc CA cc XA xc R C X w1 (hs.tab hT) hV PA pcap P (hs.reads hP) hp7 QA qcap Q (hs.reads hQ) hq7 side hok
 unfold tabV proofV at *
 by_cases hz : chkTab R C X = 0
 rotate_left
 ·have hq : chkPr R C X P Q side = (0, chkTab R C X) := by unfold chkPr; rw [if_pos hz]
  rw [hq]
  generalize chkTab R C X = z at *
  refine fn_v tk (n := 44) (A := []) Try.func29 rfl rfl (Nat.le_of_ble_eq_true rfl) (St.nil (Below.refl _ _)) ?_
  ((conv => whnf); (repeat ((first | (apply VCall.q; kernel_rfl; (focus (intro w1 hs; first | with_reducible apply hct w1 (hs.tab hT)))) | (apply VLdN.mk; (focus ((repeat (first | (with_reducible apply ldn_blk) | (with_reducible apply ldn_skip))); done)); exact rfl) | apply VBr.t | (apply v_t; omega) | (apply VNew.mk; intro g hg)); (conv => whnf))))
  (apply VRet.mk)
  refine ret2 (by first | exact .inl rfl | exact .inr rfl) rfl (by exact rv_tmp rfl) (by exact rv_tmp rfl) ?_
  exact fun w h => ⟨rfl, h.base⟩
 have hV := chk_valid hz
 have hz' := hz
 rw [hz] at hct
 by_cases hok : prOK R C P Q side
 rotate_left
 ·have hq : chkPr R C X P Q side = (0, 2) := by unfold chkPr; rw [if_neg (by rw [hz]; simp), if_pos hok]
  rw [hq]
  unfold prOK at hok
  clear hsh
  generalize risB R.length P P.length 0 0 = b1 at *
  generalize risB C.length Q Q.length 0 0 = b2 at *
  refine fn_v tk (n := 44) (A := []) Try.func29 rfl rfl (Nat.le_of_ble_eq_true rfl) (St.nil (Below.refl _ _)) ?_
  cases b1
  ·((conv => whnf); (repeat ((first | (apply VCall.q; kernel_rfl; (focus (intro w1 hs; first | with_reducible apply hct w1 (hs.tab hT) | with_reducible apply hrp hs))) | (apply VLd.mk; (focus ((repeat (first | ((with_reducible apply ld_blk); exact rfl) | (with_reducible apply ld_skip))); done))) | (apply VLdN.mk; (focus ((repeat (first | (with_reducible apply ldn_blk) | (with_reducible apply ldn_skip))); done)); exact rfl) | apply VBr.t | apply VBr.f | (apply v_f; omega) | (apply VNew.mk; intro g hg)); (conv => whnf))))
   (apply VRet.mk)
   refine ret2 (by first | exact .inl rfl | exact .inr rfl) rfl (by exact rv_tmp rfl) (by exact rv_tmp rfl) ?_
   exact fun w h => ⟨rfl, h.base⟩
  cases b2
  ·((conv => whnf); (repeat ((first | (apply VCall.q; kernel_rfl; (focus (intro w1 hs; first | with_reducible apply hct w1 (hs.tab hT) | with_reducible apply hrp hs | with_reducible apply hrq hs))) | (apply VLd.mk; (focus ((repeat (first | ((with_reducible apply ld_blk); exact rfl) | (with_reducible apply ld_skip))); done))) | (apply VLdN.mk; (focus ((repeat (first | (with_reducible apply ldn_blk) | (with_reducible apply ldn_skip))); done)); exact rfl) | apply VBr.t | apply VBr.f | (apply v_f; omega) | (apply VNew.mk; intro g hg)); (conv => whnf))))
   (apply VRet.mk)
   refine ret2 (by first | exact .inl rfl | exact .inr rfl) rfl (by exact rv_tmp rfl) (by exact rv_tmp rfl) ?_
   exact fun w h => ⟨rfl, h.base⟩
  have n0 : ¬side = 0 := fun h => hok ⟨rfl, rfl, by omega, by omega⟩
  have n1 : ¬side = 1 := fun h => hok ⟨rfl, rfl, by omega, by omega⟩
  ((conv => whnf); (repeat ((first | (apply VCall.q; kernel_rfl; (focus (intro w1 hs; first | with_reducible apply hct w1 (hs.tab hT) | with_reducible apply hrp hs | with_reducible apply hrq hs))) | (apply VLd.mk; (focus ((repeat (first | ((with_reducible apply ld_blk); exact rfl) | (with_reducible apply ld_skip))); done))) | (apply VLdN.mk; (focus ((repeat (first | (with_reducible apply ldn_blk) | (with_reducible apply ldn_skip))); done)); exact rfl) | apply VBr.t | apply VBr.f | (apply v_t; omega) | (apply v_f; omega) | (apply VNew.mk; intro g hg)); (conv => whnf))))
  (apply VRet.mk)
  refine ret2 (by first | exact .inl rfl | exact .inr rfl) rfl (by exact rv_tmp rfl) (by exact rv_tmp rfl) ?_
  exact fun w h => ⟨rfl, h.base⟩
 have hq : chkPr R C X P Q side = if shP R C X P Q side ≤ 0 then (0, 14) else (shP R C X P Q side, 0) := by unfold chkPr; rw [if_neg (by rw [hz]; simp), if_neg (fun h => h hok)]
 rw [hq]
 have h79 : ∀ {A1 w1}, St w A1 w1 → _ := fun {A1 w1} (hs : St w A1 w1) => hsh hs hV hok
 rw [hok.1] at hrp
 rw [hok.2.1] at hrq
 have hs0 := hok.2.2
 clear hq hsh
 generalize shP R C X P Q side = v at *
 by_cases h0 : v ≤ 0
 ·rw [if_pos h0]
  refine fn_v tk (n := 44) (A := []) Try.func29 rfl rfl (Nat.le_of_ble_eq_true rfl) (St.nil (Below.refl _ _)) ?_
  by_cases h1 : side = 0
  ·subst h1
   ((conv => whnf); (repeat ((first | (apply VCall.q; kernel_rfl; (focus (intro w1 hs; first | with_reducible apply hct w1 (hs.tab hT) | with_reducible apply hrp hs | with_reducible apply hrq hs | with_reducible apply h79 hs))) | (apply VLd.mk; (focus ((repeat (first | ((with_reducible apply ld_blk); exact rfl) | (with_reducible apply ld_skip))); done))) | (apply VLdN.mk; (focus ((repeat (first | (with_reducible apply ldn_blk) | (with_reducible apply ldn_skip))); done)); exact rfl) | apply VBr.t | apply VBr.f | (apply v_t; omega) | (apply v_f; omega) | (apply VNew.mk; intro g hg)); (conv => whnf))))
   (apply VRet.mk)
   refine ret2 (by first | exact .inl rfl | exact .inr rfl) rfl (by exact rv_tmp rfl) (by exact rv_tmp rfl) ?_
   exact fun w h => ⟨rfl, h.base⟩
  ·obtain rfl : side = 1 := by omega
   ((conv => whnf); (repeat ((first | (apply VCall.q; kernel_rfl; (focus (intro w1 hs; first | with_reducible apply hct w1 (hs.tab hT) | with_reducible apply hrp hs | with_reducible apply hrq hs | with_reducible apply h79 hs))) | (apply VLd.mk; (focus ((repeat (first | ((with_reducible apply ld_blk); exact rfl) | (with_reducible apply ld_skip))); done))) | (apply VLdN.mk; (focus ((repeat (first | (with_reducible apply ldn_blk) | (with_reducible apply ldn_skip))); done)); exact rfl) | apply VBr.t | apply VBr.f | (apply v_t; omega) | (apply v_f; omega) | (apply VNew.mk; intro g hg)); (conv => whnf))))
   (apply VRet.mk)
   refine ret2 (by first | exact .inl rfl | exact .inr rfl) rfl (by exact rv_tmp rfl) (by exact rv_tmp rfl) ?_
   exact fun w h => ⟨rfl, h.base⟩
 ·rw [if_neg h0]
  refine fn_v tk (n := 44) (A := []) Try.func29 rfl rfl (Nat.le_of_ble_eq_true rfl) (St.nil (Below.refl _ _)) ?_
  by_cases h1 : side = 0
  ·subst h1
   ((conv => whnf); (repeat ((first | (apply VCall.q; kernel_rfl; (focus (intro w1 hs; first | with_reducible apply hct w1 (hs.tab hT) | with_reducible apply hrp hs | with_reducible apply hrq hs | with_reducible apply h79 hs))) | (apply VLd.mk; (focus ((repeat (first | ((with_reducible apply ld_blk); exact rfl) | (with_reducible apply ld_skip))); done))) | (apply VLdN.mk; (focus ((repeat (first | (with_reducible apply ldn_blk) | (with_reducible apply ldn_skip))); done)); exact rfl) | apply VBr.f | (apply v_f; omega) | (apply VNew.mk; intro g hg)); (conv => whnf))))
   (apply VRet.mk)
   refine ret2 (by first | exact .inl rfl | exact .inr rfl) rfl (by exact rv_tmp rfl) (by exact rv_tmp rfl) ?_
   exact fun w h => ⟨rfl, h.base⟩
  ·obtain rfl : side = 1 := by omega
   ((conv => whnf); (repeat ((first | (apply VCall.q; kernel_rfl; (focus (intro w1 hs; first | with_reducible apply hct w1 (hs.tab hT) | with_reducible apply hrp hs | with_reducible apply hrq hs | with_reducible apply h79 hs))) | (apply VLd.mk; (focus ((repeat (first | ((with_reducible apply ld_blk); exact rfl) | (with_reducible apply ld_skip))); done))) | (apply VLdN.mk; (focus ((repeat (first | (with_reducible apply ldn_blk) | (with_reducible apply ldn_skip))); done)); exact rfl) | apply VBr.t | apply VBr.f | (apply v_t; omega) | (apply v_f; omega) | (apply VNew.mk; intro g hg)); (conv => whnf))))
   (apply VRet.mk)
   refine ret2 (by first | exact .inl rfl | exact .inr rfl) rfl (by exact rv_tmp rfl) (by exact rv_tmp rfl) ?_
   exact fun w h => ⟨rfl, h.base⟩
end Go.Proofs.Ytalcccgialpjgaa
