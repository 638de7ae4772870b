/- Files, plainly: lemmas for the rows of this seat. No conditions. -/
import Derived.Laws.StructEq
import Derived.Test.YtojeeindlijgkaaGreatDoorK16
import Derived.Test.YtojeeindlijgkaaGreatDoorK28
import Derived.Test.YtojeeindlijgkaaGreatDoorK30
set_option linter.all false
namespace Go.Proofs.YtojeeindlijgkaaGreatDoor
open Go.RowKit
/-! ## Files, plainly -/
def jnS (c : UInt8) : List (List UInt8) → List UInt8
 | [] => []
 | [p] => p
 | p :: q :: r => p ++ c :: jnS c (q :: r)
theorem jnS_cons {c : UInt8} {p : List UInt8} : ∀ {r : List (List UInt8)}, r ≠ [] → jnS c (p :: r) = p ++ c :: jnS c r
 | [], h => absurd rfl h
 | _ :: _, _ => rfl
theorem jn_spl (c : UInt8) : ∀ (l cur : List UInt8), jnS c (spl c.toNat cur l) = cur ++ l
 | [], cur => by simp [spl, jnS]
 | d :: l, cur => by
  rw [spl]
  by_cases h : d.toNat = c.toNat
  ·rw [if_pos h, jnS_cons (spl_ne _ _ _), jn_spl c l [], UInt8.toNat_inj.1 h]; rfl
  ·rw [if_neg h, jn_spl c l (cur ++ [d]), List.append_assoc]; rfl
theorem spl_piece (c : UInt8) : ∀ (p cur r : List UInt8), c ∉ p → spl c.toNat cur (p ++ c :: r) = (cur ++ p) :: spl c.toNat [] r
 | [], cur, r, _ => by rw [List.nil_append, spl, if_pos rfl, List.append_nil]
 | d :: p, cur, r, h => by
  have h1 : d ≠ c := fun e => h (by rw [e]; exact .head _)
  rw [List.cons_append, spl, if_neg (fun e => h1 (UInt8.toNat_inj.1 e)), spl_piece c p (cur ++ [d]) r (fun e => h (.tail _ e)), List.append_assoc]; rfl
theorem spl_last (c : UInt8) : ∀ (p cur : List UInt8), c ∉ p → spl c.toNat cur p = [cur ++ p]
 | [], cur, _ => by rw [spl, List.append_nil]
 | d :: p, cur, h => by
  have h1 : d ≠ c := fun e => h (by rw [e]; exact .head _)
  rw [spl, if_neg (fun e => h1 (UInt8.toNat_inj.1 e)), spl_last c p (cur ++ [d]) (fun e => h (.tail _ e)), List.append_assoc]; rfl
/-! ### Five digits -/
theorem f5_dg (n : Nat) : f5 n = [dg (n / 10 ^ 4 % 10), dg (n / 10 ^ 3 % 10), dg (n / 10 ^ 2 % 10), dg (n / 10 ^ 1 % 10), dg (n / 10 ^ 0 % 10)] := by unfold f5 dig dg; rfl
theorem five_val {a b c d e : Nat} (ha : a < 10) (hb : b < 10) (hc : c < 10) (hd : d < 10) (he : e < 10) : valT [dg a, dg b, dg c, dg d, dg e] = 10000 * a + 1000 * b + 100 * c + 10 * d + e := by
 unfold valT
 simp only [List.foldl_cons, List.foldl_nil, dgV _ ha, dgV _ hb, dgV _ hc, dgV _ hd, dgV _ he]
 omega
theorem f5_all (n : Nat) : (f5 n).all isDig = true := by
 rw [f5_dg]
 simp only [List.all_cons, List.all_nil, dgD (Nat.mod_lt _ (by decide : 0 < 10)), Bool.and_true]
theorem f5_val {n : Nat} (h : n < 100000) : valT (f5 n) = n := by
 rw [f5_dg, five_val (Nat.mod_lt _ (by decide)) (Nat.mod_lt _ (by decide)) (Nat.mod_lt _ (by decide)) (Nat.mod_lt _ (by decide)) (Nat.mod_lt _ (by decide))]
 omega
theorem f5_digB (n : Nat) : digB (f5 n) = true := by
 unfold digB
 rw [f5_all]; rfl
theorem val_f5 {l : List UInt8} (h : l.all isDig = true) (h5 : l.length = 5) : f5 (valT l).toNat = l ∧ 0 ≤ valT l ∧ valT l < 100000 := by
 match l, h5 with
 | [a, b, c, d, e], _ =>
  simp only [List.all_cons, List.all_nil, Bool.and_true, Bool.and_eq_true] at h
  obtain ⟨h1, h2, h3, h4, h6⟩ := h
  obtain ⟨a, ha, rfl⟩ := dig_of h1
  obtain ⟨b, hb, rfl⟩ := dig_of h2
  obtain ⟨c, hc, rfl⟩ := dig_of h3
  obtain ⟨d, hd, rfl⟩ := dig_of h4
  obtain ⟨e, he, rfl⟩ := dig_of h6
  have := five_val ha hb hc hd he
  unfold dg at this
  rw [this, f5_dg]
  refine ⟨?_, by omega, by omega⟩
  have e0 : ((10000 : Int) * a + 1000 * b + 100 * c + 10 * d + e).toNat = 10000 * a + 1000 * b + 100 * c + 10 * d + e := by omega
  rw [e0, show (10000 * a + 1000 * b + 100 * c + 10 * d + e) / 10 ^ 4 % 10 = a by omega, show (10000 * a + 1000 * b + 100 * c + 10 * d + e) / 10 ^ 3 % 10 = b by omega, show (10000 * a + 1000 * b + 100 * c + 10 * d + e) / 10 ^ 2 % 10 = c by omega, show (10000 * a + 1000 * b + 100 * c + 10 * d + e) / 10 ^ 1 % 10 = d by omega, show (10000 * a + 1000 * b + 100 * c + 10 * d + e) / 10 ^ 0 % 10 = e by omega]
  rfl
/-! ### A line and its words -/
/-- A line that a file can tell. -/
structure LnRd (x : Ln) : Prop where
 st : 0 ≤ x.st ∧ x.st ≤ 9999
 ck : 0 ≤ x.ck ∧ x.ck ≤ 9999
 kd : x.kd = 1 ∨ x.kd = 2
 th : 0 ≤ x.th ∧ x.th ≤ 9999
 vl : -9999 ≤ x.vl ∧ x.vl ≤ 9999
theorem sgn_ge {l : List UInt8} (h : sgnOk l = true) : ∀ c ∈ l, 45 ≤ c.toNat := by
 have hd : ∀ {m : List UInt8}, numOk m = true → ∀ c ∈ m, 45 ≤ c.toNat := fun hm c hc => by
  have := List.all_eq_true.1 (num_all hm).1 c hc
  unfold isDig at this
  simp only [Bool.and_eq_true, decide_eq_true_eq] at this
  omega
 unfold sgnOk at h
 cases hs : sgnB l
 ·rw [hs, if_neg (by decide)] at h
  exact hd h
 ·rw [hs, if_pos rfl] at h
  simp only [Bool.and_eq_true, decide_eq_true_eq] at h
  unfold sgnB at hs
  simp only [Bool.and_eq_true, decide_eq_true_eq] at hs
  intro c hc
  match l, hs.1 with
  | a :: r, _ =>
   rcases List.mem_cons.1 hc with rfl | hc
   ·have : (cAt (c :: r) 0).toNat = 45 := hs.2
    have h2 : cAt (c :: r) 0 = c := rfl
    rw [h2] at this
    omega
   ·exact hd h.1 c hc
theorem itoa_num {v : Int} (h : 0 ≤ v ∧ v ≤ 9999) : numOk (Go.Lib.itoa v) = true ∧ numV (Go.Lib.itoa v) = v := by
 obtain ⟨h1, h2⟩ := itoa_sgn (v := v) ⟨by omega, h.2⟩
 have h3 := sgn_num h1 (by omega)
 exact ⟨h3, by rw [← (num_sgn h3).2]; exact h2⟩
theorem itoa_ne {v : Int} (h : -9999 ≤ v ∧ v ≤ 9999) {c : UInt8} (hc : c.toNat < 45) : c ∉ Go.Lib.itoa v := fun hm => by
 have := sgn_ge (itoa_sgn h).1 c hm
 omega
theorem word_ne (k : Int) {c : UInt8} (hc : c.toNat < 45) : c ∉ wordT k := fun hm => by
 unfold wordT at hm
 split at hm <;> (simp only [List.mem_cons, List.not_mem_nil, or_false] at hm; rcases hm with rfl | rfl | rfl <;> revert hc <;> decide)
theorem f5_ne (n : Nat) {c : UInt8} (hc : c.toNat < 45) : c ∉ f5 n := fun hm => by
 have := List.all_eq_true.1 (f5_all n) c hm
 unfold isDig at this
 simp only [Bool.and_eq_true, decide_eq_true_eq] at this
 omega
theorem line_jn (x : Ln) (w : List UInt8) : lineT x ++ [32] ++ w = Go.Lib.itoa x.st ++ 32 :: (Go.Lib.itoa x.ck ++ 32 :: (wordT x.kd ++ 32 :: (Go.Lib.itoa x.th ++ 32 :: (Go.Lib.itoa x.vl ++ 32 :: w)))) := by
 unfold lineT
 simp [List.append_assoc]
theorem line_words {x : Ln} (h : LnRd x) (n : Nat) : spl 32 [] (lineT x ++ [32] ++ f5 n) = [Go.Lib.itoa x.st, Go.Lib.itoa x.ck, wordT x.kd, Go.Lib.itoa x.th, Go.Lib.itoa x.vl, f5 n] := by
 have h32 : (32 : UInt8).toNat < 45 := by decide
 have e : (32 : Nat) = (32 : UInt8).toNat := rfl
 have hs := h.st
 have hc := h.ck
 have ht := h.th
 rw [line_jn, e, spl_piece _ _ _ _ (itoa_ne ⟨by omega, hs.2⟩ h32), spl_piece _ _ _ _ (itoa_ne ⟨by omega, hc.2⟩ h32), spl_piece _ _ _ _ (word_ne _ h32), spl_piece _ _ _ _ (itoa_ne ⟨by omega, ht.2⟩ h32), spl_piece _ _ _ _ (itoa_ne h.vl h32), spl_last _ _ _ (f5_ne _ h32)]
 rfl
theorem rdR_line {x : Ln} (h : LnRd x) {n : Nat} (hn : n < 100000) : rdR (lineT x ++ [32] ++ f5 n) = (x, (n : Int), true) := by
 obtain ⟨a1, a2⟩ := itoa_num h.st
 obtain ⟨b1, b2⟩ := itoa_num h.ck
 obtain ⟨c1, c2⟩ := itoa_num h.th
 obtain ⟨d1, d2⟩ := itoa_sgn h.vl
 have hk : wordT x.kd = (if x.kd = 2 then setT else addT) := rfl
 unfold rdR
 rw [line_words h n]
 have hg : goodW [Go.Lib.itoa x.st, Go.Lib.itoa x.ck, wordT x.kd, Go.Lib.itoa x.th, Go.Lib.itoa x.vl, f5 n] = true := by
  have e2 : wd [Go.Lib.itoa x.st, Go.Lib.itoa x.ck, wordT x.kd, Go.Lib.itoa x.th, Go.Lib.itoa x.vl, f5 n] 2 = wordT x.kd := rfl
  have e5 : wd [Go.Lib.itoa x.st, Go.Lib.itoa x.ck, wordT x.kd, Go.Lib.itoa x.th, Go.Lib.itoa x.vl, f5 n] 5 = f5 n := rfl
  unfold goodW
  rw [e2, e5, f5_digB, hk]
  have e6 : (f5 n).length = 5 := rfl
  rw [e6]
  rcases h.kd with e | e <;> rw [e] <;> rfl
 rw [if_pos hg]
 have hl : lnR [Go.Lib.itoa x.st, Go.Lib.itoa x.ck, wordT x.kd, Go.Lib.itoa x.th, Go.Lib.itoa x.vl, f5 n] = x := by
  show Ln.mk (numV (Go.Lib.itoa x.st)) (numV (Go.Lib.itoa x.ck)) (if wordT x.kd = setT then 2 else 1) (numV (Go.Lib.itoa x.th)) (sgnV (Go.Lib.itoa x.vl)) = x
  rw [a2, b2, c2, d2, hk]
  have : (if (if x.kd = 2 then setT else addT) = setT then (2 : Int) else 1) = x.kd := by
   rcases h.kd with e | e <;> rw [e] <;> rfl
  rw [this]
 have ho : okR [Go.Lib.itoa x.st, Go.Lib.itoa x.ck, wordT x.kd, Go.Lib.itoa x.th, Go.Lib.itoa x.vl, f5 n] = true := by
  show (numOk (Go.Lib.itoa x.st) && (numOk (Go.Lib.itoa x.ck) && (numOk (Go.Lib.itoa x.th) && sgnOk (Go.Lib.itoa x.vl)))) = true
  rw [a1, b1, c1, d1]; rfl
 have hv : valT (wd [Go.Lib.itoa x.st, Go.Lib.itoa x.ck, wordT x.kd, Go.Lib.itoa x.th, Go.Lib.itoa x.vl, f5 n] 5) = n := f5_val hn
 rw [hl, ho, hv]
theorem num_itoa {l : List UInt8} (h : numOk l = true) : l = Go.Lib.itoa (numV l) := by
 obtain ⟨h1, h2⟩ := num_sgn h
 have := (sgn_itoa h1).1
 rwa [h2] at this
theorem rd_line {p : List UInt8} (h : (rdR p).2.2 = true) : LnRd (rdR p).1 ∧ ∃ w : List UInt8, w.all isDig = true ∧ w.length = 5 ∧ p = lineT (rdR p).1 ++ [32] ++ w ∧ (rdR p).2.1 = valT w := by
 have hp := jn_spl 32 p []
 rw [List.nil_append] at hp
 unfold rdR at h ⊢
 have e32 : (32 : UInt8).toNat = 32 := rfl
 rw [e32] at hp
 generalize spl 32 [] p = W at *
 by_cases hg : goodW W = true
 rotate_left
 ·rw [if_neg hg] at h; cases h
 rw [if_pos hg] at h ⊢
 have h6 : W.length = 6 := by
  unfold goodW at hg
  simp only [Bool.and_eq_true, decide_eq_true_eq] at hg
  exact hg.1
 obtain ⟨w0, w1, w2, w3, w4, w5, rfl⟩ := six h6
 have hb : ((decide (w2 = addT) || decide (w2 = setT)) && (digB w5 && decide (w5.length = 5))) = true := hg
 have ho : (numOk w0 && (numOk w1 && (numOk w3 && sgnOk w4))) = true := h
 unfold digB at hb
 simp only [Bool.and_eq_true, Bool.or_eq_true, decide_eq_true_eq] at hb ho
 obtain ⟨hk, ⟨hd, _⟩, h5⟩ := hb
 obtain ⟨o0, o1, o3, o4⟩ := ho
 have b0 := numV_bd w0
 have b1 := numV_bd w1
 have b3 := numV_bd w3
 obtain ⟨s1, s2, s3⟩ := sgn_itoa o4
 have hl : lnR [w0, w1, w2, w3, w4, w5] = ⟨numV w0, numV w1, if w2 = setT then 2 else 1, numV w3, sgnV w4⟩ := rfl
 have hwk : wordT (if w2 = setT then (2 : Int) else 1) = w2 := by
  rcases hk with rfl | rfl <;> rfl
 dsimp only
 rw [hl]
 refine ⟨⟨b0, b1, ?_, b3, s2, s3⟩, w5, hd, h5, ?_, rfl⟩
 ·dsimp only; split <;> simp
 ·rw [line_jn]
  dsimp only
  rw [hwk, ← num_itoa o0, ← num_itoa o1, ← num_itoa o3, ← s1]
  exact hp.symm
/-! ### All lines of a file -/
def outs (n : Int) : List Ln → List UInt8
 | [] => []
 | x :: L => outT n x ++ outs (sumT n (lineT x)) L
def smA (n : Int) : List Ln → Int
 | [] => n
 | x :: L => smA (sumT n (lineT x)) L
theorem file_fold : ∀ (L : List Ln) (n : Int) (T : List UInt8), L.foldl (fun p x => (sumT p.1 (lineT x), p.2 ++ outT p.1 x)) (n, T) = (smA n L, T ++ outs n L)
 | [], n, T => by simp [smA, outs]
 | x :: L, n, T => by
  rw [List.foldl_cons, file_fold L, smA, outs, List.append_assoc]
theorem fileF_eq (L : List Ln) : fileF L = (smA 0 L, outs 0 L) := by
 unfold fileF
 rw [file_fold]; rfl
def nlS (D : List (List UInt8)) : List UInt8 := (D.map (· ++ [10])).flatten
theorem nlS_cons (p : List UInt8) (D : List (List UInt8)) : nlS (p :: D) = p ++ [10] ++ nlS D := rfl
theorem jn_nl : ∀ (D : List (List UInt8)), jnS 10 (D ++ [[]]) = nlS D
 | [] => rfl
 | p :: D => by
  rw [List.cons_append, jnS_cons (by simp), jn_nl D, nlS_cons]
  simp
theorem form_file {s : List UInt8} (h : formOk (spl 10 [] s) = true) : (spl 10 [] s).dropLast.all (fun p => (rdR p).2.2) = true ∧ s = nlS (spl 10 [] s).dropLast ∧ spl 10 [] s = (spl 10 [] s).dropLast ++ [[]] := by
 have hp := jn_spl 10 s []
 rw [List.nil_append] at hp
 have e10 : (10 : UInt8).toNat = 10 := rfl
 rw [e10] at hp
 unfold formOk at h
 simp only [Bool.and_eq_true, decide_eq_true_eq] at h
 have hne := spl_ne 10 s []
 generalize spl 10 [] s = P at *
 have hD : P = P.dropLast ++ [[]] := by
  have := List.dropLast_concat_getLast hne
  rw [List.getLast?_eq_some_getLast hne] at h
  have h2 := h.2
  injection h2 with h2
  rw [h2] at this
  exact this.symm
 refine ⟨h.1, ?_, hD⟩
 rw [← jn_nl, ← hD]
 exact hp.symm
theorem file_sums : ∀ (D : List (List UInt8)) (n : Int), 0 ≤ n ∧ n ≤ 65520 → D.all (fun p => (rdR p).2.2) = true → (outs n (D.map fun p => (rdR p).1) = nlS D ↔ ∀ k, k < D.length → smA n ((D.map fun p => (rdR p).1).take (k + 1)) = iAtK (D.map fun p => (rdR p).2.1) k)
 | [], n, _, _ => by simp [outs, nlS]
 | p :: D, n, hn, hD => by
  rw [List.all_cons, Bool.and_eq_true] at hD
  obtain ⟨_, w, hw1, hw2, hw3, hw4⟩ := rd_line hD.1
  have hb := sumT_bd (lineT (rdR p).1) n hn
  have ih := file_sums D (sumT n (lineT (rdR p).1)) hb hD.2
  obtain ⟨v1, v2, v3⟩ := val_f5 hw1 hw2
  have hk0 : iAtK ((p :: D).map fun p => (rdR p).2.1) 0 = valT w := hw4
  have hks : ∀ k, iAtK ((p :: D).map fun p => (rdR p).2.1) (k + 1) = iAtK (D.map fun p => (rdR p).2.1) k := fun k => rfl
  have hs0 : smA n (((p :: D).map fun p => (rdR p).1).take (0 + 1)) = sumT n (lineT (rdR p).1) := rfl
  have hss : ∀ k, smA n (((p :: D).map fun p => (rdR p).1).take (k + 1 + 1)) = smA (sumT n (lineT (rdR p).1)) ((D.map fun p => (rdR p).1).take (k + 1)) := fun k => rfl
  rw [List.map_cons, outs, nlS_cons, outT]
  have hp2 : p ++ [10] ++ nlS D = lineT (rdR p).1 ++ [32] ++ w ++ [10] ++ nlS D := by rw [← hw3]
  rw [hp2]
  generalize sumT n (lineT (rdR p).1) = m at *
  constructor
  ·intro h
   simp only [List.append_assoc] at h
   have h := List.append_cancel_left (List.append_cancel_left h)
   obtain ⟨h1, h2⟩ := List.append_inj h (by rw [hw2]; rfl)
   have h3 := List.append_cancel_left h2
   have hm : m = valT w := by
    have := f5_val (n := m.toNat) (by omega)
    rw [h1] at this
    omega
   intro k hk
   cases k with
   | zero => exact hs0.trans (hm.trans hk0.symm)
   | succ k => exact (hss k).trans (((ih.1 h3) k (by simpa using hk)).trans (hks k).symm)
  ·intro h
   have h0 := h 0 (by simp)
   have h0 : m = valT w := hs0.symm.trans (h0.trans hk0)
   have h1 := ih.2 fun k hk => by
    have := h (k + 1) (by simpa using hk)
    exact (hss k).symm.trans (this.trans (hks k))
   rw [h1, h0, v1]
theorem file_same {s : List UInt8} (h : formOk (spl 10 [] s) = true) : (fileF ((spl 10 [] s).dropLast.map fun p => (rdR p).1)).2 = s ↔ ∀ k, k < ((spl 10 [] s).dropLast.map fun p => (rdR p).1).length → (fileF (((spl 10 [] s).dropLast.map fun p => (rdR p).1).take (k + 1))).1 = iAtK ((spl 10 [] s).dropLast.map fun p => (rdR p).2.1) k := by
 obtain ⟨h1, h2, _⟩ := form_file h
 have := file_sums (spl 10 [] s).dropLast 0 (by decide) h1
 simp only [fileF_eq, List.length_map]
 rw [← this, ← h2]
/-! ## Two files that are near one another -/
theorem sumB_start {m m' : Int} {c : UInt8} (h : 0 ≤ m ∧ m ≤ 65520) (h' : 0 ≤ m' ∧ m' ≤ 65520) (e : sumB m c = sumB m' c) : m = m' := by
 unfold sumB at e
 have hc : (0 : Int) ≤ c.toNat := by omega
 rw [Int.tmod_eq_emod_of_nonneg (by omega), Int.tmod_eq_emod_of_nonneg (by omega)] at e
 omega
theorem sumT_start : ∀ (V : List UInt8) {m m' : Int}, 0 ≤ m ∧ m ≤ 65520 → 0 ≤ m' ∧ m' ≤ 65520 → sumT m V = sumT m' V → m = m'
 | [], _, _, _, _, e => e
 | c :: V, _, _, h, h', e => sumB_start h h' (sumT_start V (sumB_bd _ c h) (sumB_bd _ c h') e)
theorem sumT_app (n : Int) (U V : List UInt8) : sumT n (U ++ V) = sumT (sumT n U) V := List.foldl_append ..
theorem sum_one {n : Int} (h : 0 ≤ n ∧ n ≤ 65520) {U V : List UInt8} {a b : UInt8} (e : sumT n (U ++ a :: V) = sumT n (U ++ b :: V)) : a = b := by
 rw [sumT_app, sumT_app] at e
 have hm := sumT_bd U n h
 generalize sumT n U = m at *
 have e := sumT_start V (sumB_bd m a hm) (sumB_bd m b hm) e
 unfold sumB at e
 have ha : (a.toNat : Int) < 256 := by have := a.toNat_lt; omega
 have hb : (b.toNat : Int) < 256 := by have := b.toNat_lt; omega
 rw [Int.tmod_eq_emod_of_nonneg (by omega), Int.tmod_eq_emod_of_nonneg (by omega)] at e
 exact UInt8.toNat_inj.1 (by omega)
theorem sum_two {n : Int} (h : 0 ≤ n ∧ n ≤ 65520) {U V : List UInt8} {a b : UInt8} (e : sumT n (U ++ a :: b :: V) = sumT n (U ++ b :: a :: V)) : a = b := by
 rw [sumT_app, sumT_app] at e
 have hm := sumT_bd U n h
 generalize sumT n U = m at *
 have h1 := sumB_bd m a hm
 have h2 := sumB_bd m b hm
 have e : sumB (sumB m a) b = sumB (sumB m b) a := sumT_start V (sumB_bd _ b h1) (sumB_bd _ a h2) e
 unfold sumB at e h1 h2
 have ha : (a.toNat : Int) < 256 := by have := a.toNat_lt; omega
 have hb : (b.toNat : Int) < 256 := by have := b.toNat_lt; omega
 rw [Int.tmod_eq_emod_of_nonneg (a := m * 257 + _ + 1) (by omega)] at e h1
 rw [Int.tmod_eq_emod_of_nonneg (a := m * 257 + (b.toNat : Int) + 1) (by omega)] at e h2
 rw [Int.tmod_eq_emod_of_nonneg (by omega), Int.tmod_eq_emod_of_nonneg (by omega)] at e
 exact UInt8.toNat_inj.1 (by omega)
/-- A line of a file, with its sum and its end. -/
structure RowT (n : Int) (T d : List UInt8) : Prop where
 nl : (10 : UInt8) ∉ T
 sp : T.count 32 = 4
 dg : d = f5 (sumT n T).toNat
theorem num_chars {v : Int} (h : -9999 ≤ v ∧ v ≤ 9999) : (10 : UInt8) ∉ Go.Lib.itoa v ∧ (Go.Lib.itoa v).count 32 = 0 := ⟨itoa_ne h (by decide), List.count_eq_zero.2 (itoa_ne h (by decide))⟩
theorem row_of {x : Ln} (h : LnRd x) (n : Int) : RowT n (lineT x) (f5 (sumT n (lineT x)).toNat) := by
 have hs := h.st
 have hc := h.ck
 have ht := h.th
 obtain ⟨a1, a2⟩ := num_chars (v := x.st) ⟨by omega, hs.2⟩
 obtain ⟨b1, b2⟩ := num_chars (v := x.ck) ⟨by omega, hc.2⟩
 obtain ⟨c1, c2⟩ := num_chars (v := x.th) ⟨by omega, ht.2⟩
 obtain ⟨d1, d2⟩ := num_chars h.vl
 have w1 : (10 : UInt8) ∉ wordT x.kd := word_ne _ (by decide)
 have w2 : (wordT x.kd).count 32 = 0 := List.count_eq_zero.2 (word_ne _ (by decide))
 refine ⟨?_, ?_, rfl⟩
 ·unfold lineT
  simp only [List.mem_append, List.mem_singleton, not_or]
  exact ⟨⟨⟨⟨⟨⟨⟨⟨a1, by decide⟩, b1⟩, by decide⟩, w1⟩, by decide⟩, c1⟩, by decide⟩, d1⟩
 ·unfold lineT
  simp only [List.count_append, a2, b2, c2, d2, w2]
  rfl
theorem last_sp {T T' d d' : List UInt8} (h : (32 : UInt8) ∉ d) (h' : (32 : UInt8) ∉ d') (e : T ++ 32 :: d = T' ++ 32 :: d') : T = T' ∧ d = d' := by
 have e2 := congrArg List.length e
 simp only [List.length_append, List.length_cons] at e2
 rcases Nat.lt_trichotomy T.length T'.length with hl | hl | hl
 ·exfalso
  have : (T' ++ 32 :: d')[T'.length]? = some 32 := by rw [List.getElem?_append_right (Nat.le_refl _), Nat.sub_self]; rfl
  rw [← e, List.getElem?_append_right (by omega)] at this
  obtain ⟨k, hk⟩ : ∃ k, T'.length - T.length = k + 1 := ⟨T'.length - T.length - 1, by omega⟩
  rw [hk, List.getElem?_cons_succ] at this
  exact h (List.mem_of_getElem? this)
 ·obtain ⟨h1, h2⟩ := List.append_inj e hl
  injection h2 with _ h2
  exact ⟨h1, h2⟩
 ·exfalso
  have : (T ++ 32 :: d)[T.length]? = some 32 := by rw [List.getElem?_append_right (Nat.le_refl _), Nat.sub_self]; rfl
  rw [e, List.getElem?_append_right (by omega)] at this
  obtain ⟨k, hk⟩ : ∃ k, T.length - T'.length = k + 1 := ⟨T.length - T'.length - 1, by omega⟩
  rw [hk, List.getElem?_cons_succ] at this
  exact h' (List.mem_of_getElem? this)
theorem RowT.d5 {n : Int} {T d : List UInt8} (h : RowT n T d) : d.length = 5 ∧ (10 : UInt8) ∉ d ∧ (32 : UInt8) ∉ d := by
 rw [h.dg]
 exact ⟨rfl, f5_ne _ (by decide), f5_ne _ (by decide)⟩
def rowL (T d : List UInt8) : List UInt8 := T ++ 32 :: (d ++ [10])
/-- The first line ends at the first line's end. -/
theorem first_nl {P Q R S : List UInt8} (h : (10 : UInt8) ∉ P) (h' : (10 : UInt8) ∉ Q) (e : P ++ 10 :: R = Q ++ 10 :: S) : P = Q ∧ R = S := by
 rcases Nat.lt_trichotomy P.length Q.length with hl | hl | hl
 ·exfalso
  have : (P ++ 10 :: R)[P.length]? = some 10 := by rw [List.getElem?_append_right (Nat.le_refl _), Nat.sub_self]; rfl
  rw [e, List.getElem?_append_left hl] at this
  exact h' (List.mem_of_getElem? this)
 ·obtain ⟨h1, h2⟩ := List.append_inj e hl
  injection h2 with _ h2
  exact ⟨h1, h2⟩
 ·exfalso
  have : (Q ++ 10 :: S)[Q.length]? = some 10 := by rw [List.getElem?_append_right (Nat.le_refl _), Nat.sub_self]; rfl
  rw [← e, List.getElem?_append_left hl] at this
  exact h (List.mem_of_getElem? this)
theorem split_nl : ∀ {l : List UInt8}, (10 : UInt8) ∈ l → ∃ P R, l = P ++ 10 :: R ∧ (10 : UInt8) ∉ P
 | c :: l, h => by
  by_cases hc : c = 10
  ·exact ⟨[], l, by rw [hc]; rfl, by simp⟩
  ·rcases List.mem_cons.1 h with h | h
   ·exact absurd h.symm hc
   ·obtain ⟨P, R, rfl, hP⟩ := split_nl h
    exact ⟨c :: P, R, rfl, fun hm => by rcases List.mem_cons.1 hm with h | h; exact hc h.symm; exact hP h⟩
theorem RowT.head {n : Int} {T d : List UInt8} (h : RowT n T d) : (10 : UInt8) ∉ T ++ 32 :: d := by
 simp only [List.mem_append, List.mem_cons, not_or]
 exact ⟨h.nl, by decide, h.d5.2.1⟩
theorem RowT.cnt {n : Int} {T d : List UInt8} (h : RowT n T d) : (T ++ 32 :: d).count 32 = 5 := by
 rw [List.count_append, List.count_cons, h.sp, List.count_eq_zero.2 h.d5.2.2]; rfl
/-- If one line goes on where the other one ends, both end there. -/
theorem row_end {n : Int} {T d T' d' U R : List UInt8} {c : UInt8} (h : RowT n T d) (h' : RowT n T' d') (e : T ++ 32 :: d = U) (e' : T' ++ 32 :: d' = U ++ c :: R) : False := by
 have h1 := h.cnt
 have h2 := h'.cnt
 rw [e'] at h2
 rw [e] at h1
 rw [List.count_append, h1] at h2
 have h3 : (32 : UInt8) ∉ c :: R := List.count_eq_zero.1 (by omega)
 rw [← e, List.append_assoc] at e'
 have := (last_sp h'.d5.2.2 (d' := d ++ c :: R) (fun hm => by
  rcases List.mem_append.1 hm with hm | hm
  ·exact h.d5.2.2 hm
  ·exact h3 hm) e').2
 have hl := congrArg List.length this
 rw [List.length_append, h.d5.1, h'.d5.1] at hl
 simp at hl
/-- One byte is another one, or two different ones that are side by side are exchanged. -/
inductive Near : List UInt8 → List UInt8 → Prop where
 | one (U V : List UInt8) (a b : UInt8) : a ≠ b → Near (U ++ a :: V) (U ++ b :: V)
 | two (U V : List UInt8) (a b : UInt8) : a ≠ b → Near (U ++ a :: b :: V) (U ++ b :: a :: V)
theorem Near.ne {f t : List UInt8} (h : Near f t) : f ≠ t := by
 cases h with
 | one U V a b h => intro e; have := List.append_cancel_left e; injection this with h1 _; exact h h1
 | two U V a b h => intro e; have := List.append_cancel_left e; injection this with h1 _; exact h h1
theorem Near.len {f t : List UInt8} (h : Near f t) : f.length = t.length := by cases h <;> simp
theorem pre_of {P Q R S : List UInt8} (e : P ++ Q = R ++ S) (h : P.length ≤ R.length) : ∃ M, R = P ++ M ∧ Q = M ++ S := by
 refine ⟨R.drop P.length, ?_, ?_⟩
 ·have := congrArg (List.take P.length) e
  rw [List.take_left, List.take_append_of_le_length h] at this
  conv => lhs; rw [← List.take_append_drop P.length R, ← this]
 ·have := congrArg (List.drop P.length) e
  rwa [List.drop_left, List.drop_append_of_le_length h] at this
/-- Lines of the same length that are near one another. -/
theorem row_core {n : Int} (hn : 0 ≤ n ∧ n ≤ 65520) {T d T' d' : List UInt8} (h : RowT n T d) (h' : RowT n T' d') (hN : Near (T ++ 32 :: d) (T' ++ 32 :: d')) : False := by
 have hb := sumT_bd T n hn
 have hb' := sumT_bd T' n hn
 have hl : T.length = T'.length := by
  have := hN.len
  simp only [List.length_append, List.length_cons, h.d5.1, h'.d5.1] at this
  omega
 have hT : T ≠ T' := fun e => by
  have : d = d' := by rw [h.dg, h'.dg, e]
  exact hN.ne (by rw [e, this])
 have hd : d = d' → sumT n T = sumT n T' := fun e => by
  have e1 := f5_val (n := (sumT n T).toNat) (by omega)
  have e2 := f5_val (n := (sumT n T').toNat) (by omega)
  rw [← h.dg, e, h'.dg, e2] at e1
  omega
 generalize hX : T ++ 32 :: d = X at hN
 generalize hY : T' ++ 32 :: d' = Y at hN
 cases hN with
 | one U V a b hab =>
  rcases Nat.lt_or_ge T.length U.length with hu | hu
  ·obtain ⟨M, hM, _⟩ := pre_of hX (by omega)
   obtain ⟨M', hM', _⟩ := pre_of hY (by omega)
   rw [hM] at hM'
   exact hT (List.append_inj hM' hl).1
  obtain ⟨M, hM, hA⟩ := pre_of hX.symm hu
  obtain ⟨M', hM', hA'⟩ := pre_of hY.symm (by omega)
  have hMl : M.length = M'.length := by
   have e1 := congrArg List.length hM
   have e2 := congrArg List.length hM'
   rw [List.length_append] at e1 e2
   omega
  cases M with
  | nil =>
   cases M' with
   | nil =>
    injection hA with h1 _
    injection hA' with h2 _
    exact hab (h1.trans h2.symm)
   | cons _ _ => cases hMl
  | cons c M =>
   cases M' with
   | nil => cases hMl
   | cons c' M' =>
    injection hA with h1 h2
    injection hA' with h3 h4
    subst h1; subst h3
    rw [h2] at h4
    obtain ⟨h5, h6⟩ := List.append_inj h4 (by simpa using hMl)
    injection h6 with _ h6
    subst h5
    have := hd h6
    rw [hM, hM'] at this
    exact hab (sum_one hn this)
 | two U V a b hab =>
  rcases Nat.lt_or_ge T.length U.length with hu | hu
  ·obtain ⟨M, hM, _⟩ := pre_of hX (by omega)
   obtain ⟨M', hM', _⟩ := pre_of hY (by omega)
   rw [hM] at hM'
   exact hT (List.append_inj hM' hl).1
  obtain ⟨M, hM, hA⟩ := pre_of hX.symm hu
  obtain ⟨M', hM', hA'⟩ := pre_of hY.symm (by omega)
  have hMl : M.length = M'.length := by
   have e1 := congrArg List.length hM
   have e2 := congrArg List.length hM'
   rw [List.length_append] at e1 e2
   omega
  cases M with
  | nil =>
   cases M' with
   | nil =>
    injection hA with h1 _
    injection hA' with h2 _
    exact hab (h1.trans h2.symm)
   | cons _ _ => cases hMl
  | cons c M =>
   cases M' with
   | nil => cases hMl
   | cons c' M' =>
    injection hA with h1 h2
    injection hA' with h3 h4
    subst h1; subst h3
    cases M with
    | nil =>
     cases M' with
     | nil =>
      injection h2 with h5 _
      injection h4 with h6 _
      exact hab (h6.trans h5.symm)
     | cons _ _ => simp at hMl
    | cons e M =>
     cases M' with
     | nil => simp at hMl
     | cons e' M' =>
      injection h2 with h5 h6
      injection h4 with h7 h8
      subst h5; subst h7
      rw [h6] at h8
      obtain ⟨h9, h10⟩ := List.append_inj h8 (by simpa using hMl)
      injection h10 with _ h10
      subst h9
      have := hd h10
      rw [hM, hM'] at this
      exact hab (sum_two hn this)
theorem outT_row (n : Int) (x : Ln) : outT n x = lineT x ++ 32 :: (f5 (sumT n (lineT x)).toNat) ++ [10] := by
 unfold outT
 simp [List.append_assoc]
theorem near_no : ∀ (L L' : List Ln) (n : Int), 0 ≤ n ∧ n ≤ 65520 → (∀ x ∈ L, LnRd x) → (∀ x ∈ L', LnRd x) → Near (outs n L) (outs n L') → False
 | [], L', n, _, _, _, hN => by
  generalize hX : outs n [] = X at hN
  generalize outs n L' = Y at hN
  rw [outs] at hX
  cases hN <;> simp at hX
 | x :: L, [], n, _, _, _, hN => by
  have := hN.len
  simp [outs, outT_row] at this
 | x :: L, x' :: L', n, hn, hL, hL', hN => by
  have r := row_of (hL x (.head _)) n
  have r' := row_of (hL' x' (.head _)) n
  have ih := near_no L L' (sumT n (lineT x)) (sumT_bd _ n hn) (fun y hy => hL y (.tail _ hy)) (fun y hy => hL' y (.tail _ hy))
  have hls : lineT x = lineT x' → sumT n (lineT x') = sumT n (lineT x) := fun e => by rw [e]
  rw [outs, outs, outT_row, outT_row] at hN
  generalize hF : outs (sumT n (lineT x)) L = F at *
  generalize hG : outs (sumT n (lineT x')) L' = G at *
  generalize f5 (sumT n (lineT x)).toNat = d at *
  generalize f5 (sumT n (lineT x')).toNat = d' at *
  generalize lineT x = T at *
  generalize lineT x' = T' at *
  have hA := r.head
  have hA' := r'.head
  have same : T ++ 32 :: d = T' ++ 32 :: d' → T = T' := fun e => (last_sp r.d5.2.2 r'.d5.2.2 e).1
  have core := row_core hn r r'
  have fin := fun {U R : List UInt8} {c : UInt8} => row_end (U := U) (R := R) (c := c) r r'
  have fin' := fun {U R : List UInt8} {c : UInt8} => row_end (U := U) (R := R) (c := c) r' r
  generalize T ++ 32 :: d = A at *
  generalize T' ++ 32 :: d' = A' at *
  have eA : A ++ [10] ++ F = A ++ 10 :: F := by simp
  have eA' : A' ++ [10] ++ G = A' ++ 10 :: G := by simp
  rw [eA, eA'] at hN
  generalize hX : A ++ 10 :: F = X at hN
  generalize hY : A' ++ 10 :: G = Y at hN
  cases hN with
  | one U V a b hab =>
   by_cases hU : (10 : UInt8) ∈ U
   ·obtain ⟨P, R, rfl, hP⟩ := split_nl hU
    rw [List.append_assoc] at hX hY
    obtain ⟨h1, h2⟩ := first_nl hA hP hX
    obtain ⟨h3, h4⟩ := first_nl hA' hP hY
    have e := hls (same (h1.trans h3.symm))
    rw [e] at hG
    rw [hG] at ih
    rw [h2, h4] at ih
    exact ih (.one R V a b hab)
   by_cases ha : a = 10
   ·subst ha
    obtain ⟨h1, h2⟩ := first_nl hA hU hX
    obtain ⟨M, hM, h4⟩ := pre_of hY.symm (by
     rcases Nat.lt_or_ge A'.length U.length with h | h
     ·exfalso
      have : (A' ++ 10 :: G)[A'.length]? = some 10 := by rw [List.getElem?_append_right (Nat.le_refl _), Nat.sub_self]; rfl
      rw [hY, List.getElem?_append_left h] at this
      exact hU (List.mem_of_getElem? this)
     ·exact h)
    cases M with
    | nil => injection h4 with h5 _; exact hab h5.symm
    | cons c M => exact fin (U := U) h1 hM
   by_cases hb : b = 10
   ·subst hb
    obtain ⟨h1, h2⟩ := first_nl hA' hU hY
    obtain ⟨M, hM, h4⟩ := pre_of hX.symm (by
     rcases Nat.lt_or_ge A.length U.length with h | h
     ·exfalso
      have : (A ++ 10 :: F)[A.length]? = some 10 := by rw [List.getElem?_append_right (Nat.le_refl _), Nat.sub_self]; rfl
      rw [hX, List.getElem?_append_left h] at this
      exact hU (List.mem_of_getElem? this)
     ·exact h)
    cases M with
    | nil => injection h4 with h5 _; exact hab h5
    | cons c M => exact fin' (U := U) h1 hM
   have hV : (10 : UInt8) ∈ V := by
    have : (10 : UInt8) ∈ U ++ a :: V := by rw [← hX]; simp
    rcases List.mem_append.1 this with h | h
    ·exact absurd h hU
    ·rcases List.mem_cons.1 h with h | h
     ·exact absurd h.symm ha
     ·exact h
   obtain ⟨P, R, rfl, hP⟩ := split_nl hV
   have q : ∀ c : UInt8, c ≠ 10 → (10 : UInt8) ∉ U ++ c :: P := fun c hc hm => by
    rcases List.mem_append.1 hm with h | h
    ·exact hU h
    ·rcases List.mem_cons.1 h with h | h
     ·exact hc h.symm
     ·exact hP h
   obtain ⟨h1, h2⟩ := first_nl (S := R) hA (q a ha) (hX.trans (by simp))
   obtain ⟨h3, h4⟩ := first_nl (S := R) hA' (q b hb) (hY.trans (by simp))
   rw [h1, h3] at core
   exact core (.one U P a b hab)
  | two U V a b hab =>
   by_cases hU : (10 : UInt8) ∈ U
   ·obtain ⟨P, R, rfl, hP⟩ := split_nl hU
    rw [List.append_assoc] at hX hY
    obtain ⟨h1, h2⟩ := first_nl hA hP hX
    obtain ⟨h3, h4⟩ := first_nl hA' hP hY
    have e := hls (same (h1.trans h3.symm))
    rw [e] at hG
    rw [hG] at ih
    rw [h2, h4] at ih
    exact ih (.two R V a b hab)
   by_cases ha : a = 10
   ·subst ha
    obtain ⟨h1, h2⟩ := first_nl hA hU hX
    obtain ⟨M, hM, h4⟩ := pre_of hY.symm (by
     rcases Nat.lt_or_ge A'.length U.length with h | h
     ·exfalso
      have : (A' ++ 10 :: G)[A'.length]? = some 10 := by rw [List.getElem?_append_right (Nat.le_refl _), Nat.sub_self]; rfl
      rw [hY, List.getElem?_append_left h] at this
      exact hU (List.mem_of_getElem? this)
     ·exact h)
    cases M with
    | nil => injection h4 with h5 _; exact hab h5.symm
    | cons c M => exact fin (U := U) h1 hM
   by_cases hb : b = 10
   ·subst hb
    obtain ⟨h1, h2⟩ := first_nl hA' hU hY
    obtain ⟨M, hM, h4⟩ := pre_of hX.symm (by
     rcases Nat.lt_or_ge A.length U.length with h | h
     ·exfalso
      have : (A ++ 10 :: F)[A.length]? = some 10 := by rw [List.getElem?_append_right (Nat.le_refl _), Nat.sub_self]; rfl
      rw [hX, List.getElem?_append_left h] at this
      exact hU (List.mem_of_getElem? this)
     ·exact h)
    cases M with
    | nil => injection h4 with h5 _; exact hab h5
    | cons c M => exact fin' (U := U) h1 hM
   have hV : (10 : UInt8) ∈ V := by
    have : (10 : UInt8) ∈ U ++ a :: b :: V := by rw [← hX]; simp
    rcases List.mem_append.1 this with h | h
    ·exact absurd h hU
    ·rcases List.mem_cons.1 h with h | h
     ·exact absurd h.symm ha
     ·rcases List.mem_cons.1 h with h | h
      ·exact absurd h.symm hb
      ·exact h
   obtain ⟨P, R, rfl, hP⟩ := split_nl hV
   have q : ∀ c e : UInt8, c ≠ 10 → e ≠ 10 → (10 : UInt8) ∉ U ++ c :: e :: P := fun c e hc he hm => by
    rcases List.mem_append.1 hm with h | h
    ·exact hU h
    ·rcases List.mem_cons.1 h with h | h
     ·exact hc h.symm
     ·rcases List.mem_cons.1 h with h | h
      ·exact he h.symm
      ·exact hP h
   obtain ⟨h1, h2⟩ := first_nl (S := R) hA (q a b ha hb) (hX.trans (by simp))
   obtain ⟨h3, h4⟩ := first_nl (S := R) hA' (q b a hb ha) (hY.trans (by simp))
   rw [h1, h3] at core
   exact core (.two U P a b hab)
/-! ## A file is read back -/
def pcs (n : Int) : List Ln → List (List UInt8)
 | [] => []
 | x :: L => (lineT x ++ [32] ++ f5 (sumT n (lineT x)).toNat) :: pcs (sumT n (lineT x)) L
theorem spl_outs : ∀ (L : List Ln) (n : Int), 0 ≤ n ∧ n ≤ 65520 → (∀ x ∈ L, LnRd x) → spl 10 [] (outs n L) = pcs n L ++ [[]]
 | [], n, _, _ => rfl
 | x :: L, n, hn, h => by
  have r := row_of (h x (.head _)) n
  have ih := spl_outs L (sumT n (lineT x)) (sumT_bd _ n hn) (fun y hy => h y (.tail _ hy))
  have e10 : (10 : Nat) = (10 : UInt8).toNat := rfl
  have hA := r.head
  have e : outs n (x :: L) = lineT x ++ 32 :: f5 (sumT n (lineT x)).toNat ++ 10 :: outs (sumT n (lineT x)) L := by
   rw [outs, outT_row]; simp
  rw [e, pcs, List.cons_append, ← ih, e10, spl_piece 10 _ _ _ hA]
  simp
theorem pcs_lines : ∀ (L : List Ln) (n : Int), 0 ≤ n ∧ n ≤ 65520 → (∀ x ∈ L, LnRd x) → (pcs n L).map (fun p => (rdR p).1) = L ∧ (pcs n L).all (fun p => (rdR p).2.2) = true
 | [], n, _, _ => ⟨rfl, rfl⟩
 | x :: L, n, hn, h => by
  have hb := sumT_bd (lineT x) n hn
  have ih := pcs_lines L (sumT n (lineT x)) hb (fun y hy => h y (.tail _ hy))
  have hr := rdR_line (h x (.head _)) (n := (sumT n (lineT x)).toNat) (by omega)
  rw [pcs, List.map_cons, List.all_cons, ih.1, ih.2, hr]
  exact ⟨rfl, rfl⟩
theorem form_outs {L : List Ln} (h : ∀ x ∈ L, LnRd x) : formOk (spl 10 [] (fileF L).2) = true ∧ (spl 10 [] (fileF L).2).dropLast.map (fun p => (rdR p).1) = L := by
 obtain ⟨h1, h2⟩ := pcs_lines L 0 (by decide) h
 rw [fileF_eq, spl_outs L 0 (by decide) h]
 unfold formOk
 rw [List.dropLast_concat, h2, h1, List.getLast?_concat]
 exact ⟨rfl, rfl⟩
theorem outs_inj {L M : List Ln} (h : ∀ x ∈ L, LnRd x) (h' : ∀ x ∈ M, LnRd x) (e : (fileF L).2 = (fileF M).2) : L = M := by
 rw [← (form_outs h).2, e, (form_outs h').2]
theorem num_len {v : Int} (h : 0 ≤ v ∧ v ≤ 9999) : (Go.Lib.itoa v).length ≤ 4 := by
 have := (itoa_num h).1
 unfold numOk at this
 simp only [Bool.and_eq_true, decide_eq_true_eq] at this
 exact this.1.2
theorem sgn_len {v : Int} (h : -9999 ≤ v ∧ v ≤ 9999) : (Go.Lib.itoa v).length ≤ 5 := by
 by_cases h0 : 0 ≤ v
 ·have := num_len ⟨h0, h.2⟩
  omega
 ·have h1 := (itoa_sgn h).1
  unfold sgnOk at h1
  cases hs : sgnB (Go.Lib.itoa v)
  ·rw [hs, if_neg (by decide)] at h1
   unfold numOk at h1
   simp only [Bool.and_eq_true, decide_eq_true_eq] at h1
   have := h1.1.2
   omega
  ·rw [hs, if_pos rfl] at h1
   unfold numOk at h1
   simp only [Bool.and_eq_true, decide_eq_true_eq] at h1
   have := h1.1.1.2
   rw [List.length_drop] at this
   omega
theorem outT_short {x : Ln} (h : LnRd x) (n : Int) : (outT n x).length ≤ 31 := by
 have a := num_len h.st
 have b := num_len h.ck
 have c := num_len h.th
 have d := sgn_len h.vl
 have e : (wordT x.kd).length ≤ 3 := by unfold wordT; split <;> simp
 have f : (f5 (sumT n (lineT x)).toNat).length = 5 := rfl
 unfold outT
 rw [List.length_append, List.length_append, List.length_append, f]
 unfold lineT
 simp only [List.length_append, List.length_cons, List.length_nil]
 omega
theorem outs_len : ∀ (L : List Ln) (n : Int), (∀ x ∈ L, LnRd x) → (outs n L).length ≤ 31 * L.length
 | [], n, _ => by simp [outs]
 | x :: L, n, h => by
  have := outT_short (h x (.head _)) n
  have ih := outs_len L (sumT n (lineT x)) (fun y hy => h y (.tail _ hy))
  rw [outs, List.length_append, List.length_cons]
  omega
theorem outs_app : ∀ (L M : List Ln) (n : Int), outs n (L ++ M) = outs n L ++ outs (smA n L) M
 | [], M, n => rfl
 | x :: L, M, n => by rw [List.cons_append, outs, outs_app L M, outs, smA, List.append_assoc]
theorem file_take (L : List Ln) (k : Nat) : (fileF L).2.take (fileF (L.take k)).2.length = (fileF (L.take k)).2 ∧ (fileF (L.take k)).2.length ≤ (fileF L).2.length := by
 have : (fileF L).2 = (fileF (L.take k)).2 ++ outs (smA 0 (L.take k)) (L.drop k) := by
  rw [fileF_eq, fileF_eq, ← outs_app, List.take_append_drop]
 rw [this]
 exact ⟨List.take_left, by simp⟩
theorem Valid.rd {l : List Ln} (h : Valid l) : ∀ x ∈ l, LnRd x := fun x hx => by
 obtain ⟨j, hj, rfl⟩ := mem_lnAt.1 hx
 have := h.lnOk hj
 have hl := isLine_iff.1 (h.ok j hj)
 have hv := leastV_ge (lnAt l j).kd
 exact ⟨by omega, by omega, by omega, by omega, by omega⟩
theorem Valid.file_len {l : List Ln} (h : Valid l) : (fileF l).2.length ≤ 620 := by
 have := outs_len l 0 h.rd
 have := h.len
 rw [fileF_eq]
 dsimp only
 omega
/-- A text near a file of a valid book is not read. -/
theorem near_load {l : List Ln} (h : Valid l) {t : List UInt8} (hN : Near (fileF l).2 t) (hF : formOk (spl 10 [] t) = true) : ¬(∀ k, k < ((spl 10 [] t).dropLast.map fun p => (rdR p).1).length → (fileF (((spl 10 [] t).dropLast.map fun p => (rdR p).1).take (k + 1))).1 = iAtK ((spl 10 [] t).dropLast.map fun p => (rdR p).2.1) k) := fun hS => by
 have e := (file_same hF).2 hS
 obtain ⟨h1, _, _⟩ := form_file hF
 have hr : ∀ x ∈ (spl 10 [] t).dropLast.map (fun p => (rdR p).1), LnRd x := fun x hx => by
  obtain ⟨p, hp, rfl⟩ := List.mem_map.1 hx
  exact (rd_line (List.all_eq_true.1 h1 p hp)).1
 rw [← e, fileF_eq, fileF_eq] at hN
 exact near_no _ _ 0 (by decide) h.rd hr hN
end Go.Proofs.YtojeeindlijgkaaGreatDoor
