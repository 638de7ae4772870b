/- Lines put in order by exchanges, plainly: lemmas for the rows of this seat. No conditions. -/
import Derived.Laws.StructEq
import Derived.Test.YtojeeindlijgkaaGreatDoorK4
set_option linter.all false
namespace Go.Proofs.YtojeeindlijgkaaGreatDoor
open Go.RowKit
/-! ## Lines put in order by exchanges, plainly -/
def stepS (i k : Nat) (l : List Ln) : List Ln := if before (lnAt l k) (lnAt l i) = true then (l.set i (lnAt l k)).set k (lnAt l i) else l
def rowS (i : Nat) : Nat → List Ln → List Ln
 | 0, l => l
 | c + 1, l => stepS i (i + 1 + c) (rowS i c l)
def sortS (n : Nat) : Nat → List Ln → List Ln
 | 0, l => l
 | c + 1, l => rowS c (n - (c + 1)) (sortS n c l)
theorem stepS_len (i k : Nat) (l : List Ln) : (stepS i k l).length = l.length := by
 unfold stepS; split
 ·rw [List.length_set, List.length_set]
 ·rfl
theorem rowS_len (i : Nat) : ∀ c l, (rowS i c l).length = l.length
 | 0, _ => rfl
 | c + 1, l => by rw [rowS, stepS_len, rowS_len i c l]
theorem sortS_len (n : Nat) : ∀ c l, (sortS n c l).length = l.length
 | 0, _ => rfl
 | c + 1, l => by rw [sortS, rowS_len, sortS_len n c l]
theorem lnAt_set {l : List Ln} {i : Nat} (x : Ln) (h : i < l.length) (j : Nat) : lnAt (l.set i x) j = if j = i then x else lnAt l j := by
 unfold lnAt
 rw [List.getElem?_set]
 by_cases e : i = j
 ·subst e; rw [if_pos rfl, if_pos h, if_pos rfl]; rfl
 ·rw [if_neg e, if_neg fun h => e h.symm]
theorem swap_at {l : List Ln} {i k : Nat} (hi : i < l.length) (hk : k < l.length) (j : Nat) : lnAt ((l.set i (lnAt l k)).set k (lnAt l i)) j = if j = k then lnAt l i else if j = i then lnAt l k else lnAt l j := by
 rw [lnAt_set _ (by rw [List.length_set]; exact hk), lnAt_set _ hi]
/-- Places exchanged. -/
theorem stepS_perm {i k : Nat} {l : List Ln} (hi : i < l.length) (hk : k < l.length) : ∃ σ : Nat → Nat, (∀ j, j < l.length → σ j < l.length) ∧ (∀ a b, σ a = σ b → a = b) ∧ (∀ j, lnAt (stepS i k l) j = lnAt l (σ j)) ∧ ∀ j, j < l.length → ∃ q, q < l.length ∧ σ q = j := by
 unfold stepS
 split
 ·refine ⟨fun j => if j = k then i else if j = i then k else j, fun j hj => ?_, fun a b h => ?_, fun j => ?_, fun j hj => ?_⟩
  ·dsimp only; split
   ·exact hi
   ·split
    ·exact hk
    ·exact hj
  ·dsimp only at h
   repeat' split at h
   all_goals omega
  ·rw [swap_at hi hk]
   dsimp only
   split
   ·rfl
   ·split <;> rfl
  ·by_cases e1 : j = k
   ·exact ⟨i, hi, by dsimp only; split <;> (try split) <;> omega⟩
   ·by_cases e2 : j = i
    ·exact ⟨k, hk, by dsimp only; rw [if_pos rfl]; omega⟩
    ·exact ⟨j, hj, by dsimp only; rw [if_neg e1, if_neg e2]⟩
 ·exact ⟨id, fun j hj => hj, fun a b h => h, fun j => rfl, fun j hj => ⟨j, hj, rfl⟩⟩
/-- What exchanges keep. -/
structure Same2 (l m : List Ln) : Prop where
 len : m.length = l.length
 mem : ∀ x, x ∈ m ↔ x ∈ l
 dis : (∀ a b, a < l.length → b < l.length → a ≠ b → ¬sameAt (lnAt l a) (lnAt l b)) → ∀ a b, a < m.length → b < m.length → a ≠ b → ¬sameAt (lnAt m a) (lnAt m b)
theorem Same2.refl (l : List Ln) : Same2 l l := ⟨rfl, fun _ => Iff.rfl, fun h => h⟩
theorem Same2.trans {l m r : List Ln} (h1 : Same2 l m) (h2 : Same2 m r) : Same2 l r := ⟨h2.len.trans h1.len, fun x => (h2.mem x).trans (h1.mem x), fun h => h2.dis (h1.dis h)⟩
theorem stepS_same {i k : Nat} {l : List Ln} (hi : i < l.length) (hk : k < l.length) : Same2 l (stepS i k l) := by
 obtain ⟨σ, h1, h2, h3, h4⟩ := stepS_perm hi hk
 have hl := stepS_len i k l
 refine ⟨hl, fun x => ?_, fun h a b ha hb hab => ?_⟩
 ·rw [mem_lnAt, mem_lnAt]
  constructor
  ·rintro ⟨j, hj, e⟩
   exact ⟨σ j, h1 j (by omega), by rw [← h3, e]⟩
  ·rintro ⟨j, hj, e⟩
   obtain ⟨q, hq, rfl⟩ := h4 j hj
   exact ⟨q, by omega, by rw [h3, e]⟩
 ·rw [h3, h3]
  exact h (σ a) (σ b) (h1 a (by omega)) (h1 b (by omega)) fun e => hab (h2 a b e)
theorem rowS_same (i : Nat) {l : List Ln} : ∀ c, i + 1 + c ≤ l.length → Same2 l (rowS i c l)
 | 0, _ => .refl l
 | c + 1, h => by
  have hl := rowS_len i c l
  exact (rowS_same i c (by omega)).trans (stepS_same (by omega) (by omega))
theorem sortS_same {l : List Ln} : ∀ c, c ≤ l.length → Same2 l (sortS l.length c l)
 | 0, _ => .refl l
 | c + 1, h => by
  have hl := sortS_len l.length c l
  have h1 := rowS_same c (l := sortS l.length c l) (l.length - (c + 1)) (by omega)
  exact (sortS_same c (by omega)).trans h1
/-- Not behind. -/
def notB (x y : Ln) : Prop := before y x = false
theorem notB_trans {x y z : Ln} (h1 : notB x y) (h2 : notB y z) : notB x z := by
 unfold notB at *
 rw [← Bool.not_eq_true, before_iff] at *; omega
theorem stepS_out {i k : Nat} {l : List Ln} (hi : i < l.length) (hk : k < l.length) {j : Nat} (h1 : j ≠ i) (h2 : j ≠ k) : lnAt (stepS i k l) j = lnAt l j := by
 unfold stepS; split
 ·rw [swap_at hi hk, if_neg h2, if_neg h1]
 ·rfl
theorem rowS_out (i : Nat) {l : List Ln} : ∀ c, i + 1 + c ≤ l.length → ∀ j, (j < i ∨ i + 1 + c ≤ j) → lnAt (rowS i c l) j = lnAt l j
 | 0, _, _, _ => rfl
 | c + 1, h, j, hj => by
  have hl := rowS_len i c l
  rw [rowS, stepS_out (by omega) (by omega) (by omega) (by omega)]
  exact rowS_out i c (by omega) j (by omega)
/-- Behind a row its first one is the least. -/
theorem rowS_least (i : Nat) {l : List Ln} : ∀ c, i + 1 + c ≤ l.length → (∀ k, i ≤ k → k < i + 1 + c → notB (lnAt (rowS i c l) i) (lnAt (rowS i c l) k)) ∧ ∀ k, i ≤ k → k < i + 1 + c → ∃ k', i ≤ k' ∧ k' < i + 1 + c ∧ lnAt (rowS i c l) k = lnAt l k'
 | 0, h => ⟨fun k h1 h2 => by obtain rfl : k = i := by omega
                              exact before_irrefl _, fun k h1 h2 => ⟨k, h1, h2, rfl⟩⟩
 | c + 1, h => by
  have hl := rowS_len i c l
  obtain ⟨h1, h2⟩ := rowS_least i (l := l) c (by omega)
  have h3 := rowS_out i (l := l) c (by omega) (i + 1 + c) (by omega)
  rw [rowS]
  generalize rowS i c l = m at *
  have hi : i < m.length := by omega
  have hk : i + 1 + c < m.length := by omega
  unfold stepS
  by_cases hb : before (lnAt m (i + 1 + c)) (lnAt m i) = true
  ·rw [if_pos hb]
   constructor
   ·intro k g1 g2
    rw [swap_at hi hk, swap_at hi hk, if_neg (by omega), if_pos rfl]
    by_cases e1 : k = i + 1 + c
    ·rw [if_pos e1]
     exact before_asymm hb
    ·rw [if_neg e1]
     by_cases e2 : k = i
     ·rw [if_pos e2]; exact before_irrefl _
     ·rw [if_neg e2]
      exact notB_trans (before_asymm hb) (h1 k g1 (by omega))
   ·intro k g1 g2
    rw [swap_at hi hk]
    by_cases e1 : k = i + 1 + c
    ·rw [if_pos e1]
     obtain ⟨k', a, b, e⟩ := h2 i (Nat.le_refl _) (by omega)
     exact ⟨k', a, by omega, e⟩
    ·rw [if_neg e1]
     by_cases e2 : k = i
     ·rw [if_pos e2]
      exact ⟨i + 1 + c, by omega, by omega, h3⟩
     ·rw [if_neg e2]
      obtain ⟨k', a, b, e⟩ := h2 k g1 (by omega)
      exact ⟨k', a, by omega, e⟩
  ·rw [if_neg hb]
   constructor
   ·intro k g1 g2
    by_cases e1 : k = i + 1 + c
    ·rw [e1]; exact (Bool.not_eq_true _).mp hb
    ·exact h1 k g1 (by omega)
   ·intro k g1 g2
    by_cases e1 : k = i + 1 + c
    ·exact ⟨i + 1 + c, by omega, by omega, by rw [e1]; exact h3⟩
    ·obtain ⟨k', a, b, e⟩ := h2 k g1 (by omega)
     exact ⟨k', a, by omega, e⟩
theorem sortS_ord {l : List Ln} : ∀ c, c ≤ l.length → ∀ a b, a < c → a ≤ b → b < l.length → notB (lnAt (sortS l.length c l) a) (lnAt (sortS l.length c l) b)
 | 0, _, a, b, h, _, _ => absurd h (Nat.not_lt_zero _)
 | c + 1, h, a, b, h1, h2, h3 => by
  have hl := sortS_len l.length c l
  have ih := sortS_ord (l := l) c (by omega)
  obtain ⟨g1, g2⟩ := rowS_least c (l := sortS l.length c l) (l.length - (c + 1)) (by omega)
  have g3 := rowS_out c (l := sortS l.length c l) (l.length - (c + 1)) (by omega)
  rw [sortS]
  by_cases e : a = c
  ·subst e
   exact g1 b h2 (by omega)
  ·rw [g3 a (.inl (by omega))]
   by_cases e2 : b < c
   ·rw [g3 b (.inl e2)]
    exact ih a b (by omega) h2 h3
   ·obtain ⟨k', q1, q2, q3⟩ := g2 b (by omega) (by omega)
    rw [q3]
    exact ih a k' (by omega) (by omega) (by omega)
/-- Lines in their order, each once. -/
def Sorted (l : List Ln) : Prop := ∀ i j, i < j → j < l.length → before (lnAt l i) (lnAt l j) = true
theorem sortS_sorted {l : List Ln} (hd : ∀ a b, a < l.length → b < l.length → a ≠ b → ¬sameAt (lnAt l a) (lnAt l b)) : Sorted (sortS l.length l.length l) := fun i j hij hj => by
 have hs := sortS_same (l := l) l.length (Nat.le_refl _)
 have hl := hs.len
 have h1 := hs.dis hd i j (by omega) hj (by omega)
 have h2 := sortS_ord (l := l) l.length (Nat.le_refl _) i j (by omega) (by omega) (by omega)
 unfold notB at h2
 unfold sameAt at h1
 rw [← Bool.not_eq_true, before_iff] at h2
 rw [before_iff]
 generalize lnAt (sortS l.length l.length l) i = x at *
 generalize lnAt (sortS l.length l.length l) j = y at *
 omega
/-- Lists in order with the same lines are the same. -/
theorem Sorted.tail {x : Ln} {l : List Ln} (h : Sorted (x :: l)) : Sorted l := fun i j hij hj => h (i + 1) (j + 1) (by omega) (by simpa using hj)
theorem Sorted.head {x : Ln} {l : List Ln} (h : Sorted (x :: l)) {y : Ln} (hy : y ∈ l) : before x y = true := by
 obtain ⟨j, hj, e⟩ := mem_lnAt.1 hy
 have := h 0 (j + 1) (by omega) (by simpa using hj)
 rw [← e]; exact this
theorem sorted_ext : ∀ {l m : List Ln}, Sorted l → Sorted m → (∀ x, x ∈ l ↔ x ∈ m) → l = m
 | [], [], _, _, _ => rfl
 | [], y :: m, _, _, h => absurd ((h y).2 (.head _)) (by simp)
 | x :: l, [], _, _, h => absurd ((h x).1 (.head _)) (by simp)
 | x :: l, y :: m, hl, hm, h => by
  have hxy : x = y := by
   rcases List.mem_cons.1 ((h x).1 (.head _)) with e | e
   ·exact e
   ·rcases List.mem_cons.1 ((h y).2 (.head _)) with e2 | e2
    ·exact e2.symm
    ·have a := hm.head e
     have b := hl.head e2
     rw [before_asymm a] at b
     cases b
  subst hxy
  refine congrArg (x :: ·) (sorted_ext hl.tail hm.tail fun z => ?_)
  have nl : ∀ {r : List Ln}, Sorted (x :: r) → x ∉ r := fun hr hx => by
   have := hr.head hx
   rw [before_irrefl] at this; cases this
  constructor
  ·intro hz
   rcases List.mem_cons.1 ((h z).1 (.tail _ hz)) with e | e
   ·subst e; exact absurd hz (nl hl)
   ·exact e
  ·intro hz
   rcases List.mem_cons.1 ((h z).2 (.tail _ hz)) with e | e
   ·subst e; exact absurd hz (nl hm)
   ·exact e
def unionL (l1 l2 : List Ln) : List Ln := l1 ++ l2.filter (fun y => !hasL l1 y)
def togL (l1 l2 : List Ln) : List Ln := sortS (unionL l1 l2).length (unionL l1 l2).length (unionL l1 l2)
/-! ## Together, Merge, as the definitions say -/
theorem lnC_set : ∀ (l : List Ln) (i : Nat) (y : Ln), i < l.length → setMany (lnC l) (i * 5) (lnL y) = lnC (l.set i y)
 | [], _, _, h => by simp at h
 | x :: l, 0, y, _ => by
  rw [setMany_eq _ _ _ (by simp [lnC, lnL])]
  simp [lnC, lnL]
 | x :: l, i + 1, y, h => by
  have ih := lnC_set l i y (by simpa using h)
  have hl := lnC_length l
  have hi : i < l.length := by simpa using h
  rw [setMany_eq _ _ _ (by rw [lnC_length]; simp [lnL]; omega)] at ih ⊢
  rw [List.set_cons_succ, lnC, lnC, ← ih]
  simp [lnL]
  rw [show (i + 1) * 5 = i * 5 + 5 by omega]
  simp
theorem own_ln {w0 : World} {A : List Chunk} {b n c : Nat} {l : List Ln} (h : .own (.slice (some ⟨b, 0, none⟩) n c) 61 5 n (lnC l) ∈ A) {k : Nat} (hk : k < l.length) : CellsAt w0 A b (0 + k * 5) (lnL (lnAt l k)) := fun w hs j u hu => by
 have hj : j < 5 := (List.getElem?_eq_some_iff.1 hu).1
 have := cell_own (w0 := w0) (A := A) h (show (lnC l)[k * 5 + j]? = some u by rw [lnC_get l k hk j hj]; exact hu)
 rw [Nat.zero_add]
 exact this w hs
section
variable {P : Program} {w0 : World} {n : Nat} {r : Option Nat} {ds : List Deferred} {ts : TS} {A : List Chunk} {Q : PostT}
theorem tr_own_slice {c : Code} {v : Value} {t sz m : Nat} {xs : List Value} (hA : .own v t sz m xs ∈ A) (h : (∃ B c, v = .slice B m c) → Tr P r w0 n c ds ts A Q) : Tr P r w0 n c ds ts A Q :=
 tr_fact (fun w hs => by obtain ⟨B, c, e, _⟩ := hs.own_reads hA; exact ⟨B, c, e⟩) h
end
section
variable {P : Program} {w0 : World} {n : Nat} {ds : List Deferred} {ops : List Oper} {o : Oper} {os : List Oper} {ks : List Kind} {ts : TS} {A : List Chunk} {K : TS → List Chunk → Prop}
theorem ot_st {B : List Chunk} (hh : ks.headD .wr = .wr) (hp : ∀ w, St w0 A w → St w0 B w) (h : OT P w0 n ds ops (o :: os) ks ts B K) : OT P w0 n ds ops (o :: os) ks ts A K := by
 unfold OT at h ⊢
 rw [hh] at h ⊢
 exact fun a w hd => h a w ⟨hd.size, hd.slots, hd.ds, hp w hd.st⟩
end
theorem own_addr {w0 w : World} {A : List Chunk} (hs : St w0 A w) {B : Option Addr} {n c sz : Nat} {t : TypeId} {xs : List Value} (h : Chunk.own (.slice B n c) t sz n xs ∈ A) (hn : 0 < n) : ∃ b, B = some ⟨b, 0, none⟩ := by
 rcases (hs.all _ h).2 with ⟨h0, _⟩ | ⟨g, cap, cur, e, _⟩
 ·omega
 ·cases e; exact ⟨g, rfl⟩
set_option maxHeartbeats 4000000 in
set_option maxRecDepth 20000 in
theorem together_any (A1 : Option Addr) (c1 : Nat) (l1 : List Ln) (A2 : Option Addr) (c2 : Nat) (l2 : List Ln) (w : World) (h1 : BookR w A1 l1) (h2 : BookR w A2 l2) (hm1 : l1.length ≤ 100) (hm2 : l2.length ≤ 100) :
  Calls Tryz.prog 67 #[.agg #[.slice A1 l1.length c1], .agg #[.slice A2 l2.length c2]] w fun e w' => ∃ x : SlX, e = .returned (.agg #[.slice x.1 (togL l1 l2).length x.2]) ∧ True ∧ St w ([] ++ [.own (.slice x.1 (togL l1 l2).length x.2) 61 5 (togL l1 l2).length (lnC (togL l1 l2))]) w' := by
 have hone : ∀ u ∈ lnC l1, u.oneCell' = true := lnC_one l1
 refine fn_v tk (n := 78) (A := []) Tryz.func67 rfl rfl (Nat.le_of_ble_eq_true rfl) (St.nil (Below.refl _ _)) ?_
 ((conv => whnf); (repeat ((first | (apply VLd.mk; (focus ((repeat (first | ((with_reducible apply ld_blk); exact rfl) | (with_reducible apply ld_skip))); done))) | (apply VNew.mk; intro g hg)); (conv => whnf))); apply VStop.mk)
 revert g hg
 intro g10 hg10
 revert g hg
 intro g4 hg4
 revert g hg
 intro g3 hg3
 revert g hg
 intro g2 hg2
 refine ot_st (B := .own (.slice (some ⟨g10, 0, none⟩) 0 0) 61 5 0 [] :: _) rfl (fun w hs => hs.blk_own (sz := 5) rfl (Nat.zero_le _)) ?_
 refine ot_appendR (sz := 5) (sl := 0) (xs := []) (news := lnC l1) (A'v := fun v' => .own v' 61 5 (0 + l1.length) ([] ++ lnC l1) :: _) tk rfl rfl rfl rfl rfl rfl rfl rfl rfl rfl (by decide) rfl (fun w1 hs => hs.book h1) hone (fun v' => .here) (by omega) (by decide) (fun v1 => ?_)
 apply ot_v tk
 ((conv => whnf); apply VStop.mk)
 refine tr_own_slice (.head _) ?_
 rintro ⟨B0, cb0, rfl⟩
 rw [Nat.zero_add, List.nil_append]
 have hU0 : (l1 ++ (l2.take 0).filter (fun y => !hasL l1 y)) = l1 := by rw [List.take_zero]; exact List.append_nil _
 refine v_loop (fun gm ds ts A => ds = [] ∧ ∃ (j : Nat) (Bx : Option Addr) (cx : Nat), j + gm = l2.length ∧ A = [.own (.slice Bx (l1 ++ (l2.take j).filter (fun y => !hasL l1 y)).length cx) 61 5 (l1 ++ (l2.take j).filter (fun y => !hasL l1 y)).length (lnC (l1 ++ (l2.take j).filter (fun y => !hasL l1 y))), .blk g4 24 [.slice none 0 0], .blk g3 24 [.slice A2 l2.length c2], .blk g2 24 [.slice A1 l1.length c1]] ∧ ts = [(2, .pointer (some ⟨g2, 0, none⟩)), (3, .pointer (some ⟨g3, 0, none⟩)), (4, .pointer (some ⟨g4, 0, none⟩)), (5, .slice Bx (l1 ++ (l2.take j).filter (fun y => !hasL l1 y)).length cx), (6, .int .i64 (j : Int))]) l2.length (l := [(2, _), (3, _), (4, _), (5, .slice B0 l1.length cb0), (6, _)]) (B := [.own (.slice B0 l1.length cb0) 61 5 l1.length (lnC l1), .blk g4 24 [.slice none 0 0], .blk g3 24 [.slice A2 l2.length c2], .blk g2 24 [.slice A1 l1.length c1]]) ?_ (List.Sublist.refl _) ⟨rfl, 0, B0, cb0, by omega, by rw [hU0], by rw [hU0]⟩ ?_
 ·exact ⟨rfl, rfl, rfl, rfl, rfl, trivial⟩
 clear hU0
 rintro gm ds ts A ⟨rfl, j, Bx, cx, hj, rfl, rfl⟩
 by_cases hlt : j < l2.length
 ·obtain ⟨ba, oa, rfl⟩ := book_addr h2 hlt
  have cA := fun A => ln_cells h2 hlt A
  have kh := fun w1 h => has_any A1 c1 l1 (lnAt l2 j) w1 h (by omega)
  have hst := filter_step (fun y => !hasL l1 y) hlt
  have hle := filter_le (fun y => !hasL l1 y) l2 j
  rw [← lnAt_get hlt] at hst
  generalize hasL l1 (lnAt l2 j) = r at *
  generalize lnAt l2 j = x at *
  generalize (l2.take j).filter (fun y => !hasL l1 y) = O at *
  unfold lnV at kh
  unfold lnL at cA
  cases r
  ·rw [if_pos (by rfl)] at hst
   have hs2 : (l1 ++ (O ++ [x])).length = (l1 ++ O).length + 1 := by rw [← List.append_assoc, List.length_append]; rfl
   have hs3 : lnC (l1 ++ (O ++ [x])) = lnC (l1 ++ O) ++ lnL x := by rw [← List.append_assoc, lnC_snoc]
   have hlO : (l1 ++ O).length ≤ 200 := by rw [List.length_append]; omega
   unfold lnL at hs3
   (apply tr_v tk; (conv => whnf); (repeat ((first | ((first | apply VStop.mk | apply VCall.stop); (first | refine tr_region_draw (id := 5) (by kernel_rfl) [0, 1, 2, 3, 4, 5, 6, 7, 8] [.rd, .rd, .rd, .rd, .rd, .rd, .rd, .cr, .rd] rfl (by kernel_rfl) ?_ | (refine ot_appendS (sz := 5) (sl := (l1 ++ O).length) (A'v := fun v' => _ :: .own v' 61 5 ((l1 ++ O).length + 1) (lnC (l1 ++ O) ++ [.int .i64 x.st, .int .i64 x.ck, .int .i64 x.kd, .int .i64 x.th, .int .i64 x.vl]) :: _) tk rfl rfl rfl rfl rfl rfl rfl rfl rfl rfl (by decide) rfl (cells_blk_all (.head _)) rfl rfl (fun v' => .there .here) (by omega) (by decide) (fun B3 c3 => ?_))); apply ot_v tk) | (apply VLdN.mk; (first | exact cA _); exact rfl) | (apply VIx.mk (j := j); exact rfl; omega) | (apply VCall.q; kernel_rfl; (focus (intro w1 hs; first | with_reducible apply kh w1 (hs.book h1)))) | (apply VLd.mk; (focus ((repeat (first | ((with_reducible apply ld_blk); exact rfl) | (with_reducible apply ld_skip))); done))) | (apply VRng.mk; omega) | apply VBr.t | (apply v_t; omega) | (apply VNew.mk; intro g hg)); (conv => whnf))))
   exact v_rnd (gm - 1) (by omega) (l := [(2, _), (3, _), (4, _), (5, _), (6, _)]) (B := _) ⟨rfl, rfl, rfl, rfl, rfl, trivial⟩ (.cons _ (List.Sublist.refl _)) ⟨rfl, j + 1, B3, c3, by omega, by rw [hst, hs2, hs3], by rw [hst, hs2]; rfl⟩
  ·rw [if_neg (by decide), List.append_nil] at hst
   (apply tr_v tk; (conv => whnf); (repeat ((first | ((first | apply VStop.mk | apply VCall.stop); refine tr_region_draw (id := 5) (by kernel_rfl) [0, 1, 2, 3, 4, 5, 6, 7, 8] [.rd, .rd, .rd, .rd, .rd, .rd, .rd, .cr, .rd] rfl (by kernel_rfl) ?_; apply ot_v tk) | (apply VLdN.mk; (first | exact cA _); exact rfl) | (apply VIx.mk (j := j); exact rfl; omega) | (apply VCall.q; kernel_rfl; (focus (intro w1 hs; first | with_reducible apply kh w1 (hs.book h1)))) | (apply VLd.mk; (focus ((repeat (first | ((with_reducible apply ld_blk); exact rfl) | (with_reducible apply ld_skip))); done))) | (apply VRng.mk; omega) | apply VBr.t | apply VBr.f | (apply v_t; omega)); (conv => whnf))))
   exact v_rnd (gm - 1) (by omega) (l := [(2, _), (3, _), (4, _), (5, _), (6, _)]) (B := _) ⟨rfl, rfl, rfl, rfl, rfl, trivial⟩ (List.Sublist.refl _) ⟨rfl, j + 1, Bx, cx, by omega, by rw [hst], by rw [hst]; rfl⟩
 obtain rfl : j = l2.length := by omega
 rw [List.take_length]
 have hto : togL l1 l2 = sortS (unionL l1 l2).length (unionL l1 l2).length (unionL l1 l2) := rfl
 have hlu : (unionL l1 l2).length ≤ 200 := by
  unfold unionL
  rw [List.length_append]
  have := List.length_filter_le (fun y => !hasL l1 y) l2
  omega
 rw [hto]
 clear hto
 generalize hU : l1 ++ l2.filter (fun y => !hasL l1 y) = U
 rw [show unionL l1 l2 = U from hU] at *
 clear hU
 have hSl := fun c => sortS_len U.length c U
 generalize hN : U.length = N at *
 (apply tr_v tk; (conv => whnf); (repeat ((first | (apply VLd.mk; (focus ((repeat (first | ((with_reducible apply ld_blk); exact rfl) | (with_reducible apply ld_skip))); done))) | apply VBr.f | (apply v_f; omega)); (conv => whnf))); apply VStop.mk)
 refine v_loop (fun gm ds ts A => ds = [] ∧ ∃ i : Nat, i + gm = N ∧ A = [.own (.slice Bx N cx) 61 5 N (lnC (sortS N i U)), .blk g4 24 [.slice none 0 0]] ∧ ts = [(4, .pointer (some ⟨g4, 0, none⟩)), (5, .slice Bx N cx), (7, .int .i64 (i : Int))]) N (l := [(4, _), (5, _), (7, _)]) (B := [.own (.slice Bx N cx) 61 5 N (lnC U), .blk g4 24 [.slice none 0 0]]) ?_ (.cons_cons _ (.cons_cons _ (List.nil_sublist _))) ⟨rfl, 0, by omega, rfl, rfl⟩ ?_
 ·exact ⟨rfl, rfl, rfl, trivial⟩
 rintro gm ds ts A ⟨rfl, i, hi, rfl, rfl⟩
 by_cases hlt : i < N
 ·refine tr_fact (p := ∃ b, Bx = some ⟨b, 0, none⟩) (fun w' hs => own_addr hs (.head _) (by omega)) ?_
  rintro ⟨bx, rfl⟩
  have hrl := fun c => (rowS_len i c (sortS N i U)).trans (hSl i)
  have hnx : sortS N (i + 1) U = rowS i (N - (i + 1)) (sortS N i U) := rfl
  generalize sortS N i U = L at *
  (apply tr_v tk; (conv => whnf); (repeat ((first | (apply VRng.mk; omega) | apply VBr.t | (apply v_t; omega)); (conv => whnf))); apply VStop.mk)
  refine v_loop (fun gm2 ds ts A => ds = [] ∧ ∃ c : Nat, i + 1 + c + gm2 = N ∧ A = [.own (.slice (some ⟨bx, 0, none⟩) N cx) 61 5 N (lnC (rowS i c L)), .blk g4 24 [.slice none 0 0]] ∧ ts = [(4, .pointer (some ⟨g4, 0, none⟩)), (5, .slice (some ⟨bx, 0, none⟩) N cx), (7, .int .i64 (i : Int)), (8, .int .i64 ((i + 1 + c : Nat) : Int))]) (N - (i + 1)) (l := [(4, _), (5, _), (7, _), (8, _)]) (B := [.own (.slice (some ⟨bx, 0, none⟩) N cx) 61 5 N (lnC (rowS i 0 L)), .blk g4 24 [.slice none 0 0]]) ?_ (List.Sublist.refl _) ⟨rfl, 0, by omega, rfl, rfl⟩ ?_
  ·exact ⟨rfl, rfl, rfl, rfl, trivial⟩
  rintro gm2 ds ts A ⟨rfl, c, hc, rfl, rfl⟩
  by_cases hlt2 : i + 1 + c < N
  ·have hl2 := hrl c
   have hrs : rowS i (c + 1) L = stepS i (i + 1 + c) (rowS i c L) := rfl
   generalize rowS i c L = M at *
   generalize hk : i + 1 + c = k at *
   unfold stepS at hrs
   have ci := fun {A : List Chunk} (h : Chunk.own (.slice (some ⟨bx, 0, none⟩) N cx) 61 5 N (lnC M) ∈ A) => own_ln (w0 := w) h (show i < M.length by omega)
   have ck := fun {A : List Chunk} (h : Chunk.own (.slice (some ⟨bx, 0, none⟩) N cx) 61 5 N (lnC M) ∈ A) => own_ln (w0 := w) h (show k < M.length by omega)
   have ck' := fun {A : List Chunk} (h : Chunk.own (.slice (some ⟨bx, 0, none⟩) N cx) 61 5 N (lnC (M.set i (lnAt M k))) ∈ A) => own_ln (w0 := w) h (show k < (M.set i (lnAt M k)).length by rw [List.length_set]; omega)
   have s1 := lnC_set M i (lnAt M k) (by omega)
   have s2 := lnC_set (M.set i (lnAt M k)) k (lnAt M i) (by rw [List.length_set]; omega)
   have kb := fun w1 => before_any (lnAt M k) (lnAt M i) w1
   generalize before (lnAt M k) (lnAt M i) = bb at *
   generalize hMi : lnAt M i = x at *
   generalize hMk : lnAt M k = y at *
   unfold lnV at kb
   unfold lnL at ci ck s1 s2
   have q1 : 0 + i * 5 = i * 5 := Nat.zero_add _
   have q2 : 0 + k * 5 = k * 5 := Nat.zero_add _
   cases bb
   ·rw [if_neg (by decide)] at hrs
    (apply tr_v tk; (conv => whnf); (repeat ((first | ((first | apply VStop.mk | apply VCall.stop); refine tr_region_draw (id := 13) (by kernel_rfl) [0, 1, 2, 3, 4, 5, 6, 7, 8] [.rd, .rd, .rd, .rd, .rd, .rd, .rd, .rd, .cr] rfl (by kernel_rfl) ?_; apply ot_v tk) | (apply VLdN.mk; (first | exact ci (.head _) | exact ck (.head _)); exact rfl) | (apply VIx.mk (j := i); exact rfl; omega) | (apply VIx.mk (j := k); exact rfl; omega) | (apply VCall.q; kernel_rfl; (focus (intro w1 hs; first | with_reducible apply kb w1))) | (apply VRng.mk; omega) | apply VBr.t | apply VBr.f | (apply v_t; omega)); (conv => whnf))))
    exact v_rnd (gm2 - 1) (by omega) (l := [(4, _), (5, _), (7, _), (8, _)]) (B := _) ⟨rfl, rfl, rfl, rfl, trivial⟩ (List.Sublist.refl _) ⟨rfl, c + 1, by omega, by rw [hrs], by rw [← hk]; rfl⟩
   ·rw [if_pos rfl] at hrs
    (apply tr_v tk; (conv => whnf); (repeat ((first | ((first | apply VStop.mk | apply VCall.stop); refine tr_region_draw (id := 13) (by kernel_rfl) [0, 1, 2, 3, 4, 5, 6, 7, 8] [.rd, .rd, .rd, .rd, .rd, .rd, .rd, .rd, .cr] rfl (by kernel_rfl) ?_; apply ot_v tk) | (apply VLdN.mk; (first | exact ci (.head _) | exact ck (.head _) | exact ci (.tail _ (.head _)) | exact ck (.tail _ (.head _))); exact rfl) | (apply VIx.mk (j := i); exact rfl; omega) | (apply VIx.mk (j := k); exact rfl; omega) | (apply VSt.stop; refine ot_storeN_own (sz := 5) (vs := [.int .i64 y.st, .int .i64 y.ck, .int .i64 y.kd, .int .i64 y.th, .int .i64 y.vl]) tk rfl rfl rfl rfl rfl rfl rfl rfl rfl rfl (.there .here) (by simp only [List.length_cons, List.length_nil]; omega) (Nat.succ_pos _) ?_; apply ot_v tk) | (apply VSt.stop; refine ot_storeN_own (sz := 5) (vs := [.int .i64 x.st, .int .i64 x.ck, .int .i64 x.kd, .int .i64 x.th, .int .i64 x.vl]) tk rfl rfl rfl rfl rfl rfl rfl rfl rfl rfl (.there .here) (by simp only [List.length_cons, List.length_nil]; omega) (Nat.succ_pos _) ?_; apply ot_v tk) | (apply VCall.q; kernel_rfl; (focus (intro w1 hs; first | with_reducible apply kb w1))) | (apply VLdN.mk; (focus ((repeat (first | (with_reducible apply ldn_blk) | (with_reducible apply ldn_skip))); done)); exact rfl) | (apply VRng.mk; omega) | apply VBr.t | (apply v_t; omega) | (apply VNew.mk; intro g hg) | (apply VSt.mk; (focus ((repeat (first | (with_reducible exact At.here) | (with_reducible apply At.there))); done)); exact rfl)); (conv => whnf))))
    exact v_rnd (gm2 - 1) (by omega) (l := [(4, _), (5, _), (7, _), (8, _)]) (B := _) ⟨rfl, rfl, rfl, rfl, trivial⟩ (.cons _ (List.Sublist.refl _)) ⟨rfl, c + 1, by omega, by rw [q1, q2, s1, s2, hrs], by rw [← hk]; rfl⟩
  obtain rfl : c = N - (i + 1) := by omega
  rw [← hnx]
  (apply tr_v tk; (conv => whnf); (repeat ((first | (apply VRng.mk; omega) | apply VBr.f | (apply v_f; omega)); (conv => whnf))))
  exact v_rnd (gm - 1) (by omega) (l := [(4, _), (5, _), (7, _)]) (B := _) ⟨rfl, rfl, rfl, trivial⟩ (List.Sublist.refl _) ⟨rfl, i + 1, by omega, rfl, rfl⟩
 obtain rfl : i = N := by omega
 (apply tr_v tk; (conv => whnf); (repeat ((first | apply VBr.f | (apply v_f; omega) | (apply VSt.mk; (focus ((repeat (first | (with_reducible exact At.here) | (with_reducible apply At.there))); done)); exact rfl)); (conv => whnf))))
 (apply VRet.mk)
 refine ret1 (by first | exact .inl rfl | exact .inr rfl) rfl (by exact rv_row tk rfl rfl rfl (by first | exact cells_blk_all (by (repeat (first | exact List.Mem.head _ | assumption | refine List.Mem.tail _ ?_))) | exact cells_row0 (by (repeat (first | exact List.Mem.head _ | assumption | refine List.Mem.tail _ ?_)))) rfl) ?_
 rw [hSl]
 exact fun w hs => ⟨(Bx, cx), rfl, trivial, hs.sub (.cons_cons _ (List.nil_sublist _))⟩
end Go.Proofs.YtojeeindlijgkaaGreatDoor
