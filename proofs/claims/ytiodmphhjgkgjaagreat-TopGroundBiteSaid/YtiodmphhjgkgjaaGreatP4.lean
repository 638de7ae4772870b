/- A rows values, sorted: lemmas for the rows of this seat. No conditions. -/
import Derived.Laws.StructEq
import Derived.Test.YtiodmphhjgkgjaaGreatP2
import Derived.Test.YtiodmphhjgkgjaaGreatP3
set_option linter.all false
namespace Go.Proofs.YtiodmphhjgkgjaaGreat
open Go.RowKit
/-! ## A row's values, sorted -/
def encI (x : Int) : List Value := [.int .i64 x]
def NeedS (Bs : Nat) (A : Option Addr) (c : Nat) (L : List Int) (w0 : World) (R : List Chunk) : Prop := ∀ W, St w0 R W → W.cell? ⟨Bs, 0, none⟩ = some (.slice A L.length c) ∧ Reads W W.heap.size 1 A L.length (i64s L)
theorem take_snoc {l : List Int} {i : Nat} (h : i < l.length) : l.take (i + 1) = l.take i ++ [rAt l i] := by
 unfold rAt
 rw [List.take_add_one, List.getElem?_eq_getElem h]; rfl
set_option maxHeartbeats 1000000 in
set_option maxRecDepth 20000 in
theorem values_it (Bs : Nat) (A0 : Option Addr) (c : Nat) (L : List Int) (hL : L.length ≤ 12) (hA : 0 < L.length → ∃ b o, A0 = some ⟨b, o, none⟩) : ItT Tryz.prog 246 [] [.pointer (some ⟨Bs, 0, none⟩)] encI (NeedS Bs A0 c L) L := by
 intro w0 l Jc Jx R W hNd hY h0 hS
 generalize hP : (fun (e : Ending) (W' : World) => (∃ v, e = .returned v) ∧ ((∃ R', Jc L R' ∧ St w0 R' W') ∨ ∃ pre R', Jx pre R' ∧ St w0 R' W')) = POST
 have hdone : ∀ R' v W', Jc L R' → St w0 R' W' → POST (.returned v) W' := fun R' v W' hJ hS => by
  rw [← hP]; exact ⟨⟨v, rfl⟩, .inl ⟨R', hJ, hS⟩⟩
 have hstop : ∀ pre R' v W', Jx pre R' → St w0 R' W' → POST (.returned v) W' := fun pre R' v W' hJ hS => by
  rw [← hP]; exact ⟨⟨v, rfl⟩, .inr ⟨pre, R', hJ, hS⟩⟩
 clear hP
 have b0 : CellAt w0 R Bs 0 (.slice A0 L.length c) := fun w hs => (hNd _ _ h0 w hs).1
 refine fn_v tk (n := 16) (A := R) Tryz.func246 rfl rfl (Nat.le_of_ble_eq_true rfl) hS ?_
 ((conv => whnf); (repeat ((apply VLd.mk; exact b0); (conv => whnf))); apply VStop.mk)
 refine v_loop (fun gm' ds ts A => ds = [] ∧ ∃ i, i + gm' = L.length ∧ Jc (L.take i) A ∧ ts = [(0, .func (.yield l) #[] #[]), (5, .slice A0 L.length c), (6, .int .i64 (L.length : Int)), (7, .int .i64 (i : Int))]) L.length
  (l := [(0, _), (5, _), (6, _), (7, _)]) (B := _) ?_ (List.Sublist.refl _) ⟨rfl, 0, by omega, h0, rfl⟩ ?_
 ·exact ⟨rfl, rfl, rfl, rfl, trivial⟩
 clear b0 h0
 rintro gm' ds ts A ⟨rfl, i, hi, hJ, rfl⟩
 by_cases hlti : i < L.length
 rotate_left
 ·obtain rfl : i = L.length := by omega
  rw [List.take_length] at hJ
  (apply tr_v tk; (conv => whnf); (repeat ((first | apply VBr.f | (apply v_f; omega)); (conv => whnf))))
  (apply VRet.mk)
  exact ret0 (by first | exact .inl rfl | exact .inr rfl) rfl fun w hs => hdone _ _ _ hJ hs
 obtain ⟨b, o, rfl⟩ := hA (by omega)
 have c1 : CellAt w0 A b (o + i * 1) (.int .i64 (rAt L i)) := fun w hs => int_cell ((hNd _ _ hJ w hs).2) hlti [] w (St.nil (Below.refl _ _))
 have hpre : L.take i ++ [rAt L i] <+: L := by rw [← take_snoc hlti]; exact List.take_prefix _ _
 have hsn := take_snoc hlti
 generalize rAt L i = v at *
 (apply tr_v tk; (conv => whnf); (repeat ((first | (apply VLd.mk; exact c1) | (apply VIx.mk (j := i); exact rfl; omega) | apply VBr.t | (apply v_t; omega)); (conv => whnf))); apply VStop.mk)
 refine ot_yield (B := []) hY rfl rfl rfl rfl rfl (.cons rfl .nil) hpre hJ rfl ?_ ?_
 ·intro R' hJ'
  dsimp only [List.nil_append]
  (apply ot_v tk; (conv => whnf); (repeat ((first | (apply VRng.mk; omega) | apply VBr.f); (conv => whnf))))
  exact v_rnd (gm' - 1) (by omega) (l := [(0, _), (5, _), (6, _), (7, _)]) (B := _) ⟨rfl, rfl, rfl, rfl, trivial⟩ (List.Sublist.refl _) ⟨rfl, i + 1, by omega, by rw [hsn]; exact hJ', rfl⟩
 ·intro R' hJ'
  dsimp only [List.nil_append]
  (apply ot_v tk; (conv => whnf); (repeat (apply VBr.t; (conv => whnf))))
  (apply VRet.mk)
  exact ret0 (by first | exact .inl rfl | exact .inr rfl) rfl fun w hs => hstop _ _ _ _ hJ' hs
theorem values_any (A0 : Option Addr) (n c : Nat) (w : World) : Calls Tryz.prog 181 #[.slice A0 n c] w fun e w' => ∃ x : Nat, e = .returned (.func (.func 246) #[] #[.pointer (some ⟨x, 0, none⟩)]) ∧ True ∧ St w ([] ++ [.blk x 33 [.slice A0 n c]]) w' := by
 refine fn_v tk (n := 4) (A := []) Tryz.func181 rfl rfl (Nat.le_of_ble_eq_true rfl) (St.nil (Below.refl _ _)) ?_
 ((conv => whnf); (repeat ((apply VNew.mk; intro g hg); (conv => whnf))))
 (apply VRet.mk)
 refine ret1 (by first | exact .inl rfl | exact .inr rfl) rfl (by exact rv_tmp rfl) ?_
 exact fun w hs => ⟨_, rfl, trivial, hs⟩
set_option maxHeartbeats 1000000 in
set_option maxRecDepth 20000 in
theorem appSeq_any (Bs : Nat) (A0 : Option Addr) (c : Nat) (L : List Int) (w : World) (hL : 1 ≤ L.length ∧ L.length ≤ 12) (hbs : w.cell? ⟨Bs, 0, none⟩ = some (.slice A0 L.length c)) (h : Reads w w.heap.size 1 A0 L.length (i64s L)) :
  Calls Tryz.prog 269 #[.slice none 0 0, .func (.func 246) #[] #[.pointer (some ⟨Bs, 0, none⟩)]] w fun e w' => ∃ x : SlX, e = .returned (.slice x.1 L.length x.2) ∧ True ∧ St w ([] ++ [.own (.slice x.1 L.length x.2) 2 1 L.length (i64s L)]) w' := by
 have hA : 0 < L.length → ∃ b o, A0 = some ⟨b, o, none⟩ := fun hp => by
  obtain ⟨b, o, rfl, _⟩ := h.2 hp
  exact ⟨b, o, rfl⟩
 refine fn_v tk (n := 13) (A := []) Tryz.func269 rfl rfl (Nat.le_of_ble_eq_true rfl) (St.nil (Below.refl _ _)) ?_
 ((conv => whnf); (repeat ((apply VNew.mk; intro g hg); (conv => whnf))); apply VStop.mk)
 refine tr_own_nil 2 1 ?_
 refine tr_weak (l := [(2, _), (6, _)]) (B := [.own (.slice none 0 0) 2 1 0 [], .blk g 33 [.slice none 0 0]]) ⟨rfl, rfl, trivial⟩ (by (repeat (first | exact sl0 _ | exact sl1 _ | refine sl2 _ ?_ | refine sl3 _ ?_))) ?_
 refine tr_rangeFunc rfl (by kernel_rfl) (values_it Bs A0 c L hL.2 hA) (fun _ => rfl) (by decide)
  (fun pre R => ∃ (Bx : Option Addr) (cx : Nat), R = [.own (.slice Bx pre.length cx) 2 1 pre.length (i64s pre), .blk g 33 [.slice Bx pre.length cx]])
  (fun _ _ _ => False) ?_ ⟨none, 0, rfl⟩ ?_ ?_ ?_
 ·rintro pre R ⟨Bx, cx, rfl⟩ F W hS
  exact ⟨CellAt.base (A := []) hbs W (hS.sub (List.nil_sublist _)), hS.reads h⟩
 ·rintro l pre x R Fr ⟨rest, hpre⟩ ⟨Bx, cx, rfl⟩
  have hpl : pre.length ≤ 12 := by have := congrArg List.length hpre; simp at this; omega
  have hs2 : (pre ++ [x]).length = pre.length + 1 := by rw [List.length_append]; rfl
  have hs3 : i64s (pre ++ [x]) = i64s pre ++ [.int .i64 x] := by simp [i64s]
  change Tr _ _ _ _ _ _ (parT _ _ [.int .i64 x]) (_ :: _ :: Fr) _
  (apply tr_v tk; (conv => whnf))
  refine ⟨rfl, rfl, [.own (.slice Bx pre.length cx) 2 1 pre.length (i64s pre), .blk g 33 [.slice Bx pre.length cx]], List.Sublist.refl _, fun Fr' => ?_⟩
  change Tr _ _ _ _ _ _ _ (_ :: _ :: Fr') _
  generalize hn : pre.length = n at *
  (apply tr_v tk; (conv => whnf); (repeat ((first | (apply VStop.mk; refine ot_appendS (sz := 1) (sl := n) (A'v := fun v' => _ :: .own v' 2 1 (n + 1) (i64s pre ++ [.int .i64 x]) :: _) tk rfl rfl rfl rfl rfl rfl rfl rfl rfl rfl (by decide) rfl (cells_blk_all (.head _)) rfl rfl (fun v' => .there .here) (by omega) (by decide) (fun B3 c3 => ?_); apply ot_v tk) | (apply VLd.mk; (focus ((repeat (first | ((with_reducible apply ld_blk); exact rfl) | (with_reducible apply ld_skip))); done))) | (apply VNew.mk; intro g hg) | (apply VSt.mk; (focus ((repeat (first | (with_reducible exact At.here) | (with_reducible apply At.there))); done)); exact rfl)); (conv => whnf))))
  exact ⟨rfl, _, .cons _ (List.Sublist.refl _), B3, c3, by rw [hs2, hs3]⟩
 ·rintro D R ⟨Bx, cx, rfl⟩
  ((conv => whnf); (repeat ((apply VLd.mk; (focus ((repeat (first | ((with_reducible apply ld_blk); exact rfl) | (with_reducible apply ld_skip))); done))); (conv => whnf))))
  (apply VRet.mk)
  exact ⟨.inr rfl, D, _, rfl, .here, (ret1 (.inr rfl) rfl (by exact rv_tmp rfl) fun w hs => ⟨(Bx, cx), rfl, trivial, hs.sub (List.singleton_sublist.2 (by (repeat (first | exact List.Mem.head _ | assumption | refine List.Mem.tail _ ?_))))⟩).2⟩
 ·exact fun _ _ _ _ h => h.elim
set_option maxRecDepth 20000 in
theorem collect_any (Bs : Nat) (A0 : Option Addr) (c : Nat) (L : List Int) (w : World) (hL : 1 ≤ L.length ∧ L.length ≤ 12) (hbs : w.cell? ⟨Bs, 0, none⟩ = some (.slice A0 L.length c)) (h : Reads w w.heap.size 1 A0 L.length (i64s L)) :
  Calls Tryz.prog 244 #[.func (.func 246) #[] #[.pointer (some ⟨Bs, 0, none⟩)]] w fun e w' => ∃ x : SlX, e = .returned (.slice x.1 L.length x.2) ∧ True ∧ St w ([] ++ [.own (.slice x.1 L.length x.2) 2 1 L.length (i64s L)]) w' := by
 refine fn_v tk (n := 5) (A := []) Tryz.func244 rfl rfl (Nat.le_of_ble_eq_true rfl) (St.nil (Below.refl _ _)) ?_
 ((conv => whnf); apply VCall.stop)
 refine ot_callT (X := SlX) (us := []) (vs := []) (fun x => .slice x.1 L.length x.2) (fun x => []) (fun x => [.own (.slice x.1 L.length x.2) 2 1 L.length (i64s L)]) _ (fun x c hc => one_mut hc) (by decide) rfl rfl rfl rfl (by kernel_rfl) (evl_of rfl) rfl (fun w1 hs => appSeq_any Bs A0 c L w1 hL (CellAt.base hbs w1 hs) (hs.reads h)) ?_
 rintro ⟨B, cx⟩ _
 (dsimp only [List.cons_append, List.nil_append]; apply ot_v tk)
 ((conv => whnf))
 (apply VRet.mk)
 refine ret1 (by first | exact .inl rfl | exact .inr rfl) rfl (by exact rv_tmp rfl) ?_
 exact fun w hs => ⟨(B, cx), rfl, trivial, hs⟩
set_option maxRecDepth 20000 in
theorem sorted_any (Bs : Nat) (A0 : Option Addr) (c : Nat) (L : List Int) (w : World) (hL : 1 ≤ L.length ∧ L.length ≤ 12) (hv : InV L) (hbs : w.cell? ⟨Bs, 0, none⟩ = some (.slice A0 L.length c)) (h : Reads w w.heap.size 1 A0 L.length (i64s L)) :
  Calls Tryz.prog 180 #[.func (.func 246) #[] #[.pointer (some ⟨Bs, 0, none⟩)]] w fun e w' => ∃ x : (Nat × Nat) × List Int, e = .returned (.slice (some ⟨x.1.1, 0, none⟩) L.length x.1.2) ∧ (x.2.length = L.length ∧ InV x.2 ∧ (Inc L → x.2 = L)) ∧ St w ([] ++ [.own (.slice (some ⟨x.1.1, 0, none⟩) L.length x.1.2) 2 1 L.length (i64s x.2)]) w' := by
 refine fn_v tk (n := 9) (A := []) Tryz.func180 rfl rfl (Nat.le_of_ble_eq_true rfl) (St.nil (Below.refl _ _)) ?_
 ((conv => whnf); apply VCall.stop)
 refine ot_callT (X := SlX) (us := []) (vs := []) (fun x => .slice x.1 L.length x.2) (fun x => []) (fun x => [.own (.slice x.1 L.length x.2) 2 1 L.length (i64s L)]) _ (fun x c hc => one_mut hc) (by decide) rfl rfl rfl rfl (by kernel_rfl) (evl_of rfl) rfl (fun w1 hs => collect_any Bs A0 c L w1 hL (CellAt.base hbs w1 hs) (hs.reads h)) ?_
 rintro ⟨B, cx⟩ _
 (dsimp only [List.cons_append, List.nil_append]; apply ot_v tk)
 ((conv => whnf); apply VCall.stop)
 refine ot_own_addr (B := B) (cc := cx) (sz := 1) (m := L.length) (te := 2) (xs := i64s L) (.head _) (by omega) rfl fun g hg => ?_
 subst hg
 refine ot_callW (us := []) (vs := []) (fun _ : List Int => .tuple #[]) (fun l' => [.own (.slice (some ⟨g, 0, none⟩) L.length cx) 2 1 L.length (i64s l')]) (fun l' : List Int => l'.length = L.length ∧ InV l' ∧ (Inc L → l' = L)) rfl rfl rfl rfl rfl (by kernel_rfl) (evl_of rfl) rfl (fun w1 hs => sort_any g cx L.length L rfl hL.2 hv hs) (fun l' hl' => ?_)
 (apply ot_v tk; (conv => whnf))
 (apply VRet.mk)
 refine ret1 (by first | exact .inl rfl | exact .inr rfl) rfl (by exact rv_tmp rfl) ?_
 exact fun w hs => ⟨((g, cx), l'), rfl, hl', hs⟩
/-! ## Compact -/
/-- The first p numbers of l are among the first m of M, in their order. -/
def Sq (l M : List Int) (m p : Nat) : Prop := ∃ κ : Nat → Nat, (∀ i, i < p → κ i < m ∧ rAt M (κ i) = rAt l i) ∧ (∀ i, i + 1 < p → κ i ≤ κ (i + 1)) ∧ (0 < p → κ (p - 1) + 1 = m)
theorem rAt_set {l : List Int} {k j : Nat} {v : Int} (hk : k < l.length) : rAt (l.set k v) j = if j = k then v else rAt l j := by
 unfold rAt
 by_cases h : j = k
 ·subst h; rw [if_pos rfl, List.getElem?_set_self hk, Option.getD_some]
 ·rw [if_neg h, List.getElem?_set_ne (Ne.symm h)]
theorem Sq.same {l M : List Int} {m p : Nat} (h : Sq l M m p) (hp : 0 < p) (he : rAt l p = rAt l (p - 1)) : Sq l M m (p + 1) := by
 obtain ⟨κ, h1, h2, h3⟩ := h
 have h3 := h3 hp
 refine ⟨fun i => if i = p then m - 1 else κ i, fun i hi => ?_, fun i hi => ?_, fun _ => ?_⟩
 ·dsimp only
  by_cases hq : i = p
  ·subst hq
   rw [if_pos rfl]
   have := h1 (i - 1) (by omega)
   rw [show m - 1 = κ (i - 1) by omega, this.2, he]
   exact ⟨by omega, rfl⟩
  ·rw [if_neg hq]; exact h1 i (by omega)
 ·dsimp only
  rw [if_neg (by omega)]
  by_cases hq : i + 1 = p
  ·rw [if_pos hq, show i = p - 1 by omega]; omega
  ·rw [if_neg hq]; exact h2 i (by omega)
 ·dsimp only
  rw [if_pos (by omega)]
  omega
theorem Sq.new {l M : List Int} {m p : Nat} (h : Sq l M m p) (hm : m < M.length) : Sq l (M.set m (rAt l p)) (m + 1) (p + 1) := by
 obtain ⟨κ, h1, h2, h3⟩ := h
 refine ⟨fun i => if i = p then m else κ i, fun i hi => ?_, fun i hi => ?_, fun _ => ?_⟩
 ·dsimp only
  rw [rAt_set hm]
  by_cases hq : i = p
  ·subst hq
   rw [if_pos rfl, if_pos rfl]
   exact ⟨by omega, rfl⟩
  ·rw [if_neg hq]
   have := h1 i (by omega)
   rw [if_neg (by omega)]
   exact ⟨by omega, this.2⟩
 ·dsimp only
  rw [if_neg (by omega)]
  by_cases hq : i + 1 = p
  ·rw [if_pos hq]
   have := h1 i (by omega)
   omega
  ·rw [if_neg hq]; exact h2 i (by omega)
 ·dsimp only
  rw [if_pos (by omega)]
theorem Sq.refl (l : List Int) (p : Nat) : Sq l l p p := ⟨fun i => i, fun i hi => ⟨hi, rfl⟩, fun i _ => Nat.le_succ i, fun h => by dsimp only; omega⟩
theorem Sq.congr {l M M' : List Int} {m p : Nat} (h : Sq l M m p) (he : ∀ i, i < m → rAt M' i = rAt M i) : Sq l M' m p := by
 obtain ⟨κ, h1, h2, h3⟩ := h
 exact ⟨κ, fun i hi => ⟨(h1 i hi).1, by rw [he _ (h1 i hi).1]; exact (h1 i hi).2⟩, h2, h3⟩
theorem take_zeros (M : List Int) (k n : Nat) : (i64s M).take k ++ List.replicate n (.int .i64 0) = i64s (M.take k ++ List.replicate n 0) := by
 simp [i64s, List.map_take, List.map_replicate]
theorem rAt_app {a b : List Int} {i : Nat} (h : i < a.length) : rAt (a ++ b) i = rAt a i := by
 unfold rAt
 rw [List.getElem?_append_left h]
theorem rAt_take {a : List Int} {k i : Nat} (h : i < k) : rAt (a.take k) i = rAt a i := by
 unfold rAt
 rw [List.getElem?_take_of_lt h]
theorem InV.take0 {M : List Int} (h : InV M) (k n : Nat) : InV (M.take k ++ List.replicate n 0) := fun x hx => by
 rcases List.mem_append.1 hx with h1 | h1
 ·exact h x (List.mem_of_mem_take h1)
 ·rw [List.eq_of_mem_replicate h1]; omega
set_option maxHeartbeats 2000000 in
set_option maxRecDepth 20000 in
theorem compact_any {w0 w : World} {R : List Chunk} (g cap n : Nat) (l : List Int) (hn : l.length = n) (hl : 1 ≤ n ∧ n ≤ 12) (hv : InV l) (hs : St w0 (.own (.slice (some ⟨g, 0, none⟩) n cap) 2 1 n (i64s l) :: R) w) :
  Calls Tryz.prog 179 #[.slice (some ⟨g, 0, none⟩) n cap] w fun e w' => ∃ x : Nat × List Int, e = .returned (.slice (some ⟨g, 0, none⟩) x.1 cap) ∧ (1 ≤ x.1 ∧ x.1 ≤ n ∧ x.2.length = n ∧ InV x.2 ∧ Sq l x.2 x.1 n) ∧ St w0 (.own (.slice (some ⟨g, 0, none⟩) n cap) 2 1 n (i64s x.2) :: R) w' := by
 have hcap := own_cap hs (.head _)
 refine fn_v tk (n := 61) (A := _) Tryz.func179 rfl rfl (Nat.le_of_ble_eq_true rfl) hs ?_
 by_cases h2 : n < 2
 ·((conv => whnf); (repeat ((first | apply VBr.t | (apply v_t; omega)); (conv => whnf))))
  (apply VRet.mk)
  refine ret1 (by first | exact .inl rfl | exact .inr rfl) rfl (by exact rv_tmp rfl) ?_
  exact fun w hs => ⟨(n, l), rfl, ⟨by omega, by omega, hn, hv, Sq.refl l n⟩, hs⟩
 ((conv => whnf); (repeat ((first | apply VBr.f | (apply v_f; omega)); (conv => whnf))); apply VStop.mk)
 refine v_loop (fun gm ds ts A => ds = [] ∧ ∃ k : Nat, 1 ≤ k ∧ k + gm = n ∧ A = .own (.slice (some ⟨g, 0, none⟩) n cap) 2 1 n (i64s l) :: R ∧ ts = [(0, .slice (some ⟨g, 0, none⟩) n cap), (2, .slice none 0 0), (3, .int .i64 (k : Int))]) (n - 1)
  (l := [(0, _), (2, _), (3, _)]) (B := _) ?_ (List.Sublist.refl _) ⟨rfl, 1, by omega, by omega, rfl, rfl⟩ ?_
 ·exact ⟨rfl, rfl, rfl, trivial⟩
 rintro gm ds ts A ⟨rfl, k, hk1, hk, rfl, rfl⟩
 by_cases hlt : k < n
 rotate_left
 ·obtain rfl : k = n := by omega
  (apply tr_v tk; (conv => whnf); (repeat ((first | apply VBr.f | (apply v_f; omega)); (conv => whnf))))
  (apply VRet.mk)
  refine ret1 (by first | exact .inl rfl | exact .inr rfl) rfl (by exact rv_tmp rfl) ?_
  exact fun w hs => ⟨(k, l), rfl, ⟨by omega, by omega, hn, hv, Sq.refl l k⟩, hs⟩
 have c1 : ∀ {R' : List Chunk}, CellAt w0 (.own (.slice (some ⟨g, 0, none⟩) n cap) 2 1 n (i64s l) :: R') g (0 + k * 1) (.int .i64 (rAt l k)) := cell_ownI (by omega)
 have c2 : ∀ {R' : List Chunk}, CellAt w0 (.own (.slice (some ⟨g, 0, none⟩) n cap) 2 1 n (i64s l) :: R') g (0 + ((k : Int) - 1).toNat * 1) (.int .i64 (rAt l (k - 1))) := by
  rw [show ((k : Int) - 1).toNat = k - 1 by omega]; exact cell_ownI (by omega)
 by_cases he : rAt l k = rAt l (k - 1)
 rotate_left
 ·generalize rAt l k = x at *
  generalize rAt l (k - 1) = y at *
  (apply tr_v tk; (conv => whnf); (repeat ((first | (apply VStop.mk; refine tr_region_lex (id := 6) (by kernel_rfl) [.rd, .rd, .rd, .rd, .rd, .rd, .rd, .rd, .rd, .rd] rfl (by kernel_rfl) ?_; apply ot_v tk) | (apply VLd.mk; first | exact c1 | exact c2) | (apply VRng.mk; omega) | apply VBr.t | apply VBr.f | (apply v_t; omega) | (apply v_f; omega) | (apply VIx.mk; exact rfl; omega) | (apply v_ixn; omega)); (conv => whnf))))
  exact v_rnd (gm - 1) (by omega) (l := [(0, _), (2, _), (3, _)]) (B := _) ⟨rfl, rfl, rfl, trivial⟩ (List.Sublist.refl _) ⟨rfl, k + 1, by omega, by omega, rfl, rfl⟩
 have hsq : Sq l l k (k + 1) := (Sq.refl l k).same (by omega) he
 rw [he] at c1
 clear he
 generalize rAt l (k - 1) = y at *
 (apply tr_v tk; (conv => whnf); (repeat ((first | (apply VStop.mk; (first | refine tr_region_lex (id := 6) (by kernel_rfl) [.rd, .rd, .rd, .rd, .rd, .rd, .rd, .rd, .rd, .rd] rfl (by kernel_rfl) ?_ | (refine ot_slice_ne (lo := k) tk rfl rfl rfl rfl rfl rfl rfl rfl rfl (by omega) (by omega) ?_)); apply ot_v tk) | (apply VLd.mk; first | exact c1 | exact c2) | (apply VRng.mk; omega) | apply VBr.t | (apply v_t; omega) | (apply VIx.mk; exact rfl; omega) | (apply v_ixn; omega)); (conv => whnf))); apply VStop.mk)
 refine v_loop (fun gm' ds ts A => ds = [] ∧ ∃ (q m : Nat) (M : List Int), 1 ≤ q ∧ k + q + gm' = n ∧ k ≤ m ∧ m + 1 ≤ k + q ∧ M.length = n ∧ InV M ∧ Sq l M m (k + q) ∧ (∀ i, m ≤ i → rAt M i = rAt l i) ∧ A = .own (.slice (some ⟨g, 0, none⟩) n cap) 2 1 n (i64s M) :: R ∧ ts = [(0, .slice (some ⟨g, 0, none⟩) n cap), (2, .slice none 0 0), (3, .int .i64 (m : Int)), (4, .slice (some ⟨g, 0 + k * 1, none⟩) (n - k) (cap - k)), (5, .int .i64 (q : Int))]) (n - k - 1)
  (l := [(0, _), (2, _), (3, _), (4, _), (5, _)]) (B := _) ?_ (List.Sublist.refl _) ⟨rfl, 1, k, l, by omega, by omega, by omega, by omega, hn, hv, hsq, fun _ _ => rfl, rfl, rfl⟩ ?_
 ·exact ⟨rfl, rfl, rfl, rfl, rfl, trivial⟩
 clear hsq c1 c2
 rintro gm' ds ts A ⟨rfl, q, m, M, hq1, hq, hkm, hmq, hM, hMv, hsq, hML, rfl, rfl⟩
 by_cases hltq : k + q < n
 ·have c1 : ∀ {R' : List Chunk}, CellAt w0 (.own (.slice (some ⟨g, 0, none⟩) n cap) 2 1 n (i64s M) :: R') g (0 + k * 1 + q * 1) (.int .i64 (rAt l (k + q))) := by
   rw [← hML _ (by omega), show 0 + k * 1 + q * 1 = 0 + (k + q) * 1 by omega]; exact cell_ownI (by omega)
  have c2 : ∀ {R' : List Chunk}, CellAt w0 (.own (.slice (some ⟨g, 0, none⟩) n cap) 2 1 n (i64s M) :: R') g (0 + k * 1 + ((q : Int) - 1).toNat * 1) (.int .i64 (rAt l (k + q - 1))) := by
   rw [← hML _ (by omega), show 0 + k * 1 + ((q : Int) - 1).toNat * 1 = 0 + (k + q - 1) * 1 by omega]; exact cell_ownI (by omega)
  by_cases he : rAt l (k + q) = rAt l (k + q - 1)
  ·have hs2 := hsq.same (by omega) he
   rw [he] at c1
   generalize rAt l (k + q - 1) = x at *
   (apply tr_v tk; (conv => whnf); (repeat ((first | (apply VStop.mk; refine tr_region_lex (id := 11) (by kernel_rfl) [.rd, .rd, .rd, .rd, .rd, .rd, .rd, .rd, .rd, .rd] rfl (by kernel_rfl) ?_; apply ot_v tk) | (apply VLd.mk; first | exact c1 | exact c2) | (apply VIx.mk (j := q); exact rfl; omega) | (apply VRng.mk; omega) | apply VBr.t | apply VBr.f | (apply v_t; omega) | (apply v_f; omega) | (apply v_ixn; omega)); (conv => whnf))))
   exact v_rnd (gm' - 1) (by omega) (l := [(0, _), (2, _), (3, _), (4, _), (5, _)]) (B := _) ⟨rfl, rfl, rfl, rfl, rfl, trivial⟩ (List.Sublist.refl _) ⟨rfl, q + 1, m, M, by omega, by omega, hkm, by omega, hM, hMv, hs2, hML, rfl, rfl⟩
  ·have hs2 := hsq.new (by omega)
   have hb := hv.at_ (k := k + q) (by omega)
   have hset : ∀ i, m + 1 ≤ i → rAt (M.set m (rAt l (k + q))) i = rAt l i := fun i hi => by rw [rAt_set (by omega), if_neg (by omega)]; exact hML i (by omega)
   generalize rAt l (k + q) = x at *
   generalize rAt l (k + q - 1) = y at *
   (apply tr_v tk; (conv => whnf); (repeat ((first | (apply VStop.mk; refine tr_region_lex (id := 11) (by kernel_rfl) [.rd, .rd, .rd, .rd, .rd, .rd, .rd, .rd, .rd, .rd] rfl (by kernel_rfl) ?_; apply ot_v tk) | (apply VLd.mk; first | exact c1 | exact c2) | (apply VIx.mk (j := q); exact rfl; omega) | (apply VIx.mk (j := m); exact rfl; omega) | (apply VSt.stop; refine ot_store_own (sv := .nilFunc) tk rfl rfl rfl rfl rfl rfl rfl rfl rfl rfl .here (by omega) ?_; apply ot_v tk) | (apply VRng.mk; omega) | apply VBr.t | (apply v_t; omega) | (apply v_ixn; omega)); (conv => whnf))))
   rw [i64s_set, show 0 + m * 1 = m by omega]
   exact v_rnd (gm' - 1) (by omega) (l := [(0, _), (2, _), (3, _), (4, _), (5, _)]) (B := _) ⟨rfl, rfl, rfl, rfl, rfl, trivial⟩ (List.Sublist.refl _) ⟨rfl, q + 1, m + 1, M.set m x, by omega, by omega, by omega, by omega, by rw [List.length_set]; exact hM, hMv.set hb, hs2, hset, rfl, rfl⟩
 ·obtain rfl : n = k + q := by omega
  (apply tr_v tk; (conv => whnf); (repeat ((first | (apply VStop.mk; (refine ot_slice_ne (lo := m) tk rfl rfl rfl rfl rfl rfl rfl rfl rfl (by omega) (by omega) ?_); apply ot_v tk) | apply VBr.f | (apply v_f; omega)); (conv => whnf))); apply VStop.mk)
  rw [show 0 + m * Tryz.t2.size = m by show 0 + m * 1 = m; omega]
  refine ot_clear_own (z0 := .int .i64 0) (xs := i64s M) tk rfl rfl rfl rfl rfl rfl rfl rfl rfl rfl (by omega) .here ?_
  rw [take_zeros]
  (apply ot_v tk; (conv => whnf); (repeat ((apply VStop.mk; (refine ot_slice_hi (hi := m) tk rfl rfl rfl rfl rfl rfl rfl rfl rfl (by omega) ?_); apply ot_v tk); (conv => whnf))))
  (apply VRet.mk)
  refine ret1 (by first | exact .inl rfl | exact .inr rfl) rfl (by exact rv_tmp rfl) ?_
  exact fun w hs => ⟨(m, M.take m ++ List.replicate (k + q - m) 0), rfl, ⟨by omega, by omega, by simp only [List.length_append, List.length_take, List.length_replicate]; omega, hMv.take0 _ _, hsq.congr fun i hi => by rw [rAt_app (by rw [List.length_take]; omega), rAt_take hi]⟩, hs⟩
end Go.Proofs.YtiodmphhjgkgjaaGreat
