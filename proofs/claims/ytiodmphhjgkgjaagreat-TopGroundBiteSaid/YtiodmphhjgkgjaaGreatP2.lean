/- All valleys, in lexicographic order: lemmas for the rows of this seat. No conditions. -/
import Derived.Laws.StructEq
import Derived.Test.YtiodmphhjgkgjaaGreatP1
set_option linter.all false
namespace Go.Proofs.YtiodmphhjgkgjaaGreat
open Go.RowKit
/-! ## All valleys, in lexicographic order -/
abbrev V3 := Nat × Nat × Nat
def acc (f : Nat → List V3) : Nat → List V3
 | 0 => []
 | m + 1 => acc f m ++ f m
theorem acc_pre (f : Nat → List V3) {m : Nat} : ∀ n, m ≤ n → acc f m <+: acc f n
 | 0, h => by obtain rfl : m = 0 := by omega
              exact List.prefix_refl _
 | n + 1, h => by
  rcases Nat.lt_or_ge m (n + 1) with h1 | h1
  ·exact (acc_pre f n (by omega)).trans (List.prefix_append _ _)
  ·obtain rfl : m = n + 1 := by omega
   exact List.prefix_refl _
def jE (i k m : Nat) : List V3 := acc (fun q => [(i, k, k + 1 + q)]) m
def kE (N i m : Nat) : List V3 := acc (fun q => jE i (i + 1 + q) (N - 1 - (i + 1 + q))) m
def iE (N m : Nat) : List V3 := acc (fun q => kE N q (N - 1 - q)) m
theorem jE_succ (i k m : Nat) : jE i k (m + 1) = jE i k m ++ [(i, k, k + 1 + m)] := rfl
theorem kE_succ (N i m : Nat) : kE N i (m + 1) = kE N i m ++ jE i (i + 1 + m) (N - 1 - (i + 1 + m)) := rfl
theorem iE_succ (N m : Nat) : iE N (m + 1) = iE N m ++ kE N m (N - 1 - m) := rfl
theorem val_pre (N i m q : Nat) (hi : i < N) (hm : i + 1 + m < N) (hq : i + 1 + m + 1 + q < N) : (iE N i ++ kE N i m ++ jE i (i + 1 + m) q) ++ [(i, i + 1 + m, i + 1 + m + 1 + q)] <+: iE N N := by
 have h1 : (iE N i ++ kE N i m ++ jE i (i + 1 + m) q) ++ [(i, i + 1 + m, i + 1 + m + 1 + q)] = iE N i ++ (kE N i m ++ jE i (i + 1 + m) (q + 1)) := by rw [jE_succ]; simp only [List.append_assoc]
 rw [h1]
 refine List.IsPrefix.trans ?_ (acc_pre (fun q => kE N q (N - 1 - q)) N (show i + 1 ≤ N by omega))
 show _ <+: iE N (i + 1)
 rw [iE_succ]
 refine (List.prefix_append_right_inj _).2 ?_
 refine List.IsPrefix.trans ?_ (acc_pre (fun q => jE i (i + 1 + q) (N - 1 - (i + 1 + q))) (N - 1 - i) (show m + 1 ≤ N - 1 - i by omega))
 show _ <+: kE N i (m + 1)
 rw [kE_succ]
 exact (List.prefix_append_right_inj _).2 (acc_pre _ _ (by omega))
def encV (x : V3) : List Value := [.agg #[.int .i64 (x.1 : Int), .int .i64 (x.2.1 : Int), .int .i64 (x.2.2 : Int)]]
def NeedV (Bs g : Nat) (A : Option Addr) (n c : Nat) (w0 : World) (R : List Chunk) : Prop := ∀ W, St w0 R W → W.cell? ⟨Bs, 0, none⟩ = some (.pointer (some ⟨g, 0, none⟩)) ∧ W.cell? ⟨g, 0, none⟩ = some (.slice A n c)
set_option maxHeartbeats 1000000 in
set_option maxRecDepth 20000 in
theorem valleys_it (Bs g : Nat) (A0 : Option Addr) (N c : Nat) (hN2 : N ≤ 12) : ItT Tryz.prog 178 [] [.pointer (some ⟨Bs, 0, none⟩)] encV (NeedV Bs g A0 N c) (iE N N) := by
 intro w0 l Jc Jx R W hNd hY h0 hS
 generalize hP : (fun (e : Ending) (W' : World) => (∃ v, e = .returned v) ∧ ((∃ R', Jc (iE N N) R' ∧ St w0 R' W') ∨ ∃ pre R', Jx pre R' ∧ St w0 R' W')) = POST
 have hdone : ∀ R' v W', Jc (iE N N) R' → St w0 R' W' → POST (.returned v) W' := fun R' v W' hJ hS => by
  rw [← hP]; exact ⟨⟨v, rfl⟩, .inl ⟨R', hJ, hS⟩⟩
 have hstop : ∀ pre R' v W', Jx pre R' → St w0 R' W' → POST (.returned v) W' := fun pre R' v W' hJ hS => by
  rw [← hP]; exact ⟨⟨v, rfl⟩, .inr ⟨pre, R', hJ, hS⟩⟩
 clear hP
 have b0 : CellAt w0 R Bs 0 (.pointer (some ⟨g, 0, none⟩)) := fun w hs => (hNd _ _ h0 w hs).1
 have b1 : CellAt w0 R g 0 (.slice A0 N c) := fun w hs => (hNd _ _ h0 w hs).2
 refine fn_v tk (n := 39) (A := R) Tryz.func178 rfl rfl (Nat.le_of_ble_eq_true rfl) hS ?_
 ((conv => whnf); (repeat ((apply VLd.mk; first | exact b0 | exact b1); (conv => whnf))); apply VStop.mk)
 refine v_loop (fun gm' ds ts A => ds = [] ∧ ∃ i, i + gm' = N ∧ Jc (iE N i) A ∧ ts = [(0, .func (.yield l) #[] #[]), (3, .int .i64 (N : Int)), (13, .int .i64 (N : Int)), (14, .int .i64 (i : Int))]) N
  (l := [(0, _), (3, _), (13, _), (14, _)]) (B := _) ?_ (List.Sublist.refl _) ⟨rfl, 0, by omega, h0, rfl⟩ ?_
 ·exact ⟨rfl, rfl, rfl, rfl, trivial⟩
 clear b0 b1 h0
 rintro gm' ds ts A ⟨rfl, i, hi, hJ, rfl⟩
 by_cases hlti : i < N
 rotate_left
 ·obtain rfl : i = N := by omega
  (apply tr_v tk; (conv => whnf); (repeat ((first | apply VBr.f | (apply v_f; omega)); (conv => whnf))))
  (apply VRet.mk)
  exact ret0 (by first | exact .inl rfl | exact .inr rfl) rfl fun w hs => hdone _ _ _ hJ hs
 (apply tr_v tk; (conv => whnf); (repeat ((first | (apply VRng.mk; omega) | apply VBr.t | (apply v_t; omega)); (conv => whnf))); apply VStop.mk)
 refine v_loop (fun gm'' ds ts A => ds = [] ∧ ∃ m, i + 1 + m + gm'' = N ∧ Jc (iE N i ++ kE N i m) A ∧ ts = [(0, .func (.yield l) #[] #[]), (3, .int .i64 (N : Int)), (4, .int .i64 (i : Int)), (5, .int .i64 ((i + 1 + m : Nat) : Int)), (13, .int .i64 (N : Int)), (14, .int .i64 (i : Int))]) (N - i - 1)
  (l := [(0, _), (3, _), (4, _), (5, _), (13, _), (14, _)]) (B := _) ?_ (List.Sublist.refl _) ⟨rfl, 0, by omega, by rw [show kE N i 0 = [] from rfl, List.append_nil]; exact hJ, rfl⟩ ?_
 ·exact ⟨rfl, rfl, rfl, rfl, rfl, rfl, trivial⟩
 clear hJ
 rintro gm'' ds ts A ⟨rfl, m, hm, hJ, rfl⟩
 by_cases hltk : i + 1 + m < N
 rotate_left
 ·obtain rfl : m = N - 1 - i := by omega
  (apply tr_v tk; (conv => whnf); (repeat ((first | (apply VRng.mk; omega) | apply VBr.f | (apply v_f; omega)); (conv => whnf))))
  exact v_rnd (gm' - 1) (by omega) (l := [(0, _), (3, _), (13, _), (14, _)]) (B := _) ⟨rfl, rfl, rfl, rfl, trivial⟩ (List.Sublist.refl _) ⟨rfl, i + 1, by omega, by rw [iE_succ]; exact hJ, rfl⟩
 generalize hk : i + 1 + m = k at *
 (apply tr_v tk; (conv => whnf); (repeat ((first | (apply VRng.mk; omega) | apply VBr.t | (apply v_t; omega)); (conv => whnf))); apply VStop.mk)
 refine v_loop (fun gm3 ds ts A => ds = [] ∧ ∃ q, k + 1 + q + gm3 = N ∧ Jc (iE N i ++ kE N i m ++ jE i k q) A ∧ ts = [(0, .func (.yield l) #[] #[]), (3, .int .i64 (N : Int)), (4, .int .i64 (i : Int)), (5, .int .i64 (k : Int)), (6, .int .i64 ((k + 1 + q : Nat) : Int)), (13, .int .i64 (N : Int)), (14, .int .i64 (i : Int))]) (N - k - 1)
  (l := [(0, _), (3, _), (4, _), (5, _), (6, _), (13, _), (14, _)]) (B := _) ?_ (List.Sublist.refl _) ⟨rfl, 0, by omega, by rw [show jE i k 0 = [] from rfl, List.append_nil]; exact hJ, rfl⟩ ?_
 ·exact ⟨rfl, rfl, rfl, rfl, rfl, rfl, rfl, trivial⟩
 clear hJ
 rintro gm3 ds ts A ⟨rfl, q, hq, hJ, rfl⟩
 by_cases hltj : k + 1 + q < N
 rotate_left
 ·obtain rfl : q = N - 1 - k := by omega
  (apply tr_v tk; (conv => whnf); (repeat ((first | (apply VRng.mk; omega) | apply VBr.f | (apply v_f; omega)); (conv => whnf))))
  exact v_rnd (gm'' - 1) (by omega) (l := [(0, _), (3, _), (4, _), (5, _), (13, _), (14, _)]) (B := _) ⟨rfl, rfl, rfl, rfl, rfl, rfl, trivial⟩ (List.Sublist.refl _) ⟨rfl, m + 1, by omega, by rw [kE_succ, hk, ← List.append_assoc]; exact hJ, by rw [show i + 1 + (m + 1) = k + 1 by omega]; rfl⟩
 have hpre := val_pre N i m q hlti (by omega) (by omega)
 rw [hk] at hpre
 (apply tr_v tk; (conv => whnf); (repeat ((first | apply VBr.t | (apply v_t; omega)); (conv => whnf))); apply VStop.mk)
 refine ot_yield (B := []) hY rfl rfl rfl rfl rfl (.cons rfl .nil) hpre hJ rfl ?_ ?_
 ·intro R' hJ'
  dsimp only [List.nil_append]
  (apply ot_v tk; (conv => whnf); (repeat ((first | (apply VRng.mk; omega) | apply VBr.f); (conv => whnf))))
  exact v_rnd (gm3 - 1) (by omega) (l := [(0, _), (3, _), (4, _), (5, _), (6, _), (13, _), (14, _)]) (B := _) ⟨rfl, rfl, rfl, rfl, rfl, rfl, rfl, trivial⟩ (List.Sublist.refl _) ⟨rfl, q + 1, by omega, by rw [jE_succ, ← List.append_assoc]; exact hJ', rfl⟩
 ·intro R' hJ'
  dsimp only [List.nil_append]
  (apply ot_v tk; (conv => whnf); (repeat (apply VBr.t; (conv => whnf))))
  (apply VRet.mk)
  exact ret0 (by first | exact .inl rfl | exact .inr rfl) rfl fun w hs => hstop _ _ _ _ hJ' hs
theorem valleys_any (g : Nat) (w : World) : Calls Tryz.prog 94 #[.pointer (some ⟨g, 0, none⟩)] w fun e w' => ∃ x : Nat, e = .returned (.func (.func 178) #[] #[.pointer (some ⟨x, 0, none⟩)]) ∧ True ∧ St w ([] ++ [.blk x 53 [.pointer (some ⟨g, 0, none⟩)]]) w' := by
 refine fn_v tk (n := 4) (A := []) Tryz.func94 rfl rfl (Nat.le_of_ble_eq_true rfl) (St.nil (Below.refl _ _)) ?_
 ((conv => whnf); (repeat ((apply VNew.mk; intro g hg); (conv => whnf))))
 (apply VRet.mk)
 refine ret1 (by first | exact .inl rfl | exact .inr rfl) rfl (by exact rv_tmp rfl) ?_
 exact fun w hs => ⟨_, rfl, trivial, hs⟩
theorem blk1_mut {g1 t1 : Nat} {xs : List Value} {d : Chunk} (h : d ∈ [Chunk.blk g1 t1 xs]) : d.mut = true := by
 rw [List.mem_singleton.1 h]; rfl
theorem iE_mem {N : Nat} {x : V3} (h : x ∈ iE N N) : x.1 < x.2.1 ∧ x.2.1 < x.2.2 ∧ x.2.2 < N := by
 have key : ∀ (f : Nat → List V3) (m : Nat), x ∈ acc f m → ∃ q, q < m ∧ x ∈ f q := by
  intro f m
  induction m with
  | zero => intro h; cases h
  | succ m ih =>
   intro h
   rcases List.mem_append.1 h with h | h
   ·obtain ⟨q, h1, h2⟩ := ih h
    exact ⟨q, by omega, h2⟩
   ·exact ⟨m, by omega, h⟩
 obtain ⟨i, h1, h⟩ := key _ _ h
 obtain ⟨m, h2, h⟩ := key _ _ h
 obtain ⟨q, h3, h⟩ := key _ _ h
 rw [List.mem_singleton.1 h]
 dsimp only
 omega
/-- A row without a valley. -/
def NoVal (l : List Int) : Prop := ∀ i k j, i < k → k < j → j < l.length → min (rAt l i) (rAt l j) ≤ rAt l k
set_option maxHeartbeats 1000000 in
set_option maxRecDepth 20000 in
theorem deepest_none (gc : Nat) (A0 : Option Addr) (c : Nat) (l : List Int) (w : World) (hg : w.cell? ⟨gc, 0, none⟩ = some (.slice A0 l.length c)) (h : Reads w w.heap.size 1 A0 l.length (i64s l)) (hm : l.length ≤ 12) (hv : ∀ x ∈ l, 0 ≤ x ∧ x ≤ 1000) (hN : NoVal l) :
  Calls Tryz.prog 47 #[.pointer (some ⟨gc, 0, none⟩)] w fun e w' => e = .returned (.tuple #[.agg #[.int .i64 0, .int .i64 0, .int .i64 0], .bool false]) ∧ Below w.heap.size w w' := by
 have b1 : ∀ A, CellAt w A gc 0 (.slice A0 l.length c) := fun A => CellAt.base hg
 have b2 : ∀ A, CellsAt w A gc 0 [.slice A0 l.length c] := fun A => CellsAt.base fun j u hu => by
  cases j with
  | zero => cases hu; exact hg
  | succ j => cases hu
 refine fn_v tk (n := 27) (A := []) Tryz.func47 rfl rfl (Nat.le_of_ble_eq_true rfl) (St.nil (Below.refl _ _)) ?_
 ((conv => whnf); (repeat ((first | (apply VLd.mk; (focus ((repeat (first | ((with_reducible apply ld_blk); exact rfl) | (with_reducible apply ld_skip))); done))) | (apply VNew.mk; intro g hg)); (conv => whnf))); apply VCall.stop)
 rename_i ga _ gb _
 revert g
 intro gd _
 refine ot_callT (X := Nat) (us := []) (vs := []) (fun x => .func (.func 178) #[] #[.pointer (some ⟨x, 0, none⟩)]) (fun x => []) (fun x => [.blk x 53 [.pointer (some ⟨gc, 0, none⟩)]]) _ (fun x c hc => blk1_mut hc) (by decide) rfl rfl rfl rfl (by kernel_rfl) (evl_of rfl) rfl (fun w1 hs => valleys_any gc w1) ?_
 rintro p _
 (dsimp only [List.cons_append, List.nil_append]; apply ot_v tk)
 ((conv => whnf); apply VStop.mk)
 refine tr_weak (l := [(1, _), (2, _), (3, _), (4, _), (7, _)]) (B := [.blk gd 162 [.slice none 0 0], .blk gb 99 [.int .i64 0, .int .i64 0, .int .i64 0], .blk ga 53 [.pointer (some ⟨gc, 0, none⟩)], .blk p 53 [.pointer (some ⟨gc, 0, none⟩)]]) ⟨rfl, rfl, rfl, rfl, rfl, trivial⟩ (by (repeat (first | exact sl0 _ | exact sl1 _ | refine sl2 _ ?_ | refine sl3 _ ?_))) ?_
 refine tr_rangeFunc rfl (by kernel_rfl) (valleys_it p gc A0 l.length c hm) (fun _ => rfl) (by decide)
  (fun pre R => R = [.blk gd 162 [.slice none 0 0], .blk gb 99 [.int .i64 0, .int .i64 0, .int .i64 0], .blk ga 53 [.pointer (some ⟨gc, 0, none⟩)], .blk p 53 [.pointer (some ⟨gc, 0, none⟩)]])
  (fun _ _ _ => False) ?_ rfl ?_ ?_ ?_
 ·rintro pre R rfl F W hS
  exact ⟨by rw [(hS.all (.blk p 53 _) (by (repeat (first | exact List.Mem.head _ | assumption | refine List.Mem.tail _ ?_)))).2.cell]; rfl, b1 _ W hS⟩
 ·rintro lx pre ⟨i, k, j⟩ R Fr ⟨rest, hpre⟩ rfl
  have hx := iE_mem (x := (i, k, j)) (N := l.length) (by rw [← hpre]; simp)
  dsimp only at hx
  have hn := hN i k j hx.1 hx.2.1 hx.2.2
  have kd := fun w1 hr => depth_any A0 c l i k j w1 hr hm hv (by omega) (by omega) hx.2.2
  change Tr _ _ _ _ _ _ (parT _ _ [.agg #[.int .i64 (i : Int), .int .i64 (k : Int), .int .i64 (j : Int)]]) (_ :: _ :: _ :: _ :: Fr) _
  have hD : min (rAt l i) (rAt l j) - rAt l k ≤ 0 := by omega
  clear hn
  generalize min (rAt l i) (rAt l j) - rAt l k = D at *
  (apply tr_v tk; (conv => whnf); (repeat ((first | (apply VNew.mk; intro g hg) | (apply VSt.mk; (focus ((repeat (first | (with_reducible exact At.here) | (with_reducible apply At.there))); done)); exact rfl)); (conv => whnf))))
  refine ⟨rfl, rfl, [.blk g 99 [.int .i64 (i : Int), .int .i64 (k : Int), .int .i64 (j : Int)], .blk gd 162 [.slice none 0 0], .blk gb 99 [.int .i64 0, .int .i64 0, .int .i64 0], .blk ga 53 [.pointer (some ⟨gc, 0, none⟩)], .blk p 53 [.pointer (some ⟨gc, 0, none⟩)]], List.Sublist.refl _, fun Fr' => ?_⟩
  change Tr _ _ _ _ _ _ _ (_ :: _ :: _ :: _ :: _ :: Fr') _
  (apply tr_v tk; (conv => whnf); (repeat ((first | ((first | apply VStop.mk | apply VCall.stop); refine tr_region_lex (id := 4) (by kernel_rfl) [.rd, .rd, .rd, .rd, .rd, .cr, .rd] rfl (by kernel_rfl) ?_; apply ot_v tk) | (apply VLdN.mk; exact b2 _; exact rfl) | (apply VCall.q; kernel_rfl; (focus (intro w1 hs; first | with_reducible apply kd w1 (hs.reads h)))) | (apply VLd.mk; (focus ((repeat (first | ((with_reducible apply ld_blk); exact rfl) | (with_reducible apply ld_skip))); done))) | (apply VLdN.mk; (focus ((repeat (first | (with_reducible apply ldn_blk) | (with_reducible apply ldn_skip))); done)); exact rfl) | apply VBr.f | (apply v_f; omega)); (conv => whnf))))
  exact ⟨rfl, _, .cons _ (List.Sublist.refl _), rfl⟩
 ·rintro D R rfl
  ((conv => whnf); (repeat ((first | (apply VLd.mk; (focus ((repeat (first | ((with_reducible apply ld_blk); exact rfl) | (with_reducible apply ld_skip))); done))) | apply VBr.t | (apply v_t; omega) | (apply VSt.mk; (focus ((repeat (first | (with_reducible exact At.here) | (with_reducible apply At.there))); done)); exact rfl)); (conv => whnf))))
  (apply VRet.mk)
  exact ⟨.inr rfl, D, _, rfl, .here, (ret2 (.inr rfl) rfl (by exact rv_row tk rfl rfl rfl (by first | exact cells_blk_all (by (repeat (first | exact List.Mem.head _ | assumption | refine List.Mem.tail _ ?_))) | exact cells_row0 (by (repeat (first | exact List.Mem.head _ | assumption | refine List.Mem.tail _ ?_)))) rfl) (by exact rv_tmp rfl) fun w h => ⟨rfl, h.base⟩).2⟩
 ·exact fun _ _ _ _ h => h.elim
section
variable {P : Program} {w0 : World} {n : Nat} {ts : TS} {A : List Chunk}
theorem ret4 {fn : Func} {R : Ending → World → Prop} {e : Exit} {r1 r2 r3 r4 : ResultVar} {v1 v2 v3 v4 : Value} (he : e = .normal ∨ e = .ret) (hr : fn.results = #[r1, r2, r3, r4]) (g1 : RV P w0 ts A r1 v1) (g2 : RV P w0 ts A r2 v2) (g3 : RV P w0 ts A r3 v3) (g4 : RV P w0 ts A r4 v4)
  (hR : ∀ w, St w0 A w → R (.returned (.tuple #[v1, v2, v3, v4])) w) : RetOK P w0 n fn R e [] ts A :=
 ⟨he, fun a w hh => ⟨.tuple #[v1, v2, v3, v4], by
  rcases g1.parts hh with ⟨_, rfl, h1⟩ | ⟨_, _, _, _, rfl, h1, h2⟩ <;> rcases g2.parts hh with ⟨_, rfl, h3⟩ | ⟨_, _, _, _, rfl, h3, h4⟩ <;> rcases g3.parts hh with ⟨_, rfl, h5⟩ | ⟨_, _, _, _, rfl, h5, h6⟩ <;> rcases g4.parts hh with ⟨_, rfl, h7⟩ | ⟨_, _, _, _, rfl, h7, h8⟩ <;> simp [results, hr, Sem.run_bind, asAddr, *], hR w hh.st⟩⟩
end
set_option maxRecDepth 20000 in
theorem valley_none (A0 : Option Addr) (c : Nat) (l : List Int) (w : World) (h : Reads w w.heap.size 1 A0 l.length (i64s l)) (hz : rowE l = 0) (hN : NoVal l) :
  Calls Tryz.prog 23 #[.slice A0 l.length c] w fun e w' => e = .returned (.tuple #[.int .i64 0, .int .i64 0, .int .i64 0, .int .i64 5]) ∧ Below w.heap.size w w' := by
 have ⟨hm, hv⟩ := rowE_ok.1 hz
 have kd := fun w1 gc h1 h2 => deepest_none gc A0 c l w1 h1 h2 (by omega) hv hN
 refine fn_v tk (n := 31) (A := []) Tryz.func23 rfl rfl (Nat.le_of_ble_eq_true rfl) (St.nil (Below.refl _ _)) ?_
 ((conv => whnf); apply VCall.stop)
 refine ot_callT (X := Nat) (us := []) (vs := []) (fun x => .tuple #[.pointer (some ⟨x, 0, none⟩), .int .i64 0]) (fun x => []) (fun x => [.blk x 61 [.slice A0 l.length c]]) _ (fun x c hc => blk1_mut hc) (by decide) rfl rfl rfl rfl (by kernel_rfl) (evl_of rfl) rfl (fun w1 hs => openB_ok A0 c l w1 (hs.reads h) (by unfold maxLen; omega) hz) ?_
 rintro gc _
 (dsimp only [List.cons_append, List.nil_append]; apply ot_v tk)
 ((conv => whnf); (repeat ((first | apply VBr.f | (apply v_f; omega)); (conv => whnf))); apply VCall.stop)
 refine ot_call_q rfl rfl rfl (by kernel_rfl) (evl_of rfl) (fun w1 hs => kd w1 gc (cell_blk (by (repeat (first | exact List.Mem.head _ | assumption | refine List.Mem.tail _ ?_))) rfl w1 hs) (hs.reads h)) ?_
 (apply ot_v tk; (conv => whnf); (repeat ((first | apply VBr.t | (apply VNew.mk; intro g hg) | (apply VSt.mk; (focus ((repeat (first | (with_reducible exact At.here) | (with_reducible apply At.there))); done)); exact rfl)); (conv => whnf))))
 (apply VRet.mk)
 refine ret4 (by first | exact .inl rfl | exact .inr rfl) rfl (by exact rv_tmp rfl) (by exact rv_tmp rfl) (by exact rv_tmp rfl) (by exact rv_tmp rfl) ?_
 exact fun w h => ⟨rfl, h.base⟩
abbrev SlX := Option Addr × Nat
theorem one_mut {v : Value} {t sz m : Nat} {xs : List Value} {d : Chunk} (h : d ∈ [Chunk.own v t sz m xs]) : d.mut = true := by rw [List.mem_singleton.1 h]; rfl
def Bd (f : Nat → Int) (n : Nat) : Prop := ∀ i, i < n → 0 ≤ f i ∧ f i ≤ 1000
theorem Bd.set {f : Nat → Int} {n j : Nat} {v : Int} (h : Bd f n) (hv : 0 ≤ v ∧ v ≤ 1000) : Bd (fun i => if i = j then v else f i) n := fun i hi => by
 dsimp only
 split
 ·exact hv
 ·exact h i hi
set_option maxHeartbeats 2000000 in
set_option maxRecDepth 20000 in
theorem even0_any (gc : Nat) (A0 : Option Addr) (c : Nat) (l : List Int) (w : World) (hg : w.cell? ⟨gc, 0, none⟩ = some (.slice A0 l.length c)) (h : Reads w w.heap.size 1 A0 l.length (i64s l)) (hm : 1 ≤ l.length ∧ l.length ≤ 12) (hv : ∀ x ∈ l, 0 ≤ x ∧ x ≤ 1000) :
  Calls Tryz.prog 49 #[.pointer (some ⟨gc, 0, none⟩), .int .i64 0] w fun e w' => ∃ x : SlX, e = .returned (.slice x.1 l.length x.2) ∧ True ∧ St w ([] ++ []) w' := by
 have b1 : ∀ A, CellAt w A gc 0 (.slice A0 l.length c) := fun A => CellAt.base hg
 have k1 := fun w1 h => max98_any A0 c l w1 h hm
 obtain ⟨p, hp, hp2⟩ := mxI_mem l (l.length - 1)
 obtain ⟨t, ht, ht2⟩ := firstBad_lt (fun x => decide (mxI l (l.length - 1) = x)) 0 l l.length 0 (by omega) ⟨p, by omega, by omega, by rw [hp2]; simp [rAt]⟩
 have k2 := fun w1 h => index97_any A0 c l (mxI l (l.length - 1)) w1 h (by omega)
 rw [ht] at k2
 clear hp2 hp ht
 generalize mxI l (l.length - 1) = mx at *
 refine fn_v tk (n := 90) (A := []) Tryz.func49 rfl rfl (Nat.le_of_ble_eq_true rfl) (St.nil (Below.refl _ _)) ?_
 ((conv => whnf); (repeat ((first | ((first | apply VStop.mk | apply VCall.stop); (first | refine tr_region_lex (id := 2) (by kernel_rfl) [.rd, .rd, .rd, .rd, .rd, .rd, .rd, .rd, .rd, .rd, .cr, .cr, .rd] rfl (by kernel_rfl) ?_ | (refine ot_makeSlice (m := l.length) tk (by decide) rfl rfl rfl rfl rfl rfl rfl rfl rfl rfl rfl rfl (by omega) (by decide) (fun g hg => ?_))); apply ot_v tk) | (apply VLd.mk; exact b1 _) | (apply VCall.q; kernel_rfl; (focus (intro w1 hs; first | with_reducible apply k1 w1 (hs.reads h) | with_reducible apply k2 w1 (hs.reads h))))); (conv => whnf))); apply VStop.mk)
 rw [fnC_zero]
 have cf := fun (f : Nat → Int) (j : Nat) A (hA : Chunk.blk g 2 (fnC f l.length) ∈ A) (hj : j < l.length) => cell_fnC (w0 := w) (j := j) hA hj
 refine v_loop (fun gm ds ts A => ds = [] ∧ ∃ (j : Nat) (f : Nat → Int), j + gm = l.length ∧ Bd f l.length ∧ A = [.blk g 2 (fnC f l.length)] ∧ ts = [(1, .int .i64 0), (5, .int .i64 (l.length : Int)), (6, .int .i64 (t : Int)), (7, .slice (some ⟨g, 0, none⟩) l.length l.length), (36, .slice A0 l.length c), (37, .int .i64 (l.length : Int)), (38, .int .i64 (j : Int))]) l.length (l := [(1, _), (5, _), (6, _), (7, _), (36, _), (37, _), (38, _)]) (B := [.blk g 2 (fnC (fun _ => 0) l.length)]) ?_ (List.Sublist.refl _) ⟨rfl, 0, _, by omega, fun _ _ => by omega, rfl, rfl⟩ ?_
 ·exact ⟨rfl, rfl, rfl, rfl, rfl, rfl, rfl, trivial⟩
 rintro gm ds ts A ⟨rfl, j, f, hj, hf, rfl, rfl⟩
 by_cases hlt : j < l.length
 ·obtain ⟨b, o, rfl, _⟩ := row_cell h hlt
  have c1 : ∀ A, CellAt w A b (o + j * 1) (.int .i64 (rAt l j)) := fun A => int_cell h hlt A
  have hx := hv _ (rAt_mem hlt)
  generalize rAt l j = x at *
  (apply tr_v tk; (conv => whnf); (repeat ((first | (apply VLd.mk; first | exact c1 _) | (apply VIx.mk (j := j); exact rfl; omega) | (apply VSt.old; (focus (repeat (first | (with_reducible exact Upd.here) | (with_reducible apply Upd.there))); done); exact ble_fnC (by omega); exact setMany_fnC1 (by omega)) | (apply VRng.mk; omega) | apply VBr.t | (apply v_t; omega)); (conv => whnf))))
  exact v_rnd (gm - 1) (by omega) (l := [(1, _), (5, _), (6, _), (7, _), (36, _), (37, _), (38, _)]) (B := _) ⟨rfl, rfl, rfl, rfl, rfl, rfl, rfl, trivial⟩ (List.Sublist.refl _) ⟨rfl, j + 1, _, by omega, hf.set (by split <;> omega), rfl, rfl⟩
 obtain rfl : j = l.length := by omega
 (apply tr_v tk; (conv => whnf); (repeat ((first | apply VBr.f | (apply v_f; omega)); (conv => whnf))); apply VStop.mk)
 refine v_loop (fun gm ds ts A => ds = [] ∧ ∃ (j : Nat) (f : Nat → Int), j + gm = t ∧ Bd f l.length ∧ A = [.blk g 2 (fnC f l.length)] ∧ ts = [(5, .int .i64 (l.length : Int)), (6, .int .i64 (t : Int)), (7, .slice (some ⟨g, 0, none⟩) l.length l.length), (10, .int .i64 ((j + 1 : Nat) : Int))]) t (l := [(5, _), (6, _), (7, _), (10, _)]) (B := [.blk g 2 (fnC f l.length)]) ?_ (List.Sublist.refl _) ⟨rfl, 0, f, by omega, hf, rfl, rfl⟩ ?_
 ·exact ⟨rfl, rfl, rfl, rfl, trivial⟩
 clear hf hj f gm
 rintro gm ds ts A ⟨rfl, j, f, hj, hf, rfl, rfl⟩
 by_cases hlt2 : j < t
 ·have f1 := hf (j + 1) (by omega)
  have f2 := hf j (by omega)
  have cg : ∀ A, Chunk.blk g 2 (fnC f l.length) ∈ A → CellAt w A g (0 + (((j + 1 : Nat) : Int) - 1).toNat * 1) (.int .i64 (f j)) := fun A hA => by
   rw [show (((j + 1 : Nat) : Int) - 1).toNat = j by omega]
   exact cf _ j _ hA (by omega)
  have cf' : ∀ A, Chunk.blk g 2 (fnC f l.length) ∈ A → CellAt w A g (0 + (j + 1) * 1) (.int .i64 (f (j + 1))) := fun A hA => cf _ (j + 1) _ hA (by omega)
  clear cf
  generalize f (j + 1) = y at *
  generalize f j = x at *
  (apply tr_v tk; (conv => whnf); (repeat ((first | (apply VStop.mk; refine tr_region_draw (id := 12) (by kernel_rfl) [0, 1, 2, 3, 4, 5, 6, 7, 8, 9, 10, 11, 12, 13] [.rd, .rd, .rd, .rd, .rd, .rd, .rd, .rd, .rd, .rd, .rd, .rd, .rd, .wr] rfl (by kernel_rfl) ?_; apply ot_v tk) | (apply VLd.mk; first | exact cf' _ (.head _) | exact cg _ (.head _)) | (apply VIx.mk (j := j + 1); exact rfl; omega) | (apply VSt.old; (focus (repeat (first | (with_reducible exact Upd.here) | (with_reducible apply Upd.there))); done); exact ble_fnC (by omega); exact setMany_fnC1 (by omega)) | (apply VRng.mk; omega) | apply VBr.t | (apply v_t; omega) | (apply v_ixn; omega)); (conv => whnf))))
  exact v_rnd (gm - 1) (by omega) (l := [(5, _), (6, _), (7, _), (10, _)]) (B := _) ⟨rfl, rfl, rfl, rfl, trivial⟩ (List.Sublist.refl _) ⟨rfl, j + 1, _, by omega, hf.set (by split <;> omega), rfl, rfl⟩
 obtain rfl : t = j := by omega
 (apply tr_v tk; (conv => whnf); (repeat ((first | (apply VRng.mk; omega) | apply VBr.f | (apply v_f; omega)); (conv => whnf))); apply VStop.mk)
 refine v_loop (fun gm ds ts A => ds = [] ∧ ∃ (j : Nat) (f : Nat → Int), j + 2 ≤ l.length + 1 ∧ t ≤ j + 1 ∧ gm + t = j + 1 ∧ Bd f l.length ∧ A = [.blk g 2 (fnC f l.length)] ∧ ts = [(6, .int .i64 (t : Int)), (7, .slice (some ⟨g, 0, none⟩) l.length l.length), (11, .int .i64 ((j : Int) - 1))]) (l.length - t) (l := [(6, _), (7, _), (11, _)]) (B := [.blk g 2 (fnC f l.length)]) ?_ (List.Sublist.refl _) ⟨rfl, l.length - 1, f, by omega, by omega, by omega, hf, rfl, by rw [show ((l.length - 1 : Nat) : Int) - 1 = (l.length : Int) - 2 by omega]⟩ ?_
 ·exact ⟨rfl, rfl, rfl, trivial⟩
 clear hf hj f gm
 rintro gm ds ts A ⟨rfl, j, f, hj, htj, hgm, hf, rfl, rfl⟩
 by_cases hlt3 : t < j
 ·obtain ⟨k, rfl⟩ : ∃ k, j = k + 1 := ⟨j - 1, by omega⟩
  rw [show (((k + 1 : Nat) : Int) - 1) = (k : Int) by omega]
  have f1 := hf (k + 1) (by omega)
  have f2 := hf k (by omega)
  have cf1 : ∀ A, Chunk.blk g 2 (fnC f l.length) ∈ A → CellAt w A g (0 + (k + 1) * 1) (.int .i64 (f (k + 1))) := fun A hA => cf _ (k + 1) _ hA (by omega)
  have cf2 : ∀ A, Chunk.blk g 2 (fnC f l.length) ∈ A → CellAt w A g (0 + k * 1) (.int .i64 (f k)) := fun A hA => cf _ k _ hA (by omega)
  clear cf
  generalize f (k + 1) = y at *
  generalize f k = x at *
  (apply tr_v tk; (conv => whnf); (repeat ((first | (apply VStop.mk; refine tr_region_draw (id := 16) (by kernel_rfl) [0, 1, 2, 3, 4, 5, 6, 7, 8, 9, 10, 11, 12, 13] [.rd, .rd, .rd, .rd, .rd, .rd, .rd, .rd, .rd, .rd, .rd, .rd, .rd, .wr] rfl (by kernel_rfl) ?_; apply ot_v tk) | (apply VLd.mk; first | exact cf1 _ (.head _) | exact cf2 _ (.head _)) | (apply VIx.mk (j := k + 1); exact rfl; omega) | (apply VIx.mk (j := k); exact rfl; omega) | (apply VSt.old; (focus (repeat (first | (with_reducible exact Upd.here) | (with_reducible apply Upd.there))); done); exact ble_fnC (by omega); exact setMany_fnC1 (by omega)) | (apply VRng.mk; omega) | apply VBr.t | (apply v_t; omega)); (conv => whnf))))
  exact v_rnd (gm - 1) (by omega) (l := [(6, _), (7, _), (11, _)]) (B := _) ⟨rfl, rfl, rfl, trivial⟩ (List.Sublist.refl _) ⟨rfl, k, _, by omega, by omega, by omega, hf.set (by split <;> omega), rfl, rfl⟩
 ·(apply tr_v tk; (conv => whnf); (repeat ((first | apply VBr.f | (apply v_f; omega)); (conv => whnf))))
  (apply VRet.mk)
  refine ret1 (by first | exact .inl rfl | exact .inr rfl) rfl (by exact rv_tmp rfl) ?_
  exact fun w hs => ⟨(some ⟨g, 0, none⟩, l.length), rfl, trivial, hs.sub (List.nil_sublist _)⟩
theorem nil_mut {d : Chunk} (h : d ∈ ([] : List Chunk)) : d.mut = true := by cases h
set_option maxRecDepth 20000 in
theorem even_none (A0 : Option Addr) (c : Nat) (l : List Int) (w : World) (h : Reads w w.heap.size 1 A0 l.length (i64s l)) (hz : rowE l = 0) (hN : NoVal l) :
  Calls Tryz.prog 21 #[.slice A0 l.length c] w fun e w' => ∃ x : SlX, e = .returned (.tuple #[.int .i64 0, .slice x.1 l.length x.2, .int .i64 0]) ∧ True ∧ St w ([] ++ []) w' := by
 have ⟨hm, hv⟩ := rowE_ok.1 hz
 have kd := fun w1 gc h1 h2 => deepest_none gc A0 c l w1 h1 h2 (by omega) hv hN
 have ke := fun w1 gc h1 h2 => even0_any gc A0 c l w1 h1 h2 hm hv
 refine fn_v tk (n := 36) (A := []) Tryz.func21 rfl rfl (Nat.le_of_ble_eq_true rfl) (St.nil (Below.refl _ _)) ?_
 ((conv => whnf); apply VCall.stop)
 refine ot_callT (X := Nat) (us := []) (vs := []) (fun x => .tuple #[.pointer (some ⟨x, 0, none⟩), .int .i64 0]) (fun x => []) (fun x => [.blk x 61 [.slice A0 l.length c]]) _ (fun x c hc => blk1_mut hc) (by decide) rfl rfl rfl rfl (by kernel_rfl) (evl_of rfl) rfl (fun w1 hs => openB_ok A0 c l w1 (hs.reads h) (by unfold maxLen; omega) hz) ?_
 rintro gc _
 (dsimp only [List.cons_append, List.nil_append]; apply ot_v tk)
 ((conv => whnf); (repeat ((first | apply VBr.f | (apply v_f; omega)); (conv => whnf))); apply VCall.stop)
 refine ot_call_q rfl rfl rfl (by kernel_rfl) (evl_of rfl) (fun w1 hs => kd w1 gc (cell_blk (by (repeat (first | exact List.Mem.head _ | assumption | refine List.Mem.tail _ ?_))) rfl w1 hs) (hs.reads h)) ?_
 (apply ot_v tk; (conv => whnf); (repeat ((first | apply VBr.f | (apply VNew.mk; intro g hg) | (apply VSt.mk; (focus ((repeat (first | (with_reducible exact At.here) | (with_reducible apply At.there))); done)); exact rfl)); (conv => whnf))); apply VCall.stop)
 refine ot_callT (X := SlX) (us := []) (vs := []) (fun x => .slice x.1 l.length x.2) (fun x => []) (fun x => []) _ (fun x c hc => nil_mut hc) (by decide) rfl rfl rfl rfl (by kernel_rfl) (evl_of rfl) rfl (fun w1 hs => ke w1 gc (cell_blk (by (repeat (first | exact List.Mem.head _ | assumption | refine List.Mem.tail _ ?_))) rfl w1 hs) (hs.reads h)) ?_
 rintro ⟨Bx, cx⟩ _
 (dsimp only [List.cons_append, List.nil_append]; apply ot_v tk)
 ((conv => whnf))
 (apply VRet.mk)
 refine ret3 (by first | exact .inl rfl | exact .inr rfl) rfl (by exact rv_tmp rfl) (by exact rv_tmp rfl) (by exact rv_tmp rfl) ?_
 exact fun w hs => ⟨(Bx, cx), rfl, trivial, hs.sub (List.nil_sublist _)⟩
/-- The pair of places j < k does not forbid the peak i. -/
def pairOk (l : List Int) (i k j : Nat) : Bool := !((decide (k ≤ i) && decide (rAt l j - rAt l k > 0)) || (decide (i ≤ j) && decide (rAt l k - rAt l j > 0)))
def rowOk (l : List Int) (i k : Nat) : Bool := (List.range k).all (pairOk l i k)
def pkOk (l : List Int) (i : Nat) : Bool := (List.range l.length).all (rowOk l i)
def pkL (l : List Int) (m : Nat) : List Int := ((List.range m).filter (pkOk l)).map (fun (i : Nat) => (i : Int))
theorem pkL_succ (l : List Int) (m : Nat) : pkL l (m + 1) = if pkOk l m then pkL l m ++ [(m : Int)] else pkL l m := by
 unfold pkL
 rw [List.range_succ, List.filter_append, List.filter_cons, List.filter_nil]
 split <;> simp
theorem pkL_len (l : List Int) : ∀ m, (pkL l m).length ≤ m := fun m => by
 unfold pkL
 rw [List.length_map]
 have := List.length_filter_le (pkOk l) (List.range m)
 rwa [List.length_range] at this
theorem all_range_succ (p : Nat → Bool) (n : Nat) : (List.range (n + 1)).all p = ((List.range n).all p && p n) := by
 rw [List.range_succ, List.all_append]; simp
theorem all_range_false {p : Nat → Bool} {n j : Nat} (hj : j < n) (h : p j = false) : (List.range n).all p = false := by
 rw [List.all_eq_false]
 exact ⟨j, List.mem_range.2 hj, by rw [h]; decide⟩
theorem pk_bad {l : List Int} {i k j : Nat} (hk : k < l.length) (hj : j < k) (h : pairOk l i k j = false) : pkOk l i = false := all_range_false hk (all_range_false hj h)
def PkI (l : List Int) (i : Nat) (B : Option Addr) (cx : Nat) (A : List Chunk) : Prop := (pkL l i = [] ∧ B = none ∧ cx = 0 ∧ A = []) ∨ ∃ g, B = some ⟨g, 0, none⟩ ∧ (0 < (pkL l i).length ∧ (pkL l i).length ≤ cx) ∧ A = [.own (.slice (some ⟨g, 0, none⟩) (pkL l i).length cx) 3 1 (pkL l i).length (i64s (pkL l i))]
set_option maxHeartbeats 2000000 in
set_option maxRecDepth 20000 in
theorem peaks0_any (A0 : Option Addr) (c : Nat) (l : List Int) (w : World) (h : Reads w w.heap.size 1 A0 l.length (i64s l)) (hcap : l.length ≤ c) (hz : rowE l = 0) (hne : pkL l l.length ≠ []) :
  Calls Tryz.prog 24 #[.slice A0 l.length c, .int .i64 0] w fun e w' => ∃ x : Nat × Nat, e = .returned (.tuple #[.slice (some ⟨x.1, 0, none⟩) (pkL l l.length).length x.2, .int .i64 0]) ∧ True ∧ St w ([] ++ [.own (.slice (some ⟨x.1, 0, none⟩) (pkL l l.length).length x.2) 3 1 (pkL l l.length).length (i64s (pkL l l.length))]) w' := by
 have ⟨hm, hv⟩ := rowE_ok.1 hz
 have k0 : within 0 1000 [(0 : Int)] = true := by rw [within_one]; decide
 refine fn_v tk (n := 86) (A := []) Tryz.func24 rfl rfl (Nat.le_of_ble_eq_true rfl) (St.nil (Below.refl _ _)) ?_
 ((conv => whnf); apply VCall.stop)
 refine ot_callT (X := Nat) (us := []) (vs := []) (fun x => .tuple #[.pointer (some ⟨x, 0, none⟩), .int .i64 0]) (fun x => []) (fun x => [.blk x 61 [.slice A0 l.length c]]) _ (fun x c hc => blk1_mut hc) (by decide) rfl rfl rfl rfl (by kernel_rfl) (evl_of rfl) rfl (fun w1 hs => openB_ok A0 c l w1 (hs.reads h) (by unfold maxLen; omega) hz) ?_
 rintro gc _
 (dsimp only [List.cons_append, List.nil_append]; apply ot_v tk)
 ((conv => whnf); (repeat ((first | (apply VCall.q; kernel_rfl; (focus (intro w1 hs; first | ((with_reducible apply within1B_mem k0 hs); (repeat (first | exact List.Mem.head _ | assumption | refine List.Mem.tail _ ?_)))))) | apply VBr.f | (apply v_f; omega) | (apply VNew.mk; intro g hg)); (conv => whnf))); apply VStop.mk)
 refine v_loop (fun gm ds ts A => ds = [] ∧ ∃ (i : Nat) (B : Option Addr) (cx : Nat), i + gm = l.length ∧ PkI l i B cx A ∧ ts = [(0, .slice A0 l.length c), (1, .int .i64 0), (8, .slice B (pkL l i).length cx), (28, .slice A0 l.length c), (29, .int .i64 (l.length : Int)), (30, .int .i64 (i : Int))]) l.length (l := [(0, _), (1, _), (8, _), (28, _), (29, _), (30, _)]) (B := []) ?_ (List.nil_sublist _) ⟨rfl, 0, none, 0, by omega, .inl ⟨rfl, rfl, rfl, rfl⟩, rfl⟩ ?_
 ·exact ⟨rfl, rfl, rfl, rfl, rfl, rfl, trivial⟩
 rintro gm ds ts AA ⟨rfl, i, B, cx, hi, hI, rfl⟩
 by_cases hlt : i < l.length
 ·(apply tr_v tk; (conv => whnf); (repeat ((first | apply VBr.t | (apply v_t; omega)); (conv => whnf))); apply VStop.mk)
  refine v_loop (fun gm' ds ts A => ds = [] ∧ ∃ k : Nat, k + gm' = l.length ∧ (List.range k).all (rowOk l i) = true ∧ AA = A ∧ ts = [(0, .slice A0 l.length c), (1, .int .i64 0), (8, .slice B (pkL l i).length cx), (9, .int .i64 (i : Int)), (28, .slice A0 l.length c), (29, .int .i64 (l.length : Int)), (30, .int .i64 (i : Int)), (33, .slice A0 l.length c), (34, .int .i64 (l.length : Int)), (35, .int .i64 (k : Int))]) l.length (l := [(0, _), (1, _), (8, _), (9, _), (28, _), (29, _), (30, _), (33, _), (34, _), (35, _)]) (B := _) ?_ (List.Sublist.refl _) ⟨rfl, 0, by omega, rfl, rfl, rfl⟩ ?_
  ·exact ⟨rfl, rfl, rfl, rfl, rfl, rfl, rfl, rfl, rfl, rfl, trivial⟩
  rintro gm' ds ts A ⟨rfl, k, hk, hall, rfl, rfl⟩
  by_cases hltk : k < l.length
  ·obtain ⟨b, o, rfl, _⟩ := row_cell h hltk
   have c1 : ∀ A, CellAt w A b (o + k * 1) (.int .i64 (rAt l k)) := fun A => int_cell h hltk A
   (apply tr_v tk; (conv => whnf); (repeat ((first | (apply VStop.mk; (refine ot_slice_hi (hi := k) tk rfl rfl rfl rfl rfl rfl rfl rfl rfl (by omega) ?_); apply ot_v tk) | (apply VLd.mk; exact c1 _) | (apply VIx.mk (j := k); exact rfl; omega) | apply VBr.t | (apply v_t; omega)); (conv => whnf))); apply VStop.mk)
   refine v_loop (fun gm3 ds ts A => ds = [] ∧ ∃ j : Nat, j + gm3 = k ∧ (List.range j).all (pairOk l i k) = true ∧ AA = A ∧ ts = [(0, .slice (some ⟨b, o, none⟩) l.length c), (1, .int .i64 0), (8, .slice B (pkL l i).length cx), (9, .int .i64 (i : Int)), (10, .int .i64 (k : Int)), (11, .int .i64 (rAt l k)), (28, .slice (some ⟨b, o, none⟩) l.length c), (29, .int .i64 (l.length : Int)), (30, .int .i64 (i : Int)), (33, .slice (some ⟨b, o, none⟩) l.length c), (34, .int .i64 (l.length : Int)), (35, .int .i64 (k : Int)), (42, .slice (some ⟨b, o, none⟩) k c), (43, .int .i64 (k : Int)), (44, .int .i64 (j : Int))]) k (l := [(0, _), (1, _), (8, _), (9, _), (10, _), (11, _), (28, _), (29, _), (30, _), (33, _), (34, _), (35, _), (42, _), (43, _), (44, _)]) (B := _) ?_ (List.Sublist.refl _) ⟨rfl, 0, by omega, rfl, rfl, rfl⟩ ?_
   ·exact ⟨rfl, rfl, rfl, rfl, rfl, rfl, rfl, rfl, rfl, rfl, rfl, rfl, rfl, rfl, rfl, trivial⟩
   rintro gm3 ds ts A ⟨rfl, j, hj, hall3, rfl, rfl⟩
   by_cases hltj : j < k
   ·have c2 : ∀ A, CellAt w A b (o + j * 1) (.int .i64 (rAt l j)) := fun A => int_cell h (by omega) A
    have hp : pairOk l i k j = !((decide (k ≤ i) && decide (rAt l j - rAt l k > 0)) || (decide (i ≤ j) && decide (rAt l k - rAt l j > 0))) := rfl
    have r1 := hv _ (rAt_mem hltk)
    have r2 := hv _ (rAt_mem (show j < l.length by omega))
    generalize rAt l k = x at *
    generalize rAt l j = y at *
    have hpb := fun hb : pairOk l i k j = false => (pkL_succ l i).trans (if_neg (by rw [pk_bad hltk hltj hb]; decide))
    have hpg := fun hb : pairOk l i k j = true => (all_range_succ (pairOk l i k) j).trans (by rw [hall3, hb]; try rfl)
    rw [hp] at hpb hpg
    clear hp
    by_cases q1 : k ≤ i <;> by_cases q2 : y - x > 0 <;> by_cases q3 : i ≤ j <;> by_cases q4 : x - y > 0
    all_goals (first | (exfalso; omega) | skip)
    all_goals (apply tr_v tk; (conv => whnf); (repeat ((first | (apply VLd.mk; exact c2 _) | (apply VIx.mk (j := j); exact rfl; omega) | (apply VRng.mk; omega) | apply VBr.t | apply VBr.f | (apply v_t; omega) | (apply v_f; omega)); (conv => whnf))))
    all_goals first
     | (have e := hpg (by (first | rw [decide_eq_true q1] | rw [decide_eq_false q1]); (first | rw [decide_eq_true q2] | rw [decide_eq_false q2]); (first | rw [decide_eq_true q3] | rw [decide_eq_false q3]); (first | rw [decide_eq_true q4] | rw [decide_eq_false q4]); rfl); exact v_rnd (gm3 - 1) (by omega) (l := [(0, _), (1, _), (8, _), (9, _), (10, _), (11, _), (28, _), (29, _), (30, _), (33, _), (34, _), (35, _), (42, _), (43, _), (44, _)]) (B := _) ⟨rfl, rfl, rfl, rfl, rfl, rfl, rfl, rfl, rfl, rfl, rfl, rfl, rfl, rfl, rfl, trivial⟩ (List.Sublist.refl _) ⟨rfl, j + 1, by omega, e, rfl, rfl⟩)
     | (have e := hpb (by (first | rw [decide_eq_true q1] | rw [decide_eq_false q1]); (first | rw [decide_eq_true q2] | rw [decide_eq_false q2]); (first | rw [decide_eq_true q3] | rw [decide_eq_false q3]); (first | rw [decide_eq_true q4] | rw [decide_eq_false q4]); rfl); exact v_rnd (gm - 1) (by omega) (l := [(0, _), (1, _), (8, _), (28, _), (29, _), (30, _)]) (B := _) ⟨rfl, rfl, rfl, rfl, rfl, rfl, trivial⟩ (List.Sublist.refl _) ⟨rfl, i + 1, B, cx, by omega, by unfold PkI; rw [e]; exact hI, by rw [e]; rfl⟩)
   ·obtain rfl : j = k := by omega
    (apply tr_v tk; (conv => whnf); (repeat ((first | (apply VRng.mk; omega) | apply VBr.f | (apply v_f; omega)); (conv => whnf))))
    exact v_rnd (gm' - 1) (by omega) (l := [(0, _), (1, _), (8, _), (9, _), (28, _), (29, _), (30, _), (33, _), (34, _), (35, _)]) (B := _) ⟨rfl, rfl, rfl, rfl, rfl, rfl, rfl, rfl, rfl, rfl, trivial⟩ (List.Sublist.refl _) ⟨rfl, j + 1, by omega, (all_range_succ _ _).trans (by rw [hall]; exact hall3), rfl, rfl⟩
  ·obtain rfl : k = l.length := by omega
   have e := (pkL_succ l i).trans (if_pos hall)
   have hpl := pkL_len l i
   rcases hI with ⟨e0, rfl, rfl, rfl⟩ | ⟨g, rfl, ⟨hpos, hcx⟩, rfl⟩
   ·rw [e0, List.nil_append] at e
    rw [e0]
    refine tr_own_nil 3 1 ?_
    (apply tr_v tk; (conv => whnf); (repeat ((first | (apply VStop.mk; (refine ot_slice_trim tk rfl rfl rfl rfl rfl rfl rfl rfl rfl rfl rfl (Nat.le_refl 0) (.inl rfl) ?_); apply ot_v tk) | apply VBr.f | (apply v_f; omega) | (apply VNew.mk; intro g hg)); (conv => whnf))); apply VStop.mk)
    refine ot_appendS (sz := 1) (sl := 0) (A'v := fun v' => _ :: .own v' 3 1 (0 + 1) ([] ++ [.int .i64 (i : Int)]) :: _) tk rfl rfl rfl rfl rfl rfl rfl rfl rfl rfl (by decide) rfl (cells_blk_all (.head _)) rfl rfl (fun v' => .there .here) (by decide) (by decide) (fun B3 c3 => ?_)
    refine ot_own_addr (B := B3) (cc := c3) (sz := 1) (m := 0 + 1) (te := 3) (xs := [] ++ [.int .i64 (i : Int)]) (.tail _ (.head _)) (by decide) rfl fun gr hgr => ?_
    subst hgr
    refine ot_fact rfl (p := 0 + 1 ≤ c3) (fun w' hs => own_cap hs (.tail _ (.head _))) fun hcr => ?_
    (apply ot_v tk; (conv => whnf); (repeat ((apply VRng.mk; omega); (conv => whnf))))
    exact v_rnd (gm - 1) (by omega) (l := [(0, _), (1, _), (8, _), (28, _), (29, _), (30, _)]) (B := [.own (.slice (some ⟨gr, 0, none⟩) 1 c3) 3 1 1 [.int .i64 (i : Int)]]) ⟨rfl, rfl, rfl, rfl, rfl, rfl, trivial⟩ (by (repeat (first | exact sl0 _ | exact sl1 _ | refine sl2 _ ?_ | refine sl3 _ ?_))) ⟨rfl, i + 1, _, c3, by omega, .inr ⟨gr, rfl, ⟨by rw [e]; exact Nat.zero_lt_one, by rw [e]; exact hcr⟩, by rw [e]; rfl⟩, by rw [e]; rfl⟩
   ·have hnv : i64s (pkL l i) ++ [.int .i64 (i : Int)] = i64s (pkL l (i + 1)) := by rw [e]; simp [i64s]
    have hll : (pkL l i).length + 1 = (pkL l (i + 1)).length := by rw [e]; simp
    generalize pkL l i = y at *
    (apply tr_v tk; (conv => whnf); (repeat ((first | (apply VStop.mk; (refine ot_slice_trim tk rfl rfl rfl rfl rfl rfl rfl rfl rfl rfl rfl hcx (.inr ⟨_, _, rfl⟩) ?_); apply ot_v tk) | apply VBr.f | (apply v_f; omega) | (apply VNew.mk; intro g hg)); (conv => whnf))); apply VStop.mk)
    refine ot_append_fullO (sz := 1) (xs := i64s y) (news := [.int .i64 (i : Int)]) tk (by decide) rfl rfl rfl rfl rfl rfl rfl rfl rfl rfl (by decide) hpos (fun w1 hs => hs.own_rd (.tail _ (.head _))) (cells_blk_all (.head _)) rfl (by omega) (by decide) (fun gr capr hgr => ?_)
    refine ot_fact rfl (p := y.length + 1 ≤ capr) (fun w' hs => own_cap hs (.head _)) fun hcr => ?_
    (apply ot_v tk; (conv => whnf); (repeat ((apply VRng.mk; omega); (conv => whnf))))
    rw [hnv]
    exact v_rnd (gm - 1) (by omega) (l := [(0, _), (1, _), (8, _), (28, _), (29, _), (30, _)]) (B := [.own (.slice (some ⟨gr, 0, none⟩) (pkL l (i + 1)).length capr) 3 1 (pkL l (i + 1)).length (i64s (pkL l (i + 1)))]) ⟨rfl, rfl, rfl, rfl, rfl, rfl, trivial⟩ (by rw [← hll]; (repeat (first | exact sl0 _ | exact sl1 _ | refine sl2 _ ?_ | refine sl3 _ ?_))) ⟨rfl, i + 1, _, capr, by omega, .inr ⟨gr, rfl, ⟨by omega, by omega⟩, rfl⟩, by rw [← hll]; rfl⟩
 ·obtain rfl : i = l.length := by omega
  rcases hI with ⟨e0, _⟩ | ⟨g, rfl, ⟨hpos, hcx⟩, rfl⟩
  ·exact absurd e0 hne
  (apply tr_v tk; (conv => whnf); (repeat ((first | apply VBr.f | (apply v_f; omega)); (conv => whnf))))
  (apply VRet.mk)
  refine ret2 (by first | exact .inl rfl | exact .inr rfl) rfl (by exact rv_tmp rfl) (by exact rv_tmp rfl) ?_
  exact fun w hs => ⟨(g, cx), rfl, trivial, hs⟩
end Go.Proofs.YtiodmphhjgkgjaaGreat
