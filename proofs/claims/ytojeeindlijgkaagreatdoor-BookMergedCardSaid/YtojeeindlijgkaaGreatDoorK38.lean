/- Load, as the program does: lemmas for the rows of this seat. No conditions. -/
import Derived.Laws.StructEq
import Derived.Laws.IdiomStrings
import Derived.Laws.Strings2
import Derived.Laws.Strings3
import Derived.Test.YtojeeindlijgkaaGreatDoorK13
import Derived.Test.YtojeeindlijgkaaGreatDoorK35
import Derived.Test.YtojeeindlijgkaaGreatDoorK37
set_option linter.all false
namespace Go.Proofs.YtojeeindlijgkaaGreatDoor
open Go.RowKit
/-! ## Load, as the program does -/
section
variable {P : Program} {w0 : World} {n : Nat} {ds : List Deferred} {ops : List Oper} {o : Oper} {os : List Oper} {ks : List Kind} {ts : TS} {A : List Chunk} {K : TS → List Chunk → Prop}
theorem ot_own_cap {B : Option Addr} {cc sz m : Nat} {te : TypeId} {xs : List Value} (hA : .own (.slice B m cc) te sz m xs ∈ A) (hm : 0 < m) (hh : ks.headD .wr = .wr) (h : ∀ b, B = some ⟨b, 0, none⟩ → m ≤ cc → OT P w0 n ds ops (o :: os) ks ts A K) : OT P w0 n ds ops (o :: os) ks ts A K :=
 ot_fact hh (p := ∃ b, B = some ⟨b, 0, none⟩ ∧ m ≤ cc) (fun w' hs => by obtain ⟨b, rfl⟩ := own_addr hs hA hm; exact ⟨b, rfl, own_cap5 hs hA⟩) fun ⟨b, e, h'⟩ => h b e h'
end
def linesR (D : List (List UInt8)) : List Ln := D.map fun p => (rdR p).1
theorem linesR_len (D : List (List UInt8)) : (linesR D).length = D.length := by unfold linesR; simp
theorem linesR_step {D : List (List UInt8)} {i : Nat} (h : i < D.length) : linesR (D.take (i + 1)) = linesR (D.take i) ++ [(rdR D[i]).1] := by
 unfold linesR
 rw [List.take_succ_eq_append_getElem h, List.map_append]; rfl
theorem linesR_sm (D : List (List UInt8)) : ∀ j, j < (linesR D).length → LnSm (lnAt (linesR D) j) := fun j hj => by
 unfold linesR at hj ⊢
 rw [lnAt_get hj, List.getElem_map]
 exact rdLn_sm _
theorem nl_long : ∀ (D : List (List UInt8)), D.all (fun p => (rdR p).2.2) = true → 2 * D.length ≤ (nlS D).length
 | [], _ => by simp [nlS]
 | p :: D, h => by
  rw [List.all_cons, Bool.and_eq_true] at h
  have ih := nl_long D h.2
  obtain ⟨_, w, _, hw, hp, _⟩ := rd_line h.1
  have hl : 1 ≤ p.length := by rw [hp]; simp; omega
  rw [nlS_cons, List.length_append, List.length_append, List.length_cons, List.length_cons, List.length_nil]
  omega
theorem load_long (s : List UInt8) (w : World) (h : 2000 < s.length) : Calls Tryz.prog 40 #[.string (bs s)] w fun e w' => e = .returned (.tuple #[.agg #[.slice none 0 0], .int .i64 7]) ∧ Below w.heap.size w w' := by
 refine fn_v tk (n := 63) (A := []) Tryz.func40 rfl rfl (Nat.le_of_ble_eq_true rfl) (St.nil (Below.refl _ _)) ?_
 ((conv => whnf); (repeat ((first | (apply VStop.mk; (refine ot_slen Tryz.underlying9 rfl rfl rfl rfl ?_); apply ot_v tk) | apply VBr.t | (apply v_t; omega) | (apply VNew.mk; intro g hg) | (apply VSt.mk; (focus ((repeat (first | (with_reducible exact At.here) | (with_reducible apply At.there))); done)); exact rfl)); (conv => whnf))))
 (apply VRet.mk)
 refine ret2 (by first | exact .inl rfl | exact .inr rfl) rfl (by exact rv_row tk rfl rfl rfl (by first | exact cells_blk_all (by (repeat (first | exact List.Mem.head _ | assumption | refine List.Mem.tail _ ?_))) | exact cells_row0 (by (repeat (first | exact List.Mem.head _ | assumption | refine List.Mem.tail _ ?_)))) rfl) (by exact rv_tmp rfl) ?_
 exact fun w h => ⟨rfl, h.base⟩
set_option maxHeartbeats 2000000 in
set_option maxRecDepth 20000 in
theorem load_form (s : List UInt8) (w : World) (hs2 : s.length ≤ 2000) (hE : LayE w) (hM : MaxL w) (hF : formOk (spl 10 [] s) = false) : Calls Tryz.prog 40 #[.string (bs s)] w fun e w' => e = .returned (.tuple #[.agg #[.slice none 0 0], .int .i64 8]) ∧ Below w.heap.size w w' := by
 have kw : ∀ w1, MaxL w1 → Calls Tryz.prog 75 #[.string (bs s), .string (bs [10])] w1 _ := fun w1 h => split75_any 10 s w1 h (by omega)
 rw [show (10 : UInt8).toNat = 10 from rfl] at kw
 have hPl := spl_len 10 s []
 have hpw := fun p => spl_sub 10 s [] p
 have hne := spl_ne 10 s []
 obtain ⟨D, q, hP⟩ : ∃ D q, spl 10 [] s = D ++ [q] := ⟨_, _, (List.dropLast_concat_getLast hne).symm⟩
 have hDl : (spl 10 [] s).dropLast = D := by rw [hP, List.dropLast_concat]

 clear hDl hne
 generalize spl 10 [] s = P at *
 subst hP
 have hDN : D.length ≤ 2000 := by simp at hPl; omega
 have hlen : (D ++ [q]).length = D.length + 1 := by simp
 have hst : strs (D ++ [q]) = strs D ++ [.string (bs q)] := strs_snoc D q
 have hgl : (strs D ++ [Value.string (bs q)])[D.length]? = some (.string (bs q)) := by rw [← strs_length D, List.getElem?_concat_length]
 rw [hlen, hst] at kw
 have hpl : ∀ p ∈ D, p.length ≤ 10000 := fun p hp => by have := hpw p (by simp [hp]); simp at this; omega
 have hcell : ∀ i (h : i < D.length), (strs D ++ [Value.string (bs q)])[i]? = some (.string (bs D[i])) := fun i h => by
  rw [List.getElem?_append_left (by rw [strs_length]; exact h)]
  unfold strs
  rw [List.getElem?_map, List.getElem?_eq_getElem h]; rfl
 clear hPl hpw hst hlen
 generalize strs D ++ [Value.string (bs q)] = XS at *
 have hgl2 : XS[(((D.length + 1 : Nat) : Int) - 1).toNat]? = some (.string (bs q)) := by rw [show (((D.length + 1 : Nat) : Int) - 1).toNat = D.length by omega]; exact hgl
 refine fn_v tk (n := 63) (A := []) Tryz.func40 rfl rfl (Nat.le_of_ble_eq_true rfl) (St.nil (Below.refl _ _)) ?_
 ((conv => whnf); (repeat ((first | ((first | apply VStop.mk | apply VCall.stop); (refine ot_slen Tryz.underlying9 rfl rfl rfl rfl ?_); apply ot_v tk) | apply VBr.f | (apply v_f; omega) | (apply VNew.mk; intro g hg)); (conv => whnf))); apply VCall.stop)
 revert g hg
 intro g2 hg2
 refine ot_callT (X := SlX) (us := []) (vs := []) (fun x => .slice x.1 (D.length + 1) x.2) (fun x => []) (fun x => [.own (.slice x.1 (D.length + 1) x.2) 9 1 (D.length + 1) XS]) _ (fun x c hc => one_mut hc) (by decide) rfl rfl rfl rfl (by kernel_rfl) (evl_of rfl) rfl (fun w1 hs => kw w1 (hM.st hs)) ?_
 rintro ⟨Bx, cx⟩ _
 dsimp only [List.cons_append, List.nil_append]
 refine ot_own_cap (B := Bx) (m := D.length + 1) (cc := cx) (te := 9) (sz := 1) (xs := XS) (by (repeat (first | exact List.Mem.head _ | assumption | refine List.Mem.tail _ ?_))) (by omega) rfl ?_
 rintro bx rfl hcx
 have cl : ∀ {A : List Chunk} {j : Nat} {v : Value}, XS[j]? = some v → Chunk.own (.slice (some ⟨bx, 0, none⟩) (D.length + 1) cx) 9 1 (D.length + 1) XS ∈ A → CellAt w A bx (0 + j * 1) v := fun hv h => by rw [Nat.zero_add, Nat.mul_one]; exact cell_own h hv
 apply ot_v tk
 obtain ⟨b, hb⟩ : ∃ b, decide (q = []) = !b := ⟨!decide (q = []), by simp⟩
 cases b
 rotate_left
 ·((conv => whnf); (repeat ((first | (apply VStop.mk; (refine ot_strn (m := []) _ hb rfl rfl rfl rfl rfl ?_); apply ot_v tk) | (apply VLd.mk; first | exact cl hgl2 (by (repeat (first | exact List.Mem.head _ | assumption | refine List.Mem.tail _ ?_))) | exact cl hgl (by (repeat (first | exact List.Mem.head _ | assumption | refine List.Mem.tail _ ?_)))) | (apply VRng.mk; omega) | apply VBr.t | (apply VSt.mk; (focus ((repeat (first | (with_reducible exact At.here) | (with_reducible apply At.there))); done)); exact rfl) | (apply v_ixn; omega)); (conv => whnf))))
  (apply VRet.mk)
  refine ret2 (by first | exact .inl rfl | exact .inr rfl) rfl (by exact rv_row tk rfl rfl rfl (by first | exact cells_blk_all (by (repeat (first | exact List.Mem.head _ | assumption | refine List.Mem.tail _ ?_))) | exact cells_row0 (by (repeat (first | exact List.Mem.head _ | assumption | refine List.Mem.tail _ ?_)))) rfl) (by exact rv_tmp rfl) ?_
  exact fun w h => ⟨rfl, h.base⟩
 obtain rfl : q = [] := by simpa using hb
 ((conv => whnf); (repeat ((first | (apply VStop.mk; (first | (refine ot_slice_hi (hi := D.length) tk rfl rfl rfl rfl rfl rfl rfl rfl (by omega) (by omega) ?_) | (refine ot_strn (m := []) _ hb rfl rfl rfl rfl rfl ?_)); apply ot_v tk) | (apply VLd.mk; first | exact cl hgl2 (by (repeat (first | exact List.Mem.head _ | assumption | refine List.Mem.tail _ ?_))) | exact cl hgl (by (repeat (first | exact List.Mem.head _ | assumption | refine List.Mem.tail _ ?_)))) | (apply VRng.mk; omega) | apply VBr.f | (apply VNew.mk; intro g hg) | (apply v_ixn; omega)); (conv => whnf))); apply VStop.mk)
 revert g hg
 intro g6 hg6
 refine tr_own_nil 61 5 ?_
 refine v_loop (fun gm ds ts A => ds = [] ∧ ∃ (i : Nat) (By : Option Addr) (cy : Nat), i + gm = D.length ∧ (D.take i).all (fun p => (rdR p).2.2) = true ∧ A = [.own (.slice By i cy) 61 5 i (lnC (linesR (D.take i))), .blk g6 24 [.slice By i cy], .blk g2 24 [.slice none 0 0], .own (.slice (some ⟨bx, 0, none⟩) (D.length + 1) cx) 9 1 (D.length + 1) XS] ∧ ts = [(0, .string (bs s)), (2, .pointer (some ⟨g2, 0, none⟩)), (6, .pointer (some ⟨g6, 0, none⟩)), (29, .slice (some ⟨bx, 0, none⟩) D.length cx), (30, .int .i64 (D.length : Int)), (31, .int .i64 (i : Int))]) D.length (l := [(0, _), (2, _), (6, _), (29, _), (30, _), (31, _)]) (B := _) ?_ (List.Sublist.refl _) ⟨rfl, 0, none, 0, by omega, rfl, rfl, rfl⟩ ?_
 ·exact ⟨rfl, rfl, rfl, rfl, rfl, rfl, trivial⟩
 rintro gm ds ts A ⟨rfl, i, By, cy, hi, hok, rfl, rfl⟩
 by_cases hlt : i < D.length
 ·have hcell := hcell i hlt
  have hst := linesR_step hlt
  have kr := fun w1 h1 h2 => read_any D[i] w1 h1 h2 (hpl _ (List.getElem_mem hlt))
  have hnext : (rdR D[i]).2.2 = true → (D.take (i + 1)).all (fun p => (rdR p).2.2) = true := fun h => by
   rw [List.take_succ_eq_append_getElem hlt, List.all_append, hok, List.all_cons, h]; rfl
  have hyes : (rdR D[i]).2.2 = true → rd1 D[i] = (rdR D[i]).1 := fun h => by unfold rd1; rw [if_pos h]
  have hel : (rdR D[i]).2.2 = true ∨ (rdR D[i]).2.2 = false := by cases (rdR D[i]).2.2 <;> simp
  rcases hel with hok1 | hno1
  ·have e2 : lnC (linesR (D.take (i + 1))) = lnC (linesR (D.take i)) ++ lnL (rdR D[i]).1 := by rw [hst]; exact lnC_snoc _ _
   have hy1 := hyes hok1
   rw [hy1, hok1] at kr
   have hnx := hnext hok1
   clear hnext hyes
   unfold lnV at kr
   unfold lnL at e2
   generalize (rdR D[i]).1 = y at *
   generalize D[i] = p at *
   (apply tr_v tk; (conv => whnf); (repeat ((first | ((first | apply VStop.mk | apply VCall.stop); (refine ot_appendS (sz := 5) (sl := i) (A'v := fun v' => _ :: _ :: .own v' 61 5 (i + 1) (lnC (linesR (D.take i)) ++ [.int .i64 y.st, .int .i64 y.ck, .int .i64 y.kd, .int .i64 y.th, .int .i64 y.vl]) :: _) tk rfl rfl rfl rfl rfl rfl rfl rfl rfl rfl (by decide) rfl (cells_blk_all (.head _)) rfl rfl (fun v' => .there (.there .here)) (by omega) (by decide) (fun B3 c3 => ?_)); apply ot_v tk) | (apply VLdN.mk; exact ldn_blk; exact rfl) | (apply VLd.mk; exact cl hcell (by (repeat (first | exact List.Mem.head _ | assumption | refine List.Mem.tail _ ?_)))) | (apply VIx.mk (j := i); exact rfl; omega) | (apply VCall.q; kernel_rfl; (focus (intro w1 hs; first | with_reducible apply kr w1 (hE.st hs) (hM.st hs)))) | (apply VLd.mk; (focus ((repeat (first | ((with_reducible apply ld_blk); exact rfl) | (with_reducible apply ld_skip))); done))) | (apply VRng.mk; omega) | apply VBr.t | apply VBr.f | (apply v_t; omega) | (apply VNew.mk; intro g hg) | (apply VSt.mk; (focus ((repeat (first | (with_reducible exact At.here) | (with_reducible apply At.there))); done)); exact rfl)); (conv => whnf))))
   exact v_rnd (gm - 1) (by omega) (l := [(0, _), (2, _), (6, _), (29, _), (30, _), (31, _)]) (B := _) ⟨rfl, rfl, rfl, rfl, rfl, rfl, trivial⟩ (.cons _ (.cons _ (List.Sublist.refl _))) ⟨rfl, i + 1, B3, c3, by omega, hnx, by rw [e2], rfl⟩
  ·rw [hno1] at kr
   unfold lnV at kr
   generalize rd1 D[i] = y at *
   generalize D[i] = p at *
   (apply tr_v tk; (conv => whnf); (repeat ((first | (apply VLd.mk; exact cl hcell (by (repeat (first | exact List.Mem.head _ | assumption | refine List.Mem.tail _ ?_)))) | (apply VIx.mk (j := i); exact rfl; omega) | (apply VCall.q; kernel_rfl; (focus (intro w1 hs; first | with_reducible apply kr w1 (hE.st hs) (hM.st hs)))) | apply VBr.t | (apply v_t; omega) | (apply VNew.mk; intro g hg) | (apply VSt.mk; (focus ((repeat (first | (with_reducible exact At.here) | (with_reducible apply At.there))); done)); exact rfl)); (conv => whnf))))
   (apply VRet.mk)
   refine ret2 (by first | exact .inl rfl | exact .inr rfl) rfl (by exact rv_row tk rfl rfl rfl (by first | exact cells_blk_all (by (repeat (first | exact List.Mem.head _ | assumption | refine List.Mem.tail _ ?_))) | exact cells_row0 (by (repeat (first | exact List.Mem.head _ | assumption | refine List.Mem.tail _ ?_)))) rfl) (by exact rv_tmp rfl) ?_
   exact fun w h => ⟨rfl, h.base⟩
 obtain rfl : i = D.length := by omega
 rw [List.take_length] at hok ⊢
 exfalso
 rw [form_end hok] at hF
 simp at hF
set_option maxHeartbeats 2000000 in
set_option maxRecDepth 20000 in
theorem load_sum (s : List UInt8) (w : World) (hs2 : s.length ≤ 2000) (hE : LayE w) (hM : MaxL w) (hF : formOk (spl 10 [] s) = true) (hS : (fileF (linesR (spl 10 [] s).dropLast)).2 ≠ s) : Calls Tryz.prog 40 #[.string (bs s)] w fun e w' => e = .returned (.tuple #[.agg #[.slice none 0 0], .int .i64 14]) ∧ Below w.heap.size w w' := by
 have kw : ∀ w1, MaxL w1 → Calls Tryz.prog 75 #[.string (bs s), .string (bs [10])] w1 _ := fun w1 h => split75_any 10 s w1 h (by omega)
 rw [show (10 : UInt8).toNat = 10 from rfl] at kw
 have hPl := spl_len 10 s []
 have hpw := fun p => spl_sub 10 s [] p
 have hne := spl_ne 10 s []
 obtain ⟨D, q, hP⟩ : ∃ D q, spl 10 [] s = D ++ [q] := ⟨_, _, (List.dropLast_concat_getLast hne).symm⟩
 have hDl : (spl 10 [] s).dropLast = D := by rw [hP, List.dropLast_concat]
 have hFs := (form_file hF).2.1
 rw [hDl] at hS hFs
 clear hDl hne
 generalize spl 10 [] s = P at *
 subst hP
 have hDN : D.length ≤ 2000 := by simp at hPl; omega
 have hlen : (D ++ [q]).length = D.length + 1 := by simp
 have hst : strs (D ++ [q]) = strs D ++ [.string (bs q)] := strs_snoc D q
 have hgl : (strs D ++ [Value.string (bs q)])[D.length]? = some (.string (bs q)) := by rw [← strs_length D, List.getElem?_concat_length]
 rw [hlen, hst] at kw
 have hpl : ∀ p ∈ D, p.length ≤ 10000 := fun p hp => by have := hpw p (by simp [hp]); simp at this; omega
 have hcell : ∀ i (h : i < D.length), (strs D ++ [Value.string (bs q)])[i]? = some (.string (bs D[i])) := fun i h => by
  rw [List.getElem?_append_left (by rw [strs_length]; exact h)]
  unfold strs
  rw [List.getElem?_map, List.getElem?_eq_getElem h]; rfl
 clear hPl hpw hst hlen
 generalize strs D ++ [Value.string (bs q)] = XS at *
 have hgl2 : XS[(((D.length + 1 : Nat) : Int) - 1).toNat]? = some (.string (bs q)) := by rw [show (((D.length + 1 : Nat) : Int) - 1).toNat = D.length by omega]; exact hgl
 refine fn_v tk (n := 63) (A := []) Tryz.func40 rfl rfl (Nat.le_of_ble_eq_true rfl) (St.nil (Below.refl _ _)) ?_
 ((conv => whnf); (repeat ((first | ((first | apply VStop.mk | apply VCall.stop); (refine ot_slen Tryz.underlying9 rfl rfl rfl rfl ?_); apply ot_v tk) | apply VBr.f | (apply v_f; omega) | (apply VNew.mk; intro g hg)); (conv => whnf))); apply VCall.stop)
 revert g hg
 intro g2 hg2
 refine ot_callT (X := SlX) (us := []) (vs := []) (fun x => .slice x.1 (D.length + 1) x.2) (fun x => []) (fun x => [.own (.slice x.1 (D.length + 1) x.2) 9 1 (D.length + 1) XS]) _ (fun x c hc => one_mut hc) (by decide) rfl rfl rfl rfl (by kernel_rfl) (evl_of rfl) rfl (fun w1 hs => kw w1 (hM.st hs)) ?_
 rintro ⟨Bx, cx⟩ _
 dsimp only [List.cons_append, List.nil_append]
 refine ot_own_cap (B := Bx) (m := D.length + 1) (cc := cx) (te := 9) (sz := 1) (xs := XS) (by (repeat (first | exact List.Mem.head _ | assumption | refine List.Mem.tail _ ?_))) (by omega) rfl ?_
 rintro bx rfl hcx
 have cl : ∀ {A : List Chunk} {j : Nat} {v : Value}, XS[j]? = some v → Chunk.own (.slice (some ⟨bx, 0, none⟩) (D.length + 1) cx) 9 1 (D.length + 1) XS ∈ A → CellAt w A bx (0 + j * 1) v := fun hv h => by rw [Nat.zero_add, Nat.mul_one]; exact cell_own h hv
 apply ot_v tk
 obtain ⟨b, hb⟩ : ∃ b, decide (q = []) = !b := ⟨!decide (q = []), by simp⟩
 have hq : q = [] := by
  have := hF
  unfold formOk at this
  rw [List.getLast?_concat] at this
  simp only [Bool.and_eq_true, decide_eq_true_eq, Option.some.injEq] at this
  exact this.2
 have hall : D.all (fun p => (rdR p).2.2) = true := by
  have := hF
  unfold formOk at this
  rw [List.dropLast_concat] at this
  simp only [Bool.and_eq_true] at this
  exact this.1
 have hD1 : D.length ≤ 1000 := by
  have h1 := nl_long D hall
  rw [← hFs] at h1
  omega
 subst hq
 obtain rfl : b = false := by simpa using hb
 ((conv => whnf); (repeat ((first | (apply VStop.mk; (first | (refine ot_slice_hi (hi := D.length) tk rfl rfl rfl rfl rfl rfl rfl rfl (by omega) (by omega) ?_) | (refine ot_strn (m := []) _ hb rfl rfl rfl rfl rfl ?_)); apply ot_v tk) | (apply VLd.mk; first | exact cl hgl2 (by (repeat (first | exact List.Mem.head _ | assumption | refine List.Mem.tail _ ?_))) | exact cl hgl (by (repeat (first | exact List.Mem.head _ | assumption | refine List.Mem.tail _ ?_)))) | (apply VRng.mk; omega) | apply VBr.f | (apply VNew.mk; intro g hg) | (apply v_ixn; omega)); (conv => whnf))); apply VStop.mk)
 revert g hg
 intro g6 hg6
 refine tr_own_nil 61 5 ?_
 refine v_loop (fun gm ds ts A => ds = [] ∧ ∃ (i : Nat) (By : Option Addr) (cy : Nat), i + gm = D.length ∧ (D.take i).all (fun p => (rdR p).2.2) = true ∧ A = [.own (.slice By i cy) 61 5 i (lnC (linesR (D.take i))), .blk g6 24 [.slice By i cy], .blk g2 24 [.slice none 0 0], .own (.slice (some ⟨bx, 0, none⟩) (D.length + 1) cx) 9 1 (D.length + 1) XS] ∧ ts = [(0, .string (bs s)), (2, .pointer (some ⟨g2, 0, none⟩)), (6, .pointer (some ⟨g6, 0, none⟩)), (29, .slice (some ⟨bx, 0, none⟩) D.length cx), (30, .int .i64 (D.length : Int)), (31, .int .i64 (i : Int))]) D.length (l := [(0, _), (2, _), (6, _), (29, _), (30, _), (31, _)]) (B := _) ?_ (List.Sublist.refl _) ⟨rfl, 0, none, 0, by omega, rfl, rfl, rfl⟩ ?_
 ·exact ⟨rfl, rfl, rfl, rfl, rfl, rfl, trivial⟩
 rintro gm ds ts A ⟨rfl, i, By, cy, hi, hok, rfl, rfl⟩
 by_cases hlt : i < D.length
 ·have hcell := hcell i hlt
  have hst := linesR_step hlt
  have kr := fun w1 h1 h2 => read_any D[i] w1 h1 h2 (hpl _ (List.getElem_mem hlt))
  have hnext : (rdR D[i]).2.2 = true → (D.take (i + 1)).all (fun p => (rdR p).2.2) = true := fun h => by
   rw [List.take_succ_eq_append_getElem hlt, List.all_append, hok, List.all_cons, h]; rfl
  have hyes : (rdR D[i]).2.2 = true → rd1 D[i] = (rdR D[i]).1 := fun h => by unfold rd1; rw [if_pos h]
  have hel : (rdR D[i]).2.2 = true ∨ (rdR D[i]).2.2 = false := by cases (rdR D[i]).2.2 <;> simp
  rcases hel with hok1 | hno1
  ·have e2 : lnC (linesR (D.take (i + 1))) = lnC (linesR (D.take i)) ++ lnL (rdR D[i]).1 := by rw [hst]; exact lnC_snoc _ _
   have hy1 := hyes hok1
   rw [hy1, hok1] at kr
   have hnx := hnext hok1
   clear hnext hyes
   unfold lnV at kr
   unfold lnL at e2
   generalize (rdR D[i]).1 = y at *
   generalize D[i] = p at *
   (apply tr_v tk; (conv => whnf); (repeat ((first | ((first | apply VStop.mk | apply VCall.stop); (refine ot_appendS (sz := 5) (sl := i) (A'v := fun v' => _ :: _ :: .own v' 61 5 (i + 1) (lnC (linesR (D.take i)) ++ [.int .i64 y.st, .int .i64 y.ck, .int .i64 y.kd, .int .i64 y.th, .int .i64 y.vl]) :: _) tk rfl rfl rfl rfl rfl rfl rfl rfl rfl rfl (by decide) rfl (cells_blk_all (.head _)) rfl rfl (fun v' => .there (.there .here)) (by omega) (by decide) (fun B3 c3 => ?_)); apply ot_v tk) | (apply VLdN.mk; exact ldn_blk; exact rfl) | (apply VLd.mk; exact cl hcell (by (repeat (first | exact List.Mem.head _ | assumption | refine List.Mem.tail _ ?_)))) | (apply VIx.mk (j := i); exact rfl; omega) | (apply VCall.q; kernel_rfl; (focus (intro w1 hs; first | with_reducible apply kr w1 (hE.st hs) (hM.st hs)))) | (apply VLd.mk; (focus ((repeat (first | ((with_reducible apply ld_blk); exact rfl) | (with_reducible apply ld_skip))); done))) | (apply VRng.mk; omega) | apply VBr.t | apply VBr.f | (apply v_t; omega) | (apply VNew.mk; intro g hg) | (apply VSt.mk; (focus ((repeat (first | (with_reducible exact At.here) | (with_reducible apply At.there))); done)); exact rfl)); (conv => whnf))))
   exact v_rnd (gm - 1) (by omega) (l := [(0, _), (2, _), (6, _), (29, _), (30, _), (31, _)]) (B := _) ⟨rfl, rfl, rfl, rfl, rfl, rfl, trivial⟩ (.cons _ (.cons _ (List.Sublist.refl _))) ⟨rfl, i + 1, B3, c3, by omega, hnx, by rw [e2], rfl⟩
  ·exfalso
   have := List.all_eq_true.1 hall D[i] (List.getElem_mem hlt)
   rw [hno1] at this
   cases this
 obtain rfl : i = D.length := by omega
 rw [List.take_length] at hok ⊢
 have hLl := linesR_len D
 have hsm := linesR_sm D
 generalize linesR D = L at *
 have kf := fun {A : List Chunk} {w1 : World} (hs : St w A w1) (hA : Chunk.own (.slice By D.length cy) 61 5 D.length (lnC L) ∈ A) => file74_any By cy L w1 (by unfold BookR; rw [hLl]; exact hs.own_rd hA) hsm (by omega) (hE.st hs).t10
 have kc := fun {A : List Chunk} {w1 : World} (hs : St w A w1) (hA : Chunk.own (.slice By D.length cy) 61 5 D.length (lnC L) ∈ A) => checkBook_any By cy L w1 (by unfold BookR; rw [hLl]; exact hs.own_rd hA) (by rw [hLl]; unfold maxLen; omega)
 rw [hLl] at kf kc
 have hn : decide ((fileF L).2 = s) = !true := decide_eq_false hS
 (apply tr_v tk; (conv => whnf); (repeat ((first | ((first | apply VStop.mk | apply VCall.stop); (refine ot_strn _ hn rfl rfl rfl rfl rfl ?_); apply ot_v tk) | (apply VCall.q; kernel_rfl; (focus (intro w1 hs; first | ((with_reducible apply kf hs); (repeat (first | exact List.Mem.head _ | assumption | refine List.Mem.tail _ ?_)))))) | (apply VLd.mk; (focus ((repeat (first | ((with_reducible apply ld_blk); exact rfl) | (with_reducible apply ld_skip))); done))) | apply VBr.t | apply VBr.f | (apply v_f; omega) | (apply VSt.mk; (focus ((repeat (first | (with_reducible exact At.here) | (with_reducible apply At.there))); done)); exact rfl)); (conv => whnf))))
 (apply VRet.mk)
 refine ret2 (by first | exact .inl rfl | exact .inr rfl) rfl (by exact rv_row tk rfl rfl rfl (by first | exact cells_blk_all (by (repeat (first | exact List.Mem.head _ | assumption | refine List.Mem.tail _ ?_))) | exact cells_row0 (by (repeat (first | exact List.Mem.head _ | assumption | refine List.Mem.tail _ ?_)))) rfl) (by exact rv_tmp rfl) ?_
 exact fun w h => ⟨rfl, h.base⟩
set_option maxHeartbeats 2000000 in
set_option maxRecDepth 20000 in
theorem load_chk (s : List UInt8) (w : World) (hs2 : s.length ≤ 2000) (hE : LayE w) (hM : MaxL w) (hF : formOk (spl 10 [] s) = true) (hS : (fileF (linesR (spl 10 [] s).dropLast)).2 = s) (hC : chkBook (linesR (spl 10 [] s).dropLast) ≠ 0) : Calls Tryz.prog 40 #[.string (bs s)] w fun e w' => e = .returned (.tuple #[.agg #[.slice none 0 0], .int .i64 (chkBook (linesR (spl 10 [] s).dropLast))]) ∧ Below w.heap.size w w' := by
 have kw : ∀ w1, MaxL w1 → Calls Tryz.prog 75 #[.string (bs s), .string (bs [10])] w1 _ := fun w1 h => split75_any 10 s w1 h (by omega)
 rw [show (10 : UInt8).toNat = 10 from rfl] at kw
 have hPl := spl_len 10 s []
 have hpw := fun p => spl_sub 10 s [] p
 have hne := spl_ne 10 s []
 obtain ⟨D, q, hP⟩ : ∃ D q, spl 10 [] s = D ++ [q] := ⟨_, _, (List.dropLast_concat_getLast hne).symm⟩
 have hDl : (spl 10 [] s).dropLast = D := by rw [hP, List.dropLast_concat]
 have hFs := (form_file hF).2.1
 rw [hDl] at hS hC hFs ⊢
 clear hDl hne
 generalize spl 10 [] s = P at *
 subst hP
 have hDN : D.length ≤ 2000 := by simp at hPl; omega
 have hlen : (D ++ [q]).length = D.length + 1 := by simp
 have hst : strs (D ++ [q]) = strs D ++ [.string (bs q)] := strs_snoc D q
 have hgl : (strs D ++ [Value.string (bs q)])[D.length]? = some (.string (bs q)) := by rw [← strs_length D, List.getElem?_concat_length]
 rw [hlen, hst] at kw
 have hpl : ∀ p ∈ D, p.length ≤ 10000 := fun p hp => by have := hpw p (by simp [hp]); simp at this; omega
 have hcell : ∀ i (h : i < D.length), (strs D ++ [Value.string (bs q)])[i]? = some (.string (bs D[i])) := fun i h => by
  rw [List.getElem?_append_left (by rw [strs_length]; exact h)]
  unfold strs
  rw [List.getElem?_map, List.getElem?_eq_getElem h]; rfl
 clear hPl hpw hst hlen
 generalize strs D ++ [Value.string (bs q)] = XS at *
 have hgl2 : XS[(((D.length + 1 : Nat) : Int) - 1).toNat]? = some (.string (bs q)) := by rw [show (((D.length + 1 : Nat) : Int) - 1).toNat = D.length by omega]; exact hgl
 refine fn_v tk (n := 63) (A := []) Tryz.func40 rfl rfl (Nat.le_of_ble_eq_true rfl) (St.nil (Below.refl _ _)) ?_
 ((conv => whnf); (repeat ((first | ((first | apply VStop.mk | apply VCall.stop); (refine ot_slen Tryz.underlying9 rfl rfl rfl rfl ?_); apply ot_v tk) | apply VBr.f | (apply v_f; omega) | (apply VNew.mk; intro g hg)); (conv => whnf))); apply VCall.stop)
 revert g hg
 intro g2 hg2
 refine ot_callT (X := SlX) (us := []) (vs := []) (fun x => .slice x.1 (D.length + 1) x.2) (fun x => []) (fun x => [.own (.slice x.1 (D.length + 1) x.2) 9 1 (D.length + 1) XS]) _ (fun x c hc => one_mut hc) (by decide) rfl rfl rfl rfl (by kernel_rfl) (evl_of rfl) rfl (fun w1 hs => kw w1 (hM.st hs)) ?_
 rintro ⟨Bx, cx⟩ _
 dsimp only [List.cons_append, List.nil_append]
 refine ot_own_cap (B := Bx) (m := D.length + 1) (cc := cx) (te := 9) (sz := 1) (xs := XS) (by (repeat (first | exact List.Mem.head _ | assumption | refine List.Mem.tail _ ?_))) (by omega) rfl ?_
 rintro bx rfl hcx
 have cl : ∀ {A : List Chunk} {j : Nat} {v : Value}, XS[j]? = some v → Chunk.own (.slice (some ⟨bx, 0, none⟩) (D.length + 1) cx) 9 1 (D.length + 1) XS ∈ A → CellAt w A bx (0 + j * 1) v := fun hv h => by rw [Nat.zero_add, Nat.mul_one]; exact cell_own h hv
 apply ot_v tk
 obtain ⟨b, hb⟩ : ∃ b, decide (q = []) = !b := ⟨!decide (q = []), by simp⟩
 have hq : q = [] := by
  have := hF
  unfold formOk at this
  rw [List.getLast?_concat] at this
  simp only [Bool.and_eq_true, decide_eq_true_eq, Option.some.injEq] at this
  exact this.2
 have hall : D.all (fun p => (rdR p).2.2) = true := by
  have := hF
  unfold formOk at this
  rw [List.dropLast_concat] at this
  simp only [Bool.and_eq_true] at this
  exact this.1
 have hD1 : D.length ≤ 1000 := by
  have h1 := nl_long D hall
  rw [← hFs] at h1
  omega
 subst hq
 obtain rfl : b = false := by simpa using hb
 ((conv => whnf); (repeat ((first | (apply VStop.mk; (first | (refine ot_slice_hi (hi := D.length) tk rfl rfl rfl rfl rfl rfl rfl rfl (by omega) (by omega) ?_) | (refine ot_strn (m := []) _ hb rfl rfl rfl rfl rfl ?_)); apply ot_v tk) | (apply VLd.mk; first | exact cl hgl2 (by (repeat (first | exact List.Mem.head _ | assumption | refine List.Mem.tail _ ?_))) | exact cl hgl (by (repeat (first | exact List.Mem.head _ | assumption | refine List.Mem.tail _ ?_)))) | (apply VRng.mk; omega) | apply VBr.f | (apply VNew.mk; intro g hg) | (apply v_ixn; omega)); (conv => whnf))); apply VStop.mk)
 revert g hg
 intro g6 hg6
 refine tr_own_nil 61 5 ?_
 refine v_loop (fun gm ds ts A => ds = [] ∧ ∃ (i : Nat) (By : Option Addr) (cy : Nat), i + gm = D.length ∧ (D.take i).all (fun p => (rdR p).2.2) = true ∧ A = [.own (.slice By i cy) 61 5 i (lnC (linesR (D.take i))), .blk g6 24 [.slice By i cy], .blk g2 24 [.slice none 0 0], .own (.slice (some ⟨bx, 0, none⟩) (D.length + 1) cx) 9 1 (D.length + 1) XS] ∧ ts = [(0, .string (bs s)), (2, .pointer (some ⟨g2, 0, none⟩)), (6, .pointer (some ⟨g6, 0, none⟩)), (29, .slice (some ⟨bx, 0, none⟩) D.length cx), (30, .int .i64 (D.length : Int)), (31, .int .i64 (i : Int))]) D.length (l := [(0, _), (2, _), (6, _), (29, _), (30, _), (31, _)]) (B := _) ?_ (List.Sublist.refl _) ⟨rfl, 0, none, 0, by omega, rfl, rfl, rfl⟩ ?_
 ·exact ⟨rfl, rfl, rfl, rfl, rfl, rfl, trivial⟩
 rintro gm ds ts A ⟨rfl, i, By, cy, hi, hok, rfl, rfl⟩
 by_cases hlt : i < D.length
 ·have hcell := hcell i hlt
  have hst := linesR_step hlt
  have kr := fun w1 h1 h2 => read_any D[i] w1 h1 h2 (hpl _ (List.getElem_mem hlt))
  have hnext : (rdR D[i]).2.2 = true → (D.take (i + 1)).all (fun p => (rdR p).2.2) = true := fun h => by
   rw [List.take_succ_eq_append_getElem hlt, List.all_append, hok, List.all_cons, h]; rfl
  have hyes : (rdR D[i]).2.2 = true → rd1 D[i] = (rdR D[i]).1 := fun h => by unfold rd1; rw [if_pos h]
  have hel : (rdR D[i]).2.2 = true ∨ (rdR D[i]).2.2 = false := by cases (rdR D[i]).2.2 <;> simp
  rcases hel with hok1 | hno1
  ·have e2 : lnC (linesR (D.take (i + 1))) = lnC (linesR (D.take i)) ++ lnL (rdR D[i]).1 := by rw [hst]; exact lnC_snoc _ _
   have hy1 := hyes hok1
   rw [hy1, hok1] at kr
   have hnx := hnext hok1
   clear hnext hyes
   unfold lnV at kr
   unfold lnL at e2
   generalize (rdR D[i]).1 = y at *
   generalize D[i] = p at *
   (apply tr_v tk; (conv => whnf); (repeat ((first | ((first | apply VStop.mk | apply VCall.stop); (refine ot_appendS (sz := 5) (sl := i) (A'v := fun v' => _ :: _ :: .own v' 61 5 (i + 1) (lnC (linesR (D.take i)) ++ [.int .i64 y.st, .int .i64 y.ck, .int .i64 y.kd, .int .i64 y.th, .int .i64 y.vl]) :: _) tk rfl rfl rfl rfl rfl rfl rfl rfl rfl rfl (by decide) rfl (cells_blk_all (.head _)) rfl rfl (fun v' => .there (.there .here)) (by omega) (by decide) (fun B3 c3 => ?_)); apply ot_v tk) | (apply VLdN.mk; exact ldn_blk; exact rfl) | (apply VLd.mk; exact cl hcell (by (repeat (first | exact List.Mem.head _ | assumption | refine List.Mem.tail _ ?_)))) | (apply VIx.mk (j := i); exact rfl; omega) | (apply VCall.q; kernel_rfl; (focus (intro w1 hs; first | with_reducible apply kr w1 (hE.st hs) (hM.st hs)))) | (apply VLd.mk; (focus ((repeat (first | ((with_reducible apply ld_blk); exact rfl) | (with_reducible apply ld_skip))); done))) | (apply VRng.mk; omega) | apply VBr.t | apply VBr.f | (apply v_t; omega) | (apply VNew.mk; intro g hg) | (apply VSt.mk; (focus ((repeat (first | (with_reducible exact At.here) | (with_reducible apply At.there))); done)); exact rfl)); (conv => whnf))))
   exact v_rnd (gm - 1) (by omega) (l := [(0, _), (2, _), (6, _), (29, _), (30, _), (31, _)]) (B := _) ⟨rfl, rfl, rfl, rfl, rfl, rfl, trivial⟩ (.cons _ (.cons _ (List.Sublist.refl _))) ⟨rfl, i + 1, B3, c3, by omega, hnx, by rw [e2], rfl⟩
  ·exfalso
   have := List.all_eq_true.1 hall D[i] (List.getElem_mem hlt)
   rw [hno1] at this
   cases this
 obtain rfl : i = D.length := by omega
 rw [List.take_length] at hok ⊢
 have hLl := linesR_len D
 have hsm := linesR_sm D
 generalize linesR D = L at *
 have kf := fun {A : List Chunk} {w1 : World} (hs : St w A w1) (hA : Chunk.own (.slice By D.length cy) 61 5 D.length (lnC L) ∈ A) => file74_any By cy L w1 (by unfold BookR; rw [hLl]; exact hs.own_rd hA) hsm (by omega) (hE.st hs).t10
 have kc := fun {A : List Chunk} {w1 : World} (hs : St w A w1) (hA : Chunk.own (.slice By D.length cy) 61 5 D.length (lnC L) ∈ A) => checkBook_any By cy L w1 (by unfold BookR; rw [hLl]; exact hs.own_rd hA) (by rw [hLl]; unfold maxLen; omega)
 rw [hLl] at kf kc
 have hn : decide ((fileF L).2 = s) = !false := decide_eq_true hS
 have hcv := chkBook_vals L
 generalize chkBook L = z at *
 (apply tr_v tk; (conv => whnf); (repeat ((first | ((first | apply VStop.mk | apply VCall.stop); (refine ot_strn _ hn rfl rfl rfl rfl rfl ?_); apply ot_v tk) | (apply VCall.q; kernel_rfl; (focus (intro w1 hs; first | ((with_reducible apply kf hs); (repeat (first | exact List.Mem.head _ | assumption | refine List.Mem.tail _ ?_))) | ((with_reducible apply kc hs); (repeat (first | exact List.Mem.head _ | assumption | refine List.Mem.tail _ ?_)))))) | (apply VLd.mk; (focus ((repeat (first | ((with_reducible apply ld_blk); exact rfl) | (with_reducible apply ld_skip))); done))) | (apply VLdN.mk; (focus ((repeat (first | (with_reducible apply ldn_blk) | (with_reducible apply ldn_skip))); done)); exact rfl) | apply VBr.t | apply VBr.f | (apply v_t; omega) | (apply v_f; omega) | (apply VSt.mk; (focus ((repeat (first | (with_reducible exact At.here) | (with_reducible apply At.there))); done)); exact rfl)); (conv => whnf))))
 (apply VRet.mk)
 refine ret2 (by first | exact .inl rfl | exact .inr rfl) rfl (by exact rv_row tk rfl rfl rfl (by first | exact cells_blk_all (by (repeat (first | exact List.Mem.head _ | assumption | refine List.Mem.tail _ ?_))) | exact cells_row0 (by (repeat (first | exact List.Mem.head _ | assumption | refine List.Mem.tail _ ?_)))) rfl) (by exact rv_tmp rfl) ?_
 exact fun w h => ⟨rfl, h.base⟩
set_option maxHeartbeats 2000000 in
set_option maxRecDepth 20000 in
theorem load_ok (s : List UInt8) (w : World) (hs2 : s.length ≤ 2000) (hE : LayE w) (hM : MaxL w) (hF : formOk (spl 10 [] s) = true) (hS : (fileF (linesR (spl 10 [] s).dropLast)).2 = s) (hC : chkBook (linesR (spl 10 [] s).dropLast) = 0) : Calls Tryz.prog 40 #[.string (bs s)] w fun e w' => ∃ x : SlX, e = .returned (.tuple #[.agg #[.slice x.1 (linesR (spl 10 [] s).dropLast).length x.2], .int .i64 0]) ∧ True ∧ St w ([] ++ [.own (.slice x.1 (linesR (spl 10 [] s).dropLast).length x.2) 61 5 (linesR (spl 10 [] s).dropLast).length (lnC (linesR (spl 10 [] s).dropLast))]) w' := by
 have kw : ∀ w1, MaxL w1 → Calls Tryz.prog 75 #[.string (bs s), .string (bs [10])] w1 _ := fun w1 h => split75_any 10 s w1 h (by omega)
 rw [show (10 : UInt8).toNat = 10 from rfl] at kw
 have hPl := spl_len 10 s []
 have hpw := fun p => spl_sub 10 s [] p
 have hne := spl_ne 10 s []
 obtain ⟨D, q, hP⟩ : ∃ D q, spl 10 [] s = D ++ [q] := ⟨_, _, (List.dropLast_concat_getLast hne).symm⟩
 have hDl : (spl 10 [] s).dropLast = D := by rw [hP, List.dropLast_concat]
 have hFs := (form_file hF).2.1
 rw [hDl] at hS hC hFs ⊢
 clear hDl hne
 generalize spl 10 [] s = P at *
 subst hP
 have hDN : D.length ≤ 2000 := by simp at hPl; omega
 have hlen : (D ++ [q]).length = D.length + 1 := by simp
 have hst : strs (D ++ [q]) = strs D ++ [.string (bs q)] := strs_snoc D q
 have hgl : (strs D ++ [Value.string (bs q)])[D.length]? = some (.string (bs q)) := by rw [← strs_length D, List.getElem?_concat_length]
 rw [hlen, hst] at kw
 have hpl : ∀ p ∈ D, p.length ≤ 10000 := fun p hp => by have := hpw p (by simp [hp]); simp at this; omega
 have hcell : ∀ i (h : i < D.length), (strs D ++ [Value.string (bs q)])[i]? = some (.string (bs D[i])) := fun i h => by
  rw [List.getElem?_append_left (by rw [strs_length]; exact h)]
  unfold strs
  rw [List.getElem?_map, List.getElem?_eq_getElem h]; rfl
 clear hPl hpw hst hlen
 generalize strs D ++ [Value.string (bs q)] = XS at *
 have hgl2 : XS[(((D.length + 1 : Nat) : Int) - 1).toNat]? = some (.string (bs q)) := by rw [show (((D.length + 1 : Nat) : Int) - 1).toNat = D.length by omega]; exact hgl
 refine fn_v tk (n := 63) (A := []) Tryz.func40 rfl rfl (Nat.le_of_ble_eq_true rfl) (St.nil (Below.refl _ _)) ?_
 ((conv => whnf); (repeat ((first | ((first | apply VStop.mk | apply VCall.stop); (refine ot_slen Tryz.underlying9 rfl rfl rfl rfl ?_); apply ot_v tk) | apply VBr.f | (apply v_f; omega) | (apply VNew.mk; intro g hg)); (conv => whnf))); apply VCall.stop)
 revert g hg
 intro g2 hg2
 refine ot_callT (X := SlX) (us := []) (vs := []) (fun x => .slice x.1 (D.length + 1) x.2) (fun x => []) (fun x => [.own (.slice x.1 (D.length + 1) x.2) 9 1 (D.length + 1) XS]) _ (fun x c hc => one_mut hc) (by decide) rfl rfl rfl rfl (by kernel_rfl) (evl_of rfl) rfl (fun w1 hs => kw w1 (hM.st hs)) ?_
 rintro ⟨Bx, cx⟩ _
 dsimp only [List.cons_append, List.nil_append]
 refine ot_own_cap (B := Bx) (m := D.length + 1) (cc := cx) (te := 9) (sz := 1) (xs := XS) (by (repeat (first | exact List.Mem.head _ | assumption | refine List.Mem.tail _ ?_))) (by omega) rfl ?_
 rintro bx rfl hcx
 have cl : ∀ {A : List Chunk} {j : Nat} {v : Value}, XS[j]? = some v → Chunk.own (.slice (some ⟨bx, 0, none⟩) (D.length + 1) cx) 9 1 (D.length + 1) XS ∈ A → CellAt w A bx (0 + j * 1) v := fun hv h => by rw [Nat.zero_add, Nat.mul_one]; exact cell_own h hv
 apply ot_v tk
 obtain ⟨b, hb⟩ : ∃ b, decide (q = []) = !b := ⟨!decide (q = []), by simp⟩
 have hq : q = [] := by
  have := hF
  unfold formOk at this
  rw [List.getLast?_concat] at this
  simp only [Bool.and_eq_true, decide_eq_true_eq, Option.some.injEq] at this
  exact this.2
 have hall : D.all (fun p => (rdR p).2.2) = true := by
  have := hF
  unfold formOk at this
  rw [List.dropLast_concat] at this
  simp only [Bool.and_eq_true] at this
  exact this.1
 have hD1 : D.length ≤ 1000 := by
  have h1 := nl_long D hall
  rw [← hFs] at h1
  omega
 subst hq
 obtain rfl : b = false := by simpa using hb
 ((conv => whnf); (repeat ((first | (apply VStop.mk; (first | (refine ot_slice_hi (hi := D.length) tk rfl rfl rfl rfl rfl rfl rfl rfl (by omega) (by omega) ?_) | (refine ot_strn (m := []) _ hb rfl rfl rfl rfl rfl ?_)); apply ot_v tk) | (apply VLd.mk; first | exact cl hgl2 (by (repeat (first | exact List.Mem.head _ | assumption | refine List.Mem.tail _ ?_))) | exact cl hgl (by (repeat (first | exact List.Mem.head _ | assumption | refine List.Mem.tail _ ?_)))) | (apply VRng.mk; omega) | apply VBr.f | (apply VNew.mk; intro g hg) | (apply v_ixn; omega)); (conv => whnf))); apply VStop.mk)
 revert g hg
 intro g6 hg6
 refine tr_own_nil 61 5 ?_
 refine v_loop (fun gm ds ts A => ds = [] ∧ ∃ (i : Nat) (By : Option Addr) (cy : Nat), i + gm = D.length ∧ (D.take i).all (fun p => (rdR p).2.2) = true ∧ A = [.own (.slice By i cy) 61 5 i (lnC (linesR (D.take i))), .blk g6 24 [.slice By i cy], .blk g2 24 [.slice none 0 0], .own (.slice (some ⟨bx, 0, none⟩) (D.length + 1) cx) 9 1 (D.length + 1) XS] ∧ ts = [(0, .string (bs s)), (2, .pointer (some ⟨g2, 0, none⟩)), (6, .pointer (some ⟨g6, 0, none⟩)), (29, .slice (some ⟨bx, 0, none⟩) D.length cx), (30, .int .i64 (D.length : Int)), (31, .int .i64 (i : Int))]) D.length (l := [(0, _), (2, _), (6, _), (29, _), (30, _), (31, _)]) (B := _) ?_ (List.Sublist.refl _) ⟨rfl, 0, none, 0, by omega, rfl, rfl, rfl⟩ ?_
 ·exact ⟨rfl, rfl, rfl, rfl, rfl, rfl, trivial⟩
 rintro gm ds ts A ⟨rfl, i, By, cy, hi, hok, rfl, rfl⟩
 by_cases hlt : i < D.length
 ·have hcell := hcell i hlt
  have hst := linesR_step hlt
  have kr := fun w1 h1 h2 => read_any D[i] w1 h1 h2 (hpl _ (List.getElem_mem hlt))
  have hnext : (rdR D[i]).2.2 = true → (D.take (i + 1)).all (fun p => (rdR p).2.2) = true := fun h => by
   rw [List.take_succ_eq_append_getElem hlt, List.all_append, hok, List.all_cons, h]; rfl
  have hyes : (rdR D[i]).2.2 = true → rd1 D[i] = (rdR D[i]).1 := fun h => by unfold rd1; rw [if_pos h]
  have hel : (rdR D[i]).2.2 = true ∨ (rdR D[i]).2.2 = false := by cases (rdR D[i]).2.2 <;> simp
  rcases hel with hok1 | hno1
  ·have e2 : lnC (linesR (D.take (i + 1))) = lnC (linesR (D.take i)) ++ lnL (rdR D[i]).1 := by rw [hst]; exact lnC_snoc _ _
   have hy1 := hyes hok1
   rw [hy1, hok1] at kr
   have hnx := hnext hok1
   clear hnext hyes
   unfold lnV at kr
   unfold lnL at e2
   generalize (rdR D[i]).1 = y at *
   generalize D[i] = p at *
   (apply tr_v tk; (conv => whnf); (repeat ((first | ((first | apply VStop.mk | apply VCall.stop); (refine ot_appendS (sz := 5) (sl := i) (A'v := fun v' => _ :: _ :: .own v' 61 5 (i + 1) (lnC (linesR (D.take i)) ++ [.int .i64 y.st, .int .i64 y.ck, .int .i64 y.kd, .int .i64 y.th, .int .i64 y.vl]) :: _) tk rfl rfl rfl rfl rfl rfl rfl rfl rfl rfl (by decide) rfl (cells_blk_all (.head _)) rfl rfl (fun v' => .there (.there .here)) (by omega) (by decide) (fun B3 c3 => ?_)); apply ot_v tk) | (apply VLdN.mk; exact ldn_blk; exact rfl) | (apply VLd.mk; exact cl hcell (by (repeat (first | exact List.Mem.head _ | assumption | refine List.Mem.tail _ ?_)))) | (apply VIx.mk (j := i); exact rfl; omega) | (apply VCall.q; kernel_rfl; (focus (intro w1 hs; first | with_reducible apply kr w1 (hE.st hs) (hM.st hs)))) | (apply VLd.mk; (focus ((repeat (first | ((with_reducible apply ld_blk); exact rfl) | (with_reducible apply ld_skip))); done))) | (apply VRng.mk; omega) | apply VBr.t | apply VBr.f | (apply v_t; omega) | (apply VNew.mk; intro g hg) | (apply VSt.mk; (focus ((repeat (first | (with_reducible exact At.here) | (with_reducible apply At.there))); done)); exact rfl)); (conv => whnf))))
   exact v_rnd (gm - 1) (by omega) (l := [(0, _), (2, _), (6, _), (29, _), (30, _), (31, _)]) (B := _) ⟨rfl, rfl, rfl, rfl, rfl, rfl, trivial⟩ (.cons _ (.cons _ (List.Sublist.refl _))) ⟨rfl, i + 1, B3, c3, by omega, hnx, by rw [e2], rfl⟩
  ·exfalso
   have := List.all_eq_true.1 hall D[i] (List.getElem_mem hlt)
   rw [hno1] at this
   cases this
 obtain rfl : i = D.length := by omega
 rw [List.take_length] at hok ⊢
 have hLl := linesR_len D
 have hsm := linesR_sm D
 generalize linesR D = L at *
 have kf := fun {A : List Chunk} {w1 : World} (hs : St w A w1) (hA : Chunk.own (.slice By D.length cy) 61 5 D.length (lnC L) ∈ A) => file74_any By cy L w1 (by unfold BookR; rw [hLl]; exact hs.own_rd hA) hsm (by omega) (hE.st hs).t10
 have kc := fun {A : List Chunk} {w1 : World} (hs : St w A w1) (hA : Chunk.own (.slice By D.length cy) 61 5 D.length (lnC L) ∈ A) => checkBook_any By cy L w1 (by unfold BookR; rw [hLl]; exact hs.own_rd hA) (by rw [hLl]; unfold maxLen; omega)
 rw [hLl] at kf kc
 rw [hC] at kc
 have hn : decide ((fileF L).2 = s) = !false := decide_eq_true hS
 (apply tr_v tk; (conv => whnf); (repeat ((first | ((first | apply VStop.mk | apply VCall.stop); (refine ot_strn _ hn rfl rfl rfl rfl rfl ?_); apply ot_v tk) | (apply VCall.q; kernel_rfl; (focus (intro w1 hs; first | ((with_reducible apply kf hs); (repeat (first | exact List.Mem.head _ | assumption | refine List.Mem.tail _ ?_))) | ((with_reducible apply kc hs); (repeat (first | exact List.Mem.head _ | assumption | refine List.Mem.tail _ ?_)))))) | (apply VLd.mk; (focus ((repeat (first | ((with_reducible apply ld_blk); exact rfl) | (with_reducible apply ld_skip))); done))) | (apply VLdN.mk; (focus ((repeat (first | (with_reducible apply ldn_blk) | (with_reducible apply ldn_skip))); done)); exact rfl) | apply VBr.f | (apply v_f; omega) | (apply VSt.mk; (focus ((repeat (first | (with_reducible exact At.here) | (with_reducible apply At.there))); done)); exact rfl)); (conv => whnf))))
 (apply VRet.mk)
 refine ret2 (by first | exact .inl rfl | exact .inr rfl) rfl (by exact rv_row tk rfl rfl rfl (by first | exact cells_blk_all (by (repeat (first | exact List.Mem.head _ | assumption | refine List.Mem.tail _ ?_))) | exact cells_row0 (by (repeat (first | exact List.Mem.head _ | assumption | refine List.Mem.tail _ ?_)))) rfl) (by exact rv_tmp rfl) ?_
 rw [hLl]
 exact fun w hs => ⟨(By, cy), rfl, trivial, hs.sub (List.singleton_sublist.2 (by (repeat (first | exact List.Mem.head _ | assumption | refine List.Mem.tail _ ?_))))⟩
end Go.Proofs.YtojeeindlijgkaaGreatDoor
