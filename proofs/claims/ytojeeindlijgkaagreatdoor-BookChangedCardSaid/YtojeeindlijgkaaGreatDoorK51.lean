/- One byte of a file, or two: lemmas for the rows of this seat. No conditions. -/
import Derived.Laws.StructEq
import Derived.Laws.IdiomStrings
import Derived.Laws.Strings2
import Derived.Laws.Strings3
import Derived.Test.YtojeeindlijgkaaGreatDoorK50
set_option linter.all false
namespace Go.Proofs.YtojeeindlijgkaaGreatDoor
open Go.RowKit
/-! ## One byte of a file, or two -/
section
variable {P : Program} {w0 : World} {n : Nat} {ds : List Deferred} {ops : List Oper} {o : Oper} {os : List Oper} {ks : List Kind} {ts : TS} {A : List Chunk} {K : TS → List Chunk → Prop} {d : Tmp} {x y z : Operand} {t u : TypeId}
theorem ot_sfromP {l : List UInt8} {i : Nat} {k : IntKind} {p : Int} (hp : p = (i : Int)) (hi : i ≤ l.length) (ht : P.underlying t = some .string) (hop : o.op = .slice t x (some y) none none) (hd : o.dst = some d) (hw : wantB ops ts o = some true) (hx : evT ts x = some (.string (bs l))) (hy : evT ts y = some (.int k p))
  (hk : OT P w0 n ds ops os ks.tail ((d, .string (bs (l.drop i))) :: ts) A K) : OT P w0 n ds ops (o :: os) ks ts A K := by
 subst hp; exact ot_sfrom hi ht hop hd hw hx hy hk
theorem ot_sslP {l : List UInt8} {i j : Nat} {k k' : IntKind} {p q : Int} (hp : p = (i : Int)) (hq : q = (j : Int)) (hi : i ≤ j) (hj : j ≤ l.length) (ht : P.underlying t = some .string) (hop : o.op = .slice t x (some y) (some z) none) (hd : o.dst = some d) (hw : wantB ops ts o = some true) (hx : evT ts x = some (.string (bs l))) (hy : evT ts y = some (.int k p)) (hz : evT ts z = some (.int k' q))
  (hk : OT P w0 n ds ops os ks.tail ((d, .string (bs ((l.drop i).take (j - i)))) :: ts) A K) : OT P w0 n ds ops (o :: os) ks ts A K := by
 subst hp; subst hq; exact ot_sslice hi hj ht hop hd hw hx hy hz hk
/-- A string out of bytes. -/
theorem ot_bytesS {g c : Nat} {e : TypeId} {l : List UInt8} (ht : P.underlying t = some (.slice e)) (he : P.underlying e = some (.int .u8)) (hu : P.underlying u = some .string) (hop : o.op = .convert t u x) (hd : o.dst = some d) (hw : wantB ops ts o = some true) (hx : evT ts x = some (.slice (some ⟨g, 0, none⟩) l.length c))
  (hc : ∀ j v, (byV l)[j]? = some v → CellAt w0 A g j v) (hk : OT P w0 n ds ops os ks.tail ((d, .string (bs l)) :: ts) A K) : OT P w0 n ds ops (o :: os) ks ts A K :=
 ot_val _ hd hw (fun a w hh => by
  have h1 := run_convert_bytes_back w t u e ⟨g, 0, none⟩ c l ht he hu (fun j hj => by rw [Addr.add_none, Nat.zero_add]; exact hc j _ (by unfold byV; rw [List.getElem?_map, List.getElem?_eq_getElem hj]; rfl) w hh.st)
  simp only [execOp, hop, hh.ev hx, h1, Sem.run_bind, Result.andThen_ok, Sem.run_pure]
  rfl) hk
end
theorem near_loaR {l : List Ln} (h : Valid l) {t : List UInt8} (hN : Near (fileF l).2 t) : (loaR t).2 = 8 ∨ (loaR t).2 = 14 := by
 have hl := hN.len
 have hf := h.file_len
 unfold loaR
 rw [if_neg (by omega)]
 by_cases hF : formOk (spl 10 [] t) = false
 ·rw [if_pos hF]; exact .inl rfl
 ·rw [if_neg hF]
  have hF : formOk (spl 10 [] t) = true := by simpa using hF
  have := near_load h hN hF
  rw [if_pos (show (fileF (linesR (spl 10 [] t).dropLast)).2 ≠ t from fun e => this ((file_same hF).1 e))]
  exact .inr rfl
def oneT (T : List UInt8) (i : Nat) (b : UInt8) : List UInt8 := T.take i ++ [b] ++ T.drop (i + 1)
def twoT (T : List UInt8) (i : Nat) : List UInt8 := T.take i ++ (T.drop (i + 1)).take 1 ++ (T.drop i).take 1 ++ T.drop (i + 2)
theorem one_near {T : List UInt8} {i : Nat} (hi : i < T.length) {b : UInt8} (h : oneT T i b ≠ T) : Near T (oneT T i b) := by
 have e : T = T.take i ++ T[i] :: T.drop (i + 1) := by rw [← List.drop_eq_getElem_cons hi, List.take_append_drop]
 have e2 : oneT T i b = T.take i ++ b :: T.drop (i + 1) := by unfold oneT; simp
 have hne : T[i] ≠ b := fun hb => h (by rw [e2, ← hb]; exact e.symm)
 rw [e2]
 generalize T.take i = U at *
 generalize T.drop (i + 1) = V at *
 generalize T[i] = a at *
 rw [e]
 exact .one U V a b hne
theorem two_near {T : List UInt8} {i : Nat} (hi : i + 1 < T.length) (h : twoT T i ≠ T) : Near T (twoT T i) := by
 have e1 : T.drop i = T[i] :: T.drop (i + 1) := List.drop_eq_getElem_cons (by omega)
 have e0 : T.drop (i + 1) = T[i + 1] :: T.drop (i + 2) := List.drop_eq_getElem_cons hi
 have e : T = T.take i ++ T[i] :: T[i + 1] :: T.drop (i + 2) := by rw [← e0, ← e1, List.take_append_drop]
 have e2 : twoT T i = T.take i ++ T[i + 1] :: T[i] :: T.drop (i + 2) := by
  have f1 : (T.drop (i + 1)).take 1 = [T[i + 1]] := by rw [e0]; rfl
  have f2 : (T.drop i).take 1 = [T[i]] := by rw [e1]; rfl
  unfold twoT
  rw [f1, f2]
  simp
 have hne : T[i] ≠ T[i + 1] := fun hb => h (by rw [e2]; conv => rhs; rw [e]
                                               rw [hb])
 rw [e2]
 generalize T.take i = U at *
 generalize T.drop (i + 2) = V at *
 generalize T[i] = a at *
 generalize T[i + 1] = c at *
 rw [e]
 exact .two U V a c hne
theorem file_pos {l : List Ln} (h : 0 < l.length) : 0 < (fileF l).2.length := by
 match l, h with
 | x :: l, _ =>
  rw [fileF_eq, outs, outT]
  simp only [List.length_append, List.length_cons, List.length_nil]
  omega
theorem tmod_nat2 (a b : Nat) : Int.tmod (a : Int) (b : Int) = ((a % b : Nat) : Int) := (Int.ofNat_tmod a b).symm
theorem len_one {T : List UInt8} {i : Nat} (hi : i < T.length) (b : UInt8) : (oneT T i b).length = T.length := by unfold oneT; simp; omega
theorem len_two {T : List UInt8} {i : Nat} (hi : i + 1 < T.length) : (twoT T i).length = T.length := by unfold twoT; simp; omega
/-! ## BookChanged -/
set_option maxHeartbeats 4000000 in
set_option maxRecDepth 20000 in
theorem law12_any (A1 : Option Addr) (a1 : Nat) (l1 : List Ln) (p b : Nat) (hp : p < 65536) (hb : b < 256) (w : World) (h1 : BookR w A1 l1) (hm1 : l1.length ≤ maxLen) (hE : LayE w) (hM : MaxL w) :
  Calls Tryz.prog 12 #[.agg #[.slice A1 l1.length a1], .int .u16 (p : Int), .int .u8 (b : Int)] w fun e w' => e = .returned (.bool true) ∧ Below w.heap.size w w' := by
 have kw := fun w1 h1 h2 => works_any w1 h1 h2
 have g1 := fun w1 h => fine_any A1 a1 l1 w1 h hm1
 by_cases hg1 : chkBook l1 = 0
 rotate_left
 ·rw [decide_eq_false hg1] at g1
  refine fn_v tk (n := 113) (A := []) Tryz.func12 rfl rfl (Nat.le_of_ble_eq_true rfl) (St.nil (Below.refl _ _)) ?_
  ((conv => whnf); (repeat ((first | (apply VCall.q; kernel_rfl; (focus (intro w1 hs; first | with_reducible apply g1 w1 (hs.book h1) | with_reducible apply kw w1 (hE.st hs) (hM.st hs)))) | (apply VLdN.mk; (focus ((repeat (first | (with_reducible apply ldn_blk) | (with_reducible apply ldn_skip))); done)); exact rfl) | apply VBr.t | (apply VNew.mk; intro g hg)); (conv => whnf))))
  ((apply VRet.mk); refine ret1 (by first | exact .inl rfl | exact .inr rfl) rfl (by exact rv_tmp rfl) ?_; exact fun w h => ⟨rfl, h.base⟩)
 rw [decide_eq_true hg1] at g1
 by_cases h0 : l1.length = 0
 ·refine fn_v tk (n := 113) (A := []) Tryz.func12 rfl rfl (Nat.le_of_ble_eq_true rfl) (St.nil (Below.refl _ _)) ?_
  ((conv => whnf); (repeat ((first | (apply VCall.q; kernel_rfl; (focus (intro w1 hs; first | with_reducible apply g1 w1 (hs.book h1) | with_reducible apply kw w1 (hE.st hs) (hM.st hs)))) | (apply VLd.mk; (focus ((repeat (first | ((with_reducible apply ld_blk); exact rfl) | (with_reducible apply ld_skip))); done))) | (apply VLdN.mk; (focus ((repeat (first | (with_reducible apply ldn_blk) | (with_reducible apply ldn_skip))); done)); exact rfl) | apply VBr.t | apply VBr.f | (apply v_t; omega) | (apply VNew.mk; intro g hg)); (conv => whnf))))
  ((apply VRet.mk); refine ret1 (by first | exact .inl rfl | exact .inr rfl) rfl (by exact rv_tmp rfl) ?_; exact fun w h => ⟨rfl, h.base⟩)
 have v1 := chk_valid.1 hg1
 have hl1 := v1.len
 have k1 := fun w1 h hT => file_ok A1 a1 l1 w1 h v1 hT
 have k2 := fun w1 h hT => fileOf_any A1 a1 l1 w1 h v1.sm (by omega) hT
 have hT := v1.file_len
 have hT0 := file_pos (l := l1) (by omega)
 have nl := fun {t : List UInt8} (hN : Near (fileF l1).2 t) => near_loaR v1 hN
 generalize (fileF l1).2 = T at *
 have hi : p % T.length < T.length := Nat.mod_lt _ hT0
 have hrem := tmod_nat2 p T.length
 generalize p % T.length = i at *
 obtain ⟨u, hu, hub⟩ : ∃ u : UInt8, (b : Int) = (u.toNat : Int) ∧ True := ⟨UInt8.ofNat b, by rw [UInt8.toNat_ofNat_of_lt' hb], trivial⟩
 have n1 := fun (h : oneT T i u ≠ T) => nl (one_near hi h)
 have n2 := fun (h2 : i + 1 < T.length) (h : twoT T i ≠ T) => nl (two_near h2 h)
 have z1 := loaR_len (oneT T i u)
 have z2 := loaR_len (twoT T i)
 have m1 := len_one hi u
 have m2 := fun (h2 : i + 1 < T.length) => len_two h2
 have k3 := fun w1 hE hM => load_all (oneT T i u) w1 hE hM
 have k4 := fun w1 hE hM => load_all (twoT T i) w1 hE hM
 have e1 : oneT T i u = T.take i ++ [u] ++ T.drop (i + 1) := rfl
 have e2 : twoT T i = T.take i ++ (T.drop (i + 1)).take ((i + 2) - (i + 1)) ++ (T.drop i).take ((i + 1) - i) ++ T.drop (i + 2) := by
  unfold twoT
  rw [show i + 2 - (i + 1) = 1 by omega, show i + 1 - i = 1 by omega]
 have d0 : decide (T = T) = !false := decide_eq_true rfl
 generalize oneT T i u = O at *
 generalize twoT T i = Q at *
 generalize loaR O = R1 at *
 generalize loaR Q = R2 at *
 obtain ⟨L1, y1⟩ := R1
 obtain ⟨L2, y2⟩ := R2
 dsimp only at n1 n2 z1 z2
 refine fn_v tk (n := 113) (A := []) Tryz.func12 rfl rfl (Nat.le_of_ble_eq_true rfl) (St.nil (Below.refl _ _)) ?_
 ((conv => whnf); (repeat ((first | ((first | apply VStop.mk | apply VCall.stop); (first | refine tr_region_draw (id := 7) (by kernel_rfl) [0, 1, 2, 3, 7, 8, 9, 10, 4, 5, 6, 11, 12] [.rd, .rd, .rd, .rd, .rd, .rd, .rd, .rd, .cr, .rd, .rd, .rd, .rd] rfl (by kernel_rfl) ?_ | (refine ot_slen Tryz.underlying9 rfl rfl rfl rfl ?_) | (refine ot_strn _ d0 rfl rfl rfl rfl rfl ?_)); apply ot_v tk) | (apply VCall.q; kernel_rfl; (focus (intro w1 hs; first | with_reducible apply g1 w1 (hs.book h1) | with_reducible apply k1 w1 (hs.book h1) (hE.st hs).t10 | with_reducible apply k2 w1 (hs.book h1) (hE.st hs).t10))) | (apply VLd.mk; (focus ((repeat (first | ((with_reducible apply ld_blk); exact rfl) | (with_reducible apply ld_skip))); done))) | (apply VLdN.mk; (focus ((repeat (first | (with_reducible apply ldn_blk) | (with_reducible apply ldn_skip))); done)); exact rfl) | apply VBr.f | (apply v_f; omega) | (apply VNew.mk; intro g hg) | (apply v_wr64; omega) | (apply VNz.mk; omega)); (conv => whnf))); apply VStop.mk)
 rw [hrem, hu]
 (apply ot_v tk; (conv => whnf); (repeat ((first | (apply VStop.mk; (first | (refine ot_sto rfl (by omega) Tryz.underlying9 rfl rfl rfl rfl rfl ?_) | (refine ot_sfromP (i := i + 1) (by omega) (by omega) Tryz.underlying9 rfl rfl rfl rfl rfl ?_) | (refine ot_sadd (by simp only [List.length_append, List.length_take, List.length_drop, List.length_cons, List.length_nil]; omega) rfl rfl rfl rfl rfl ?_) | (refine ot_bytesS (g := g) (l := [u]) Tryz.underlying65 Tryz.underlying5 Tryz.underlying9 rfl rfl rfl rfl (fun j v hj => cell_blk (by (repeat (first | exact List.Mem.head _ | assumption | refine List.Mem.tail _ ?_))) hj) ?_)); apply ot_v tk) | (apply VRng.mk; omega) | (apply VNew.mk; intro g hg)); (conv => whnf))); apply VStop.mk)
 rw [← e1]
 by_cases hO : O = T
 ·have dO : decide (O = T) = !false := decide_eq_true hO
  by_cases h2 : i + 1 = T.length
  ·(apply ot_v tk; (conv => whnf); (repeat ((first | ((first | apply VStop.mk | apply VCall.stop); (first | (refine ot_slen Tryz.underlying9 rfl rfl rfl rfl ?_) | (refine ot_strn _ dO rfl rfl rfl rfl rfl ?_)); apply ot_v tk) | (apply VCall.q; kernel_rfl; (focus (intro w1 hs; first | with_reducible apply kw w1 (hE.st hs) (hM.st hs)))) | (apply VRng.mk; omega) | apply VBr.t | apply VBr.f | (apply v_t; omega)); (conv => whnf))))
   ((apply VRet.mk); refine ret1 (by first | exact .inl rfl | exact .inr rfl) rfl (by exact rv_tmp rfl) ?_; exact fun w h => ⟨rfl, h.base⟩)
  have z2l := m2 (by omega)
  (apply ot_v tk; (conv => whnf); (repeat ((first | (apply VStop.mk; (first | refine tr_region_draw (id := 14) (by kernel_rfl) [0, 1, 2, 3, 4, 5, 6, 7, 8, 9, 10, 11, 12, 13, 14, 15, 16, 17, 18, 19, 20, 21] [.rd, .rd, .rd, .rd, .rd, .rd, .rd, .rd, .rd, .rd, .rd, .rd, .rd, .rd, .rd, .rd, .rd, .rd, .rd, .rd, .rd, .rd] rfl (by kernel_rfl) ?_ | (refine ot_slen Tryz.underlying9 rfl rfl rfl rfl ?_) | (refine ot_strn _ dO rfl rfl rfl rfl rfl ?_) | (refine ot_sto rfl (by omega) Tryz.underlying9 rfl rfl rfl rfl rfl ?_) | (refine ot_sslP (i := i + 1) (j := i + 2) (by omega) (by omega) (by omega) (by omega) Tryz.underlying9 rfl rfl rfl rfl rfl rfl ?_) | (refine ot_sslP (i := i) (j := i + 1) (by omega) (by omega) (by omega) (by omega) Tryz.underlying9 rfl rfl rfl rfl rfl rfl ?_) | (refine ot_sfromP (i := i + 2) (by omega) (by omega) Tryz.underlying9 rfl rfl rfl rfl rfl ?_) | (refine ot_sadd (by simp only [List.length_append, List.length_take, List.length_drop, List.length_cons, List.length_nil]; omega) rfl rfl rfl rfl rfl ?_)); apply ot_v tk) | (apply VRng.mk; omega) | apply VBr.f | (apply v_f; omega)); (conv => whnf))); apply VStop.mk)
  rw [← e2]
  by_cases hQ : Q = T
  ·have dQ : decide (Q = T) = true := decide_eq_true hQ
   (apply ot_v tk; (conv => whnf); (repeat ((first | ((first | apply VStop.mk | apply VCall.stop); (refine ot_strq _ dQ rfl rfl rfl rfl rfl ?_); apply ot_v tk) | (apply VCall.q; kernel_rfl; (focus (intro w1 hs; first | with_reducible apply kw w1 (hE.st hs) (hM.st hs)))) | apply VBr.t); (conv => whnf))))
   ((apply VRet.mk); refine ret1 (by first | exact .inl rfl | exact .inr rfl) rfl (by exact rv_tmp rfl) ?_; exact fun w h => ⟨rfl, h.base⟩)
  have dQ : decide (Q = T) = false := decide_eq_false hQ
  have ny := n2 (by omega) hQ
  (apply ot_v tk; (conv => whnf); (repeat ((first | ((first | apply VStop.mk | apply VCall.stop); (refine ot_strq _ dQ rfl rfl rfl rfl rfl ?_); apply ot_v tk) | apply VBr.f); (conv => whnf))); apply VCall.stop)
  refine ot_callT (X := SlX) (us := []) (vs := []) (fun x => .tuple #[.agg #[.slice x.1 L2.length x.2], .int .i64 y2]) (fun x => []) (fun x => [.own (.slice x.1 L2.length x.2) 61 5 L2.length (lnC L2)]) _ (fun x c hc => one_mut hc) (by decide) rfl rfl rfl rfl (by kernel_rfl) (evl_of rfl) rfl (fun w1 hs => k4 w1 (hE.st hs) (hM.st hs)) ?_
  rintro ⟨B2, c2⟩ _
  (dsimp only [List.cons_append, List.nil_append]; apply ot_v tk)
  rcases ny with rfl | rfl
  ·((conv => whnf); (repeat ((first | (apply VCall.q; kernel_rfl; (focus (intro w1 hs; first | with_reducible apply kw w1 (hE.st hs) (hM.st hs)))) | apply VBr.t | (apply v_t; omega)); (conv => whnf))))
   ((apply VRet.mk); refine ret1 (by first | exact .inl rfl | exact .inr rfl) rfl (by exact rv_tmp rfl) ?_; exact fun w h => ⟨rfl, h.base⟩)
  ·((conv => whnf); (repeat ((first | (apply VCall.q; kernel_rfl; (focus (intro w1 hs; first | with_reducible apply kw w1 (hE.st hs) (hM.st hs)))) | apply VBr.t | apply VBr.f | (apply v_t; omega) | (apply v_f; omega)); (conv => whnf))))
   ((apply VRet.mk); refine ret1 (by first | exact .inl rfl | exact .inr rfl) rfl (by exact rv_tmp rfl) ?_; exact fun w h => ⟨rfl, h.base⟩)
 have dO : decide (O = T) = !true := decide_eq_false hO
 have nx := n1 hO
 (apply ot_v tk; (conv => whnf); (repeat ((first | ((first | apply VStop.mk | apply VCall.stop); (refine ot_strn _ dO rfl rfl rfl rfl rfl ?_); apply ot_v tk) | apply VBr.t); (conv => whnf))); apply VCall.stop)
 refine ot_callT (X := SlX) (us := []) (vs := []) (fun x => .tuple #[.agg #[.slice x.1 L1.length x.2], .int .i64 y1]) (fun x => []) (fun x => [.own (.slice x.1 L1.length x.2) 61 5 L1.length (lnC L1)]) _ (fun x c hc => one_mut hc) (by decide) rfl rfl rfl rfl (by kernel_rfl) (evl_of rfl) rfl (fun w1 hs => k3 w1 (hE.st hs) (hM.st hs)) ?_
 rintro ⟨B1, c1⟩ _
 (dsimp only [List.cons_append, List.nil_append]; apply ot_v tk)
 by_cases h2 : i + 1 = T.length
 ·rcases nx with rfl | rfl
  ·((conv => whnf); (repeat ((first | ((first | apply VStop.mk | apply VCall.stop); (refine ot_slen Tryz.underlying9 rfl rfl rfl rfl ?_); apply ot_v tk) | (apply VCall.q; kernel_rfl; (focus (intro w1 hs; first | with_reducible apply kw w1 (hE.st hs) (hM.st hs)))) | (apply VRng.mk; omega) | apply VBr.t | apply VBr.f | (apply v_t; omega) | (apply v_f; omega) | (apply VNew.mk; intro g hg) | (apply VSt.mk; (focus ((repeat (first | (with_reducible exact At.here) | (with_reducible apply At.there))); done)); exact rfl)); (conv => whnf))))
   ((apply VRet.mk); refine ret1 (by first | exact .inl rfl | exact .inr rfl) rfl (by exact rv_tmp rfl) ?_; exact fun w h => ⟨rfl, h.base⟩)
  ·((conv => whnf); (repeat ((first | ((first | apply VStop.mk | apply VCall.stop); (refine ot_slen Tryz.underlying9 rfl rfl rfl rfl ?_); apply ot_v tk) | (apply VCall.q; kernel_rfl; (focus (intro w1 hs; first | with_reducible apply kw w1 (hE.st hs) (hM.st hs)))) | (apply VRng.mk; omega) | apply VBr.t | apply VBr.f | (apply v_t; omega) | (apply v_f; omega) | (apply VNew.mk; intro g hg) | (apply VSt.mk; (focus ((repeat (first | (with_reducible exact At.here) | (with_reducible apply At.there))); done)); exact rfl)); (conv => whnf))))
   ((apply VRet.mk); refine ret1 (by first | exact .inl rfl | exact .inr rfl) rfl (by exact rv_tmp rfl) ?_; exact fun w h => ⟨rfl, h.base⟩)
 have z2l := m2 (by omega)
 rcases nx with rfl | rfl
 all_goals
  ((conv => whnf); (repeat ((first | (apply VStop.mk; (first | refine tr_region_draw (id := 14) (by kernel_rfl) [0, 1, 2, 3, 4, 5, 6, 7, 8, 9, 10, 11, 12, 13, 14, 15, 16, 17, 18, 19, 20, 21] [.rd, .rd, .rd, .rd, .rd, .rd, .rd, .rd, .rd, .rd, .rd, .rd, .rd, .rd, .rd, .rd, .rd, .rd, .rd, .rd, .rd, .rd] rfl (by kernel_rfl) ?_ | (refine ot_slen Tryz.underlying9 rfl rfl rfl rfl ?_) | (refine ot_sto rfl (by omega) Tryz.underlying9 rfl rfl rfl rfl rfl ?_) | (refine ot_sslP (i := i + 1) (j := i + 2) (by omega) (by omega) (by omega) (by omega) Tryz.underlying9 rfl rfl rfl rfl rfl rfl ?_) | (refine ot_sslP (i := i) (j := i + 1) (by omega) (by omega) (by omega) (by omega) Tryz.underlying9 rfl rfl rfl rfl rfl rfl ?_) | (refine ot_sfromP (i := i + 2) (by omega) (by omega) Tryz.underlying9 rfl rfl rfl rfl rfl ?_) | (refine ot_sadd (by simp only [List.length_append, List.length_take, List.length_drop, List.length_cons, List.length_nil]; omega) rfl rfl rfl rfl rfl ?_)); apply ot_v tk) | (apply VRng.mk; omega) | apply VBr.t | apply VBr.f | (apply v_t; omega) | (apply v_f; omega) | (apply VNew.mk; intro g hg) | (apply VSt.mk; (focus ((repeat (first | (with_reducible exact At.here) | (with_reducible apply At.there))); done)); exact rfl)); (conv => whnf))); apply VStop.mk)
  rw [← e2]
  by_cases hQ : Q = T
  ·have dQ : decide (Q = T) = true := decide_eq_true hQ
   (apply ot_v tk; (conv => whnf); (repeat ((first | ((first | apply VStop.mk | apply VCall.stop); (refine ot_strq _ dQ rfl rfl rfl rfl rfl ?_); apply ot_v tk) | (apply VCall.q; kernel_rfl; (focus (intro w1 hs; first | with_reducible apply kw w1 (hE.st hs) (hM.st hs)))) | apply VBr.t); (conv => whnf))))
   ((apply VRet.mk); refine ret1 (by first | exact .inl rfl | exact .inr rfl) rfl (by exact rv_tmp rfl) ?_; exact fun w h => ⟨rfl, h.base⟩)
  have dQ : decide (Q = T) = false := decide_eq_false hQ
  have ny := n2 (by omega) hQ
  (apply ot_v tk; (conv => whnf); (repeat ((first | ((first | apply VStop.mk | apply VCall.stop); (refine ot_strq _ dQ rfl rfl rfl rfl rfl ?_); apply ot_v tk) | apply VBr.f); (conv => whnf))); apply VCall.stop)
  refine ot_callT (X := SlX) (us := []) (vs := []) (fun x => .tuple #[.agg #[.slice x.1 L2.length x.2], .int .i64 y2]) (fun x => []) (fun x => [.own (.slice x.1 L2.length x.2) 61 5 L2.length (lnC L2)]) _ (fun x c hc => one_mut hc) (by decide) rfl rfl rfl rfl (by kernel_rfl) (evl_of rfl) rfl (fun w1 hs => k4 w1 (hE.st hs) (hM.st hs)) ?_
  rintro ⟨B2, c2⟩ _
  (dsimp only [List.cons_append, List.nil_append]; apply ot_v tk)
  rcases ny with rfl | rfl
  ·((conv => whnf); (repeat ((first | (apply VCall.q; kernel_rfl; (focus (intro w1 hs; first | with_reducible apply kw w1 (hE.st hs) (hM.st hs)))) | apply VBr.t | (apply v_t; omega)); (conv => whnf))))
   ((apply VRet.mk); refine ret1 (by first | exact .inl rfl | exact .inr rfl) rfl (by exact rv_tmp rfl) ?_; exact fun w h => ⟨rfl, h.base⟩)
  ·((conv => whnf); (repeat ((first | (apply VCall.q; kernel_rfl; (focus (intro w1 hs; first | with_reducible apply kw w1 (hE.st hs) (hM.st hs)))) | apply VBr.t | apply VBr.f | (apply v_t; omega) | (apply v_f; omega)); (conv => whnf))))
   ((apply VRet.mk); refine ret1 (by first | exact .inl rfl | exact .inr rfl) rfl (by exact rv_tmp rfl) ?_; exact fun w h => ⟨rfl, h.base⟩)
end Go.Proofs.YtojeeindlijgkaaGreatDoor
