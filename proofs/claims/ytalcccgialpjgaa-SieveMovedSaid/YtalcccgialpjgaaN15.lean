/- More: lemmas for the rows of this seat. No conditions. -/
import Derived.Test.YtalcccgialpjgaaN14
set_option linter.all false
namespace Go.Proofs.Ytalcccgialpjgaa
open Go.RowKit
/-! ## More -/
def moreI (many : Int) (r : R2) : Int := if many < r.1 then 2 else if many < r.2 then 1 else 0
noncomputable def moreL (R C : List R2) (X : List (List R2)) (many : Int) (k : Nat) : List Int := (List.range k).map fun i => moreI many (rowR R C X i)
theorem moreL_len (R C : List R2) (X : List (List R2)) (many : Int) (k : Nat) : (moreL R C X many k).length = k := by unfold moreL; simp
theorem moreL_step (R C : List R2) (X : List (List R2)) (many : Int) (k : Nat) : moreL R C X many (k + 1) = moreL R C X many k ++ [moreI many (rowR R C X k)] := by unfold moreL; rw [List.range_succ, List.map_append]; rfl
structure SlX where
 B : Option Addr
 c : Nat
section
variable {RA : Option Addr} {rc : Nat} {CA : Option Addr} {cc : Nat} {XA : Option Addr} {xc : Nat} {R C : List R2} {X : List (List R2)} {gn bm fm : Nat}
/-- What flows along an edge, where there are more chunks ahead. -/
theorem span_fr (pre : List Chunk) (hV : Valid R C X) {fl0 : Nat → Nat → Int} (hg0 : ∀ u v, netE R.length C.length u v = false → fl0 u v = 0) (hc0 : Circ (2 + R.length + C.length) (netLo R C X) (netHi R C X) fl0) {p q : Nat} (he : netE R.length C.length p q = true)
  {w0 w : World} {stb st0 : List (Nat × (Int × Int))} {rest : List Chunk} {RA' CA' XA' : Option Addr} {rc' cc' xc' : Nat} {X' : List (List R2)} (hx : netC RA' rc' CA' cc' XA' xc' R C X' bm fm = netC RA' rc' CA' cc' XA' xc' R C X bm fm) (hs : St w0 (pre ++ netA (netC RA' rc' CA' cc' XA' xc' R C X' bm fm) gn bm (keyM (netE R.length C.length) (rngV (netLo R C X) (netHi R C X))) stb fm (keyM (netE R.length C.length) (intV fl0)) st0 rest) w) :
  Calls Try.prog 72 #[.pointer (some ⟨gn, 0, none⟩), .agg #[.int .i64 (p : Int), .int .i64 (q : Int)]] w fun e w' => ∃ x : SpanX, e = .returned (.agg #[.int .i64 (x.fl p q), .int .i64 x.hi]) ∧
   ((∀ u v, netE R.length C.length u v = false → x.fl u v = 0) ∧ Circ (2 + R.length + C.length) (netLo R C X) (netHi R C X) x.fl ∧ SpanP R C X p q (x.fl p q, x.hi)) ∧
   St w0 (pre ++ netA (netC RA' rc' CA' cc' XA' xc' R C X' bm fm) gn bm (keyM (netE R.length C.length) (rngV (netLo R C X) (netHi R C X))) stb fm (keyM (netE R.length C.length) (intV x.fl)) x.st rest) w' := by
 have h1 : ∀ (F : Int × Int → Option Value) (st : List (Nat × (Int × Int))), (pre ++ netA (netC RA' rc' CA' cc' XA' xc' R C X' bm fm) gn bm (keyM (netE R.length C.length) (rngV (netLo R C X) (netHi R C X))) stb fm F st rest).Perm (netA (netC RA' rc' CA' cc' XA' xc' R C X' bm fm) gn bm (keyM (netE R.length C.length) (rngV (netLo R C X) (netHi R C X))) stb fm F st (pre ++ rest)) := fun F st =>
  (List.perm_append_comm_assoc pre [_, _, _] rest)
 rw [hx] at *
 exact (span_any hV.r4 hV.c4 (net_bnds hV) hg0 hc0 he (hs.perm (h1 _ _))).mono fun e w' ⟨x, e1, ⟨e2, e3, e4, e5⟩, e6⟩ => ⟨x, e1, ⟨e2, e3, spanP_of e3 e4 e5⟩, e6.perm (h1 _ _).symm⟩
end
section
variable (RA : Option Addr) (rc : Nat) (CA : Option Addr) (cc : Nat) (XA : Option Addr) (xc : Nat) (R C : List R2) (X : List (List R2)) (w : World) (hT : TabR w RA CA XA R C X)
include hT
set_option maxHeartbeats 2000000 in
set_option maxRecDepth 20000 in
theorem more_err (hF : FitT R C X) (many : Int) (hE : errT R C X ≠ 0) : Calls Try.prog 36 #[tabV RA rc CA cc XA xc R C X, .int .i64 many] w fun e w' => e = .returned (.tuple #[.slice none 0 0, .int .i64 (errT R C X)]) ∧ Below w.heap.size w w' := by
 have her := fun w1 (h : TabR w1 RA CA XA R C X) hz => filled_err RA rc CA cc XA xc R C X w1 h hF hz
 have hno := fun w1 (h : TabR w1 RA CA XA R C X) hV hH => filled_no RA rc CA cc XA xc R C X w1 h hV hH
 unfold tabV at *
 by_cases hz : chkTab R C X = 0
 rotate_left
 ·rw [errT_chk hz]
  generalize chkTab R C X = z at *
  refine fn_v tk (n := 52) (A := []) Try.func36 rfl rfl (Nat.le_of_ble_eq_true rfl) (St.nil (Below.refl _ _)) ?_
  ((conv => whnf); (repeat ((first | (apply VCall.q; kernel_rfl; (focus (intro w1 hs; first | with_reducible apply her w1 (hs.tab hT) hz))) | (apply VLdN.mk; (focus ((repeat (first | (with_reducible apply ldn_blk) | (with_reducible apply ldn_skip))); done)); exact rfl) | apply VBr.t | (apply v_t; omega) | (apply VNew.mk; intro g hg)); (conv => whnf))))
  (apply VRet.mk)
  refine ret2 (by first | exact .inl rfl | exact .inr rfl) rfl (by exact rv_tmp rfl) (by exact rv_tmp rfl) ?_
  exact fun w h => ⟨rfl, h.base⟩
 have hV := chk_valid hz
 have hH : ¬HasT R C X := fun h => hE (errT_ok hV h)
 rw [errT_no hV hH]
 refine fn_v tk (n := 52) (A := []) Try.func36 rfl rfl (Nat.le_of_ble_eq_true rfl) (St.nil (Below.refl _ _)) ?_
 ((conv => whnf); (repeat ((first | (apply VCall.q; kernel_rfl; (focus (intro w1 hs; first | with_reducible apply hno w1 (hs.tab hT) hV hH))) | (apply VLdN.mk; (focus ((repeat (first | (with_reducible apply ldn_blk) | (with_reducible apply ldn_skip))); done)); exact rfl) | apply VBr.t | (apply v_t; omega) | (apply VNew.mk; intro g hg)); (conv => whnf))))
 (apply VRet.mk)
 refine ret2 (by first | exact .inl rfl | exact .inr rfl) rfl (by exact rv_tmp rfl) (by exact rv_tmp rfl) ?_
 exact fun w h => ⟨rfl, h.base⟩
set_option maxHeartbeats 2000000 in
set_option maxRecDepth 20000 in
theorem more_ok (hV : Valid R C X) (hH : HasT R C X) (many : Int) : Calls Try.prog 36 #[tabV RA rc CA cc XA xc R C X, .int .i64 many] w fun e w' => ∃ x : SlX, e = .returned (.tuple #[.slice x.B R.length x.c, .int .i64 0]) ∧ True ∧ St w [.own (.slice x.B R.length x.c) 3 1 R.length (i64s (moreL R C X many R.length))] w' := by
 have hok := fun w1 (h : TabR w1 RA CA XA R C X) => filled_ok RA rc CA cc XA xc R C X w1 h hV hH
 unfold tabV at *
 have hn := hV.r1
 have hn4 := hV.r4
 refine fn_v tk (n := 52) (A := []) Try.func36 rfl rfl (Nat.le_of_ble_eq_true rfl) (St.nil (Below.refl _ _)) ?_
 ((conv => whnf); (repeat ((first | (apply VLdN.mk; (focus ((repeat (first | (with_reducible apply ldn_blk) | (with_reducible apply ldn_skip))); done)); exact rfl) | (apply VNew.mk; intro g hg)); (conv => whnf))); apply VCall.stop)
 refine ot_callC (X := FilX) (us := []) (vs := []) _ _ _ (fun x c hc => by simp at hc; rcases hc with rfl | rfl | rfl <;> rfl) (by decide) rfl rfl rfl rfl (by kernel_rfl) (evl_of rfl) rfl (fun w1 hs => hok w1 (hs.tab hT)) ?_
 rintro ⟨gn, bm, fm, stb, fl, st⟩ ⟨hg0, hc0⟩
 (dsimp only [List.cons_append, List.nil_append]; apply ot_v tk)
 ((conv => whnf); (repeat ((first | (apply VLd.mk; (focus ((repeat (first | ((with_reducible apply ld_blk); exact rfl) | (with_reducible apply ld_skip))); done))) | apply VBr.f | (apply v_f; omega)); (conv => whnf))); apply VStop.mk)
 revert g hg
 intro gt hgt
 refine tr_own_nil 3 1 ?_
 refine v_loop (fun gm ds ts A => ds = [] ∧ ∃ k B1 c1 fl st, k + gm = R.length ∧ (∀ u v, netE R.length C.length u v = false → fl u v = 0) ∧ Circ (2 + R.length + C.length) (netLo R C X) (netHi R C X) fl ∧ A = .own (.slice B1 k c1) 3 1 k (i64s (moreL R C X many k)) :: netA (netC RA rc CA cc XA xc R C X bm fm) gn bm (keyM (netE R.length C.length) (rngV (netLo R C X) (netHi R C X))) stb fm (keyM (netE R.length C.length) (intV fl)) st [.blk gt 25 [.slice RA R.length rc, .slice CA C.length cc, .slice XA X.length xc]] ∧ ts = [(1, .int .i64 many), (2, .pointer (some ⟨gt, 0, none⟩)), (6, .pointer (some ⟨gn, 0, none⟩)), (8, .slice B1 k c1), (21, .int .i64 (R.length : Int)), (22, .int .i64 (k : Int))]) R.length
   (l := [(1, _), (2, _), (6, _), (8, _), (21, _), (22, _)]) (B := _) ?_ (List.Sublist.refl _) ⟨rfl, 0, none, 0, fl, st, by omega, hg0, hc0, rfl, rfl⟩ ?_
 ·exact ⟨rfl, rfl, rfl, rfl, rfl, rfl, trivial⟩
 clear hg0 hc0 fl st
 rintro gm ds ts A ⟨rfl, k, B1, c1, fl, st, hk, hg0, hc0, rfl, rfl⟩
 by_cases hlt : k < R.length
 ·have hst := moreL_step R C X many k
  have hll := moreL_len R C X many k
  have hro := fun w1 => row_any gn k w1 (by omega)
  have hsp := fun {w0 w1 : World} {rest : List Chunk} {c1 : Chunk} hs => span_fr [c1] hV hg0 hc0 (netE_0r (i := k) (m := C.length) hlt) (RA' := RA) (rc' := rc) (CA' := CA) (cc' := cc) (XA' := XA) (xc' := xc) (gn := gn) (bm := bm) (fm := fm) (w0 := w0) (w := w1) (stb := stb) (st0 := st) (rest := rest) rfl hs
  generalize moreL R C X many k = ml at *
  (apply tr_v tk; (conv => whnf); (repeat ((first | (apply VCall.q; kernel_rfl; (focus (intro w1 hs; first | with_reducible apply hro w1))) | apply VBr.t | (apply v_t; omega)); (conv => whnf))); apply VCall.stop)
  refine ot_callW (X := SpanX) (us := []) (vs := []) (fun x => .agg #[.int .i64 (x.fl 0 (2 + k)), .int .i64 x.hi]) _ _ rfl rfl rfl rfl rfl (by kernel_rfl) (evl_of rfl) rfl (fun w1 hs => hsp hs) ?_
  rintro ⟨hi, fl1, st1⟩ ⟨h1, h2, h3⟩
  have hrr := h3.row hV (by omega)
  rw [hrr] at hst
  unfold moreI at hst
  dsimp only at hst ⊢
  apply ot_v tk
  by_cases e1 : many < fl1 0 (2 + k)
  ·rw [if_pos e1] at hst
   have e9 : i64s ml ++ [.int .i64 2] = i64s (ml ++ [2]) := by simp [i64s]
   ((conv => whnf); (repeat ((first | (apply VStop.mk; (refine ot_appendS (sz := 1) (sl := k) (xs := i64s ml) (news := [.int .i64 2]) (A'v := fun v' => _ :: _ :: .own v' 3 1 (k + 1) _ :: _) tk rfl rfl rfl rfl rfl rfl rfl rfl rfl rfl (by decide) rfl (cells_blk_all (.head _)) rfl rfl (fun v' => .there (.there .here)) (by omega) (by decide) (fun Bn cn => ?_)); apply ot_v tk) | (apply VLd.mk; (focus ((repeat (first | ((with_reducible apply ld_blk); exact rfl) | (with_reducible apply ld_skip))); done))) | (apply VRng.mk; omega) | apply VBr.t | (apply v_t; omega) | (apply VNew.mk; intro g hg) | (apply VSt.mk; (focus ((repeat (first | (with_reducible exact At.here) | (with_reducible apply At.there))); done)); exact rfl)); (conv => whnf))))
   rw [e9, ← hst]
   exact v_rnd (gm - 1) (by omega) (l := [(1, _), (2, _), (6, _), (8, _), (21, _), (22, _)]) (B := _) ⟨rfl, rfl, rfl, rfl, rfl, rfl, trivial⟩ (.cons _ (.cons _ (List.Sublist.refl _))) ⟨rfl, k + 1, Bn, cn, fl1, st1, by omega, h1, h2, rfl, rfl⟩
  rw [if_neg e1] at hst
  by_cases e2 : many < hi
  ·rw [if_pos e2] at hst
   have e9 : i64s ml ++ [.int .i64 1] = i64s (ml ++ [1]) := by simp [i64s]
   ((conv => whnf); (repeat ((first | (apply VStop.mk; (refine ot_appendS (sz := 1) (sl := k) (xs := i64s ml) (news := [.int .i64 1]) (A'v := fun v' => _ :: _ :: .own v' 3 1 (k + 1) _ :: _) tk rfl rfl rfl rfl rfl rfl rfl rfl rfl rfl (by decide) rfl (cells_blk_all (.head _)) rfl rfl (fun v' => .there (.there .here)) (by omega) (by decide) (fun Bn cn => ?_)); apply ot_v tk) | (apply VLd.mk; (focus ((repeat (first | ((with_reducible apply ld_blk); exact rfl) | (with_reducible apply ld_skip))); done))) | (apply VRng.mk; omega) | apply VBr.t | apply VBr.f | (apply v_t; omega) | (apply v_f; omega) | (apply VNew.mk; intro g hg) | (apply VSt.mk; (focus ((repeat (first | (with_reducible exact At.here) | (with_reducible apply At.there))); done)); exact rfl)); (conv => whnf))))
   rw [e9, ← hst]
   exact v_rnd (gm - 1) (by omega) (l := [(1, _), (2, _), (6, _), (8, _), (21, _), (22, _)]) (B := _) ⟨rfl, rfl, rfl, rfl, rfl, rfl, trivial⟩ (.cons _ (.cons _ (List.Sublist.refl _))) ⟨rfl, k + 1, Bn, cn, fl1, st1, by omega, h1, h2, rfl, rfl⟩
  rw [if_neg e2] at hst
  have e9 : i64s ml ++ [.int .i64 0] = i64s (ml ++ [0]) := by simp [i64s]
  ((conv => whnf); (repeat ((first | (apply VStop.mk; (refine ot_appendS (sz := 1) (sl := k) (xs := i64s ml) (news := [.int .i64 0]) (A'v := fun v' => _ :: _ :: .own v' 3 1 (k + 1) _ :: _) tk rfl rfl rfl rfl rfl rfl rfl rfl rfl rfl (by decide) rfl (cells_blk_all (.head _)) rfl rfl (fun v' => .there (.there .here)) (by omega) (by decide) (fun Bn cn => ?_)); apply ot_v tk) | (apply VLd.mk; (focus ((repeat (first | ((with_reducible apply ld_blk); exact rfl) | (with_reducible apply ld_skip))); done))) | (apply VRng.mk; omega) | apply VBr.f | (apply v_f; omega) | (apply VNew.mk; intro g hg) | (apply VSt.mk; (focus ((repeat (first | (with_reducible exact At.here) | (with_reducible apply At.there))); done)); exact rfl)); (conv => whnf))))
  rw [e9, ← hst]
  exact v_rnd (gm - 1) (by omega) (l := [(1, _), (2, _), (6, _), (8, _), (21, _), (22, _)]) (B := _) ⟨rfl, rfl, rfl, rfl, rfl, rfl, trivial⟩ (.cons _ (.cons _ (List.Sublist.refl _))) ⟨rfl, k + 1, Bn, cn, fl1, st1, by omega, h1, h2, rfl, rfl⟩
 obtain rfl : k = R.length := by omega
 (apply tr_v tk; (conv => whnf); (repeat ((first | apply VBr.f | (apply v_f; omega)); (conv => whnf))))
 (apply VRet.mk)
 refine ret2 (by first | exact .inl rfl | exact .inr rfl) rfl (by exact rv_tmp rfl) (by exact rv_tmp rfl) ?_
 exact fun w hs => ⟨⟨B1, c1⟩, rfl, trivial, Pick.st (by ((try dsimp only); repeat (first | exact Pick.nil | ((apply Pick.cons); (focus (repeat (first | exact Rem.here | apply Rem.there)); done))))) hs⟩
end
/-! ## Lists of lists of the call's own -/
/-- What a list within a list lies in. -/
abbrev NsX := Option Addr × Nat
abbrev NsL := Nat × List Value
def nsV (x : NsX) (p : NsL) : Value := .slice x.1 p.1 x.2
def nsC (e : TypeId) (sz : Nat) (x : NsX) (p : NsL) : Chunk := .own (.slice x.1 p.1 x.2) e sz p.1 p.2
def nsVs : List NsX → List NsL → List Value
 | x :: xs, s :: S => nsV x s :: nsVs xs S
 | _, _ => []
def nsCh (e : TypeId) (sz : Nat) : List NsX → List NsL → List Chunk
 | x :: xs, s :: S => nsC e sz x s :: nsCh e sz xs S
 | _, _ => []
section
variable {e : TypeId} {sz : Nat}
theorem nsVs_length : ∀ {xs : List NsX} {S : List NsL}, xs.length = S.length → (nsVs xs S).length = S.length
 | [], [], _ => rfl
 | x :: xs, s :: S, h => by rw [nsVs, List.length_cons, List.length_cons, nsVs_length (by simpa using h)]
theorem nsVs_snoc : ∀ {xs : List NsX} {S : List NsL} {x : NsX} {s : NsL}, xs.length = S.length → nsVs (xs ++ [x]) (S ++ [s]) = nsVs xs S ++ [nsV x s]
 | [], [], _, _, _ => rfl
 | y :: xs, u :: S, x, s, h => by rw [List.cons_append, List.cons_append, nsVs, nsVs_snoc (by simpa using h), nsVs]; rfl
theorem nsCh_snoc : ∀ {xs : List NsX} {S : List NsL} {x : NsX} {s : NsL}, xs.length = S.length → nsCh e sz (xs ++ [x]) (S ++ [s]) = nsCh e sz xs S ++ [nsC e sz x s]
 | [], [], _, _, _ => rfl
 | y :: xs, u :: S, x, s, h => by rw [List.cons_append, List.cons_append, nsCh, nsCh_snoc (by simpa using h), nsCh]; rfl
theorem nsVs_get : ∀ {xs : List NsX} {S : List NsL} {i : Nat} (h : xs.length = S.length) (hi : i < S.length), (nsVs xs S)[i]? = some (nsV (xs[i]'(by omega)) S[i])
 | [], S, i, h, hi => absurd hi (by rw [← h]; exact Nat.not_lt_zero _)
 | x :: xs, s :: S, 0, _, _ => rfl
 | x :: xs, s :: S, i + 1, h, hi => by
  have := nsVs_get (xs := xs) (S := S) (i := i) (by simpa using h) (by simpa using hi)
  simpa [nsVs] using this
theorem nsCh_mem : ∀ {xs : List NsX} {S : List NsL} {i : Nat} (h : xs.length = S.length) (hi : i < S.length), nsC e sz (xs[i]'(by omega)) S[i] ∈ nsCh e sz xs S
 | [], S, i, h, hi => absurd hi (by rw [← h]; exact Nat.not_lt_zero _)
 | x :: xs, s :: S, 0, _, _ => .head _
 | x :: xs, s :: S, i + 1, h, hi => by
  have := nsCh_mem (xs := xs) (S := S) (i := i) (by simpa using h) (by simpa using hi)
  exact .tail _ this
theorem nsCh_upd {R : List Chunk} : ∀ {xs : List NsX} {S : List NsL} {i : Nat} {s' : NsL} (h : xs.length = S.length) (hi : i < S.length), s'.1 = S[i].1 → Upd (nsC e sz (xs[i]'(by omega)) S[i]) (nsC e sz (xs[i]'(by omega)) s') (nsCh e sz xs S ++ R) (nsCh e sz xs (S.set i s') ++ R)
 | [], S, i, _, h, hi, _ => absurd hi (by rw [← h]; exact Nat.not_lt_zero _)
 | x :: xs, s :: S, 0, s', _, _, _ => .here
 | x :: xs, s :: S, i + 1, s', h, hi, hs => by
  have := nsCh_upd (R := R) (xs := xs) (S := S) (i := i) (s' := s') (by simpa using h) (by simpa using hi) hs
  exact .there this
theorem nsVs_set : ∀ {xs : List NsX} {S : List NsL} {i : Nat} {s' : NsL} (hi : i < S.length), s'.1 = S[i].1 → nsVs xs (S.set i s') = nsVs xs S
 | [], _, _, _, _, _ => rfl
 | x :: xs, s :: S, 0, s', _, hs => by
  simp only [List.set_cons_zero, nsVs, nsV]
  rw [show s'.1 = s.1 from hs]
 | x :: xs, s :: S, i + 1, s', hi, hs => by
  simp only [List.set_cons_succ, nsVs]
  have h1 : i < S.length := by simpa using hi
  exact congrArg _ (nsVs_set h1 hs)
theorem nsCh_mut : ∀ {xs : List NsX} {S : List NsL}, ∀ c ∈ nsCh e sz xs S, c.mut = true
 | [], _, c, h => by cases h
 | _ :: _, [], c, h => by cases h
 | x :: xs, s :: S, c, h => by
  rcases List.mem_cons.1 h with rfl | h
  ·rfl
  ·exact nsCh_mut c h
theorem St.nestL {w0 w : World} {A : List Chunk} (hs : St w0 A w) {t : TypeId} {B : Option Addr} {c : Nat} {xs : List NsX} {S : List NsL} (hl : xs.length = S.length) (h : .own (.slice B S.length c) t 1 S.length (nsVs xs S) ∈ A) (hc : ∀ d ∈ nsCh e sz xs S, d ∈ A) : NestR w sz B S :=
 ⟨nsVs xs S, hs.own_rd h, fun _ hi => ⟨_, _, nsVs_get hl hi, hs.own_rd (hc _ (nsCh_mem hl hi))⟩⟩
end
/-- A list of lists of the call's own. -/
abbrev NestX (n : Nat) := NsX × { xs : List NsX // xs.length = n }
def nestCh (t e : TypeId) (sz : Nat) (S : List NsL) (x : NestX S.length) : List Chunk := .own (.slice x.1.1 S.length x.1.2) t 1 S.length (nsVs x.2.1 S) :: nsCh e sz x.2.1 S
theorem nestCh_mut {t e : TypeId} {sz : Nat} {S : List NsL} {x : NestX S.length} : ∀ c ∈ nestCh t e sz S x, c.mut = true := fun c hc => by
 rcases List.mem_cons.1 hc with rfl | hc
 ·rfl
 ·exact nsCh_mut c hc
theorem St.nestX {w0 w : World} {A : List Chunk} {t e : TypeId} {sz : Nat} (hs : St w0 A w) {S : List NsL} (x : NestX S.length) (h : ∀ d ∈ nestCh t e sz S x, d ∈ A) : NestR w sz x.1.1 S :=
 hs.nestL x.2.2 (h _ (.head _)) fun d hd => h d (.tail _ hd)
/-! ## The narrow table -/
noncomputable def nrR (R C : List R2) (X : List (List R2)) (k : Nat) : List R2 := (List.range k).map (rowR R C X)
noncomputable def nrC (R C : List R2) (X : List (List R2)) (k : Nat) : List R2 := (List.range k).map (colR R C X)
noncomputable def nrL (R C : List R2) (X : List (List R2)) (i k : Nat) : List R2 := (List.range k).map (cellR R C X i)
noncomputable def nrX (R C : List R2) (X : List (List R2)) (k : Nat) : List (List R2) := (List.range k).map fun i => nrL R C X i C.length
theorem map_range_step {α : Type} (f : Nat → α) (k : Nat) : (List.range (k + 1)).map f = (List.range k).map f ++ [f k] := by rw [List.range_succ, List.map_append]; rfl
theorem map_range_len {α : Type} (f : Nat → α) (k : Nat) : ((List.range k).map f).length = k := by simp
/-! ## Narrow -/
theorem nestR_snoc (X : List (List R2)) (s : List R2) : nestR (X ++ [s]) = nestR X ++ [(s.length, rgC s)] := by unfold nestR; rw [List.map_append]; rfl
theorem nrX_step (R C : List R2) (X : List (List R2)) (k : Nat) : nrX R C X (k + 1) = nrX R C X k ++ [nrL R C X k C.length] := map_range_step _ k
theorem nrX_len (R C : List R2) (X : List (List R2)) (k : Nat) : (nrX R C X k).length = k := map_range_len _ k
theorem nrL_len (R C : List R2) (X : List (List R2)) (i k : Nat) : (nrL R C X i k).length = k := map_range_len _ k
theorem nrR_step (R C : List R2) (X : List (List R2)) (k : Nat) : nrR R C X (k + 1) = nrR R C X k ++ [rowR R C X k] := map_range_step _ k
theorem nrC_step (R C : List R2) (X : List (List R2)) (k : Nat) : nrC R C X (k + 1) = nrC R C X k ++ [colR R C X k] := map_range_step _ k
theorem rgC_set : ∀ (l : List R2) (j : Nat) (r : R2), j < l.length → setMany (rgC l) (j * 2) [.int .i64 r.1, .int .i64 r.2] = rgC (l.set j r)
 | [], j, _, h => by simp at h
 | x :: l, 0, r, _ => by simp [rgC, rgL, setMany, setMany_nil]
 | x :: l, j + 1, r, h => by
  have := rgC_set l j r (by simpa using h)
  rw [show (j + 1) * 2 = j * 2 + 2 by omega]
  simp only [rgC, rgL, List.cons_append, List.nil_append, setMany, List.set_cons_succ]
  rw [this]
theorem rgC_step (R C : List R2) (X : List (List R2)) (i j : Nat) (l : List R2) (h : j < l.length) : setMany (rgC (nrL R C X i j ++ l.drop j)) (0 + j * 2) [.int .i64 (cellR R C X i j).1, .int .i64 (cellR R C X i j).2] = rgC (nrL R C X i (j + 1) ++ l.drop (j + 1)) := by
 have hl := map_range_len (cellR R C X i) j
 have e : (nrL R C X i j ++ l.drop j).set j (cellR R C X i j) = nrL R C X i (j + 1) ++ l.drop (j + 1) := by
  unfold nrL
  rw [map_range_step, List.set_append_right _ _ (by omega), hl, Nat.sub_self, List.drop_eq_getElem_cons h, List.set_cons_zero, List.append_assoc]
  rfl
 rw [Nat.zero_add, rgC_set _ _ _ (by rw [List.length_append, List.length_drop]; unfold nrL; rw [hl]; omega), e]
/-- A table of the call's own. -/
structure TabX where
 r : NsX
 c : NsX
 x : NsX
 xs : List NsX
def tabCh (R C : List R2) (X : List (List R2)) (x : TabX) : List Chunk := .own (.slice x.r.1 R.length x.r.2) 37 2 R.length (rgC R) :: .own (.slice x.c.1 C.length x.c.2) 37 2 C.length (rgC C) :: .own (.slice x.x.1 X.length x.x.2) 22 1 X.length (nsVs x.xs (nestR X)) :: nsCh 37 2 x.xs (nestR X)
def tabX (x : TabX) (R C : List R2) (X : List (List R2)) : Value := tabV x.r.1 x.r.2 x.c.1 x.c.2 x.x.1 x.x.2 R C X
theorem tabCh_mut {R C : List R2} {X : List (List R2)} {x : TabX} : ∀ c ∈ tabCh R C X x, c.mut = true := fun c hc => by
 unfold tabCh at hc
 rcases List.mem_cons.1 hc with rfl | hc
 ·rfl
 rcases List.mem_cons.1 hc with rfl | hc
 ·rfl
 rcases List.mem_cons.1 hc with rfl | hc
 ·rfl
 ·exact nsCh_mut c hc
theorem St.tabX {w0 w : World} {A : List Chunk} (hs : St w0 A w) {R C : List R2} {X : List (List R2)} (x : TabX) (hx : x.xs.length = X.length) (h : ∀ d ∈ tabCh R C X x, d ∈ A) : TabR w x.r.1 x.c.1 x.x.1 R C X := by
 refine ⟨hs.own_rd (h _ (.head _)), hs.own_rd (h _ (.tail _ (.head _))), ?_⟩
 have e : (nestR X).length = X.length := nestR_length X
 refine ⟨nsVs x.xs (nestR X), by rw [e]; exact hs.own_rd (h _ (.tail _ (.tail _ (.head _)))), fun _ hi => ⟨_, _, nsVs_get (by rw [hx, e]) hi, hs.own_rd (h _ (.tail _ (.tail _ (.tail _ (nsCh_mem (by rw [hx, e]) hi)))))⟩⟩
section
variable (RA : Option Addr) (rc : Nat) (CA : Option Addr) (cc : Nat) (XA : Option Addr) (xc : Nat) (R C : List R2) (X : List (List R2)) (w : World) (hT : TabR w RA CA XA R C X)
include hT
set_option maxHeartbeats 2000000 in
set_option maxRecDepth 20000 in
theorem narrow_err (hF : FitT R C X) (hE : errT R C X ≠ 0) : Calls Try.prog 39 #[tabV RA rc CA cc XA xc R C X] w fun e w' => e = .returned (.tuple #[tabV none 0 none 0 none 0 [] [] [], .int .i64 (errT R C X)]) ∧ Below w.heap.size w w' := by
 have her := fun w1 (h : TabR w1 RA CA XA R C X) hz => filled_err RA rc CA cc XA xc R C X w1 h hF hz
 have hno := fun w1 (h : TabR w1 RA CA XA R C X) hV hH => filled_no RA rc CA cc XA xc R C X w1 h hV hH
 unfold tabV at *
 by_cases hz : chkTab R C X = 0
 rotate_left
 ·rw [errT_chk hz]
  generalize chkTab R C X = z at *
  refine fn_v tk (n := 92) (A := []) Try.func39 rfl rfl (Nat.le_of_ble_eq_true rfl) (St.nil (Below.refl _ _)) ?_
  ((conv => whnf); (repeat ((first | (apply VCall.q; kernel_rfl; (focus (intro w1 hs; first | with_reducible apply her w1 (hs.tab hT) hz))) | (apply VLdN.mk; (focus ((repeat (first | (with_reducible apply ldn_blk) | (with_reducible apply ldn_skip))); done)); exact rfl) | apply VBr.t | (apply v_t; omega) | (apply VNew.mk; intro g hg) | (apply VSt.mk; (focus ((repeat (first | (with_reducible exact At.here) | (with_reducible apply At.there))); done)); exact rfl) | (refine sla ?_; first | refine otl_nil ?_ | (refine otl_cons ?_; apply ot_v tk) | skip) | (apply VK.mk; first | (refine otl_cons ?_; apply ot_v tk) | apply ot_v tk)); (conv => whnf))))
  (apply VRet.mk)
  refine ret2 (by first | exact .inl rfl | exact .inr rfl) rfl (by exact rv_row tk rfl rfl rfl (by first | exact cells_blk_all (by (repeat (first | exact List.Mem.head _ | assumption | refine List.Mem.tail _ ?_))) | exact cells_row0 (by (repeat (first | exact List.Mem.head _ | assumption | refine List.Mem.tail _ ?_)))) rfl) (by exact rv_tmp rfl) ?_
  exact fun w h => ⟨rfl, h.base⟩
 have hV := chk_valid hz
 have hH : ¬HasT R C X := fun h => hE (errT_ok hV h)
 rw [errT_no hV hH]
 refine fn_v tk (n := 92) (A := []) Try.func39 rfl rfl (Nat.le_of_ble_eq_true rfl) (St.nil (Below.refl _ _)) ?_
 ((conv => whnf); (repeat ((first | (apply VCall.q; kernel_rfl; (focus (intro w1 hs; first | with_reducible apply hno w1 (hs.tab hT) hV hH))) | (apply VLdN.mk; (focus ((repeat (first | (with_reducible apply ldn_blk) | (with_reducible apply ldn_skip))); done)); exact rfl) | apply VBr.t | (apply v_t; omega) | (apply VNew.mk; intro g hg) | (apply VSt.mk; (focus ((repeat (first | (with_reducible exact At.here) | (with_reducible apply At.there))); done)); exact rfl) | (refine sla ?_; first | refine otl_nil ?_ | (refine otl_cons ?_; apply ot_v tk) | skip) | (apply VK.mk; first | (refine otl_cons ?_; apply ot_v tk) | apply ot_v tk)); (conv => whnf))))
 (apply VRet.mk)
 refine ret2 (by first | exact .inl rfl | exact .inr rfl) rfl (by exact rv_row tk rfl rfl rfl (by first | exact cells_blk_all (by (repeat (first | exact List.Mem.head _ | assumption | refine List.Mem.tail _ ?_))) | exact cells_row0 (by (repeat (first | exact List.Mem.head _ | assumption | refine List.Mem.tail _ ?_)))) rfl) (by exact rv_tmp rfl) ?_
 exact fun w h => ⟨rfl, h.base⟩
set_option maxHeartbeats 2000000 in
set_option maxRecDepth 20000 in
theorem narrow_ok (hV : Valid R C X) (hH : HasT R C X) : Calls Try.prog 39 #[tabV RA rc CA cc XA xc R C X] w fun e w' => ∃ x : TabX, e = .returned (.tuple #[tabX x (nrR R C X R.length) (nrC R C X C.length) (nrX R C X R.length), .int .i64 0]) ∧ x.xs.length = (nrX R C X R.length).length ∧ St w (tabCh (nrR R C X R.length) (nrC R C X C.length) (nrX R C X R.length) x) w' := by
 have hok := fun w1 (h : TabR w1 RA CA XA R C X) => filled_ok RA rc CA cc XA xc R C X w1 h hV hH
 have hn := hV.r1
 have hn4 := hV.r4
 have hm := hV.c1
 have hm4 := hV.c4
 have hxl := hV.x
 unfold tabV at *
 have hsr := fun {gn bm fm : Nat} {k : Nat} (hk : k < R.length) {fl} hg0 hc0 {w0 w1 : World} {stb st rest} {pre : List Chunk} hs => span_fr pre hV (fl0 := fl) hg0 hc0 (netE_0r (i := k) (m := C.length) hk) (RA' := RA) (rc' := rc) (CA' := CA) (cc' := cc) (XA' := XA) (xc' := xc) (gn := gn) (bm := bm) (fm := fm) (w0 := w0) (w := w1) (stb := stb) (st0 := st) (rest := rest) rfl hs
 have hsx := fun {gn bm fm : Nat} {i k : Nat} (hi : i < R.length) (hk : k < C.length) {fl} hg0 hc0 {w0 w1 : World} {stb st rest} {pre : List Chunk} hs => span_fr pre hV (fl0 := fl) hg0 hc0 (netE_rc (i := i) (k := k) hi hk) (RA' := RA) (rc' := rc) (CA' := CA) (cc' := cc) (XA' := XA) (xc' := xc) (gn := gn) (bm := bm) (fm := fm) (w0 := w0) (w := w1) (stb := stb) (st0 := st) (rest := rest) rfl hs
 have hsc := fun {gn bm fm : Nat} {k : Nat} (hk : k < C.length) {fl} hg0 hc0 {w0 w1 : World} {stb st rest} {pre : List Chunk} hs => span_fr pre hV (fl0 := fl) hg0 hc0 (netE_c1 (n := R.length) (k := k) hk) (RA' := RA) (rc' := rc) (CA' := CA) (cc' := cc) (XA' := XA) (xc' := xc) (gn := gn) (bm := bm) (fm := fm) (w0 := w0) (w := w1) (stb := stb) (st0 := st) (rest := rest) rfl hs
 refine fn_v tk (n := 92) (A := []) Try.func39 rfl rfl (Nat.le_of_ble_eq_true rfl) (St.nil (Below.refl _ _)) ?_
 ((conv => whnf); (repeat ((first | (apply VLdN.mk; (focus ((repeat (first | (with_reducible apply ldn_blk) | (with_reducible apply ldn_skip))); done)); exact rfl) | (apply VNew.mk; intro g hg) | (refine sla ?_; first | refine otl_nil ?_ | (refine otl_cons ?_; apply ot_v tk) | skip) | (apply VK.mk; first | (refine otl_cons ?_; apply ot_v tk) | apply ot_v tk)); (conv => whnf))); apply VCall.stop)
 rename_i gt hgt
 revert g hg
 intro g2 hg2
 refine ot_callC (X := FilX) (us := []) (vs := []) _ _ _ (fun x c hc => by simp at hc; rcases hc with rfl | rfl | rfl <;> rfl) (by decide) rfl rfl rfl rfl (by kernel_rfl) (evl_of rfl) rfl (fun w1 hs => hok w1 (hs.tab hT)) ?_
 rintro ⟨gn, bm, fm, stb, fl, st⟩ ⟨hg0, hc0⟩
 (dsimp only [List.cons_append, List.nil_append]; apply ot_v tk)
 ((conv => whnf); (repeat ((first | (apply VLd.mk; (focus ((repeat (first | ((with_reducible apply ld_blk); exact rfl) | (with_reducible apply ld_skip))); done))) | apply VBr.f | (apply v_f; omega) | (apply VNew.mk; intro g hg) | (refine sla ?_; first | refine otl_nil ?_ | (refine otl_cons ?_; apply ot_v tk) | skip) | (apply VK.mk; first | (refine otl_cons ?_; apply ot_v tk) | apply ot_v tk)); (conv => whnf))); apply VStop.mk)
 revert g hg
 intro g6 hg6
 refine tr_own_nil 22 1 ?_
 refine tr_own_nil 37 2 ?_
 refine v_loop (fun gm ds ts A => ds = [] ∧ ∃ (k : Nat) (Br : Option Addr) (cr : Nat) (Bx : Option Addr) (cx : Nat) (xs : List NsX) (fl : Nat → Nat → Int) (st : List (Nat × (Int × Int))), k + gm = R.length ∧ xs.length = k ∧ (∀ u v, netE R.length C.length u v = false → fl u v = 0) ∧ Circ (2 + R.length + C.length) (netLo R C X) (netHi R C X) fl ∧
   A.Perm (.own (.slice Br k cr) 37 2 k (rgC (nrR R C X k)) :: .own (.slice Bx k cx) 22 1 k (nsVs xs (nestR (nrX R C X k))) :: .blk g6 25 [.slice Br k cr, .slice none 0 0, .slice Bx k cx] :: netA (netC RA rc CA cc XA xc R C X bm fm) gn bm (keyM (netE R.length C.length) (rngV (netLo R C X) (netHi R C X))) stb fm (keyM (netE R.length C.length) (intV fl)) st (.blk g2 25 [.slice none 0 0, .slice none 0 0, .slice none 0 0] :: .blk gt 25 [.slice RA R.length rc, .slice CA C.length cc, .slice XA X.length xc] :: nsCh 37 2 xs (nestR (nrX R C X k)))) ∧
   ts = [(1, .pointer (some ⟨gt, 0, none⟩)), (2, .pointer (some ⟨g2, 0, none⟩)), (4, .pointer (some ⟨gn, 0, none⟩)), (6, .pointer (some ⟨g6, 0, none⟩)), (22, .int .i64 (R.length : Int)), (23, .int .i64 (k : Int))]) R.length
   (l := [(1, _), (2, _), (4, _), (6, _), (22, _), (23, _)]) (B := _) ?_ (List.Sublist.refl _) ⟨rfl, 0, none, 0, none, 0, [], fl, st, by omega, rfl, hg0, hc0, .refl _, rfl⟩ ?_
 ·exact ⟨rfl, rfl, rfl, rfl, rfl, rfl, trivial⟩
 clear hg0 hc0 fl st
 rintro gm ds ts A ⟨rfl, k, Br, cr, Bx, cx, xs, fl, st, hk, hxs, hg0, hc0, hA, rfl⟩
 refine tr_perm hA ?_
 clear hA A
 by_cases hlt : k < R.length
 ·have hro := fun w1 => row_any gn k w1 (by omega)
  (apply tr_v tk; (conv => whnf); (repeat ((first | ((first | apply VStop.mk | apply VCall.stop); refine tr_region_late3 (id := 8) (by kernel_rfl) [.blk g6 25 _] (by (repeat (first | exact sl0 _ | exact sl1 _ | refine sl2 _ ?_ | refine sl3 _ ?_))) [0, 1, 2, 3, 4] [5, 6, 7, 8] 9 [10, 11] [.rd, .rd, .rd, .rd, .rd] rfl (by kernel_rfl) ?_; apply ot_v tk) | (apply VCall.q; kernel_rfl; (focus (intro w1 hs; first | with_reducible apply hro w1))) | (apply VLd.mk; (focus ((repeat (first | ((with_reducible apply ld_blk); exact rfl) | (with_reducible apply ld_skip))); done))) | apply VBr.t | (apply v_t; omega) | (refine sla ?_; first | refine otl_nil ?_ | (refine otl_cons ?_; apply ot_v tk) | skip) | (apply VK.mk; first | (refine otl_cons ?_; apply ot_v tk) | apply ot_v tk)); (conv => whnf))); apply VCall.stop)
  refine ot_callW (X := SpanX) (us := []) (vs := []) (fun x => .agg #[.int .i64 (x.fl 0 (2 + k)), .int .i64 x.hi]) _ _ rfl rfl rfl rfl rfl (by kernel_rfl) (evl_of rfl) rfl (fun w1 hs => hsr (pre := [_, _, _]) hlt hg0 hc0 hs) ?_
  rintro ⟨hi, fl1, st1⟩ ⟨hg1, hc1, h3⟩
  have hst := nrR_step R C X k
  rw [h3.row hV hlt] at hst
  dsimp only at hst hg1 hc1 ⊢
  have hst2 := congrArg rgC hst
  rw [rgC_append] at hst2
  change rgC (nrR R C X (k + 1)) = rgC (nrR R C X k) ++ [.int .i64 (fl1 0 (2 + k)), .int .i64 hi] at hst2
  (dsimp only [List.cons_append, List.nil_append]; apply ot_v tk)
  ((conv => whnf); (repeat ((first | (apply VStop.mk; (refine ot_appendS (sz := 2) (sl := k) (xs := rgC (nrR R C X k)) (news := [.int .i64 (fl1 0 (2 + k)), .int .i64 hi]) (A'v := fun v' => _ :: .own v' 37 2 (k + 1) _ :: _) tk rfl rfl rfl rfl rfl rfl rfl rfl rfl rfl (by decide) rfl (cells_blk_all (.head _)) rfl rfl (fun v' => .there .here) (by omega) (by decide) (fun Bn cn => ?_)); apply ot_v tk) | (apply VLd.mk; (focus ((repeat (first | ((with_reducible apply ld_blk); exact rfl) | (with_reducible apply ld_skip))); done))) | (apply VNew.mk; intro g hg) | (apply VSt.mk; (focus ((repeat (first | (with_reducible exact At.here) | (with_reducible apply At.there))); done)); exact rfl) | (refine sla ?_; first | refine otl_nil ?_ | (refine otl_cons ?_; apply ot_v tk) | skip) | (apply VK.mk; first | (refine otl_cons ?_; apply ot_v tk) | apply ot_v tk)); (conv => whnf))); apply VStop.mk)
  rw [← hst2]
  revert g hg
  intro g9 hg9
  have hkx : k < X.length := by omega
  obtain ⟨xb, xo, rfl, B, c, hce, hrd⟩ := nest_gen hT.x hkx
  have hxk := hV.xs _ (List.getElem_mem hkx)
  rw [hxk] at hce hrd
  have hrd' : Reads w w.heap.size 2 B C.length (rgC X[k]) := hrd
  refine ot_makeSliceU (m := C.length) (sz := 2) (z0 := .int .i64 0) tk (by decide) rfl rfl rfl rfl rfl rfl rfl rfl rfl (by decide) rfl rfl rfl (by omega) (by decide) (fun g8 hg8 => ?_)
  apply ot_v tk
  ((conv => whnf); (repeat ((first | (apply VIx.mk (j := k); exact rfl; omega) | (apply VLd.mk; first | exact hce _) | (apply VLd.mk; (focus ((repeat (first | ((with_reducible apply ld_blk); exact rfl) | (with_reducible apply ld_skip))); done))) | (refine sla ?_; first | refine otl_nil ?_ | (refine otl_cons ?_; apply ot_v tk) | skip) | (apply VK.mk; first | (refine otl_cons ?_; apply ot_v tk) | apply ot_v tk)); (conv => whnf))); apply VStop.mk)
  refine ot_copyU (m := C.length) (sz := 2) (vs := rgC X[k]) tk rfl rfl rfl rfl rfl rfl rfl rfl rfl rfl (by omega) (fun w1 hs => hs.reads hrd) (rgC_one _) .here (by simp) ?_
  apply ot_v tk
  ((conv => whnf); (repeat ((first | (refine sla ?_; first | refine otl_nil ?_ | (refine otl_cons ?_; apply ot_v tk) | skip) | (apply VK.mk; first | (refine otl_cons ?_; apply ot_v tk) | apply ot_v tk)); (conv => whnf))); apply VStop.mk)
  refine v_loop (fun gm2 ds ts A => ds = [] ∧ ∃ (j : Nat) (fl : Nat → Nat → Int) (st : List (Nat × (Int × Int))), j + gm2 = C.length ∧ (∀ u v, netE R.length C.length u v = false → fl u v = 0) ∧ Circ (2 + R.length + C.length) (netLo R C X) (netHi R C X) fl ∧
    A = .blk g8 37 (rgC (nrL R C X k j ++ X[k].drop j)) :: .own (.slice Bn (k + 1) cn) 37 2 (k + 1) (rgC (nrR R C X (k + 1))) :: .own (.slice Bx k cx) 22 1 k (nsVs xs (nestR (nrX R C X k))) :: .blk g6 25 [.slice Bn (k + 1) cn, .slice none 0 0, .slice Bx k cx] :: netA (netC RA rc CA cc (some ⟨xb, xo, none⟩) xc R C X bm fm) gn bm (keyM (netE R.length C.length) (rngV (netLo R C X) (netHi R C X))) stb fm (keyM (netE R.length C.length) (intV fl)) st (.blk g2 25 [.slice none 0 0, .slice none 0 0, .slice none 0 0] :: .blk gt 25 [.slice RA R.length rc, .slice CA C.length cc, .slice (some ⟨xb, xo, none⟩) X.length xc] :: nsCh 37 2 xs (nestR (nrX R C X k))) ∧
    ts = [(1, .pointer (some ⟨gt, 0, none⟩)), (2, .pointer (some ⟨g2, 0, none⟩)), (4, .pointer (some ⟨gn, 0, none⟩)), (6, .pointer (some ⟨g6, 0, none⟩)), (22, .int .i64 (R.length : Int)), (23, .int .i64 (k : Int)), (7, .int .i64 (k : Int)), (8, .slice (some ⟨g8, 0, none⟩) C.length C.length), (49, .int .i64 (C.length : Int)), (50, .int .i64 (j : Int))]) C.length
   (l := [(1, _), (2, _), (4, _), (6, _), (22, _), (23, _), (7, _), (8, _), (49, _), (50, _)]) (B := _) ?_ (.cons_cons _ (.cons _ (List.Sublist.refl _))) ⟨rfl, 0, fl1, st1, by omega, hg1, hc1, rfl, rfl⟩ ?_
  ·exact ⟨rfl, rfl, rfl, rfl, rfl, rfl, rfl, rfl, rfl, rfl, trivial⟩
  clear h3 hst hst2 hg1 hc1 fl1 st1 hg0 hc0 fl st
  rintro gm2 ds ts A ⟨rfl, j, fl, st, hj, hg0, hc0, rfl, rfl⟩
  by_cases hlt2 : j < C.length
  ·have hco := fun w1 h => column_any RA rc R gn j w1 h (by omega) (by omega)
   (apply tr_v tk; (conv => whnf); (repeat ((first | (apply VCall.q; kernel_rfl; (focus (intro w1 hs; first | with_reducible apply hro w1 | ((with_reducible apply hco w1); exact cell_blk (by (repeat (first | exact List.Mem.head _ | assumption | refine List.Mem.tail _ ?_))) rfl w1 hs)))) | apply VBr.t | (apply v_t; omega) | (refine sla ?_; first | refine otl_nil ?_ | (refine otl_cons ?_; apply ot_v tk) | skip) | (apply VK.mk; first | (refine otl_cons ?_; apply ot_v tk) | apply ot_v tk)); (conv => whnf))); apply VCall.stop)
   refine ot_callW (X := SpanX) (us := []) (vs := []) (fun x => .agg #[.int .i64 (x.fl (2 + k) (2 + R.length + j)), .int .i64 x.hi]) _ _ rfl rfl rfl rfl rfl (by kernel_rfl) (evl_of rfl) rfl (fun w1 hs => hsx (pre := [_, _, _, _]) hlt hlt2 hg0 hc0 hs) ?_
   rintro ⟨hi, fl1, st1⟩ ⟨hg1, hc1, h3⟩
   have hst := rgC_step R C X k j X[k] (by omega)
   rw [h3.cell hV hlt hlt2] at hst
   dsimp only at hst hg1 hc1 ⊢
   have hbl : Nat.ble (0 + j * 2 + 2) (rgC (nrL R C X k j ++ X[k].drop j)).length = true := Nat.ble_eq_true_of_le (by rw [rgC_length, List.length_append, nrL_len, List.length_drop]; omega)
   (dsimp only [List.cons_append, List.nil_append]; apply ot_v tk)
   ((conv => whnf); (repeat ((first | (apply VIx.mk (j := j); exact rfl; omega) | (apply VSt.old; exact .here; exact hbl; exact hst) | (apply VRng.mk; omega) | (refine sla ?_; first | refine otl_nil ?_ | (refine otl_cons ?_; apply ot_v tk) | skip) | (apply VK.mk; first | (refine otl_cons ?_; apply ot_v tk) | apply ot_v tk)); (conv => whnf))))
   exact v_rnd (gm2 - 1) (by omega) (l := [(1, _), (2, _), (4, _), (6, _), (22, _), (23, _), (7, _), (8, _), (49, _), (50, _)]) (B := _) ⟨rfl, rfl, rfl, rfl, rfl, rfl, rfl, rfl, rfl, rfl, trivial⟩ (List.Sublist.refl _) ⟨rfl, j + 1, fl1, st1, by omega, hg1, hc1, rfl, rfl⟩
  obtain rfl : j = C.length := by omega
  have e0 : nrL R C X k C.length ++ X[k].drop C.length = nrL R C X k C.length := by rw [List.drop_of_length_le (by omega), List.append_nil]
  rw [e0]
  have e1 := nrX_step R C X k
  have e2 := congrArg nestR e1
  rw [nestR_snoc, nrL_len] at e2
  have hxn : xs.length = (nestR (nrX R C X k)).length := by rw [nestR_length, nrX_len]; exact hxs
  have e3 := nsVs_snoc (xs := xs) (S := nestR (nrX R C X k)) (x := (some ⟨g8, 0, none⟩, C.length)) (s := (C.length, rgC (nrL R C X k C.length))) hxn
  have e4 := nsCh_snoc (e := 37) (sz := 2) (xs := xs) (S := nestR (nrX R C X k)) (x := (some ⟨g8, 0, none⟩, C.length)) (s := (C.length, rgC (nrL R C X k C.length))) hxn
  rw [← e2] at e3 e4
  refine tr_blk_own (sz := 2) (m := C.length) (by rw [rgC_length, nrL_len]) (by unfold maxLen; omega) ?_
  (apply tr_v tk; (conv => whnf); (repeat ((first | (apply VStop.mk; (refine ot_appendS (sz := 1) (sl := k) (xs := nsVs xs (nestR (nrX R C X k))) (news := [.slice (some ⟨g8, 0, none⟩) C.length C.length]) (A'v := fun v' => _ :: _ :: _ :: .own v' 22 1 (k + 1) _ :: _) tk rfl rfl rfl rfl rfl rfl rfl rfl rfl rfl (by decide) rfl (cells_blk_all (.head _)) rfl rfl (fun v' => .there (.there (.there .here))) (by omega) (by decide) (fun Bm cm => ?_)); apply ot_v tk) | (apply VLd.mk; (focus ((repeat (first | ((with_reducible apply ld_blk); exact rfl) | (with_reducible apply ld_skip))); done))) | (apply VRng.mk; omega) | apply VBr.f | (apply v_f; omega) | (apply VNew.mk; intro g hg) | (apply VSt.mk; (focus ((repeat (first | (with_reducible exact At.here) | (with_reducible apply At.there))); done)); exact rfl) | (refine sla ?_; first | refine otl_nil ?_ | (refine otl_cons ?_; apply ot_v tk) | skip) | (apply VK.mk; first | (refine otl_cons ?_; apply ot_v tk) | apply ot_v tk)); (conv => whnf))))
  exact v_rnd (gm - 1) (by omega) (l := [(1, _), (2, _), (4, _), (6, _), (22, _), (23, _)]) (B := _) ⟨rfl, rfl, rfl, rfl, rfl, rfl, trivial⟩ (.cons _ (List.Sublist.refl _)) ⟨rfl, k + 1, Bn, cn, Bm, cm, xs ++ [(some ⟨g8, 0, none⟩, C.length)], fl, st, by omega, by rw [List.length_append, hxs]; rfl, hg0, hc0, by rw [e4, e3]; exact (List.perm_append_singleton _ (_ :: _ :: _ :: _ :: _ :: _ :: _ :: _ :: _)).symm, rfl⟩
 obtain rfl : k = R.length := by omega
 have hxn : xs.length = (nestR (nrX R C X R.length)).length := by rw [nestR_length, nrX_len]; exact hxs
 (apply tr_v tk; (conv => whnf); (repeat ((first | (apply VLd.mk; (focus ((repeat (first | ((with_reducible apply ld_blk); exact rfl) | (with_reducible apply ld_skip))); done))) | apply VBr.f | (apply v_f; omega) | (refine sla ?_; first | refine otl_nil ?_ | (refine otl_cons ?_; apply ot_v tk) | skip) | (apply VK.mk; first | (refine otl_cons ?_; apply ot_v tk) | apply ot_v tk)); (conv => whnf))); apply VStop.mk)
 refine tr_own_nil 37 2 ?_
 refine v_loop (fun gm ds ts A => ds = [] ∧ ∃ (k : Nat) (Bc : Option Addr) (cc' : Nat) (fl : Nat → Nat → Int) (st : List (Nat × (Int × Int))), k + gm = C.length ∧ (∀ u v, netE R.length C.length u v = false → fl u v = 0) ∧ Circ (2 + R.length + C.length) (netLo R C X) (netHi R C X) fl ∧
   A = .own (.slice Bc k cc') 37 2 k (rgC (nrC R C X k)) :: .own (.slice Br R.length cr) 37 2 R.length (rgC (nrR R C X R.length)) :: .own (.slice Bx R.length cx) 22 1 R.length (nsVs xs (nestR (nrX R C X R.length))) :: .blk g6 25 [.slice Br R.length cr, .slice Bc k cc', .slice Bx R.length cx] :: netA (netC RA rc CA cc XA xc R C X bm fm) gn bm (keyM (netE R.length C.length) (rngV (netLo R C X) (netHi R C X))) stb fm (keyM (netE R.length C.length) (intV fl)) st (.blk g2 25 [.slice none 0 0, .slice none 0 0, .slice none 0 0] :: .blk gt 25 [.slice RA R.length rc, .slice CA C.length cc, .slice XA X.length xc] :: nsCh 37 2 xs (nestR (nrX R C X R.length))) ∧
   ts = [(1, .pointer (some ⟨gt, 0, none⟩)), (2, .pointer (some ⟨g2, 0, none⟩)), (4, .pointer (some ⟨gn, 0, none⟩)), (6, .pointer (some ⟨g6, 0, none⟩)), (75, .int .i64 (C.length : Int)), (76, .int .i64 (k : Int))]) C.length
   (l := [(1, _), (2, _), (4, _), (6, _), (75, _), (76, _)]) (B := _) ?_ (List.Sublist.refl _) ⟨rfl, 0, none, 0, fl, st, by omega, hg0, hc0, rfl, rfl⟩ ?_
 ·exact ⟨rfl, rfl, rfl, rfl, rfl, rfl, trivial⟩
 clear hg0 hc0 fl st hlt hk
 rintro gm ds ts A ⟨rfl, k, Bc, cc', fl, st, hk, hg0, hc0, rfl, rfl⟩
 by_cases hlt : k < C.length
 ·have hco := fun w1 h => column_any RA rc R gn k w1 h (by omega) (by omega)
  (apply tr_v tk; (conv => whnf); (repeat ((first | ((first | apply VStop.mk | apply VCall.stop); refine tr_region_late3 (id := 21) (by kernel_rfl) [.blk g6 25 _] (by (repeat (first | exact sl0 _ | exact sl1 _ | refine sl2 _ ?_ | refine sl3 _ ?_))) [0, 1, 2, 3, 4] [5, 6, 7, 8] 9 [10, 11] [.rd, .rd, .rd, .rd, .rd] rfl (by kernel_rfl) ?_; apply ot_v tk) | (apply VCall.q; kernel_rfl; (focus (intro w1 hs; first | ((with_reducible apply hco w1); exact cell_blk (by (repeat (first | exact List.Mem.head _ | assumption | refine List.Mem.tail _ ?_))) rfl w1 hs)))) | (apply VLd.mk; (focus ((repeat (first | ((with_reducible apply ld_blk); exact rfl) | (with_reducible apply ld_skip))); done))) | apply VBr.t | (apply v_t; omega) | (refine sla ?_; first | refine otl_nil ?_ | (refine otl_cons ?_; apply ot_v tk) | skip) | (apply VK.mk; first | (refine otl_cons ?_; apply ot_v tk) | apply ot_v tk)); (conv => whnf))); apply VCall.stop)
  refine ot_callW (X := SpanX) (us := []) (vs := []) (fun x => .agg #[.int .i64 (x.fl (2 + R.length + k) 1), .int .i64 x.hi]) _ _ rfl rfl rfl rfl rfl (by kernel_rfl) (evl_of rfl) rfl (fun w1 hs => hsc (pre := [_, _, _, _]) hlt hg0 hc0 hs) ?_
  rintro ⟨hi, fl1, st1⟩ ⟨hg1, hc1, h3⟩
  have hst := nrC_step R C X k
  rw [h3.col hV hlt] at hst
  dsimp only at hst hg1 hc1 ⊢
  have hst2 := congrArg rgC hst
  rw [rgC_append] at hst2
  change rgC (nrC R C X (k + 1)) = rgC (nrC R C X k) ++ [.int .i64 (fl1 (2 + R.length + k) 1), .int .i64 hi] at hst2
  (dsimp only [List.cons_append, List.nil_append]; apply ot_v tk)
  ((conv => whnf); (repeat ((first | (apply VStop.mk; (refine ot_appendS (sz := 2) (sl := k) (xs := rgC (nrC R C X k)) (news := [.int .i64 (fl1 (2 + R.length + k) 1), .int .i64 hi]) (A'v := fun v' => _ :: .own v' 37 2 (k + 1) _ :: _) tk rfl rfl rfl rfl rfl rfl rfl rfl rfl rfl (by decide) rfl (cells_blk_all (.head _)) rfl rfl (fun v' => .there .here) (by omega) (by decide) (fun Bn cn => ?_)); apply ot_v tk) | (apply VRng.mk; omega) | (apply VNew.mk; intro g hg) | (apply VSt.mk; (focus ((repeat (first | (with_reducible exact At.here) | (with_reducible apply At.there))); done)); exact rfl) | (refine sla ?_; first | refine otl_nil ?_ | (refine otl_cons ?_; apply ot_v tk) | skip) | (apply VK.mk; first | (refine otl_cons ?_; apply ot_v tk) | apply ot_v tk)); (conv => whnf))))
  rw [← hst2]
  exact v_rnd (gm - 1) (by omega) (l := [(1, _), (2, _), (4, _), (6, _), (75, _), (76, _)]) (B := _) ⟨rfl, rfl, rfl, rfl, rfl, rfl, trivial⟩ (.cons _ (List.Sublist.refl _)) ⟨rfl, k + 1, Bn, cn, fl1, st1, by omega, hg1, hc1, rfl, rfl⟩
 obtain rfl : k = C.length := by omega
 have l1 : (nrR R C X R.length).length = R.length := map_range_len _ _
 have l2 : (nrC R C X C.length).length = C.length := map_range_len _ _
 (apply tr_v tk; (conv => whnf); (repeat ((first | (apply VLdN.mk; (focus ((repeat (first | (with_reducible apply ldn_blk) | (with_reducible apply ldn_skip))); done)); exact rfl) | apply VBr.f | (apply v_f; omega) | (apply VSt.mk; (focus ((repeat (first | (with_reducible exact At.here) | (with_reducible apply At.there))); done)); exact rfl) | (refine sla ?_; first | refine otl_nil ?_ | (refine otl_cons ?_; apply ot_v tk) | skip) | (apply VK.mk; first | (refine otl_cons ?_; apply ot_v tk) | apply ot_v tk)); (conv => whnf))))
 (apply VRet.mk)
 refine ret2 (by first | exact .inl rfl | exact .inr rfl) rfl (by exact rv_row tk rfl rfl rfl (by first | exact cells_blk_all (by (repeat (first | exact List.Mem.head _ | assumption | refine List.Mem.tail _ ?_))) | exact cells_row0 (by (repeat (first | exact List.Mem.head _ | assumption | refine List.Mem.tail _ ?_)))) rfl) (by exact rv_tmp rfl) ?_
 refine fun w hs => ⟨⟨(Br, cr), (Bc, cc'), (Bx, cx), xs⟩, ?_, by rw [nrX_len]; exact hxs, ?_⟩
 ·unfold tabX tabV
  rw [l1, l2, nrX_len]
 ·unfold tabCh
  dsimp only
  rw [l1, l2, nrX_len]
  exact (hs.perm (List.Perm.swap _ _ _)).sub (.cons_cons _ (.cons_cons _ (.cons_cons _ (.cons _ (.cons _ (.cons _ (.cons _ (.cons _ (.cons _ (List.Sublist.refl _)))))))))) 
end
end Go.Proofs.Ytalcccgialpjgaa
