/- xl:: lemmas for the rows of this seat. No conditions. -/
import Derived.Laws.StructEq
import Derived.Test.YtojeeindlijgkaaGreatDoorK40
import Derived.Test.YtojeeindlijgkaaGreatDoorVy
set_option linter.all false
namespace Go.Proofs.YtojeeindlijgkaaGreatDoor
open Go.RowKit
/-! ## x[l:] -/
section
variable {P : Program} {tab : TT} {w0 : World} {n : Nat} {ds : List Deferred} {ops : List Oper} {o : Oper} {os : List Oper} {ks : List Kind} {ts : TS} {A : List Chunk} {K : TS → List Chunk → Prop} {d : Tmp}
variable {x y : Operand} {t u : TypeId} {i i' : TI}
theorem ot_slice_lo {e b off len cap lo : Nat} {lov : Operand} {k : IntKind} {p : Int} (hT : TabOk P tab) (hop : o.op = .slice t x (some lov) none none) (hd : o.dst = some d) (hw : wantB ops ts o = some true) (hx : evT ts x = some (.slice (some ⟨b, off, none⟩) len cap)) (hl : evT ts lov = some (.int k p))
  (hi : lookI tab t = some i) (hdd : i.d = .sl e) (hi' : lookI tab e = some i') (hp : p = (lo : Int)) (hle : lo ≤ len)
  (hk : OT P w0 n ds ops os ks.tail ((d, .slice (some (if cap = lo then ⟨b, off, none⟩ else ⟨b, off + lo * i'.size, none⟩)) (len - lo) (cap - lo)) :: ts) A K) : OT P w0 n ds ops (o :: os) ks ts A K :=
 ot_val _ hd hw (fun a w hh => by
  subst hp
  have h1 := (hT t i hi).sl hdd
  have h2 := (hT e i' hi').sz w
  have h3 : (0 : Int) ≤ lo ∧ (lo : Int) ≤ len := by omega
  simp only [execOp, hop, hh.ev hx, hh.ev hl, Instr.sliceAt, Option.map_some, Option.map_none, Sem.run_bind, run_underlying h1, Result.andThen_ok, Instr.slice, Instr.sliceBounds, Instr.sliceBound, asIntOf, Sem.run_pure, h3, and_self, if_true, h2, Int.toNat_natCast, Addr.add_none, Option.isSome_none, Bool.false_eq_true, if_false]
  by_cases hc : cap = lo <;> simp [hc]) hk
end
/-! ## A line with another thing and value -/
theorem lnC_two (l : List Ln) (i : Nat) (hi : i < l.length) (a b : Int) : ((lnC l).set (0 + i * 5 + 3) (.int .i64 a)).set (0 + i * 5 + 4) (.int .i64 b) = lnC (l.set i ⟨(lnAt l i).st, (lnAt l i).ck, (lnAt l i).kd, a, b⟩) := by
 apply List.ext_getElem?
 intro k
 by_cases hk : k < l.length * 5
 ·have h1 := lnC_get l (k / 5) (by omega) (k % 5) (by omega)
  have h2 := lnC_get (l.set i ⟨(lnAt l i).st, (lnAt l i).ck, (lnAt l i).kd, a, b⟩) (k / 5) (by rw [List.length_set]; omega) (k % 5) (by omega)
  have e : k / 5 * 5 + k % 5 = k := by omega
  rw [e] at h1 h2
  rw [h2, lnAt_set _ hi, List.getElem?_set, List.getElem?_set, List.length_set, lnC_length, h1]
  by_cases hq : k / 5 = i
  ·rw [if_pos hq, hq]
   have hr : k % 5 = 0 ∨ k % 5 = 1 ∨ k % 5 = 2 ∨ k % 5 = 3 ∨ k % 5 = 4 := by omega
   rcases hr with hr | hr | hr | hr | hr
   ·rw [if_neg (by omega), if_neg (by omega), hr]; rfl
   ·rw [if_neg (by omega), if_neg (by omega), hr]; rfl
   ·rw [if_neg (by omega), if_neg (by omega), hr]; rfl
   ·rw [if_neg (by omega), if_pos (by omega), if_pos (by omega), hr]; rfl
   ·rw [if_pos (by omega), if_pos (by omega), hr]; rfl
  ·rw [if_neg hq, if_neg (by omega), if_neg (by omega)]
 ·rw [List.getElem?_eq_none (by rw [List.length_set, List.length_set, lnC_length]; omega), List.getElem?_eq_none (by rw [lnC_length, List.length_set]; omega)]
theorem tmod_natC (a b : Nat) : Int.tmod (a : Int) (b : Int) = ((a % b : Nat) : Int) := (Int.ofNat_tmod a b).symm
section
variable {P : Program} {tab : TT} {w0 : World} {n : Nat} {ds : List Deferred} {ops : List Oper} {o : Oper} {os : List Oper} {ks : List Kind} {ts : TS} {A : List Chunk} {K : TS → List Chunk → Prop} {d : Tmp} {x y : Operand} {t u : TypeId} {i i' : TI}
/-- x[l:], the place by a name. -/
theorem ot_slice_loE {e b off len cap lo sz b' off' : Nat} {lov : Operand} {k : IntKind} {p : Int} (hT : TabOk P tab) (hop : o.op = .slice t x (some lov) none none) (hd : o.dst = some d) (hw : wantB ops ts o = some true) (hx : evT ts x = some (.slice (some ⟨b, off, none⟩) len cap)) (hl : evT ts lov = some (.int k p))
  (hi : lookI tab t = some i) (hdd : i.d = .sl e) (hi' : lookI tab e = some i') (hsz : i'.size = sz) (hp : p = (lo : Int)) (hle : lo ≤ len) (he : (if cap = lo then (⟨b, off, none⟩ : Addr) else ⟨b, off + lo * sz, none⟩) = ⟨b', off', none⟩)
  (hk : OT P w0 n ds ops os ks.tail ((d, .slice (some ⟨b', off', none⟩) (len - lo) (cap - lo)) :: ts) A K) : OT P w0 n ds ops (o :: os) ks ts A K := by
 subst hsz
 exact ot_slice_lo hT hop hd hw hx hl hi hdd hi' hp hle (by rw [he]; exact hk)
/-- x[l:h] -/
theorem ot_slice_lh {e b off len cap lo h sz : Nat} {lov hov : Operand} {k k' : IntKind} {p q : Int} (hT : TabOk P tab) (hop : o.op = .slice t x (some lov) (some hov) none) (hd : o.dst = some d) (hw : wantB ops ts o = some true) (hx : evT ts x = some (.slice (some ⟨b, off, none⟩) len cap)) (hl : evT ts lov = some (.int k p)) (hh' : evT ts hov = some (.int k' q))
  (hi : lookI tab t = some i) (hdd : i.d = .sl e) (hi' : lookI tab e = some i') (hsz : i'.size = sz) (hp : p = (lo : Int)) (hq : q = (h : Int)) (hle : lo < h) (hc : h ≤ cap)
  (hk : OT P w0 n ds ops os ks.tail ((d, .slice (some ⟨b, off + lo * sz, none⟩) (h - lo) (cap - lo)) :: ts) A K) : OT P w0 n ds ops (o :: os) ks ts A K :=
 ot_val _ hd hw (fun a w hh => by
  subst hp hq hsz
  have h1 := (hT t i hi).sl hdd
  have h2 := (hT e i' hi').sz w
  have h3 : (0 : Int) ≤ lo ∧ (lo : Int) ≤ h := by omega
  have h4 : (0 : Int) ≤ h ∧ (h : Int) ≤ cap := by omega
  have h5 : cap ≠ lo := by omega
  simp only [execOp, hop, hh.ev hx, hh.ev hl, hh.ev hh', Instr.sliceAt, Option.map_some, Option.map_none, Sem.run_bind, run_underlying h1, Result.andThen_ok, Instr.slice, Instr.sliceBounds, Instr.sliceBound, asIntOf, Sem.run_pure, h3, h4, and_self, if_true, h2, Int.toNat_natCast, Addr.add_none, Option.isSome_none, Bool.false_eq_true, if_false]
  simp [h5]) hk
end
theorem lnC_drop (l : List Ln) : ∀ k, lnC (l.drop k) = (lnC l).drop (k * 5) := by
 induction l with
 | nil => intro k; simp [lnC]
 | cons x l ih =>
  intro k
  cases k with
  | zero => simp
  | succ k =>
   rw [List.drop_succ_cons, ih, lnC, show (k + 1) * 5 = 5 + k * 5 by omega]
   rw [← List.drop_drop, List.drop_append_of_le_length (by simp [lnL])]
   rfl
/-- What stands behind a line of a book. -/
theorem drop_cells {w : World} {b o c i : Nat} {l : List Ln} (h : BookR w (some ⟨b, o, none⟩) l) (hi : i < l.length) : ∃ b' o', (if c = i + 1 then (⟨b, o, none⟩ : Addr) else ⟨b, o + (i + 1) * 5, none⟩) = ⟨b', o', none⟩ ∧ ∀ A, l.length ≤ c → CellsAt w A b' o' (lnC (l.drop (i + 1))) := by
 by_cases hc : c = i + 1
 ·refine ⟨b, o, by rw [if_pos hc], fun A hl w' hs j u hu => ?_⟩
  rw [List.drop_eq_nil_of_le (by omega)] at hu
  simp [lnC] at hu
 ·refine ⟨b, o + (i + 1) * 5, by rw [if_neg hc], fun A hl w' hs j u hu => ?_⟩
  obtain ⟨b', o', he, hb, h1⟩ := (hs.book h).2 (by omega)
  cases he
  rw [lnC_drop, List.getElem?_drop] at hu
  have := h1 _ u hu
  rw [← Nat.add_assoc] at this
  exact this
theorem take_cells {w : World} {b o i : Nat} {l : List Ln} (h : BookR w (some ⟨b, o, none⟩) l) (hi : i < l.length) (A : List Chunk) : CellsAt w A b o (lnC (l.take i)) := fun w' hs j u hu => by
 obtain ⟨b', o', he, hb, h1⟩ := (hs.book h).2 (by omega)
 cases he
 have e : lnC l = lnC (l.take i) ++ lnC (l.drop i) := by rw [← lnC_append, List.take_append_drop]
 refine h1 j u ?_
 rw [e, List.getElem?_append_left (List.getElem?_eq_some_iff.1 hu).1]
 exact hu
theorem own_cap {w0 w : World} {A : List Chunk} (hs : St w0 A w) {B : Option Addr} {n c sz : Nat} {t : TypeId} {xs : List Value} (h : Chunk.own (.slice B n c) t sz n xs ∈ A) (hn : 0 < n) : n ≤ c := by
 rcases (hs.all _ h).2 with ⟨h0, _⟩ | ⟨g, cap, cur, e, h2, h3, h4, h5, _⟩
 ·omega
 ·cases e; first | exact h4 | exact h5
section
variable {P : Program} {w0 : World} {n : Nat} {r : Option Nat} {ds : List Deferred} {ts : TS} {A : List Chunk} {Q : PostT}
theorem tr_own_cap {c : Code} {B : Option Addr} {cc sz m : Nat} {te : TypeId} {xs : List Value} (hA : .own (.slice B m cc) te sz m xs ∈ A) (hm : 0 < m) (h : m ≤ cc → Tr P r w0 n c ds ts A Q) : Tr P r w0 n c ds ts A Q :=
 tr_fact (p := m ≤ cc) (fun w' hs => own_cap hs hA hm) h
end
theorem sameX {l : List Ln} {m : Nat} {A1 A2 : Option Addr} {c1 c2 : Nat} {A : List Chunk} {w0 w : World} {xs : List Value} (hs : St w0 A w) (h1 : Chunk.own (.slice A1 l.length c1) 61 5 l.length (lnC l) ∈ A) (h2 : Chunk.own (.slice A2 m c2) 61 5 m xs ∈ A) (hl : m = l.length) (hx : xs = lnC l) (hm : l.length ≤ 1000) :
  Calls Tryz.prog 28 #[.agg #[.slice A1 l.length c1], .agg #[.slice A2 m c2]] w fun e w' => e = .returned (.bool true) ∧ Below w.heap.size w w' := by
 subst hl hx
 exact sameN hs h1 h2 rfl hm
theorem sub_book {w : World} {g i : Nat} {X : List Ln} (h : BookR w (some ⟨g, 0, none⟩) X) (hi : i < X.length) : BookR w (some ⟨g, 0 + i * 5, none⟩) [lnAt X i] := by
 refine ⟨rfl, fun _ => ?_⟩
 obtain ⟨b, o, e, hb, hc⟩ := h.2 (by omega)
 cases e
 refine ⟨g, 0 + i * 5, rfl, hb, fun j u hu => ?_⟩
 have h5 : j < 5 := by
  have := (List.getElem?_eq_some_iff.1 hu).1
  rw [lnC_length] at this
  simpa using this
 have := lnC_get X i hi j h5
 have e : (lnC [lnAt X i])[j]? = (lnL (lnAt X i))[j]? := by rw [lnC, lnC, List.append_nil]
 rw [e, ← this] at hu
 have := hc _ u hu
 rw [← Nat.add_assoc] at this
 exact this
/-! ## BookClash -/
set_option maxHeartbeats 4000000 in
set_option maxRecDepth 20000 in
theorem law13_any (A1 : Option Addr) (a1 : Nat) (l1 : List Ln) (p q v : Nat) (hp : p < 256) (hq : q < 256) (hv : v < 65536) (w : World) (h1 : BookR w A1 l1) (hm1 : l1.length ≤ maxLen) (hc1 : l1.length ≤ a1) (hE : LayE w) (hM : MaxL w) :
  Calls Tryz.prog 13 #[.agg #[.slice A1 l1.length a1], .int .u8 (p : Int), .int .u8 (q : Int), .int .u16 (v : Int)] w fun e w' => e = .returned (.bool true) ∧ Below w.heap.size w w' := by
 have kw := fun w1 h1 h2 => works_any w1 h1 h2
 have g1 := fun w1 h => fine_any A1 a1 l1 w1 h hm1
 by_cases hg1 : chkBook l1 = 0
 rotate_left
 ·rw [decide_eq_false hg1] at g1
  refine fn_v tk (n := 157) (A := []) Tryz.func13 rfl rfl (Nat.le_of_ble_eq_true rfl) (St.nil (Below.refl _ _)) ?_
  ((conv => whnf); (repeat ((first | (apply VCall.q; kernel_rfl; (focus (intro w1 hs; first | with_reducible apply g1 w1 (hs.book h1) | with_reducible apply kw w1 (hE.st hs) (hM.st hs)))) | (apply VLdN.mk; (focus ((repeat (first | (with_reducible apply ldn_blk) | (with_reducible apply ldn_skip))); done)); exact rfl) | apply VBr.t | (apply VNew.mk; intro g hg)); (conv => whnf))))
  ((apply VRet.mk); refine ret1 (by first | exact .inl rfl | exact .inr rfl) rfl (by exact rv_tmp rfl) ?_; exact fun w h => ⟨rfl, h.base⟩)
 rw [decide_eq_true hg1] at g1
 by_cases h0 : l1.length = 0
 ·refine fn_v tk (n := 157) (A := []) Tryz.func13 rfl rfl (Nat.le_of_ble_eq_true rfl) (St.nil (Below.refl _ _)) ?_
  ((conv => whnf); (repeat ((first | (apply VCall.q; kernel_rfl; (focus (intro w1 hs; first | with_reducible apply g1 w1 (hs.book h1) | with_reducible apply kw w1 (hE.st hs) (hM.st hs)))) | (apply VLd.mk; (focus ((repeat (first | ((with_reducible apply ld_blk); exact rfl) | (with_reducible apply ld_skip))); done))) | (apply VLdN.mk; (focus ((repeat (first | (with_reducible apply ldn_blk) | (with_reducible apply ldn_skip))); done)); exact rfl) | apply VBr.t | apply VBr.f | (apply v_t; omega) | (apply VNew.mk; intro g hg)); (conv => whnf))))
  ((apply VRet.mk); refine ret1 (by first | exact .inl rfl | exact .inr rfl) rfl (by exact rv_tmp rfl) ?_; exact fun w h => ⟨rfl, h.base⟩)
 have v1 := chk_valid.1 hg1
 have hl1 := v1.len
 have hi : p % l1.length < l1.length := Nat.mod_lt _ (by omega)
 have hrem := tmod_natC p l1.length
 generalize p % l1.length = i at *
 obtain ⟨ba, oa, rfl⟩ := book_addr h1 hi
 have e8 : Int.tmod (q : Int) 8 = ((q % 8 : Nat) : Int) := tmod_natC q 8
 have e1001 : Int.tmod (v : Int) 1001 = ((v % 1001 : Nat) : Int) := tmod_natC v 1001
 have t8 : q % 8 < 8 := Nat.mod_lt _ (by decide)
 have t1001 : v % 1001 < 1001 := Nat.mod_lt _ (by decide)
 generalize q % 8 = th at *
 generalize v % 1001 = vl at *
 have cA := ln_cells h1 hi
 refine fn_t (n := 157) (A := []) Tryz.func13 rfl rfl (Nat.le_of_ble_eq_true rfl) (St.nil (Below.refl _ _)) ?_
 refine tr_cut (fun x : Nat => ([(1, .int .u8 (p : Int)), (2, .int .u8 (q : Int)), (3, .int .u16 (v : Int)), (4, .pointer (some ⟨x, 0, none⟩)), (8, .bool false)], [.blk x 24 [.slice (some ⟨ba, oa, none⟩) l1.length a1]])) ?_ ?_
 ·(apply tr_v tk; (conv => whnf); (repeat ((apply VNew.mk; intro g hg); (conv => whnf))))
  exact VJ.mk g rfl ⟨rfl, rfl, rfl, rfl, rfl, trivial⟩ (by ((try dsimp only); repeat (first | exact Pick.nil | ((apply Pick.cons); (focus (repeat (first | exact Rem.here | apply Rem.there)); done)))))
 rintro g4
 dsimp only
 refine tr_cut (fun x : Unit => ([(1, .int .u8 (p : Int)), (2, .int .u8 (q : Int)), (3, .int .u16 (v : Int)), (4, .pointer (some ⟨g4, 0, none⟩)), (8, .bool false)], [.blk g4 24 [.slice (some ⟨ba, oa, none⟩) l1.length a1]])) ?_ ?_
 ·(apply tr_v tk; (conv => whnf); (repeat ((first | (apply VCall.q; kernel_rfl; (focus (intro w1 hs; first | with_reducible apply g1 w1 (hs.book h1)))) | (apply VLd.mk; (focus ((repeat (first | ((with_reducible apply ld_blk); exact rfl) | (with_reducible apply ld_skip))); done))) | (apply VLdN.mk; (focus ((repeat (first | (with_reducible apply ldn_blk) | (with_reducible apply ldn_skip))); done)); exact rfl) | apply VBr.f | (apply v_f; omega)); (conv => whnf))))
  exact VJ.mk () rfl ⟨rfl, rfl, rfl, rfl, rfl, trivial⟩ (by ((try dsimp only); repeat (first | exact Pick.nil | ((apply Pick.cons); (focus (repeat (first | exact Rem.here | apply Rem.there)); done)))))
 rintro _
 dsimp only
 refine tr_cut (fun x : Unit => ([(2, .int .u8 (q : Int)), (3, .int .u16 (v : Int)), (4, .pointer (some ⟨g4, 0, none⟩)), (8, .bool false), (9, .int .i64 (i : Int))], [.blk g4 24 [.slice (some ⟨ba, oa, none⟩) l1.length a1]])) ?_ ?_
 ·(apply tr_v tk; (conv => whnf); (repeat ((first | (apply VLd.mk; (focus ((repeat (first | ((with_reducible apply ld_blk); exact rfl) | (with_reducible apply ld_skip))); done))) | (apply v_wr64; omega) | (apply VNz.mk; omega)); (conv => whnf))))
  rw [hrem]
  exact VJ.mk () rfl ⟨rfl, rfl, rfl, rfl, rfl, trivial⟩ (by ((try dsimp only); repeat (first | exact Pick.nil | ((apply Pick.cons); (focus (repeat (first | exact Rem.here | apply Rem.there)); done)))))
 rintro _
 dsimp only
 refine tr_cut (fun x : Nat × Nat × Nat => ([(2, .int .u8 (q : Int)), (3, .int .u16 (v : Int)), (4, .pointer (some ⟨g4, 0, none⟩)), (8, .bool false), (9, .int .i64 (i : Int)), (10, .pointer (some ⟨x.1, 0, none⟩))], [.blk x.1 24 [.slice (some ⟨x.2.1, 0, none⟩) l1.length x.2.2], .own (.slice (some ⟨x.2.1, 0, none⟩) l1.length x.2.2) 61 5 l1.length (lnC l1), .blk g4 24 [.slice (some ⟨ba, oa, none⟩) l1.length a1]])) ?_ ?_
 ·(apply tr_v tk; (conv => whnf); (repeat ((first | (apply VLd.mk; (focus ((repeat (first | ((with_reducible apply ld_blk); exact rfl) | (with_reducible apply ld_skip))); done))) | (apply VNew.mk; intro g hg)); (conv => whnf))); apply VStop.mk)
  refine ot_appendE (sz := 5) (m := l1.length) (news := lnC l1) tk (by decide) rfl rfl rfl rfl rfl rfl rfl rfl rfl rfl (by omega) (fun w hs => hs.book h1) (by omega) (by decide) (fun gx cx hgx => ?_)
  (dsimp only [List.cons_append, List.nil_append]; apply ot_v tk)
  ((conv => whnf); (repeat ((first | (apply VNew.mk; intro g hg) | (apply VSt.mk; (focus ((repeat (first | (with_reducible exact At.here) | (with_reducible apply At.there))); done)); exact rfl)); (conv => whnf))))
  exact VJ.mk (g, gx, cx) rfl ⟨rfl, rfl, rfl, rfl, rfl, rfl, trivial⟩ (by ((try dsimp only); repeat (first | exact Pick.nil | ((apply Pick.cons); (focus (repeat (first | exact Rem.here | apply Rem.there)); done)))))
 rintro ⟨g10, gx, cx⟩
 dsimp only
 have hset : setMany (setMany (lnC l1) (0 + i * 5 + 3) [.int .i64 (Int.tmod (q : Int) 8)]) (0 + i * 5 + 4) [.int .i64 (Int.tmod (v : Int) 1001)] = lnC (l1.set i ⟨(lnAt l1 i).st, (lnAt l1 i).ck, (lnAt l1 i).kd, (th : Int), (vl : Int)⟩) := by
  rw [e8, e1001, setMany_one, setMany_one]
  ·exact lnC_two l1 i hi _ _
  ·rw [lnC_length]; omega
  ·rw [setMany_one _ (by rw [lnC_length]; omega), List.length_set, lnC_length]; omega
 refine tr_cut (fun x : Unit => ([(4, .pointer (some ⟨g4, 0, none⟩)), (8, .bool false), (9, .int .i64 (i : Int)), (10, .pointer (some ⟨g10, 0, none⟩))], [.blk g10 24 [.slice (some ⟨gx, 0, none⟩) l1.length cx], .own (.slice (some ⟨gx, 0, none⟩) l1.length cx) 61 5 l1.length (lnC (l1.set i ⟨(lnAt l1 i).st, (lnAt l1 i).ck, (lnAt l1 i).kd, (th : Int), (vl : Int)⟩)), .blk g4 24 [.slice (some ⟨ba, oa, none⟩) l1.length a1]])) ?_ ?_
 ·(apply tr_v tk; (conv => whnf); (repeat ((first | (apply VStop.mk; refine tr_region_treeV (id := 5) (by kernel_rfl) [.blk g10 24 _] (by (repeat (first | exact sl0 _ | exact sl1 _ | refine sl2 _ ?_ | refine sl3 _ ?_))) [0, 1, 2, 3, 4, 5, 6, 7, 8, 9, 10, 11, 12, 13] [14, 15, 16, 17] [.rd, .rd, .rd, .rd, .rd, .rd, .rd, .rd, .rd, .rd, .rd, .rd, .rd, .rd] (fun i => [.wr, .wr, .wr, .wr, .wr, .wr, .wr, .wr, .wr, .wr, .wr, .wr, .wr, .wr, .wr, .wr, .wr, .wr].getD i .wr) _ rfl rfl (by kernel_rfl) ?_; apply ot_v tk) | (apply VIx.mk (j := i); exact rfl; omega) | (apply VLd.mk; (focus ((repeat (first | ((with_reducible apply ld_blk); exact rfl) | (with_reducible apply ld_skip))); done))) | (apply v_wr64; omega) | (apply VNz.mk; omega)); (conv => whnf))))
  refine ox1 14 ?_
  (apply ot_v tk; (conv => whnf); (apply VSt.stop; refine ot_storeN_own (sz := 5) (vs := [_]) tk rfl rfl rfl rfl rfl rfl rfl rfl rfl rfl (.there .here) (by simp only [List.length_cons, List.length_nil]; omega) (Nat.succ_pos _) ?_; apply ot_v tk; (conv => whnf)); refine sla ?_)
  refine ox1 15 ?_
  (apply ot_v tk; (conv => whnf); ((apply VIx.mk (j := i); exact rfl; omega); (conv => whnf)); refine sla ?_)
  refine ox1 16 ?_
  (apply ot_v tk; (conv => whnf); refine sla ?_)
  refine ox1 17 ?_
  (apply ot_v tk; (conv => whnf); (apply VSt.stop; refine ot_storeN_own (sz := 5) (vs := [_]) tk rfl rfl rfl rfl rfl rfl rfl rfl rfl rfl (.there .here) (by simp only [List.length_cons, List.length_nil]; omega) (Nat.succ_pos _) ?_; apply ot_v tk; (conv => whnf)); refine sla ?_)
  refine VT.mk (otx_end ?_)
  rw [hset]; exact VJ.mk () rfl ⟨rfl, rfl, rfl, rfl, trivial⟩ (by ((try dsimp only); repeat (first | exact Pick.nil | ((apply Pick.cons); (focus (repeat (first | exact Rem.here | apply Rem.there)); done)))))
 rintro _
 dsimp only
 have vy : isLine ⟨(lnAt l1 i).st, (lnAt l1 i).ck, (lnAt l1 i).kd, (th : Int), (vl : Int)⟩ = true := by
  have h := v1.ok i hi
  unfold isLine inB leastV at *
  simp only [Bool.and_eq_true, decide_eq_true_eq] at h ⊢
  refine ⟨⟨⟨⟨h.1.1.1.1, h.1.1.1.2⟩, h.1.1.2⟩, by omega, by omega⟩, ?_, by omega⟩
  split <;> omega
 have vX := setB_valid v1 hi vy rfl rfl
 have hXl : (l1.set i ⟨(lnAt l1 i).st, (lnAt l1 i).ck, (lnAt l1 i).kd, (th : Int), (vl : Int)⟩).length = l1.length := List.length_set ..
 have hXi : lnAt (l1.set i ⟨(lnAt l1 i).st, (lnAt l1 i).ck, (lnAt l1 i).kd, (th : Int), (vl : Int)⟩) i = ⟨(lnAt l1 i).st, (lnAt l1 i).ck, (lnAt l1 i).kd, (th : Int), (vl : Int)⟩ := by rw [lnAt_set _ hi, if_pos rfl]
 have sc := fun h => setB_clash v1 hi (y := ⟨(lnAt l1 i).st, (lnAt l1 i).ck, (lnAt l1 i).kd, (th : Int), (vl : Int)⟩) rfl rfl h
 have so := fun h => setB_only v1 hi vy rfl rfl h
 have sk := fun h => setB_common v1 hi (y := ⟨(lnAt l1 i).st, (lnAt l1 i).ck, (lnAt l1 i).kd, (th : Int), (vl : Int)⟩) rfl rfl h
 generalize l1.set i ⟨(lnAt l1 i).st, (lnAt l1 i).ck, (lnAt l1 i).kd, (th : Int), (vl : Int)⟩ = X at *
 generalize hy : (⟨(lnAt l1 i).st, (lnAt l1 i).ck, (lnAt l1 i).kd, (th : Int), (vl : Int)⟩ : Ln) = y at *
 have hys : y.st = (lnAt l1 i).st := by rw [← hy]
 generalize lnAt l1 i = L at *
 have cX := fun {A : List Chunk} (h : Chunk.own (.slice (some ⟨gx, 0, none⟩) l1.length cx) 61 5 l1.length (lnC X) ∈ A) => own_ln (w0 := w) h (k := i) (by omega)
 rw [hXi] at cX
 by_cases hq : y = L
 ·have he := fun w1 => ln_eqV (decide_eq_true hq) w1
  (apply tr_v tk; (conv => whnf); (repeat ((first | ((first | apply VStop.mk | apply VCall.stop); refine tr_region_lex (id := 6) (by kernel_rfl) [.rd, .rd, .rd, .rd, .rd, .rd, .rd, .rd, .rd, .rd, .rd] rfl (by kernel_rfl) ?_; apply ot_v tk) | (apply VLdN.mk; (first | exact cA _ | exact cX (by (repeat (first | exact List.Mem.head _ | assumption | refine List.Mem.tail _ ?_)))); exact rfl) | (apply VIx.mk (j := i); exact rfl; omega) | (apply VEq.mk true; kernel_rfl; exact he) | (apply VCall.q; kernel_rfl; (focus (intro w1 hs; first | with_reducible apply kw w1 (hE.st hs) (hM.st hs)))) | (apply VLd.mk; (focus ((repeat (first | ((with_reducible apply ld_blk); exact rfl) | (with_reducible apply ld_skip))); done))) | apply VBr.t); (conv => whnf))))
  ((apply VRet.mk); refine ret1 (by first | exact .inl rfl | exact .inr rfl) rfl (by exact rv_tmp rfl) ?_; exact fun w h => ⟨rfl, h.base⟩)
 have he := fun w1 => ln_eqV (decide_eq_false hq) w1
 refine tr_cut (fun x : Unit => ([(4, .pointer (some ⟨g4, 0, none⟩)), (8, .bool false), (9, .int .i64 (i : Int)), (10, .pointer (some ⟨g10, 0, none⟩))], [.blk g10 24 [.slice (some ⟨gx, 0, none⟩) l1.length cx], .own (.slice (some ⟨gx, 0, none⟩) l1.length cx) 61 5 l1.length (lnC X), .blk g4 24 [.slice (some ⟨ba, oa, none⟩) l1.length a1]])) ?_ ?_
 ·(apply tr_v tk; (conv => whnf); (repeat ((first | (apply VStop.mk; refine tr_region_lex (id := 6) (by kernel_rfl) [.rd, .rd, .rd, .rd, .rd, .rd, .rd, .rd, .rd, .rd, .rd] rfl (by kernel_rfl) ?_; apply ot_v tk) | (apply VLdN.mk; (first | exact cA _ | exact cX (by (repeat (first | exact List.Mem.head _ | assumption | refine List.Mem.tail _ ?_)))); exact rfl) | (apply VIx.mk (j := i); exact rfl; omega) | (apply VEq.mk false; kernel_rfl; exact he) | (apply VLd.mk; (focus ((repeat (first | ((with_reducible apply ld_blk); exact rfl) | (with_reducible apply ld_skip))); done))) | apply VBr.f); (conv => whnf))))
  exact VJ.mk () rfl ⟨rfl, rfl, rfl, rfl, trivial⟩ (by ((try dsimp only); repeat (first | exact Pick.nil | ((apply Pick.cons); (focus (repeat (first | exact Rem.here | apply Rem.there)); done)))))
 rintro _
 dsimp only
 refine tr_cut (fun x : Nat => ([(4, .pointer (some ⟨g4, 0, none⟩)), (8, .bool false), (9, .int .i64 (i : Int)), (10, .pointer (some ⟨g10, 0, none⟩)), (11, .pointer (some ⟨x, 0, none⟩))], [.blk x 61 [.int .i64 L.st, .int .i64 L.ck, .int .i64 L.kd, .int .i64 L.th, .int .i64 L.vl], .blk g10 24 [.slice (some ⟨gx, 0, none⟩) l1.length cx], .own (.slice (some ⟨gx, 0, none⟩) l1.length cx) 61 5 l1.length (lnC X), .blk g4 24 [.slice (some ⟨ba, oa, none⟩) l1.length a1]])) ?_ ?_
 ·(apply tr_v tk; (conv => whnf); (repeat ((first | (apply VLdN.mk; (first | exact cA _); exact rfl) | (apply VIx.mk (j := i); exact rfl; omega) | (apply VLd.mk; (focus ((repeat (first | ((with_reducible apply ld_blk); exact rfl) | (with_reducible apply ld_skip))); done))) | (apply VNew.mk; intro g hg) | (apply VSt.mk; (focus ((repeat (first | (with_reducible exact At.here) | (with_reducible apply At.there))); done)); exact rfl)); (conv => whnf))))
  exact VJ.mk g rfl ⟨rfl, rfl, rfl, rfl, rfl, trivial⟩ (by ((try dsimp only); repeat (first | exact Pick.nil | ((apply Pick.cons); (focus (repeat (first | exact Rem.here | apply Rem.there)); done)))))
 rintro g11
 dsimp only
 obtain ⟨sc1, sc2⟩ := sc hq
 have hBX := fun {A : List Chunk} {w1 : World} (hs : St w A w1) (hA : Chunk.own (.slice (some ⟨gx, 0, none⟩) l1.length cx) 61 5 l1.length (lnC X) ∈ A) => (show BookR w1 (some ⟨gx, 0, none⟩) X by have := hs.own_rd hA; rw [← hXl] at this; exact this)
 have kc := fun w1 h h' => clash_any (some ⟨ba, oa, none⟩) a1 l1 (some ⟨gx, 0, none⟩) cx X w1 h h' v1 vX
 have km := fun w1 h h' => merge_clash (some ⟨gx, 0, none⟩) cx X (some ⟨ba, oa, none⟩) a1 l1 w1 h h' vX v1 sc2
 have kk := fun w1 h h' => common_ok (some ⟨ba, oa, none⟩) a1 l1 (some ⟨gx, 0, none⟩) cx X w1 h h' v1 vX
 have ko := fun w1 h h' => only_ok (some ⟨gx, 0, none⟩) cx X (some ⟨ba, oa, none⟩) a1 l1 w1 h h' vX v1
 rw [sc1, hXl] at kc
 rw [hXl] at km
 rw [hXl, sk hq] at kk
 rw [hXl, so hq] at ko
 unfold clashV at kc
 dsimp only at kc
 have kc := fun {A : List Chunk} {w1 : World} (hs : St w A w1) (hA : Chunk.own (.slice (some ⟨gx, 0, none⟩) l1.length cx) 61 5 l1.length (lnC X) ∈ A) => kc w1 (hs.book h1) (hBX hs hA)
 have km := fun {A : List Chunk} {w1 : World} (hs : St w A w1) (hA : Chunk.own (.slice (some ⟨gx, 0, none⟩) l1.length cx) 61 5 l1.length (lnC X) ∈ A) => km w1 (hBX hs hA) (hs.book h1)
 refine tr_cut (fun x : Unit => ([(4, .pointer (some ⟨g4, 0, none⟩)), (8, .bool false), (9, .int .i64 (i : Int)), (10, .pointer (some ⟨g10, 0, none⟩)), (11, .pointer (some ⟨g11, 0, none⟩)), (12, .int .i64 L.st), (13, .int .i64 L.ck), (14, .int .i64 0)], [.blk g11 61 [.int .i64 L.st, .int .i64 L.ck, .int .i64 L.kd, .int .i64 L.th, .int .i64 L.vl], .blk g10 24 [.slice (some ⟨gx, 0, none⟩) l1.length cx], .own (.slice (some ⟨gx, 0, none⟩) l1.length cx) 61 5 l1.length (lnC X), .blk g4 24 [.slice (some ⟨ba, oa, none⟩) l1.length a1]])) ?_ ?_
 ·(apply tr_v tk; (conv => whnf); (repeat ((first | (apply VCall.q; kernel_rfl; (focus (intro w1 hs; first | ((with_reducible apply kc hs); (repeat (first | exact List.Mem.head _ | assumption | refine List.Mem.tail _ ?_)))))) | (apply VLdN.mk; (focus ((repeat (first | (with_reducible apply ldn_blk) | (with_reducible apply ldn_skip))); done)); exact rfl)); (conv => whnf))))
  exact VJ.mk () rfl ⟨rfl, rfl, rfl, rfl, rfl, rfl, rfl, rfl, trivial⟩ (by ((try dsimp only); repeat (first | exact Pick.nil | ((apply Pick.cons); (focus (repeat (first | exact Rem.here | apply Rem.there)); done)))))
 rintro _
 dsimp only
 refine tr_cut (fun x : Unit => ([(4, .pointer (some ⟨g4, 0, none⟩)), (8, .bool false), (9, .int .i64 (i : Int)), (10, .pointer (some ⟨g10, 0, none⟩)), (11, .pointer (some ⟨g11, 0, none⟩)), (12, .int .i64 L.st), (13, .int .i64 L.ck), (14, .int .i64 0), (16, .int .i64 28)], [.blk g11 61 [.int .i64 L.st, .int .i64 L.ck, .int .i64 L.kd, .int .i64 L.th, .int .i64 L.vl], .blk g10 24 [.slice (some ⟨gx, 0, none⟩) l1.length cx], .own (.slice (some ⟨gx, 0, none⟩) l1.length cx) 61 5 l1.length (lnC X), .blk g4 24 [.slice (some ⟨ba, oa, none⟩) l1.length a1]])) ?_ ?_
 ·(apply tr_v tk; (conv => whnf); (repeat ((first | (apply VCall.q; kernel_rfl; (focus (intro w1 hs; first | ((with_reducible apply km hs); (repeat (first | exact List.Mem.head _ | assumption | refine List.Mem.tail _ ?_)))))) | (apply VLdN.mk; (focus ((repeat (first | (with_reducible apply ldn_blk) | (with_reducible apply ldn_skip))); done)); exact rfl) | (apply VNew.mk; intro g hg) | (apply VSt.mk; (focus ((repeat (first | (with_reducible exact At.here) | (with_reducible apply At.there))); done)); exact rfl)); (conv => whnf))))
  exact VJ.mk () rfl ⟨rfl, rfl, rfl, rfl, rfl, rfl, rfl, rfl, rfl, trivial⟩ (by ((try dsimp only); repeat (first | exact Pick.nil | ((apply Pick.cons); (focus (repeat (first | exact Rem.here | apply Rem.there)); done)))))
 rintro _
 dsimp only
 generalize hD : delB l1 i = D at *
 refine tr_cut (fun x : SlX × Nat => ([(4, .pointer (some ⟨g4, 0, none⟩)), (8, .bool false), (9, .int .i64 (i : Int)), (10, .pointer (some ⟨g10, 0, none⟩)), (11, .pointer (some ⟨g11, 0, none⟩)), (12, .int .i64 L.st), (13, .int .i64 L.ck), (14, .int .i64 0), (16, .int .i64 28), (17, .pointer (some ⟨x.2, 0, none⟩)), (18, .int .i64 0)], [.blk x.2 24 [.slice x.1.1 D.length x.1.2], .own (.slice x.1.1 D.length x.1.2) 61 5 D.length (lnC D), .blk g11 61 [.int .i64 L.st, .int .i64 L.ck, .int .i64 L.kd, .int .i64 L.th, .int .i64 L.vl], .blk g10 24 [.slice (some ⟨gx, 0, none⟩) l1.length cx], .own (.slice (some ⟨gx, 0, none⟩) l1.length cx) 61 5 l1.length (lnC X), .blk g4 24 [.slice (some ⟨ba, oa, none⟩) l1.length a1]])) ?_ ?_
 ·(apply tr_v tk; (conv => whnf); (repeat ((apply VLdN.mk; (focus ((repeat (first | (with_reducible apply ldn_blk) | (with_reducible apply ldn_skip))); done)); exact rfl); (conv => whnf))); apply VCall.stop)
  refine ot_callT (X := SlX) (us := []) (vs := []) (fun x => .tuple #[.agg #[.slice x.1 D.length x.2], .int .i64 0]) (fun x => []) (fun x => [.own (.slice x.1 D.length x.2) 61 5 D.length (lnC D)]) _ (fun x c hc => one_mut hc) (by decide) rfl rfl rfl rfl (by kernel_rfl) (evl_of rfl) rfl (fun w1 hs => kk w1 (hs.book h1) (hBX hs (by (repeat (first | exact List.Mem.head _ | assumption | refine List.Mem.tail _ ?_))))) ?_
  rintro ⟨Bk, ck⟩ _
  (dsimp only [List.cons_append, List.nil_append]; apply ot_v tk)
  ((conv => whnf); (repeat ((first | (apply VNew.mk; intro g hg) | (apply VSt.mk; (focus ((repeat (first | (with_reducible exact At.here) | (with_reducible apply At.there))); done)); exact rfl)); (conv => whnf))))
  exact VJ.mk ((Bk, ck), g) rfl ⟨rfl, rfl, rfl, rfl, rfl, rfl, rfl, rfl, rfl, rfl, rfl, trivial⟩ (by ((try dsimp only); repeat (first | exact Pick.nil | ((apply Pick.cons); (focus (repeat (first | exact Rem.here | apply Rem.there)); done)))))
 rintro ⟨⟨Bk, ck⟩, g17⟩
 dsimp only
 refine tr_cut (fun x : SlX × Nat => ([(4, .pointer (some ⟨g4, 0, none⟩)), (8, .bool false), (9, .int .i64 (i : Int)), (10, .pointer (some ⟨g10, 0, none⟩)), (11, .pointer (some ⟨g11, 0, none⟩)), (12, .int .i64 L.st), (13, .int .i64 L.ck), (14, .int .i64 0), (16, .int .i64 28), (17, .pointer (some ⟨g17, 0, none⟩)), (18, .int .i64 0), (19, .pointer (some ⟨x.2, 0, none⟩)), (20, .int .i64 0)], [.blk x.2 24 [.slice x.1.1 1 x.1.2], .own (.slice x.1.1 1 x.1.2) 61 5 1 (lnC [y]), .blk g17 24 [.slice Bk D.length ck], .own (.slice Bk D.length ck) 61 5 D.length (lnC D), .blk g11 61 [.int .i64 L.st, .int .i64 L.ck, .int .i64 L.kd, .int .i64 L.th, .int .i64 L.vl], .blk g10 24 [.slice (some ⟨gx, 0, none⟩) l1.length cx], .own (.slice (some ⟨gx, 0, none⟩) l1.length cx) 61 5 l1.length (lnC X), .blk g4 24 [.slice (some ⟨ba, oa, none⟩) l1.length a1]])) ?_ ?_
 ·(apply tr_v tk; (conv => whnf); (repeat ((apply VLdN.mk; (focus ((repeat (first | (with_reducible apply ldn_blk) | (with_reducible apply ldn_skip))); done)); exact rfl); (conv => whnf))); apply VCall.stop)
  refine ot_callT (X := SlX) (us := []) (vs := []) (fun x => .tuple #[.agg #[.slice x.1 1 x.2], .int .i64 0]) (fun x => []) (fun x => [.own (.slice x.1 1 x.2) 61 5 1 (lnC [y])]) _ (fun x c hc => one_mut hc) (by decide) rfl rfl rfl rfl (by kernel_rfl) (evl_of rfl) rfl (fun w1 hs => ko w1 (hBX hs (by (repeat (first | exact List.Mem.head _ | assumption | refine List.Mem.tail _ ?_)))) (hs.book h1)) ?_
  rintro ⟨Bo, co⟩ _
  (dsimp only [List.cons_append, List.nil_append]; apply ot_v tk)
  ((conv => whnf); (repeat ((first | (apply VNew.mk; intro g hg) | (apply VSt.mk; (focus ((repeat (first | (with_reducible exact At.here) | (with_reducible apply At.there))); done)); exact rfl)); (conv => whnf))))
  exact VJ.mk ((Bo, co), g) rfl ⟨rfl, rfl, rfl, rfl, rfl, rfl, rfl, rfl, rfl, rfl, rfl, rfl, rfl, trivial⟩ (by ((try dsimp only); repeat (first | exact Pick.nil | ((apply Pick.cons); (focus (repeat (first | exact Rem.here | apply Rem.there)); done)))))
 rintro ⟨⟨Bo, co⟩, g19⟩
 dsimp only
 refine tr_own_cap (B := some ⟨gx, 0, none⟩) (cc := cx) (sz := 5) (te := 61) (m := l1.length) (xs := lnC X) (by (repeat (first | exact List.Mem.head _ | assumption | refine List.Mem.tail _ ?_))) (by omega) fun hcx => ?_
 obtain ⟨b', o', hsl, dc⟩ := drop_cells (c := a1) h1 hi
 have dc := fun A => dc A hc1
 have dl : (lnC (l1.drop (i + 1))).length = (l1.length - (i + 1)) * 5 := by rw [lnC_length, List.length_drop]
 have d1 : (lnC (l1.drop (i + 1))).all Value.oneCell' = true := by simpa using lnC_one (l1.drop (i + 1))
 have tc := fun A => take_cells h1 hi A
 have tl : (lnC (l1.take i)).length = i * 5 := by rw [lnC_length, List.length_take]; congr 1; omega
 have t1 : (lnC (l1.take i)).all Value.oneCell' = true := by simpa using lnC_one (l1.take i)
 have hDx : [] ++ lnC (l1.take i) ++ lnC (l1.drop (i + 1)) = lnC D := by rw [← hD, delB, lnC_append]; rfl
 have hDl : 0 + i + (l1.length - (i + 1)) = D.length := by rw [← hD, delB, List.length_append, List.length_take, List.length_drop]; omega
 have hyX := hXi
 generalize lnC (l1.take i) = U1 at *
 generalize lnC (l1.drop (i + 1)) = U2 at *
 have q1 := fun {A : List Chunk} {w1 : World} {B2 : Option Addr} {c2 : Nat} (hs : St w A w1) (a : Chunk.own (.slice Bk D.length ck) 61 5 D.length (lnC D) ∈ A) (b : Chunk.own (.slice B2 (0 + i + (l1.length - (i + 1))) c2) 61 5 (0 + i + (l1.length - (i + 1))) ([] ++ U1 ++ U2) ∈ A) => sameX hs a b hDl hDx (by omega)
 have q2 := fun {A : List Chunk} {w1 : World} (hs : St w A w1) (a : Chunk.own (.slice Bo 1 co) 61 5 1 (lnC [y]) ∈ A) (b : Chunk.own (.slice (some ⟨gx, 0, none⟩) l1.length cx) 61 5 l1.length (lnC X) ∈ A) => (show Calls Tryz.prog 28 #[.agg #[.slice Bo 1 co], .agg #[.slice (some ⟨gx, 0 + i * 5, none⟩) (i + 1 - i) (cx - i)]] w1 fun e w' => e = .returned (.bool true) ∧ Below w1.heap.size w1 w' by
  rw [show i + 1 - i = 1 by omega]
  have h2 := sub_book (hBX hs b) (by omega : i < X.length)
  rw [hyX] at h2
  have := same_any Bo co [y] (some ⟨gx, 0 + i * 5, none⟩) (cx - i) [y] w1 (hs.own_rd a) h2 (by unfold maxLen; simp)
  rwa [decide_eq_true rfl] at this)
 (apply tr_v tk; (conv => whnf); (repeat ((first | ((first | apply VStop.mk | apply VCall.stop); (first | refine tr_region_late4 (id := 13) (by kernel_rfl) [.blk g17 24 _, .blk g11 61 _, .blk g4 24 _] (by (repeat (first | exact sl0 _ | exact sl1 _ | refine sl2 _ ?_ | refine sl3 _ ?_))) [0, 1, 2, 3, 4, 5, 6, 7, 8, 9, 10, 11, 12, 13, 14, 15, 16, 17, 18, 19, 20, 21, 22, 23, 25, 26, 27, 28, 30, 31, 32, 33, 34] [24, 29, 35] [36, 37, 38, 39, 40, 41, 42, 43, 44, 45, 46, 47, 48, 49, 50, 51, 52, 53, 54, 55, 56, 57] [.rd, .rd, .rd, .rd, .rd, .rd, .rd, .rd, .rd, .rd, .rd, .rd, .rd, .rd, .rd, .rd, .rd, .rd, .rd, .rd, .rd, .rd, .rd, .rd, .rd, .rd, .rd, .rd, .rd, .rd, .rd, .rd, .rd] [.rd, .cr, .rd, .rd, .rd, .rd, .rd, .rd, .rd, .rd, .rd, .rd, .rd, .rd, .rd, .rd, .cr, .rd, .rd, .cr, .rd, .rd] rfl (by kernel_rfl) ?_ | (refine ot_slice_hi (hi := i) tk rfl rfl rfl rfl rfl rfl rfl rfl rfl (by omega) ?_) | (refine ot_slice_loE (lo := i + 1) (sz := 5) tk rfl rfl rfl rfl rfl rfl rfl rfl rfl (by omega) (by omega) hsl ?_) | (refine ot_slice_lh (lo := i) (h := i + 1) (sz := 5) tk rfl rfl rfl rfl rfl rfl rfl rfl rfl rfl rfl (by omega) (by omega) (by omega) ?_) | (refine ot_st rfl (fun w hs => hs.blk_own (m := 0) (sz := 5) rfl (by decide)) ?_; refine ot_appendS (sz := 5) (sl := 0) (xs := []) (news := U1) (A'v := fun v' => .own v' 61 5 (0 + i) ([] ++ U1) :: _) tk rfl rfl rfl rfl rfl rfl rfl rfl rfl rfl (by decide) rfl (tc _) tl t1 (fun v' => .here) (by omega) (by decide) (fun B1 c1 => ?_)) | (refine ot_appendS (sz := 5) (sl := 0 + i) (xs := [] ++ U1) (news := U2) (A'v := fun v' => .own v' 61 5 (0 + i + (l1.length - (i + 1))) ([] ++ U1 ++ U2) :: _) tk rfl rfl rfl rfl rfl rfl rfl rfl rfl rfl (by decide) rfl (dc _) dl d1 (fun v' => .here) (by omega) (by decide) (fun B2 c2 => ?_))); apply ot_v tk) | (apply VCall.q; kernel_rfl; (focus (intro w1 hs; first | ((with_reducible apply q1 hs); (repeat (first | exact List.Mem.head _ | assumption | refine List.Mem.tail _ ?_))) | ((with_reducible apply q2 hs); (repeat (first | exact List.Mem.head _ | assumption | refine List.Mem.tail _ ?_))) | with_reducible apply kw w1 (hE.st hs) (hM.st hs)))) | (apply VLd.mk; (focus ((repeat (first | ((with_reducible apply ld_blk); exact rfl) | (with_reducible apply ld_skip))); done))) | (apply VLdN.mk; (focus ((repeat (first | (with_reducible apply ldn_blk) | (with_reducible apply ldn_skip))); done)); exact rfl) | (apply VRng.mk; omega) | apply VBr.t | (apply v_t; omega) | (apply VNew.mk; intro g hg) | (refine sla ?_; first | refine otl_nil ?_ | (refine otl_cons ?_; apply ot_v tk) | skip) | (apply VK.mk; first | (refine otl_cons ?_; apply ot_v tk) | apply ot_v tk)); (conv => whnf))))
 ((apply VRet.mk); refine ret1 (by first | exact .inl rfl | exact .inr rfl) rfl (by exact rv_tmp rfl) ?_; exact fun w h => ⟨rfl, h.base⟩)
end Go.Proofs.YtojeeindlijgkaaGreatDoor
