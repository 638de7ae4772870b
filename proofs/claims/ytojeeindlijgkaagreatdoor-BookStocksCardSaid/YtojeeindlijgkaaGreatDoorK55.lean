/- An array of three: lemmas for the rows of this seat. No conditions. -/
import Derived.Laws.StructEq
import Derived.Test.YtojeeindlijgkaaGreatDoorK40
set_option linter.all false
namespace Go.Proofs.YtojeeindlijgkaaGreatDoor
open Go.RowKit
/-! ## An array of three -/
theorem build55 (a b c : Int) (w : World) : (Instr.build 55 #[(0, .int .u8 a), (1, .int .u8 b), (2, .int .u8 c)]).run Tryz.prog w = .ok (.agg #[.int .u8 a, .int .u8 b, .int .u8 c]) w := by kernel_rfl
section
variable {w0 : World} {n : Nat} {ds : List Deferred} {ops : List Oper} {o : Oper} {os : List Oper} {ks : List Kind} {ts : TS} {A : List Chunk} {K : TS → List Chunk → Prop} {d : Tmp} {x y z : Operand} {a b c : Int}
theorem ot_build55 (hop : o.op = .build 55 #[(0, x), (1, y), (2, z)]) (hd : o.dst = some d) (hw : wantB ops ts o = some true) (hx : evT ts x = some (.int .u8 a)) (hy : evT ts y = some (.int .u8 b)) (hz : evT ts z = some (.int .u8 c))
  (hk : OT Tryz.prog w0 n ds ops os ks.tail ((d, .agg #[.int .u8 a, .int .u8 b, .int .u8 c]) :: ts) A K) : OT Tryz.prog w0 n ds ops (o :: os) ks ts A K :=
 ot_val _ hd hw (fun ac w hh => by
  have h1 := build55 a b c w
  simp [execOp, hop, hh.ev hx, hh.ev hy, hh.ev hz, h1]) hk
end
theorem own_fnC {w0 : World} {A : List Chunk} {g c t n j : Nat} {f : Nat → Int} (h : .own (.slice (some ⟨g, 0, none⟩) n c) t 1 n (fnC f n) ∈ A) (hj : j < n) : CellAt w0 A g (0 + j * 1) (.int .i64 (f j)) := by
 rw [Nat.zero_add, Nat.mul_one]
 exact cell_own h (fnC_get hj)
/-! ## x[l:] -/
section
variable {P : Program} {tab : TT} {w0 : World} {n : Nat} {ds : List Deferred} {ops : List Oper} {o : Oper} {os : List Oper} {ks : List Kind} {ts : TS} {A : List Chunk} {K : TS → List Chunk → Prop} {d : Tmp}
variable {x y : Operand} {t u : TypeId} {i i' : TI}
theorem ot_slice_lo {e b off len cap lo : Nat} {lov : Operand} {k : IntKind} {p : Int} (hT : TabOk P tab) (hop : o.op = .slice t x (some lov) none none) (hd : o.dst = some d) (hw : wantB ops ts o = some true) (hx : evT ts x = some (.slice (some ⟨b, off, none⟩) len cap)) (hl : evT ts lov = some (.int k p))
  (hi : lookI tab t = some i) (hdd : i.d = .sl e) (hi' : lookI tab e = some i') (hp : p = (lo : Int)) (hle : lo ≤ len)
  (hk : OT P w0 n ds ops os ks.tail ((d, .slice (some (if cap = lo then ⟨b, off, none⟩ else ⟨b, off + lo * i'.size, none⟩)) (len - lo) (cap - lo)) :: ts) A K) : OT P w0 n ds ops (o :: os) ks ts A K :=
 ot_val _ hd hw (fun a w hh => by
  subst hp
  have h1 := (hT t i hi).sl hdd
  have h2 := (hT e i' hi').sz w
  have h3 : (0 : Int) ≤ lo ∧ (lo : Int) ≤ len := by omega
  simp only [execOp, hop, hh.ev hx, hh.ev hl, Instr.sliceAt, Option.map_some, Option.map_none, Sem.run_bind, run_underlying h1, Result.andThen_ok, Instr.slice, Instr.sliceBounds, Instr.sliceBound, asIntOf, Sem.run_pure, h3, and_self, if_true, h2, Int.toNat_natCast, Addr.add_none, Option.isSome_none, Bool.false_eq_true, if_false]
  by_cases hc : cap = lo <;> simp [hc]) hk
end
/-! ## A branch that is taken -/
section
variable {P : Program} {r : Option Nat} {w0 : World} {n : Nat} {ds : List Deferred} {ts : TS} {A : List Chunk} {Q : PostT}
theorem tr_cond_t {c : Operand} {x y : Code} (hc : evT ts c = some (.bool true)) (h : Tr P r w0 n x ds ts A Q) : Tr P r w0 n (.cond c x y) ds ts A Q :=
 fun m a w hh => wpIn_cond_true (hh.ev hc) (h m a w hh)
end
/-! ## A line with another thing and value -/
theorem lnC_two (l : List Ln) (i : Nat) (hi : i < l.length) (a b : Int) : ((lnC l).set (0 + i * 5 + 3) (.int .i64 a)).set (0 + i * 5 + 4) (.int .i64 b) = lnC (l.set i ⟨(lnAt l i).st, (lnAt l i).ck, (lnAt l i).kd, a, b⟩) := by
 apply List.ext_getElem?
 intro k
 by_cases hk : k < l.length * 5
 ·have h1 := lnC_get l (k / 5) (by omega) (k % 5) (by omega)
  have h2 := lnC_get (l.set i ⟨(lnAt l i).st, (lnAt l i).ck, (lnAt l i).kd, a, b⟩) (k / 5) (by rw [List.length_set]; omega) (k % 5) (by omega)
  have e : k / 5 * 5 + k % 5 = k := by omega
  rw [e] at h1 h2
  rw [h2, lnAt_set _ hi, List.getElem?_set, List.getElem?_set, List.length_set, lnC_length, h1]
  by_cases hq : k / 5 = i
  ·rw [if_pos hq, hq]
   have hr : k % 5 = 0 ∨ k % 5 = 1 ∨ k % 5 = 2 ∨ k % 5 = 3 ∨ k % 5 = 4 := by omega
   rcases hr with hr | hr | hr | hr | hr
   ·rw [if_neg (by omega), if_neg (by omega), hr]; rfl
   ·rw [if_neg (by omega), if_neg (by omega), hr]; rfl
   ·rw [if_neg (by omega), if_neg (by omega), hr]; rfl
   ·rw [if_neg (by omega), if_pos (by omega), if_pos (by omega), hr]; rfl
   ·rw [if_pos (by omega), if_pos (by omega), hr]; rfl
  ·rw [if_neg hq, if_neg (by omega), if_neg (by omega)]
 ·rw [List.getElem?_eq_none (by rw [List.length_set, List.length_set, lnC_length]; omega), List.getElem?_eq_none (by rw [lnC_length, List.length_set]; omega)]
theorem tmod_natC (a b : Nat) : Int.tmod (a : Int) (b : Int) = ((a % b : Nat) : Int) := (Int.ofNat_tmod a b).symm
section
variable {P : Program} {tab : TT} {w0 : World} {n : Nat} {ds : List Deferred} {ops : List Oper} {o : Oper} {os : List Oper} {ks : List Kind} {ts : TS} {A : List Chunk} {K : TS → List Chunk → Prop} {d : Tmp} {x y : Operand} {t u : TypeId} {i i' : TI}
/-- x[l:], the place by a name. -/
theorem ot_slice_loE {e b off len cap lo sz b' off' : Nat} {lov : Operand} {k : IntKind} {p : Int} (hT : TabOk P tab) (hop : o.op = .slice t x (some lov) none none) (hd : o.dst = some d) (hw : wantB ops ts o = some true) (hx : evT ts x = some (.slice (some ⟨b, off, none⟩) len cap)) (hl : evT ts lov = some (.int k p))
  (hi : lookI tab t = some i) (hdd : i.d = .sl e) (hi' : lookI tab e = some i') (hsz : i'.size = sz) (hp : p = (lo : Int)) (hle : lo ≤ len) (he : (if cap = lo then (⟨b, off, none⟩ : Addr) else ⟨b, off + lo * sz, none⟩) = ⟨b', off', none⟩)
  (hk : OT P w0 n ds ops os ks.tail ((d, .slice (some ⟨b', off', none⟩) (len - lo) (cap - lo)) :: ts) A K) : OT P w0 n ds ops (o :: os) ks ts A K := by
 subst hsz
 exact ot_slice_lo hT hop hd hw hx hl hi hdd hi' hp hle (by rw [he]; exact hk)
/-- x[l:h] -/
theorem ot_slice_lh {e b off len cap lo h sz : Nat} {lov hov : Operand} {k k' : IntKind} {p q : Int} (hT : TabOk P tab) (hop : o.op = .slice t x (some lov) (some hov) none) (hd : o.dst = some d) (hw : wantB ops ts o = some true) (hx : evT ts x = some (.slice (some ⟨b, off, none⟩) len cap)) (hl : evT ts lov = some (.int k p)) (hh' : evT ts hov = some (.int k' q))
  (hi : lookI tab t = some i) (hdd : i.d = .sl e) (hi' : lookI tab e = some i') (hsz : i'.size = sz) (hp : p = (lo : Int)) (hq : q = (h : Int)) (hle : lo < h) (hc : h ≤ cap)
  (hk : OT P w0 n ds ops os ks.tail ((d, .slice (some ⟨b, off + lo * sz, none⟩) (h - lo) (cap - lo)) :: ts) A K) : OT P w0 n ds ops (o :: os) ks ts A K :=
 ot_val _ hd hw (fun a w hh => by
  subst hp hq hsz
  have h1 := (hT t i hi).sl hdd
  have h2 := (hT e i' hi').sz w
  have h3 : (0 : Int) ≤ lo ∧ (lo : Int) ≤ h := by omega
  have h4 : (0 : Int) ≤ h ∧ (h : Int) ≤ cap := by omega
  have h5 : cap ≠ lo := by omega
  simp only [execOp, hop, hh.ev hx, hh.ev hl, hh.ev hh', Instr.sliceAt, Option.map_some, Option.map_none, Sem.run_bind, run_underlying h1, Result.andThen_ok, Instr.slice, Instr.sliceBounds, Instr.sliceBound, asIntOf, Sem.run_pure, h3, h4, and_self, if_true, h2, Int.toNat_natCast, Addr.add_none, Option.isSome_none, Bool.false_eq_true, if_false]
  simp [h5]) hk
end
theorem lnC_drop (l : List Ln) : ∀ k, lnC (l.drop k) = (lnC l).drop (k * 5) := by
 induction l with
 | nil => intro k; simp [lnC]
 | cons x l ih =>
  intro k
  cases k with
  | zero => simp
  | succ k =>
   rw [List.drop_succ_cons, ih, lnC, show (k + 1) * 5 = 5 + k * 5 by omega]
   rw [← List.drop_drop, List.drop_append_of_le_length (by simp [lnL])]
   rfl
/-- What stands behind a line of a book. -/
theorem drop_cells {w : World} {b o c i : Nat} {l : List Ln} (h : BookR w (some ⟨b, o, none⟩) l) (hi : i < l.length) : ∃ b' o', (if c = i + 1 then (⟨b, o, none⟩ : Addr) else ⟨b, o + (i + 1) * 5, none⟩) = ⟨b', o', none⟩ ∧ ∀ A, l.length ≤ c → CellsAt w A b' o' (lnC (l.drop (i + 1))) := by
 by_cases hc : c = i + 1
 ·refine ⟨b, o, by rw [if_pos hc], fun A hl w' hs j u hu => ?_⟩
  rw [List.drop_eq_nil_of_le (by omega)] at hu
  simp [lnC] at hu
 ·refine ⟨b, o + (i + 1) * 5, by rw [if_neg hc], fun A hl w' hs j u hu => ?_⟩
  obtain ⟨b', o', he, hb, h1⟩ := (hs.book h).2 (by omega)
  cases he
  rw [lnC_drop, List.getElem?_drop] at hu
  have := h1 _ u hu
  rw [← Nat.add_assoc] at this
  exact this
theorem take_cells {w : World} {b o i : Nat} {l : List Ln} (h : BookR w (some ⟨b, o, none⟩) l) (hi : i < l.length) (A : List Chunk) : CellsAt w A b o (lnC (l.take i)) := fun w' hs j u hu => by
 obtain ⟨b', o', he, hb, h1⟩ := (hs.book h).2 (by omega)
 cases he
 have e : lnC l = lnC (l.take i) ++ lnC (l.drop i) := by rw [← lnC_append, List.take_append_drop]
 refine h1 j u ?_
 rw [e, List.getElem?_append_left (List.getElem?_eq_some_iff.1 hu).1]
 exact hu
theorem own_cap {w0 w : World} {A : List Chunk} (hs : St w0 A w) {B : Option Addr} {n c sz : Nat} {t : TypeId} {xs : List Value} (h : Chunk.own (.slice B n c) t sz n xs ∈ A) (hn : 0 < n) : n ≤ c := by
 rcases (hs.all _ h).2 with ⟨h0, _⟩ | ⟨g, cap, cur, e, h2, h3, h4, h5, _⟩
 ·omega
 ·cases e; first | exact h4 | exact h5
section
variable {P : Program} {w0 : World} {n : Nat} {r : Option Nat} {ds : List Deferred} {ts : TS} {A : List Chunk} {Q : PostT}
theorem tr_own_cap {c : Code} {B : Option Addr} {cc sz m : Nat} {te : TypeId} {xs : List Value} (hA : .own (.slice B m cc) te sz m xs ∈ A) (hm : 0 < m) (h : m ≤ cc → Tr P r w0 n c ds ts A Q) : Tr P r w0 n c ds ts A Q :=
 tr_fact (p := m ≤ cc) (fun w' hs => own_cap hs hA hm) h
end
theorem sameX {l : List Ln} {m : Nat} {A1 A2 : Option Addr} {c1 c2 : Nat} {A : List Chunk} {w0 w : World} {xs : List Value} (hs : St w0 A w) (h1 : Chunk.own (.slice A1 l.length c1) 61 5 l.length (lnC l) ∈ A) (h2 : Chunk.own (.slice A2 m c2) 61 5 m xs ∈ A) (hl : m = l.length) (hx : xs = lnC l) (hm : l.length ≤ 1000) :
  Calls Tryz.prog 28 #[.agg #[.slice A1 l.length c1], .agg #[.slice A2 m c2]] w fun e w' => e = .returned (.bool true) ∧ Below w.heap.size w w' := by
 subst hl hx
 exact sameN hs h1 h2 rfl hm
theorem sub_book {w : World} {g i : Nat} {X : List Ln} (h : BookR w (some ⟨g, 0, none⟩) X) (hi : i < X.length) : BookR w (some ⟨g, 0 + i * 5, none⟩) [lnAt X i] := by
 refine ⟨rfl, fun _ => ?_⟩
 obtain ⟨b, o, e, hb, hc⟩ := h.2 (by omega)
 cases e
 refine ⟨g, 0 + i * 5, rfl, hb, fun j u hu => ?_⟩
 have h5 : j < 5 := by
  have := (List.getElem?_eq_some_iff.1 hu).1
  rw [lnC_length] at this
  simpa using this
 have := lnC_get X i hi j h5
 have e : (lnC [lnAt X i])[j]? = (lnL (lnAt X i))[j]? := by rw [lnC, lnC, List.append_nil]
 rw [e, ← this] at hu
 have := hc _ u hu
 rw [← Nat.add_assoc] at this
 exact this
/-! ## Stocks -/
theorem longsF {f g : Nat → Int} {A1 A2 : Option Addr} {c1 c2 : Nat} {A : List Chunk} {w0 w : World} (hs : St w0 A w) (h1 : Chunk.own (.slice A1 8 c1) 2 1 8 (fnC f 8) ∈ A) (h2 : Chunk.own (.slice A2 8 c2) 2 1 8 (fnC g 8) ∈ A) (h : ∀ k, k < 8 → f k = g k) :
  Calls Tryz.prog 23 #[.slice A1 8 c1, .slice A2 8 c2] w fun e w' => e = .returned (.bool true) ∧ Below w.heap.size w w' := by
 have e : ∀ f : Nat → Int, fnC f 8 = i64s ((List.range 8).map f) := fun f => by
  unfold fnC i64s
  rw [List.map_map]; rfl
 have e2 : (List.range 8).map f = (List.range 8).map g := List.map_congr_left fun k hk => h k (List.mem_range.1 hk)
 rw [e] at h1 h2
 rw [e2] at h1
 exact longsN hs h1 h2 rfl (by decide)
theorem last_st {l : List Ln} (h : Valid l) : ∃ last : Int, 0 ≤ last ∧ last ≤ 999 ∧ (l.length = 0 → last = 0) ∧ (0 < l.length → last = (lnAt l (l.length - 1)).st) := by
 by_cases h0 : l.length = 0
 ·exact ⟨0, by omega, by omega, fun _ => rfl, fun h => by omega⟩
 ·have := isLine_iff.1 (h.ok (l.length - 1) (by omega))
  exact ⟨_, by omega, by omega, fun h => by omega, fun _ => rfl⟩
/-! ## BookStocks -/
set_option maxHeartbeats 4000000 in
set_option maxRecDepth 20000 in
theorem law10_any (A1 : Option Addr) (a1 : Nat) (l1 : List Ln) (o nb c h : Nat) (z : Int) (ho : o < 256) (hnb : nb < 65536) (hc : c < 256) (hh : h < 256) (hz : -32768 ≤ z ∧ z ≤ 32767) (w : World) (h1 : BookR w A1 l1) (hm1 : l1.length ≤ maxLen) (hc1 : l1.length ≤ a1) (hE : LayE w) (hM : MaxL w) :
  Calls Tryz.prog 10 #[.agg #[.slice A1 l1.length a1], .int .u8 (o : Int), .int .u16 (nb : Int), .int .u8 (c : Int), .int .u8 (h : Int), .int .i16 z] w fun e w' => e = .returned (.bool true) ∧ Below w.heap.size w w' := by
 have kw := fun w1 h1 h2 => works_any w1 h1 h2
 have g1 := fun w1 h => fine_any A1 a1 l1 w1 h hm1
 by_cases hg1 : chkBook l1 = 0
 rotate_left
 ·rw [decide_eq_false hg1] at g1
  refine fn_v tk (n := 236) (A := []) Tryz.func10 rfl rfl (Nat.le_of_ble_eq_true rfl) (St.nil (Below.refl _ _)) ?_
  ((conv => whnf); (repeat ((first | (apply VCall.q; kernel_rfl; (focus (intro w1 hs; first | with_reducible apply g1 w1 (hs.book h1) | with_reducible apply kw w1 (hE.st hs) (hM.st hs)))) | (apply VLdN.mk; (focus ((repeat (first | (with_reducible apply ldn_blk) | (with_reducible apply ldn_skip))); done)); exact rfl) | apply VBr.t | (apply VNew.mk; intro g hg)); (conv => whnf))))
  ((apply VRet.mk); refine ret1 (by first | exact .inl rfl | exact .inr rfl) rfl (by exact rv_tmp rfl) ?_; exact fun w h => ⟨rfl, h.base⟩)
 rw [decide_eq_true hg1] at g1
 have v1 := chk_valid.1 hg1
 have hl1 := v1.len
 have kst := fun w1 h => stock_ok A1 a1 l1 w1 h hm1 v1
 have kat := fun w1 h s hs => at_ok A1 a1 l1 w1 h hm1 s v1 hs
 have hlim := fun k => stF_lim v1 999 k
 refine fn_t (n := 236) (A := []) Tryz.func10 rfl rfl (Nat.le_of_ble_eq_true rfl) (St.nil (Below.refl _ _)) ?_
 refine tr_cut (fun x : Nat => ([(1, .int .u8 (o : Int)), (2, .int .u16 (nb : Int)), (3, .int .u8 (c : Int)), (4, .int .u8 (h : Int)), (5, .int .i16 z), (6, .pointer (some ⟨x, 0, none⟩)), (12, .bool false)], [.blk x 24 [.slice A1 l1.length a1]])) ?_ ?_
 ·(apply tr_v tk; (conv => whnf); (repeat ((apply VNew.mk; intro g hg); (conv => whnf))))
  exact VJ.mk g rfl ⟨rfl, rfl, rfl, rfl, rfl, rfl, rfl, trivial⟩ (by ((try dsimp only); repeat (first | exact Pick.nil | ((apply Pick.cons); (focus (repeat (first | exact Rem.here | apply Rem.there)); done)))))
 rintro g6
 dsimp only
 refine tr_cut (fun x : Unit => ([(1, .int .u8 (o : Int)), (2, .int .u16 (nb : Int)), (3, .int .u8 (c : Int)), (4, .int .u8 (h : Int)), (5, .int .i16 z), (6, .pointer (some ⟨g6, 0, none⟩)), (12, .bool false)], [.blk g6 24 [.slice A1 l1.length a1]])) ?_ ?_
 ·(apply tr_v tk; (conv => whnf); (repeat ((first | (apply VCall.q; kernel_rfl; (focus (intro w1 hs; first | with_reducible apply g1 w1 (hs.book h1)))) | (apply VLdN.mk; (focus ((repeat (first | (with_reducible apply ldn_blk) | (with_reducible apply ldn_skip))); done)); exact rfl) | apply VBr.f); (conv => whnf))))
  exact VJ.mk () rfl ⟨rfl, rfl, rfl, rfl, rfl, rfl, rfl, trivial⟩ (by ((try dsimp only); repeat (first | exact Pick.nil | ((apply Pick.cons); (focus (repeat (first | exact Rem.here | apply Rem.there)); done)))))
 rintro _
 dsimp only
 refine tr_cut (fun x : SlX => ([(1, .int .u8 (o : Int)), (2, .int .u16 (nb : Int)), (3, .int .u8 (c : Int)), (4, .int .u8 (h : Int)), (5, .int .i16 z), (6, .pointer (some ⟨g6, 0, none⟩)), (12, .bool false), (13, .slice x.1 8 x.2), (14, .int .i64 0)], [.own (.slice x.1 8 x.2) 2 1 8 (fnC (stF 999 l1) 8), .blk g6 24 [.slice A1 l1.length a1]])) ?_ ?_
 ·(apply tr_v tk; (conv => whnf); (repeat ((apply VLdN.mk; (focus ((repeat (first | (with_reducible apply ldn_blk) | (with_reducible apply ldn_skip))); done)); exact rfl); (conv => whnf))); apply VCall.stop)
  refine ot_callT (X := SlX) (us := []) (vs := []) (fun x => .tuple #[.slice x.1 8 x.2, .int .i64 0]) (fun x => []) (fun x => [.own (.slice x.1 8 x.2) 2 1 8 (fnC (stF 999 l1) 8)]) _ (fun x c hc => one_mut hc) (by decide) rfl rfl rfl rfl (by kernel_rfl) (evl_of rfl) rfl (fun w1 hs => kst w1 (hs.book h1)) ?_
  rintro ⟨Bs, cs⟩ _
  (dsimp only [List.cons_append, List.nil_append]; apply ot_v tk)
  ((conv => whnf))
  exact VJ.mk (Bs, cs) rfl ⟨rfl, rfl, rfl, rfl, rfl, rfl, rfl, rfl, rfl, trivial⟩ (by ((try dsimp only); repeat (first | exact Pick.nil | ((apply Pick.cons); (focus (repeat (first | exact Rem.here | apply Rem.there)); done)))))
 rintro ⟨Bs, cs⟩
 dsimp only
 refine tr_cut (fun x : SlX => ([(1, .int .u8 (o : Int)), (2, .int .u16 (nb : Int)), (3, .int .u8 (c : Int)), (4, .int .u8 (h : Int)), (5, .int .i16 z), (6, .pointer (some ⟨g6, 0, none⟩)), (12, .bool false), (13, .slice Bs 8 cs), (14, .int .i64 0), (15, .slice x.1 8 x.2), (16, .int .i64 0)], [.own (.slice x.1 8 x.2) 2 1 8 (fnC (stF 999 l1) 8), .own (.slice Bs 8 cs) 2 1 8 (fnC (stF 999 l1) 8), .blk g6 24 [.slice A1 l1.length a1]])) ?_ ?_
 ·(apply tr_v tk; (conv => whnf); (repeat ((apply VLdN.mk; (focus ((repeat (first | (with_reducible apply ldn_blk) | (with_reducible apply ldn_skip))); done)); exact rfl); (conv => whnf))); apply VCall.stop)
  refine ot_callT (X := SlX) (us := []) (vs := []) (fun x => .tuple #[.slice x.1 8 x.2, .int .i64 0]) (fun x => []) (fun x => [.own (.slice x.1 8 x.2) 2 1 8 (fnC (stF 999 l1) 8)]) _ (fun x c hc => one_mut hc) (by decide) rfl rfl rfl rfl (by kernel_rfl) (evl_of rfl) rfl (fun w1 hs => kat w1 (hs.book h1) 999 rfl) ?_
  rintro ⟨Bt, ct⟩ _
  (dsimp only [List.cons_append, List.nil_append]; apply ot_v tk)
  ((conv => whnf))
  exact VJ.mk (Bt, ct) rfl ⟨rfl, rfl, rfl, rfl, rfl, rfl, rfl, rfl, rfl, rfl, rfl, trivial⟩ (by ((try dsimp only); repeat (first | exact Pick.nil | ((apply Pick.cons); (focus (repeat (first | exact Rem.here | apply Rem.there)); done)))))
 rintro ⟨Bt, ct⟩
 dsimp only
 have q1 := fun {A : List Chunk} {w1 : World} (hs : St w A w1) (a : Chunk.own (.slice Bs 8 cs) 2 1 8 (fnC (stF 999 l1) 8) ∈ A) (b : Chunk.own (.slice Bt 8 ct) 2 1 8 (fnC (stF 999 l1) 8) ∈ A) => longsF hs a b fun _ _ => rfl
 refine tr_cut (fun x : Unit => ([(1, .int .u8 (o : Int)), (2, .int .u16 (nb : Int)), (3, .int .u8 (c : Int)), (4, .int .u8 (h : Int)), (5, .int .i16 z), (6, .pointer (some ⟨g6, 0, none⟩)), (12, .bool false), (13, .slice Bs 8 cs)], [.own (.slice Bs 8 cs) 2 1 8 (fnC (stF 999 l1) 8), .blk g6 24 [.slice A1 l1.length a1]])) ?_ ?_
 ·(apply tr_v tk; (conv => whnf); (repeat ((first | (apply VCall.q; kernel_rfl; (focus (intro w1 hs; first | ((with_reducible apply q1 hs); (repeat (first | exact List.Mem.head _ | assumption | refine List.Mem.tail _ ?_)))))) | apply VBr.f | (apply v_f; omega)); (conv => whnf))))
  exact VJ.mk () rfl ⟨rfl, rfl, rfl, rfl, rfl, rfl, rfl, rfl, trivial⟩ (by ((try dsimp only); repeat (first | exact Pick.nil | ((apply Pick.cons); (focus (repeat (first | exact Rem.here | apply Rem.there)); done)))))
 rintro _
 dsimp only
 refine tr_cut (fun x : Unit => ([(1, .int .u8 (o : Int)), (2, .int .u16 (nb : Int)), (3, .int .u8 (c : Int)), (4, .int .u8 (h : Int)), (5, .int .i16 z), (6, .pointer (some ⟨g6, 0, none⟩)), (12, .bool false), (13, .slice Bs 8 cs), (17, .int .i64 0)], [.own (.slice Bs 8 cs) 2 1 8 (fnC (stF 999 l1) 8), .blk g6 24 [.slice A1 l1.length a1]])) ?_ ?_
 ·(apply tr_v tk; (conv => whnf))
  exact VJ.mk () rfl ⟨rfl, rfl, rfl, rfl, rfl, rfl, rfl, rfl, rfl, trivial⟩ (by ((try dsimp only); repeat (first | exact Pick.nil | ((apply Pick.cons); (focus (repeat (first | exact Rem.here | apply Rem.there)); done)))))
 rintro _
 dsimp only
 obtain ⟨last, hla, hla1, hla2, hlast⟩ : ∃ last : Int, 0 ≤ last ∧ last ≤ 999 ∧ (l1.length = 0 → last = 0) ∧ (0 < l1.length → last = (lnAt l1 (l1.length - 1)).st) := last_st v1
 refine tr_cut (fun x : Unit => ([(3, .int .u8 (c : Int)), (4, .int .u8 (h : Int)), (5, .int .i16 z), (6, .pointer (some ⟨g6, 0, none⟩)), (12, .bool false), (13, .slice Bs 8 cs), (17, .int .i64 last)], [.own (.slice Bs 8 cs) 2 1 8 (fnC (stF 999 l1) 8), .blk g6 24 [.slice A1 l1.length a1]])) ?_ ?_
 ·by_cases h0 : l1.length = 0
  ·rw [hla2 h0]
   (apply tr_v tk; (conv => whnf); (repeat ((first | (apply VLd.mk; (focus ((repeat (first | ((with_reducible apply ld_blk); exact rfl) | (with_reducible apply ld_skip))); done))) | apply VBr.f | (apply v_f; omega)); (conv => whnf))))
   exact VJ.mk () rfl ⟨rfl, rfl, rfl, rfl, rfl, rfl, rfl, trivial⟩ (by ((try dsimp only); repeat (first | exact Pick.nil | ((apply Pick.cons); (focus (repeat (first | exact Rem.here | apply Rem.there)); done)))))
  have hlast := hlast (by omega)
  clear hla2
  have hi : o % l1.length < l1.length := Nat.mod_lt _ (by omega)
  have hrem := tmod_natC o l1.length
  generalize o % l1.length = i at *
  obtain ⟨ba, oa, rfl⟩ := book_addr h1 hi
  have cA := ln_cells h1 hi
  have cZ := fun A => ln_cell h1 (k := l1.length - 1) (by omega) 0 rfl A
  have okL := isLine_iff.1 (v1.ok i hi)
  have hgt : decide ((l1.length : Int) > 0) = true := decide_eq_true (by omega)
  refine tr_cut (fun x : Unit => ([(1, .int .u8 (o : Int)), (2, .int .u16 (nb : Int)), (3, .int .u8 (c : Int)), (4, .int .u8 (h : Int)), (5, .int .i16 z), (6, .pointer (some ⟨g6, 0, none⟩)), (12, .bool false), (13, .slice Bs 8 cs), (17, .int .i64 0), (67, .bool true)], [.own (.slice Bs 8 cs) 2 1 8 (fnC (stF 999 l1) 8), .blk g6 24 [.slice (some ⟨ba, oa, none⟩) l1.length a1]])) ?_ ?_
  ·(apply tr_v tk; (conv => whnf); (repeat ((first | (apply VLd.mk; (focus ((repeat (first | ((with_reducible apply ld_blk); exact rfl) | (with_reducible apply ld_skip))); done))) | (apply v_t; omega)); (conv => whnf))))
   exact VJ.mk () rfl ⟨rfl, rfl, rfl, rfl, rfl, rfl, rfl, rfl, rfl, rfl, trivial⟩ (by ((try dsimp only); repeat (first | exact Pick.nil | ((apply Pick.cons); (focus (repeat (first | exact Rem.here | apply Rem.there)); done)))))
  rintro _
  dsimp only
  refine tr_cond_t rfl ?_
  refine tr_cut (fun x : Unit => ([(2, .int .u16 (nb : Int)), (3, .int .u8 (c : Int)), (4, .int .u8 (h : Int)), (5, .int .i16 z), (6, .pointer (some ⟨g6, 0, none⟩)), (12, .bool false), (13, .slice Bs 8 cs), (17, .int .i64 0), (18, .int .i64 (i : Int))], [.own (.slice Bs 8 cs) 2 1 8 (fnC (stF 999 l1) 8), .blk g6 24 [.slice (some ⟨ba, oa, none⟩) l1.length a1]])) ?_ ?_
  ·(apply tr_v tk; (conv => whnf); (repeat ((first | (apply VLd.mk; (focus ((repeat (first | ((with_reducible apply ld_blk); exact rfl) | (with_reducible apply ld_skip))); done))) | (apply v_wr64; omega) | (apply VNz.mk; omega)); (conv => whnf))))
   rw [hrem]
   exact VJ.mk () rfl ⟨rfl, rfl, rfl, rfl, rfl, rfl, rfl, rfl, rfl, trivial⟩ (by ((try dsimp only); repeat (first | exact Pick.nil | ((apply Pick.cons); (focus (repeat (first | exact Rem.here | apply Rem.there)); done)))))
  rintro _
  dsimp only
  generalize hL : lnAt l1 i = L at *
  refine tr_cut (fun x : Nat => ([(2, .int .u16 (nb : Int)), (3, .int .u8 (c : Int)), (4, .int .u8 (h : Int)), (5, .int .i16 z), (6, .pointer (some ⟨g6, 0, none⟩)), (12, .bool false), (13, .slice Bs 8 cs), (17, .int .i64 0), (18, .int .i64 (i : Int)), (19, .pointer (some ⟨x, 0, none⟩))], [.blk x 61 [.int .i64 L.st, .int .i64 L.ck, .int .i64 L.kd, .int .i64 L.th, .int .i64 L.vl], .own (.slice Bs 8 cs) 2 1 8 (fnC (stF 999 l1) 8), .blk g6 24 [.slice (some ⟨ba, oa, none⟩) l1.length a1]])) ?_ ?_
  ·(apply tr_v tk; (conv => whnf); (repeat ((first | (apply VLdN.mk; (first | exact cA _); exact rfl) | (apply VIx.mk (j := i); exact rfl; omega) | (apply VLd.mk; (focus ((repeat (first | ((with_reducible apply ld_blk); exact rfl) | (with_reducible apply ld_skip))); done))) | (apply VNew.mk; intro g hg) | (apply VSt.mk; (focus ((repeat (first | (with_reducible exact At.here) | (with_reducible apply At.there))); done)); exact rfl)); (conv => whnf))))
   exact VJ.mk g rfl ⟨rfl, rfl, rfl, rfl, rfl, rfl, rfl, rfl, rfl, rfl, trivial⟩ (by ((try dsimp only); repeat (first | exact Pick.nil | ((apply Pick.cons); (focus (repeat (first | exact Rem.here | apply Rem.there)); done)))))
  rintro g19
  dsimp only
  refine tr_cut (fun x : Unit => ([(2, .int .u16 (nb : Int)), (3, .int .u8 (c : Int)), (4, .int .u8 (h : Int)), (5, .int .i16 z), (6, .pointer (some ⟨g6, 0, none⟩)), (12, .bool false), (13, .slice Bs 8 cs), (17, .int .i64 last), (18, .int .i64 (i : Int)), (19, .pointer (some ⟨g19, 0, none⟩))], [.blk g19 61 [.int .i64 L.st, .int .i64 L.ck, .int .i64 L.kd, .int .i64 L.th, .int .i64 L.vl], .own (.slice Bs 8 cs) 2 1 8 (fnC (stF 999 l1) 8), .blk g6 24 [.slice (some ⟨ba, oa, none⟩) l1.length a1]])) ?_ ?_
  ·(apply tr_v tk; (conv => whnf); (repeat ((first | (apply VLd.mk; first | exact cZ _) | (apply VIx.mk (j := l1.length - 1); omega; omega) | (apply VLd.mk; (focus ((repeat (first | ((with_reducible apply ld_blk); exact rfl) | (with_reducible apply ld_skip))); done))) | (apply VRng.mk; omega)); (conv => whnf))))
   rw [← hlast]
   exact VJ.mk () rfl ⟨rfl, rfl, rfl, rfl, rfl, rfl, rfl, rfl, rfl, rfl, trivial⟩ (by ((try dsimp only); repeat (first | exact Pick.nil | ((apply Pick.cons); (focus (repeat (first | exact Rem.here | apply Rem.there)); done)))))
  rintro _
  dsimp only
  have vD := delB_valid v1 hi
  obtain ⟨b', o', hsl, dc⟩ := drop_cells (c := a1) h1 hi
  have dc := fun A => dc A hc1
  have dl : (lnC (l1.drop (i + 1))).length = (l1.length - (i + 1)) * 5 := by rw [lnC_length, List.length_drop]
  have d1 : (lnC (l1.drop (i + 1))).all Value.oneCell' = true := by simpa using lnC_one (l1.drop (i + 1))
  have tc := fun A => take_cells h1 hi A
  have tl : (lnC (l1.take i)).length = i * 5 := by rw [lnC_length, List.length_take]; congr 1; omega
  have t1 : (lnC (l1.take i)).all Value.oneCell' = true := by simpa using lnC_one (l1.take i)
  have hDx : [] ++ lnC (l1.take i) ++ lnC (l1.drop (i + 1)) = lnC (delB l1 i) := by rw [delB, lnC_append]; rfl
  have hDl : 0 + i + (l1.length - (i + 1)) = (delB l1 i).length := by rw [delB, List.length_append, List.length_take, List.length_drop]; omega
  have hoth := fun k hk => del_other 999 hi (k := k) hk
  have hear := fun a (h : a < (lnAt l1 i).st) => del_early hi h
  rw [hL] at hoth hear
  have hDm : (delB l1 i).length ≤ 20 := vD.len
  generalize delB l1 i = D at *
  generalize lnC (l1.take i) = U1 at *
  generalize lnC (l1.drop (i + 1)) = U2 at *
  refine tr_cut (fun x : SlX × Nat => ([(2, .int .u16 (nb : Int)), (3, .int .u8 (c : Int)), (4, .int .u8 (h : Int)), (5, .int .i16 z), (6, .pointer (some ⟨g6, 0, none⟩)), (12, .bool false), (13, .slice Bs 8 cs), (17, .int .i64 last), (18, .int .i64 (i : Int)), (19, .pointer (some ⟨g19, 0, none⟩)), (20, .pointer (some ⟨x.2, 0, none⟩))], [.blk x.2 24 [.slice x.1.1 D.length x.1.2], .own (.slice x.1.1 D.length x.1.2) 61 5 D.length (lnC D), .blk g19 61 [.int .i64 L.st, .int .i64 L.ck, .int .i64 L.kd, .int .i64 L.th, .int .i64 L.vl], .own (.slice Bs 8 cs) 2 1 8 (fnC (stF 999 l1) 8), .blk g6 24 [.slice (some ⟨ba, oa, none⟩) l1.length a1]])) ?_ ?_
  ·(apply tr_v tk; (conv => whnf); (repeat ((first | (apply VStop.mk; (first | refine tr_region_treeV (id := 12) (by kernel_rfl) [.blk g6 24 _] (by (repeat (first | exact sl0 _ | exact sl1 _ | refine sl2 _ ?_ | refine sl3 _ ?_))) [1, 2, 3, 4, 6, 7, 8, 9, 10] [0, 5, 11, 12, 13, 14] [.rd, .rd, .rd, .rd, .rd, .rd, .rd, .rd, .rd] (fun i => [.cr, .wr, .wr, .wr, .wr, .wr, .wr, .wr, .wr, .wr, .wr, .wr, .wr, .cr, .wr].getD i .wr) _ rfl rfl (by kernel_rfl) ?_ | (refine ot_slice_hi (hi := i) tk rfl rfl rfl rfl rfl rfl rfl rfl rfl (by omega) ?_) | (refine ot_slice_loE (lo := i + 1) (sz := 5) tk rfl rfl rfl rfl rfl rfl rfl rfl rfl (by omega) (by omega) hsl ?_)); apply ot_v tk) | (apply VLd.mk; (focus ((repeat (first | ((with_reducible apply ld_blk); exact rfl) | (with_reducible apply ld_skip))); done))) | (apply VRng.mk; omega)); (conv => whnf))))
   refine ox2 0 13 ?_ ?_
   ·(apply ot_v tk; (conv => whnf); (apply VNew.mk; intro g0 hg0; (conv => whnf)); refine sla ?_)
    refine ox2 5 13 ?_ ?_
    ·((first | (refine ot_st rfl (fun w hs => hs.blk_own (m := 0) (sz := 5) rfl (by decide)) ?_; refine ot_appendS (sz := 5) (sl := 0) (xs := []) (news := U1) (A'v := fun v' => .own v' 61 5 (0 + i) ([] ++ U1) :: _) tk rfl rfl rfl rfl rfl rfl rfl rfl rfl rfl (by decide) rfl (tc _) tl t1 (fun v' => .here) (by omega) (by decide) (fun B1 c1 => ?_)) | (refine ot_st rfl (fun w hs => (hs.perm (List.Perm.swap _ _ _)).blk_own (m := 0) (sz := 5) rfl (by decide)) ?_; refine ot_appendS (sz := 5) (sl := 0) (xs := []) (news := U1) (A'v := fun v' => .own v' 61 5 (0 + i) ([] ++ U1) :: _) tk rfl rfl rfl rfl rfl rfl rfl rfl rfl rfl (by decide) rfl (tc _) tl t1 (fun v' => .here) (by omega) (by decide) (fun B1 c1 => ?_))); refine ot_nil ?_; refine sla ?_)
     refine ox2 11 13 ?_ ?_
     ·((first | (refine ot_appendS (sz := 5) (sl := 0 + i) (xs := [] ++ U1) (news := U2) (A'v := fun v' => .own v' 61 5 (0 + i + (l1.length - (i + 1))) ([] ++ U1 ++ U2) :: _) tk rfl rfl rfl rfl rfl rfl rfl rfl rfl rfl (by decide) rfl (dc _) dl d1 (fun v' => .here) (by omega) (by decide) (fun B2 c2 => ?_)) | (refine ot_appendS (sz := 5) (sl := 0 + i) (xs := [] ++ U1) (news := U2) (A'v := fun v' => _ :: .own v' 61 5 (0 + i + (l1.length - (i + 1))) ([] ++ U1 ++ U2) :: _) tk rfl rfl rfl rfl rfl rfl rfl rfl rfl rfl (by decide) rfl (dc _) dl d1 (fun v' => .there .here) (by omega) (by decide) (fun B2 c2 => ?_))); refine ot_nil ?_; refine sla ?_)
      refine ox2 12 13 ?_ ?_
      ·(apply ot_v tk; (conv => whnf); refine sla ?_)
       refine ox1 13 ?_
       (apply ot_v tk; (conv => whnf); (apply VNew.mk; intro g20 hg20; (conv => whnf)); refine sla ?_)
       refine ox1 14 ?_
       (apply ot_v tk; (conv => whnf); (apply VSt.mk; (focus (repeat (first | exact At.here | apply At.there)); done); exact rfl; (conv => whnf)); refine sla ?_)
       refine VT.mk (otx_end ?_)
       rw [hDx, hDl]; exact VJ.mk ((B2, c2), g20) rfl ⟨rfl, rfl, rfl, rfl, rfl, rfl, rfl, rfl, rfl, rfl, rfl, trivial⟩ (by ((try dsimp only); repeat (first | exact Pick.nil | ((apply Pick.cons); (focus (repeat (first | exact Rem.here | apply Rem.there)); done)))))
      ·(apply ot_v tk; (conv => whnf); (apply VNew.mk; intro g20 hg20; (conv => whnf)); refine sla ?_)
       refine ox1 12 ?_
       (apply ot_v tk; (conv => whnf); refine sla ?_)
       refine ox1 14 ?_
       (apply ot_v tk; (conv => whnf); (apply VSt.mk; (focus (repeat (first | exact At.here | apply At.there)); done); exact rfl; (conv => whnf)); refine sla ?_)
       refine VT.mk (otx_end ?_)
       rw [hDx, hDl]; exact VJ.mk ((B2, c2), g20) rfl ⟨rfl, rfl, rfl, rfl, rfl, rfl, rfl, rfl, rfl, rfl, rfl, trivial⟩ (by ((try dsimp only); repeat (first | exact Pick.nil | ((apply Pick.cons); (focus (repeat (first | exact Rem.here | apply Rem.there)); done)))))
     ·(apply ot_v tk; (conv => whnf); (apply VNew.mk; intro g20 hg20; (conv => whnf)); refine sla ?_)
      refine ox1 11 ?_
      ((first | (refine ot_appendS (sz := 5) (sl := 0 + i) (xs := [] ++ U1) (news := U2) (A'v := fun v' => .own v' 61 5 (0 + i + (l1.length - (i + 1))) ([] ++ U1 ++ U2) :: _) tk rfl rfl rfl rfl rfl rfl rfl rfl rfl rfl (by decide) rfl (dc _) dl d1 (fun v' => .here) (by omega) (by decide) (fun B2 c2 => ?_)) | (refine ot_appendS (sz := 5) (sl := 0 + i) (xs := [] ++ U1) (news := U2) (A'v := fun v' => _ :: .own v' 61 5 (0 + i + (l1.length - (i + 1))) ([] ++ U1 ++ U2) :: _) tk rfl rfl rfl rfl rfl rfl rfl rfl rfl rfl (by decide) rfl (dc _) dl d1 (fun v' => .there .here) (by omega) (by decide) (fun B2 c2 => ?_))); refine ot_nil ?_; refine sla ?_)
      refine ox1 12 ?_
      (apply ot_v tk; (conv => whnf); refine sla ?_)
      refine ox1 14 ?_
      (apply ot_v tk; (conv => whnf); (apply VSt.mk; (focus (repeat (first | exact At.here | apply At.there)); done); exact rfl; (conv => whnf)); refine sla ?_)
      refine VT.mk (otx_end ?_)
      rw [hDx, hDl]; exact VJ.mk ((B2, c2), g20) rfl ⟨rfl, rfl, rfl, rfl, rfl, rfl, rfl, rfl, rfl, rfl, rfl, trivial⟩ (by ((try dsimp only); repeat (first | exact Pick.nil | ((apply Pick.cons); (focus (repeat (first | exact Rem.here | apply Rem.there)); done)))))
    ·(apply ot_v tk; (conv => whnf); (apply VNew.mk; intro g20 hg20; (conv => whnf)); refine sla ?_)
     refine ox1 5 ?_
     ((first | (refine ot_st rfl (fun w hs => hs.blk_own (m := 0) (sz := 5) rfl (by decide)) ?_; refine ot_appendS (sz := 5) (sl := 0) (xs := []) (news := U1) (A'v := fun v' => .own v' 61 5 (0 + i) ([] ++ U1) :: _) tk rfl rfl rfl rfl rfl rfl rfl rfl rfl rfl (by decide) rfl (tc _) tl t1 (fun v' => .here) (by omega) (by decide) (fun B1 c1 => ?_)) | (refine ot_st rfl (fun w hs => (hs.perm (List.Perm.swap _ _ _)).blk_own (m := 0) (sz := 5) rfl (by decide)) ?_; refine ot_appendS (sz := 5) (sl := 0) (xs := []) (news := U1) (A'v := fun v' => .own v' 61 5 (0 + i) ([] ++ U1) :: _) tk rfl rfl rfl rfl rfl rfl rfl rfl rfl rfl (by decide) rfl (tc _) tl t1 (fun v' => .here) (by omega) (by decide) (fun B1 c1 => ?_))); refine ot_nil ?_; refine sla ?_)
     refine ox1 11 ?_
     ((first | (refine ot_appendS (sz := 5) (sl := 0 + i) (xs := [] ++ U1) (news := U2) (A'v := fun v' => .own v' 61 5 (0 + i + (l1.length - (i + 1))) ([] ++ U1 ++ U2) :: _) tk rfl rfl rfl rfl rfl rfl rfl rfl rfl rfl (by decide) rfl (dc _) dl d1 (fun v' => .here) (by omega) (by decide) (fun B2 c2 => ?_)) | (refine ot_appendS (sz := 5) (sl := 0 + i) (xs := [] ++ U1) (news := U2) (A'v := fun v' => _ :: .own v' 61 5 (0 + i + (l1.length - (i + 1))) ([] ++ U1 ++ U2) :: _) tk rfl rfl rfl rfl rfl rfl rfl rfl rfl rfl (by decide) rfl (dc _) dl d1 (fun v' => .there .here) (by omega) (by decide) (fun B2 c2 => ?_))); refine ot_nil ?_; refine sla ?_)
     refine ox1 12 ?_
     (apply ot_v tk; (conv => whnf); refine sla ?_)
     refine ox1 14 ?_
     (apply ot_v tk; (conv => whnf); (apply VSt.mk; (focus (repeat (first | exact At.here | apply At.there)); done); exact rfl; (conv => whnf)); refine sla ?_)
     refine VT.mk (otx_end ?_)
     rw [hDx, hDl]; exact VJ.mk ((B2, c2), g20) rfl ⟨rfl, rfl, rfl, rfl, rfl, rfl, rfl, rfl, rfl, rfl, rfl, trivial⟩ (by ((try dsimp only); repeat (first | exact Pick.nil | ((apply Pick.cons); (focus (repeat (first | exact Rem.here | apply Rem.there)); done)))))
   ·(apply ot_v tk; (conv => whnf); (apply VNew.mk; intro g20 hg20; (conv => whnf)); refine sla ?_)
    refine ox1 0 ?_
    (apply ot_v tk; (conv => whnf); (apply VNew.mk; intro g0 hg0; (conv => whnf)); refine sla ?_)
    refine ox1 5 ?_
    ((first | (refine ot_st rfl (fun w hs => hs.blk_own (m := 0) (sz := 5) rfl (by decide)) ?_; refine ot_appendS (sz := 5) (sl := 0) (xs := []) (news := U1) (A'v := fun v' => .own v' 61 5 (0 + i) ([] ++ U1) :: _) tk rfl rfl rfl rfl rfl rfl rfl rfl rfl rfl (by decide) rfl (tc _) tl t1 (fun v' => .here) (by omega) (by decide) (fun B1 c1 => ?_)) | (refine ot_st rfl (fun w hs => (hs.perm (List.Perm.swap _ _ _)).blk_own (m := 0) (sz := 5) rfl (by decide)) ?_; refine ot_appendS (sz := 5) (sl := 0) (xs := []) (news := U1) (A'v := fun v' => .own v' 61 5 (0 + i) ([] ++ U1) :: _) tk rfl rfl rfl rfl rfl rfl rfl rfl rfl rfl (by decide) rfl (tc _) tl t1 (fun v' => .here) (by omega) (by decide) (fun B1 c1 => ?_))); refine ot_nil ?_; refine sla ?_)
    refine ox1 11 ?_
    ((first | (refine ot_appendS (sz := 5) (sl := 0 + i) (xs := [] ++ U1) (news := U2) (A'v := fun v' => .own v' 61 5 (0 + i + (l1.length - (i + 1))) ([] ++ U1 ++ U2) :: _) tk rfl rfl rfl rfl rfl rfl rfl rfl rfl rfl (by decide) rfl (dc _) dl d1 (fun v' => .here) (by omega) (by decide) (fun B2 c2 => ?_)) | (refine ot_appendS (sz := 5) (sl := 0 + i) (xs := [] ++ U1) (news := U2) (A'v := fun v' => _ :: .own v' 61 5 (0 + i + (l1.length - (i + 1))) ([] ++ U1 ++ U2) :: _) tk rfl rfl rfl rfl rfl rfl rfl rfl rfl rfl (by decide) rfl (dc _) dl d1 (fun v' => .there .here) (by omega) (by decide) (fun B2 c2 => ?_))); refine ot_nil ?_; refine sla ?_)
    refine ox1 12 ?_
    (apply ot_v tk; (conv => whnf); refine sla ?_)
    refine ox1 14 ?_
    (apply ot_v tk; (conv => whnf); (apply VSt.mk; (focus (repeat (first | exact At.here | apply At.there)); done); exact rfl; (conv => whnf)); refine sla ?_)
    refine VT.mk (otx_end ?_)
    rw [hDx, hDl]; exact VJ.mk ((B2, c2), g20) rfl ⟨rfl, rfl, rfl, rfl, rfl, rfl, rfl, rfl, rfl, rfl, rfl, trivial⟩ (by ((try dsimp only); repeat (first | exact Pick.nil | ((apply Pick.cons); (focus (repeat (first | exact Rem.here | apply Rem.there)); done)))))
  rintro ⟨⟨Bx, cx⟩, g20⟩
  dsimp only
  have kD := fun w1 h => stock_ok Bx cx D w1 h (by unfold maxLen; omega) vD
  have kDa := fun w1 h s hs => at_ok Bx cx D w1 h (by unfold maxLen; omega) s vD hs
  refine tr_cut (fun x : SlX => ([(2, .int .u16 (nb : Int)), (3, .int .u8 (c : Int)), (4, .int .u8 (h : Int)), (5, .int .i16 z), (6, .pointer (some ⟨g6, 0, none⟩)), (12, .bool false), (13, .slice Bs 8 cs), (17, .int .i64 last), (18, .int .i64 (i : Int)), (19, .pointer (some ⟨g19, 0, none⟩)), (20, .pointer (some ⟨g20, 0, none⟩)), (21, .slice x.1 8 x.2), (22, .int .i64 0)], [.own (.slice x.1 8 x.2) 2 1 8 (fnC (stF 999 D) 8), .blk g20 24 [.slice Bx D.length cx], .own (.slice Bx D.length cx) 61 5 D.length (lnC D), .blk g19 61 [.int .i64 L.st, .int .i64 L.ck, .int .i64 L.kd, .int .i64 L.th, .int .i64 L.vl], .own (.slice Bs 8 cs) 2 1 8 (fnC (stF 999 l1) 8), .blk g6 24 [.slice (some ⟨ba, oa, none⟩) l1.length a1]])) ?_ ?_
  ·(apply tr_v tk; (conv => whnf); (repeat ((apply VLdN.mk; (focus ((repeat (first | (with_reducible apply ldn_blk) | (with_reducible apply ldn_skip))); done)); exact rfl); (conv => whnf))); apply VCall.stop)
   refine ot_callT (X := SlX) (us := []) (vs := []) (fun x => .tuple #[.slice x.1 8 x.2, .int .i64 0]) (fun x => []) (fun x => [.own (.slice x.1 8 x.2) 2 1 8 (fnC (stF 999 D) 8)]) _ (fun x c hc => one_mut hc) (by decide) rfl rfl rfl rfl (by kernel_rfl) (evl_of rfl) rfl (fun w1 hs => kD w1 (hs.own_rd (by (repeat (first | exact List.Mem.head _ | assumption | refine List.Mem.tail _ ?_))))) ?_
   rintro ⟨Bu, cu⟩ _
   (dsimp only [List.cons_append, List.nil_append]; apply ot_v tk)
   ((conv => whnf))
   exact VJ.mk (Bu, cu) rfl ⟨rfl, rfl, rfl, rfl, rfl, rfl, rfl, rfl, rfl, rfl, rfl, rfl, rfl, trivial⟩ (by ((try dsimp only); repeat (first | exact Pick.nil | ((apply Pick.cons); (focus (repeat (first | exact Rem.here | apply Rem.there)); done)))))
  rintro ⟨Bu, cu⟩
  dsimp only
  have m1 : 0 ≤ Int.tmod (nb : Int) L.st := Int.tmod_nonneg _ (by omega)
  have m2 : Int.tmod (nb : Int) L.st < L.st := Int.tmod_lt_of_pos _ (by omega)
  generalize hm : Int.tmod (nb : Int) L.st = m at *
  have m3 : inB m 0 999 = true := inB_iff.2 (by omega)
  have hear := hear m m2
  refine tr_cut (fun x : SlX => ([(2, .int .u16 (nb : Int)), (3, .int .u8 (c : Int)), (4, .int .u8 (h : Int)), (5, .int .i16 z), (6, .pointer (some ⟨g6, 0, none⟩)), (12, .bool false), (13, .slice Bs 8 cs), (17, .int .i64 last), (18, .int .i64 (i : Int)), (19, .pointer (some ⟨g19, 0, none⟩)), (20, .pointer (some ⟨g20, 0, none⟩)), (21, .slice Bu 8 cu), (22, .int .i64 0), (23, .slice x.1 8 x.2), (24, .int .i64 0)], [.own (.slice x.1 8 x.2) 2 1 8 (fnC (stF m l1) 8), .own (.slice Bu 8 cu) 2 1 8 (fnC (stF 999 D) 8), .blk g20 24 [.slice Bx D.length cx], .own (.slice Bx D.length cx) 61 5 D.length (lnC D), .blk g19 61 [.int .i64 L.st, .int .i64 L.ck, .int .i64 L.kd, .int .i64 L.th, .int .i64 L.vl], .own (.slice Bs 8 cs) 2 1 8 (fnC (stF 999 l1) 8), .blk g6 24 [.slice (some ⟨ba, oa, none⟩) l1.length a1]])) ?_ ?_
  ·(apply tr_v tk; (conv => whnf); (repeat ((first | ((first | apply VStop.mk | apply VCall.stop); refine tr_region_lex (id := 14) (by kernel_rfl) [.rd, .rd, .rd, .rd, .rd, .rd, .cr, .rd, .rd, .rd, .rd, .rd] rfl (by kernel_rfl) ?_; apply ot_v tk) | (apply VLd.mk; (focus ((repeat (first | ((with_reducible apply ld_blk); exact rfl) | (with_reducible apply ld_skip))); done))) | (apply VLdN.mk; (focus ((repeat (first | (with_reducible apply ldn_blk) | (with_reducible apply ldn_skip))); done)); exact rfl) | (apply v_wr64; omega) | (apply VNz.mk; omega)); (conv => whnf))); apply VCall.stop)
   rw [hm]
   refine ot_callT (X := SlX) (us := []) (vs := []) (fun x => .tuple #[.slice x.1 8 x.2, .int .i64 0]) (fun x => []) (fun x => [.own (.slice x.1 8 x.2) 2 1 8 (fnC (stF m l1) 8)]) _ (fun x c hc => one_mut hc) (by decide) rfl rfl rfl rfl (by kernel_rfl) (evl_of rfl) rfl (fun w1 hs => kat w1 (hs.book h1) m m3) ?_
   rintro ⟨Bp, cp⟩ _
   (dsimp only [List.cons_append, List.nil_append]; apply ot_v tk)
   ((conv => whnf))
   exact VJ.mk (Bp, cp) rfl ⟨rfl, rfl, rfl, rfl, rfl, rfl, rfl, rfl, rfl, rfl, rfl, rfl, rfl, rfl, rfl, trivial⟩ (by ((try dsimp only); repeat (first | exact Pick.nil | ((apply Pick.cons); (focus (repeat (first | exact Rem.here | apply Rem.there)); done)))))
  rintro ⟨Bp, cp⟩
  dsimp only
  refine tr_cut (fun x : SlX => ([(3, .int .u8 (c : Int)), (4, .int .u8 (h : Int)), (5, .int .i16 z), (6, .pointer (some ⟨g6, 0, none⟩)), (12, .bool false), (13, .slice Bs 8 cs), (17, .int .i64 last), (18, .int .i64 (i : Int)), (19, .pointer (some ⟨g19, 0, none⟩)), (20, .pointer (some ⟨g20, 0, none⟩)), (21, .slice Bu 8 cu), (22, .int .i64 0), (23, .slice Bp 8 cp), (24, .int .i64 0), (25, .slice x.1 8 x.2), (26, .int .i64 0)], [.own (.slice x.1 8 x.2) 2 1 8 (fnC (stF m D) 8), .own (.slice Bp 8 cp) 2 1 8 (fnC (stF m l1) 8), .own (.slice Bu 8 cu) 2 1 8 (fnC (stF 999 D) 8), .blk g20 24 [.slice Bx D.length cx], .own (.slice Bx D.length cx) 61 5 D.length (lnC D), .blk g19 61 [.int .i64 L.st, .int .i64 L.ck, .int .i64 L.kd, .int .i64 L.th, .int .i64 L.vl], .own (.slice Bs 8 cs) 2 1 8 (fnC (stF 999 l1) 8), .blk g6 24 [.slice (some ⟨ba, oa, none⟩) l1.length a1]])) ?_ ?_
  ·(apply tr_v tk; (conv => whnf); (repeat ((first | ((first | apply VStop.mk | apply VCall.stop); refine tr_region_lex (id := 15) (by kernel_rfl) [.rd, .rd, .rd, .rd, .rd, .rd, .cr, .rd, .rd, .rd, .rd, .rd] rfl (by kernel_rfl) ?_; apply ot_v tk) | (apply VLd.mk; (focus ((repeat (first | ((with_reducible apply ld_blk); exact rfl) | (with_reducible apply ld_skip))); done))) | (apply VLdN.mk; (focus ((repeat (first | (with_reducible apply ldn_blk) | (with_reducible apply ldn_skip))); done)); exact rfl) | (apply v_wr64; omega) | (apply VNz.mk; omega)); (conv => whnf))); apply VCall.stop)
   rw [hm]
   refine ot_callT (X := SlX) (us := []) (vs := []) (fun x => .tuple #[.slice x.1 8 x.2, .int .i64 0]) (fun x => []) (fun x => [.own (.slice x.1 8 x.2) 2 1 8 (fnC (stF m D) 8)]) _ (fun x c hc => one_mut hc) (by decide) rfl rfl rfl rfl (by kernel_rfl) (evl_of rfl) rfl (fun w1 hs => kDa w1 (hs.own_rd (by (repeat (first | exact List.Mem.head _ | assumption | refine List.Mem.tail _ ?_)))) m m3) ?_
   rintro ⟨Bq, cq⟩ _
   (dsimp only [List.cons_append, List.nil_append]; apply ot_v tk)
   ((conv => whnf))
   exact VJ.mk (Bq, cq) rfl ⟨rfl, rfl, rfl, rfl, rfl, rfl, rfl, rfl, rfl, rfl, rfl, rfl, rfl, rfl, rfl, rfl, trivial⟩ (by ((try dsimp only); repeat (first | exact Pick.nil | ((apply Pick.cons); (focus (repeat (first | exact Rem.here | apply Rem.there)); done)))))
  rintro ⟨Bq, cq⟩
  dsimp only
  have q2 := fun {A : List Chunk} {w1 : World} (hs : St w A w1) (a : Chunk.own (.slice Bp 8 cp) 2 1 8 (fnC (stF m l1) 8) ∈ A) (b : Chunk.own (.slice Bq 8 cq) 2 1 8 (fnC (stF m D) 8) ∈ A) => longsF hs a b fun _ _ => by rw [hear]
  refine tr_cut (fun x : Unit => ([(3, .int .u8 (c : Int)), (4, .int .u8 (h : Int)), (5, .int .i16 z), (6, .pointer (some ⟨g6, 0, none⟩)), (12, .bool false), (13, .slice Bs 8 cs), (17, .int .i64 last), (19, .pointer (some ⟨g19, 0, none⟩)), (21, .slice Bu 8 cu)], [.own (.slice Bu 8 cu) 2 1 8 (fnC (stF 999 D) 8), .blk g19 61 [.int .i64 L.st, .int .i64 L.ck, .int .i64 L.kd, .int .i64 L.th, .int .i64 L.vl], .own (.slice Bs 8 cs) 2 1 8 (fnC (stF 999 l1) 8), .blk g6 24 [.slice (some ⟨ba, oa, none⟩) l1.length a1]])) ?_ ?_
  ·(apply tr_v tk; (conv => whnf); (repeat ((first | (apply VCall.q; kernel_rfl; (focus (intro w1 hs; first | ((with_reducible apply q2 hs); (repeat (first | exact List.Mem.head _ | assumption | refine List.Mem.tail _ ?_)))))) | apply VBr.f | (apply v_f; omega)); (conv => whnf))))
   exact VJ.mk () rfl ⟨rfl, rfl, rfl, rfl, rfl, rfl, rfl, rfl, rfl, trivial⟩ (by ((try dsimp only); repeat (first | exact Pick.nil | ((apply Pick.cons); (focus (repeat (first | exact Rem.here | apply Rem.there)); done)))))
  rintro _
  dsimp only
  refine tr_cut (fun x : Unit => ([(3, .int .u8 (c : Int)), (4, .int .u8 (h : Int)), (5, .int .i16 z), (6, .pointer (some ⟨g6, 0, none⟩)), (12, .bool false), (13, .slice Bs 8 cs), (17, .int .i64 last), (19, .pointer (some ⟨g19, 0, none⟩)), (21, .slice Bu 8 cu), (27, .int .i64 0)], [.own (.slice Bu 8 cu) 2 1 8 (fnC (stF 999 D) 8), .blk g19 61 [.int .i64 L.st, .int .i64 L.ck, .int .i64 L.kd, .int .i64 L.th, .int .i64 L.vl], .own (.slice Bs 8 cs) 2 1 8 (fnC (stF 999 l1) 8), .blk g6 24 [.slice (some ⟨ba, oa, none⟩) l1.length a1]])) ?_ ?_
  ·(apply tr_v tk; (conv => whnf))
   exact VJ.mk () rfl ⟨rfl, rfl, rfl, rfl, rfl, rfl, rfl, rfl, rfl, rfl, trivial⟩ (by ((try dsimp only); repeat (first | exact Pick.nil | ((apply Pick.cons); (focus (repeat (first | exact Rem.here | apply Rem.there)); done)))))
  rintro _
  dsimp only
  refine tr_own_addr (B := Bs) (m := 8) (cc := cs) (te := 2) (sz := 1) (xs := fnC (stF 999 l1) 8) (by (repeat (first | exact List.Mem.head _ | assumption | refine List.Mem.tail _ ?_))) (by omega) ?_
  rintro ps rfl
  refine tr_own_addr (B := Bu) (m := 8) (cc := cu) (te := 2) (sz := 1) (xs := fnC (stF 999 D) 8) (by (repeat (first | exact List.Mem.head _ | assumption | refine List.Mem.tail _ ?_))) (by omega) ?_
  rintro pu rfl
  (apply tr_v tk; (conv => whnf); apply VStop.mk)
  refine v_loop (fun gm ds ts A => ds = [] ∧ ∃ j : Nat, j + gm = 8 ∧ A = [.own (.slice (some ⟨pu, 0, none⟩) 8 cu) 2 1 8 (fnC (stF 999 D) 8), .blk g19 61 [.int .i64 L.st, .int .i64 L.ck, .int .i64 L.kd, .int .i64 L.th, .int .i64 L.vl], .own (.slice (some ⟨ps, 0, none⟩) 8 cs) 2 1 8 (fnC (stF 999 l1) 8), .blk g6 24 [.slice (some ⟨ba, oa, none⟩) l1.length a1]] ∧ ts = [(3, .int .u8 (c : Int)), (4, .int .u8 (h : Int)), (5, .int .i16 z), (6, .pointer (some ⟨g6, 0, none⟩)), (12, .bool false), (13, .slice (some ⟨ps, 0, none⟩) 8 cs), (17, .int .i64 last), (19, .pointer (some ⟨g19, 0, none⟩)), (21, .slice (some ⟨pu, 0, none⟩) 8 cu), (27, .int .i64 (j : Int))]) 8 (l := [(3, _), (4, _), (5, _), (6, _), (12, _), (13, _), (17, _), (19, _), (21, _), (27, _)]) (B := _) ⟨rfl, rfl, rfl, rfl, rfl, rfl, rfl, rfl, rfl, rfl, trivial⟩ (List.Sublist.refl _) ⟨rfl, 0, by omega, rfl, rfl⟩ ?_
  rintro gm ds ts A ⟨rfl, j, hjj, rfl, rfl⟩
  by_cases hlt : j < 8
  ·have hz := hoth j
   have f1 := fun {A : List Chunk} (h : Chunk.own (.slice (some ⟨ps, 0, none⟩) 8 cs) 2 1 8 (fnC (stF 999 l1) 8) ∈ A) => own_fnC (w0 := w) (j := j) h hlt
   have f2 := fun {A : List Chunk} (h : Chunk.own (.slice (some ⟨pu, 0, none⟩) 8 cu) 2 1 8 (fnC (stF 999 D) 8) ∈ A) => own_fnC (w0 := w) (j := j) h hlt
   by_cases hk : (j : Int) = L.th
   ·(apply tr_v tk; (conv => whnf); (repeat ((first | (apply VStop.mk; refine tr_region_draw (id := 21) (by kernel_rfl) [0, 1, 2, 3, 4, 5, 6, 7, 8, 9, 10, 11, 12, 13, 14] [.rd, .rd, .rd, .rd, .rd, .rd, .rd, .rd, .rd, .rd, .rd, .rd, .rd, .rd, .rd] rfl (by kernel_rfl) ?_; apply ot_v tk) | (apply VLd.mk; (focus ((repeat (first | ((with_reducible apply ld_blk); exact rfl) | (with_reducible apply ld_skip))); done))) | (apply VRng.mk; omega) | apply VBr.t | apply VBr.f | (apply v_t; omega) | (apply v_f; omega)); (conv => whnf))))
    exact v_rnd (gm - 1) (by omega) (l := [(3, _), (4, _), (5, _), (6, _), (12, _), (13, _), (17, _), (19, _), (21, _), (27, _)]) (B := _) ⟨rfl, rfl, rfl, rfl, rfl, rfl, rfl, rfl, rfl, rfl, trivial⟩ (List.Sublist.refl _) ⟨rfl, j + 1, by omega, rfl, rfl⟩
   ·have hz := hz (by omega)
    rw [hz] at f1
    (apply tr_v tk; (conv => whnf); (repeat ((first | (apply VStop.mk; refine tr_region_draw (id := 21) (by kernel_rfl) [0, 1, 2, 3, 4, 5, 6, 7, 8, 9, 10, 11, 12, 13, 14] [.rd, .rd, .rd, .rd, .rd, .rd, .rd, .rd, .rd, .rd, .rd, .rd, .rd, .rd, .rd] rfl (by kernel_rfl) ?_; apply ot_v tk) | (apply VLd.mk; first | exact f1 (by (repeat (first | exact List.Mem.head _ | assumption | refine List.Mem.tail _ ?_))) | exact f2 (by (repeat (first | exact List.Mem.head _ | assumption | refine List.Mem.tail _ ?_)))) | (apply VIx.mk (j := j); exact rfl; omega) | (apply VLd.mk; (focus ((repeat (first | ((with_reducible apply ld_blk); exact rfl) | (with_reducible apply ld_skip))); done))) | (apply VRng.mk; omega) | apply VBr.t | apply VBr.f | (apply v_t; omega) | (apply v_f; omega)); (conv => whnf))))
    exact v_rnd (gm - 1) (by omega) (l := [(3, _), (4, _), (5, _), (6, _), (12, _), (13, _), (17, _), (19, _), (21, _), (27, _)]) (B := _) ⟨rfl, rfl, rfl, rfl, rfl, rfl, rfl, rfl, rfl, rfl, trivial⟩ (List.Sublist.refl _) ⟨rfl, j + 1, by omega, rfl, rfl⟩
  obtain rfl : j = 8 := by omega
  (apply tr_v tk; (conv => whnf); (repeat ((first | apply VBr.f | (apply v_f; omega)); (conv => whnf))))
  exact VJ.mk () rfl ⟨rfl, rfl, rfl, rfl, rfl, rfl, rfl, trivial⟩ (by ((try dsimp only); repeat (first | exact Pick.nil | ((apply Pick.cons); (focus (repeat (first | exact Rem.here | apply Rem.there)); done)))))
 rintro _
 dsimp only
 have e8 : Int.tmod (h : Int) 8 = ((h % 8 : Nat) : Int) := tmod_natC h 8
 have e3 : Int.tmod (c : Int) 3 = ((c % 3 : Nat) : Int) := tmod_natC c 3
 have t8 : h % 8 < 8 := Nat.mod_lt _ (by decide)
 have t3 : c % 3 < 3 := Nat.mod_lt _ (by decide)
 generalize h % 8 = k at *
 generalize c % 3 = cl at *
 have hv : -1000 ≤ Int.tmod z 1001 ∧ Int.tmod z 1001 ≤ 1000 := by
  have : (Int.tmod z 1001).natAbs = z.natAbs % 1001 := Int.natAbs_tmod z 1001
  omega
 generalize hvz : Int.tmod z 1001 = v at *
 refine tr_cut (fun x : Unit => ([(3, .int .u8 (c : Int)), (6, .pointer (some ⟨g6, 0, none⟩)), (12, .bool false), (13, .slice Bs 8 cs), (17, .int .i64 last), (28, .int .i64 v), (29, .int .i64 (k : Int))], [.own (.slice Bs 8 cs) 2 1 8 (fnC (stF 999 l1) 8), .blk g6 24 [.slice A1 l1.length a1]])) ?_ ?_
 ·(apply tr_v tk; (conv => whnf); (repeat ((first | (apply v_wr64; omega) | (apply VNz.mk; omega)); (conv => whnf))))
  rw [hvz, e8]
  exact VJ.mk () rfl ⟨rfl, rfl, rfl, rfl, rfl, rfl, rfl, trivial⟩ (by ((try dsimp only); repeat (first | exact Pick.nil | ((apply Pick.cons); (focus (repeat (first | exact Rem.here | apply Rem.there)); done)))))
 rintro _
 dsimp only
 generalize hY : (⟨last + 1, (cl : Int), 1, (k : Int), v⟩ : Ln) = y at *
 have hYx : [] ++ lnC l1 ++ [.int .i64 (last + 1), .int .i64 (cl : Int), .int .i64 1, .int .i64 (k : Int), .int .i64 v] = lnC (l1 ++ [y]) := by
  rw [lnC_append, ← hY]; rfl
 have hYl : 0 + l1.length + 1 = (l1 ++ [y]).length := by rw [List.length_append]; simp
 refine tr_cut (fun x : SlX × Nat => ([(6, .pointer (some ⟨g6, 0, none⟩)), (12, .bool false), (13, .slice Bs 8 cs), (28, .int .i64 v), (29, .int .i64 (k : Int)), (30, .pointer (some ⟨x.2, 0, none⟩))], [.blk x.2 24 [.slice x.1.1 (l1 ++ [y]).length x.1.2], .own (.slice x.1.1 (l1 ++ [y]).length x.1.2) 61 5 (l1 ++ [y]).length (lnC (l1 ++ [y])), .own (.slice Bs 8 cs) 2 1 8 (fnC (stF 999 l1) 8), .blk g6 24 [.slice A1 l1.length a1]])) ?_ ?_
 ·(apply tr_v tk; (conv => whnf); (repeat ((first | (apply VStop.mk; (first | (refine ot_st rfl (fun w hs => hs.blk_own (m := 0) (sz := 5) rfl (by decide)) ?_; refine ot_appendR (sz := 5) (sl := 0) (xs := []) (news := lnC l1) (A'v := fun v' => .own v' 61 5 (0 + l1.length) ([] ++ lnC l1) :: _) tk rfl rfl rfl rfl rfl rfl rfl rfl rfl rfl (by decide) rfl (fun w1 hs => hs.book h1) (lnC_one l1) (fun v' => .here) (by omega) (by decide) (fun V => ?_)) | (refine ot_appendS (sz := 5) (sl := 0 + l1.length) (xs := [] ++ lnC l1) (news := [_, _, _, _, _]) (A'v := fun v' => _ :: .own v' 61 5 (0 + l1.length + 1) ([] ++ lnC l1 ++ [_, _, _, _, _]) :: _) tk rfl rfl rfl rfl rfl rfl rfl rfl rfl rfl (by decide) rfl (cells_blk_all (.head _)) rfl rfl (fun v' => .there .here) (by omega) (by decide) (fun By cy => ?_))); apply ot_v tk) | (apply VLd.mk; (focus ((repeat (first | ((with_reducible apply ld_blk); exact rfl) | (with_reducible apply ld_skip))); done))) | (apply VRng.mk; omega) | (apply VNew.mk; intro g hg) | (apply VSt.mk; (focus ((repeat (first | (with_reducible exact At.here) | (with_reducible apply At.there))); done)); exact rfl) | (apply v_wr64; omega) | (apply VNz.mk; omega)); (conv => whnf))))
  rw [e3, hYx, hYl]
  exact VJ.mk ((By, cy), g) rfl ⟨rfl, rfl, rfl, rfl, rfl, rfl, trivial⟩ (by ((try dsimp only); repeat (first | exact Pick.nil | ((apply Pick.cons); (focus (repeat (first | exact Rem.here | apply Rem.there)); done)))))
 rintro ⟨⟨By, cy⟩, g30⟩
 dsimp only
 have hYm : (l1 ++ [y]).length ≤ 21 := by rw [List.length_append, List.length_singleton]; omega
 have gY := fun {A : List Chunk} {w1 : World} (hs : St w A w1) (a : Chunk.own (.slice By (l1 ++ [y]).length cy) 61 5 (l1 ++ [y]).length (lnC (l1 ++ [y])) ∈ A) => fine_any By cy (l1 ++ [y]) w1 (hs.own_rd a) (by unfold maxLen; omega)
 by_cases hgy : chkBook (l1 ++ [y]) = 0
 rotate_left
 ·rw [decide_eq_false hgy] at gY
  (apply tr_v tk; (conv => whnf); (repeat ((first | (apply VCall.q; kernel_rfl; (focus (intro w1 hs; first | ((with_reducible apply gY hs); (repeat (first | exact List.Mem.head _ | assumption | refine List.Mem.tail _ ?_))) | with_reducible apply kw w1 (hE.st hs) (hM.st hs)))) | (apply VLdN.mk; (focus ((repeat (first | (with_reducible apply ldn_blk) | (with_reducible apply ldn_skip))); done)); exact rfl) | apply VBr.t); (conv => whnf))))
  ((apply VRet.mk); refine ret1 (by first | exact .inl rfl | exact .inr rfl) rfl (by exact rv_tmp rfl) ?_; exact fun w h => ⟨rfl, h.base⟩)
 rw [decide_eq_true hgy] at gY
 have vY := chk_valid.1 hgy
 have okY := isLine_iff.1 (add_valid v1 vY).1
 have kY := fun w1 h => stock_ok By cy (l1 ++ [y]) w1 h (by unfold maxLen; omega) vY
 have hyk : y.th.toNat = k := by rw [← hY]; rfl
 have hyv : y.vl = v := by rw [← hY]
 have hyd : y.kd = 1 := by rw [← hY]
 have hYs : ∀ j, stF 999 (l1 ++ [y]) j = if j = k then stF 999 l1 k + v else stF 999 l1 j := fun j => by
  rw [stF_snoc]
  unfold stStep
  rw [if_neg (by omega), hyk, hyv, hyd]
  by_cases hj : j = k
  ·rw [if_pos hj, if_pos hj, if_neg (by decide), hj]
  ·rw [if_neg hj, if_neg hj]
 have hlk := hlim k
 refine tr_cut (fun x : Unit => ([(6, .pointer (some ⟨g6, 0, none⟩)), (12, .bool false), (13, .slice Bs 8 cs), (28, .int .i64 v), (29, .int .i64 (k : Int)), (30, .pointer (some ⟨g30, 0, none⟩))], [.blk g30 24 [.slice By (l1 ++ [y]).length cy], .own (.slice By (l1 ++ [y]).length cy) 61 5 (l1 ++ [y]).length (lnC (l1 ++ [y])), .own (.slice Bs 8 cs) 2 1 8 (fnC (stF 999 l1) 8), .blk g6 24 [.slice A1 l1.length a1]])) ?_ ?_
 ·(apply tr_v tk; (conv => whnf); (repeat ((first | (apply VCall.q; kernel_rfl; (focus (intro w1 hs; first | ((with_reducible apply gY hs); (repeat (first | exact List.Mem.head _ | assumption | refine List.Mem.tail _ ?_)))))) | (apply VLdN.mk; (focus ((repeat (first | (with_reducible apply ldn_blk) | (with_reducible apply ldn_skip))); done)); exact rfl) | apply VBr.f); (conv => whnf))))
  exact VJ.mk () rfl ⟨rfl, rfl, rfl, rfl, rfl, rfl, trivial⟩ (by ((try dsimp only); repeat (first | exact Pick.nil | ((apply Pick.cons); (focus (repeat (first | exact Rem.here | apply Rem.there)); done)))))
 rintro _
 dsimp only
 refine tr_cut (fun x : SlX => ([(6, .pointer (some ⟨g6, 0, none⟩)), (12, .bool false), (13, .slice Bs 8 cs), (28, .int .i64 v), (29, .int .i64 (k : Int)), (30, .pointer (some ⟨g30, 0, none⟩)), (31, .slice x.1 8 x.2), (32, .int .i64 0)], [.own (.slice x.1 8 x.2) 2 1 8 (fnC (stF 999 (l1 ++ [y])) 8), .blk g30 24 [.slice By (l1 ++ [y]).length cy], .own (.slice By (l1 ++ [y]).length cy) 61 5 (l1 ++ [y]).length (lnC (l1 ++ [y])), .own (.slice Bs 8 cs) 2 1 8 (fnC (stF 999 l1) 8), .blk g6 24 [.slice A1 l1.length a1]])) ?_ ?_
 ·(apply tr_v tk; (conv => whnf); (repeat ((apply VLdN.mk; (focus ((repeat (first | (with_reducible apply ldn_blk) | (with_reducible apply ldn_skip))); done)); exact rfl); (conv => whnf))); apply VCall.stop)
  refine ot_callT (X := SlX) (us := []) (vs := []) (fun x => .tuple #[.slice x.1 8 x.2, .int .i64 0]) (fun x => []) (fun x => [.own (.slice x.1 8 x.2) 2 1 8 (fnC (stF 999 (l1 ++ [y])) 8)]) _ (fun x c hc => one_mut hc) (by decide) rfl rfl rfl rfl (by kernel_rfl) (evl_of rfl) rfl (fun w1 hs => kY w1 (hs.own_rd (by (repeat (first | exact List.Mem.head _ | assumption | refine List.Mem.tail _ ?_))))) ?_
  rintro ⟨Bv, cv⟩ _
  (dsimp only [List.cons_append, List.nil_append]; apply ot_v tk)
  ((conv => whnf))
  exact VJ.mk (Bv, cv) rfl ⟨rfl, rfl, rfl, rfl, rfl, rfl, rfl, rfl, trivial⟩ (by ((try dsimp only); repeat (first | exact Pick.nil | ((apply Pick.cons); (focus (repeat (first | exact Rem.here | apply Rem.there)); done)))))
 rintro ⟨Bv, cv⟩
 dsimp only
 refine tr_own_addr (B := Bs) (m := 8) (cc := cs) (te := 2) (sz := 1) (xs := fnC (stF 999 l1) 8) (by (repeat (first | exact List.Mem.head _ | assumption | refine List.Mem.tail _ ?_))) (by omega) ?_
 rintro ps rfl
 have f1 := fun {A : List Chunk} (h : Chunk.own (.slice (some ⟨ps, 0, none⟩) 8 cs) 2 1 8 (fnC (stF 999 l1) 8) ∈ A) => own_fnC (w0 := w) (j := k) h t8
 refine tr_cut (fun x : Unit => ([(12, .bool false), (13, .slice (some ⟨ps, 0, none⟩) 8 cs), (28, .int .i64 v), (29, .int .i64 (k : Int)), (31, .slice Bv 8 cv)], [.own (.slice Bv 8 cv) 2 1 8 (fnC (stF 999 (l1 ++ [y])) 8), .own (.slice (some ⟨ps, 0, none⟩) 8 cs) 2 1 8 (fnC (stF 999 l1) 8)])) ?_ ?_
 ·(apply tr_v tk; (conv => whnf); (repeat ((first | (apply VLd.mk; first | exact f1 (by (repeat (first | exact List.Mem.head _ | assumption | refine List.Mem.tail _ ?_)))) | (apply VIx.mk (j := k); exact rfl; omega) | apply VBr.f | (apply v_f; omega)); (conv => whnf))))
  exact VJ.mk () rfl ⟨rfl, rfl, rfl, rfl, rfl, trivial⟩ (by ((try dsimp only); repeat (first | exact Pick.nil | ((apply Pick.cons); (focus (repeat (first | exact Rem.here | apply Rem.there)); done)))))
 rintro _
 dsimp only
 generalize stF 999 (l1 ++ [y]) = gg at *
 generalize stF 999 l1 = ff at *
 have q1 := fun {A : List Chunk} {w1 : World} (hs : St w A w1) (a : Chunk.own (.slice Bv 8 cv) 2 1 8 (fnC gg 8) ∈ A) (b : Chunk.own (.slice (some ⟨ps, 0, none⟩) 8 cs) 2 1 8 (setMany (fnC ff 8) (0 + k * 1) [.int .i64 (ff k + v)]) ∈ A) => longsF hs a (by rw [setMany_fnC1 t8] at b; exact b) fun j _ => hYs j
 (apply tr_v tk; (conv => whnf); (repeat ((first | (apply VLd.mk; first | exact f1 (by (repeat (first | exact List.Mem.head _ | assumption | refine List.Mem.tail _ ?_)))) | (apply VIx.mk (j := k); exact rfl; omega) | (apply VSt.stop; refine ot_storeN_own (sz := 1) (vs := [_]) tk rfl rfl rfl rfl rfl rfl rfl rfl rfl rfl (.there .here) (by simp only [List.length_cons, List.length_nil]; omega) (Nat.succ_pos _) ?_; apply ot_v tk) | (apply VCall.q; kernel_rfl; (focus (intro w1 hs; first | ((with_reducible apply q1 hs); (repeat (first | exact List.Mem.head _ | assumption | refine List.Mem.tail _ ?_))) | with_reducible apply kw w1 (hE.st hs) (hM.st hs)))) | (apply VRng.mk; omega) | apply VBr.t); (conv => whnf))))
 ((apply VRet.mk); refine ret1 (by first | exact .inl rfl | exact .inr rfl) rfl (by exact rv_tmp rfl) ?_; exact fun w h => ⟨rfl, h.base⟩)
end Go.Proofs.YtojeeindlijgkaaGreatDoor
