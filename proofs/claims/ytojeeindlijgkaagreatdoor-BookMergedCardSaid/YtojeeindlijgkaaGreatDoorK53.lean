/- Bits of thirty-two: lemmas for the rows of this seat. No conditions. -/
import Derived.Laws.StructEq
import Derived.Test.YtojeeindlijgkaaGreatDoorK40
import Derived.Test.YtojeeindlijgkaaGreatDoorK41
import Derived.Test.YtojeeindlijgkaaGreatDoorK48
set_option linter.all false
namespace Go.Proofs.YtojeeindlijgkaaGreatDoor
open Go.RowKit
/-! ## Bits of thirty-two -/
theorem wrap_u32b {q : Nat} (h : q < 4294967296) : IntKind.u32.wrap (q : Int) = q := by
 show ((q : Int)) % 4294967296 = q
 omega
section
variable {P : Program} {w0 : World} {n : Nat} {ds : List Deferred} {ops : List Oper} {o : Oper} {os : List Oper} {ks : List Kind} {ts : TS} {A : List Chunk} {K : TS → List Chunk → Prop} {d : Tmp} {x y : Operand} {t u : TypeId}
theorem ot_or32 {a b : Nat} (hop : o.op = .binOp .or t x y u) (hd : o.dst = some d) (hw : wantB ops ts o = some true) (hx : evT ts x = some (.int .u32 (a : Int))) (hy : evT ts y = some (.int .u32 (b : Int))) (ha : a < 2 ^ 32) (hb : b < 2 ^ 32)
  (hk : OT P w0 n ds ops os ks.tail ((d, .int .u32 ((a ||| b : Nat) : Int)) :: ts) A K) : OT P w0 n ds ops (o :: os) ks ts A K :=
 ot_val _ hd hw (fun a' w hd' => by
  have e1 : (eqGuard .or t x y (.int .u32 (a : Int)) (.int .u32 (b : Int))).run P w = .ok () w := by simp [eqGuard, Sem.run_bind]
  have e2 : (binOp .or t (.int .u32 (a : Int)) (.int .u32 (b : Int))).run P w = .ok (.int .u32 ((a ||| b : Nat) : Int)) w := by
   have h3 : (BitVec.ofInt 32 (a : Int) ||| BitVec.ofInt 32 (b : Int)).toNat = a ||| b := by
    rw [BitVec.toNat_or, BitVec.ofInt_natCast, BitVec.ofInt_natCast, BitVec.toNat_ofNat, BitVec.toNat_ofNat, Nat.mod_eq_of_lt (by omega), Nat.mod_eq_of_lt (by omega)]
   have h4 : (binOp .or t (.int .u32 (a : Int)) (.int .u32 (b : Int))) = pure (.int .u32 (IntKind.u32.wrap ((BitVec.ofInt 32 (a : Int) ||| BitVec.ofInt 32 (b : Int)).toNat : Int))) := by simp [binOp, Op.intBits]; rfl
   have h5 := Nat.or_lt_two_pow ha hb
   rw [h4, h3, wrap_u32b (by omega)]
   exact Sem.run_pure ..
  simp only [execOp, hop, hd'.ev hx, hd'.ev hy, Sem.run_bind, e1, e2, Result.andThen_ok, Sem.run_pure]) hk
end
section
variable {w0 : World} {n : Nat} {ds : List Deferred} {ops : List Oper} {o : Oper} {os : List Oper} {ks : List Kind} {ts : TS} {A : List Chunk} {K : TS → List Chunk → Prop} {d : Tmp} {x y : Operand} {ats : Array TypeId} {u v : Value}
/-- A call of Some. -/
theorem ot_mkS {L : List Ln} (hc : ∀ w, St w0 A w → Calls Tryz.prog 43 #[u, v] w fun e w' => ∃ x : SlX, e = .returned (.agg #[.slice x.1 L.length x.2]) ∧ True ∧ St w ([] ++ [.own (.slice x.1 L.length x.2) 61 5 L.length (lnC L)]) w')
  (hk : ∀ (B : Option Addr) (c : Nat), OT Tryz.prog w0 n ds ops os ks.tail ((d, .agg #[.slice B L.length c]) :: ts) (A ++ [.own (.slice B L.length c) 61 5 L.length (lnC L)]) K)
  (hh : ks.headD .wr ≠ .rd := by decide) (hop : o.op = .call { callee := .value (.func 43), args := #[x, y], argTypes := ats } := by exact rfl) (hd : o.dst = some d := by exact rfl) (hw : wantB ops ts o = some true := by exact rfl) (hx : evT ts x = some u := by exact rfl) (hy : evT ts y = some v := by exact rfl) : OT Tryz.prog w0 n ds ops (o :: os) ks ts A K := by
 refine ot_callT (X := SlX) (us := []) (vs := []) (fun x => .agg #[.slice x.1 L.length x.2]) (fun x => []) (fun x => [.own (.slice x.1 L.length x.2) 61 5 L.length (lnC L)]) (fun _ => True) (fun x c hc => one_mut hc) hh hop hd hw rfl (by kernel_rfl) (.cons hx (.cons hy .nil)) rfl hc (fun x _ => ?_)
 exact hk x.1 x.2
end
/-! ## BookMerged -/
set_option maxHeartbeats 4000000 in
set_option maxRecDepth 20000 in
theorem law7_any (A1 : Option Addr) (a1 : Nat) (l1 : List Ln) (o p q : Nat) (ho : o < 4294967296) (hp : p < 4294967296) (hq : q < 4294967296) (w : World) (h1 : BookR w A1 l1) (hm1 : l1.length ≤ maxLen) (hE : LayE w) (hM : MaxL w) :
  Calls Tryz.prog 7 #[.agg #[.slice A1 l1.length a1], .int .u32 (o : Int), .int .u32 (p : Int), .int .u32 (q : Int)] w fun e w' => e = .returned (.bool true) ∧ Below w.heap.size w w' := by
 have kw := fun w1 h1 h2 => works_any w1 h1 h2
 have g1 := fun w1 h => fine_any A1 a1 l1 w1 h hm1
 by_cases hg1 : chkBook l1 = 0
 rotate_left
 ·rw [decide_eq_false hg1] at g1
  refine fn_v tk (n := 191) (A := []) Tryz.func7 rfl rfl (Nat.le_of_ble_eq_true rfl) (St.nil (Below.refl _ _)) ?_
  ((conv => whnf); (repeat ((first | (apply VCall.q; kernel_rfl; (focus (intro w1 hs; first | with_reducible apply g1 w1 (hs.book h1) | with_reducible apply kw w1 (hE.st hs) (hM.st hs)))) | (apply VLdN.mk; (focus ((repeat (first | (with_reducible apply ldn_blk) | (with_reducible apply ldn_skip))); done)); exact rfl) | apply VBr.t | (apply VNew.mk; intro g hg)); (conv => whnf))))
  ((apply VRet.mk); refine ret1 (by first | exact .inl rfl | exact .inr rfl) rfl (by exact rv_tmp rfl) ?_; exact fun w h => ⟨rfl, h.base⟩)
 rw [decide_eq_true hg1] at g1
 have v1 := chk_valid.1 hg1
 have hl1 := v1.len
 have h2 : o ||| p < 4294967296 := Nat.or_lt_two_pow (n := 32) ho hp
 have h3 : o ||| p ||| q < 4294967296 := Nat.or_lt_two_pow (n := 32) h2 hq
 have b1 := fun w1 h => some_any A1 a1 l1 o ho w1 h (by omega)
 have b2 := fun w1 h => some_any A1 a1 l1 p hp w1 h (by omega)
 have b3 := fun w1 h => some_any A1 a1 l1 q hq w1 h (by omega)
 have b4 := fun w1 h => some_any A1 a1 l1 (o ||| p) h2 w1 h (by omega)
 have b5 := fun w1 h => some_any A1 a1 l1 (o ||| p ||| q) h3 w1 h (by omega)
 have jx : Joins (somT (bitP o) l1 l1.length) (somT (bitP p) l1 l1.length) (somT (bitP (o ||| p)) l1 l1.length) := somT_join v1 fun i _ => bitP_or o p i
 have jz : Joins (somT (bitP (o ||| p)) l1 l1.length) (somT (bitP q) l1 l1.length) (somT (bitP (o ||| p ||| q)) l1 l1.length) := somT_join v1 fun i _ => bitP_or (o ||| p) q i
 have jv : Joins (somT (bitP p) l1 l1.length) (somT (bitP q) l1 l1.length) (somT (bitP (p ||| q)) l1 l1.length) := somT_join v1 fun i _ => bitP_or p q i
 have ju : Joins (somT (bitP o) l1 l1.length) (somT (bitP (p ||| q)) l1 l1.length) (somT (bitP (o ||| p ||| q)) l1 l1.length) := somT_join v1 fun i _ => by rw [Nat.or_assoc]; exact bitP_or o (p ||| q) i
 have jt : Joins (somT (bitP (o ||| p ||| q)) l1 l1.length) (somT (bitP p) l1 l1.length) (somT (bitP (o ||| p ||| q)) l1 l1.length) := somT_join v1 fun i _ => by rw [bitP_or, bitP_or]; cases bitP o i <;> cases bitP p i <;> cases bitP q i <;> rfl
 have js : Joins (somT (bitP o) l1 l1.length) (somT (bitP o) l1 l1.length) (somT (bitP o) l1 l1.length) := somT_join v1 fun i _ => by cases bitP o i <;> rfl
 have ja : Joins (somT (bitP (o ||| p ||| q)) l1 l1.length) l1 l1 := by
  have := somT_join v1 (p := bitP (o ||| p ||| q)) (q := fun _ => true) (r := fun _ => true) fun i _ => by simp
  rwa [somT_all] at this
 generalize somT (bitP (p ||| q)) l1 l1.length = V at *
 generalize somT (bitP (o ||| p ||| q)) l1 l1.length = Z at *
 generalize somT (bitP (o ||| p)) l1 l1.length = X at *
 generalize somT (bitP o) l1 l1.length = a at *
 generalize somT (bitP p) l1 l1.length = b at *
 generalize somT (bitP q) l1 l1.length = c at *
 have ha := jx.va.len
 have hb := jx.vb.len
 have hX := jx.vo.len
 have hZ := jz.vo.len
 have hc := jz.vb.len
 have hV := jv.vo.len
 have st1 := fun w1 h => stock_ok A1 a1 l1 w1 h hm1 v1
 have st2 := fun B c w1 h => stock_ok B c l1 w1 h hm1 v1
 rw [fnC_i64s] at st1
 simp only [fnC_i64s] at st2
 have hln : ((List.range 8).map (stF 999 l1)).length = 8 := rfl
 generalize (List.range 8).map (stF 999 l1) = S at *
 refine fn_t (n := 191) (A := []) Tryz.func7 rfl rfl (Nat.le_of_ble_eq_true rfl) (St.nil (Below.refl _ _)) ?_
 refine tr_cut (fun x : Nat => ([(1, .int .u32 (o : Int)), (2, .int .u32 (p : Int)), (3, .int .u32 (q : Int)), (4, .pointer (some ⟨x, 0, none⟩)), (8, .bool false)], [.blk x 24 [.slice A1 l1.length a1]])) ?_ ?_
 ·(apply tr_v tk; (conv => whnf); (repeat ((apply VNew.mk; intro g hg); (conv => whnf))))
  exact VJ.mk g rfl ⟨rfl, rfl, rfl, rfl, rfl, trivial⟩ (by ((try dsimp only); repeat (first | exact Pick.nil | ((apply Pick.cons); (focus (repeat (first | exact Rem.here | apply Rem.there)); done)))))
 rintro g4
 dsimp only
 refine tr_cut (fun x : Unit => ([(1, .int .u32 (o : Int)), (2, .int .u32 (p : Int)), (3, .int .u32 (q : Int)), (4, .pointer (some ⟨g4, 0, none⟩)), (8, .bool false)], [.blk g4 24 [.slice A1 l1.length a1]])) ?_ ?_
 ·(apply tr_v tk; (conv => whnf); (repeat ((first | (apply VCall.q; kernel_rfl; (focus (intro w1 hs; first | with_reducible apply g1 w1 (hs.book h1)))) | (apply VLdN.mk; (focus ((repeat (first | (with_reducible apply ldn_blk) | (with_reducible apply ldn_skip))); done)); exact rfl) | apply VBr.f); (conv => whnf))))
  exact VJ.mk () rfl ⟨rfl, rfl, rfl, rfl, rfl, trivial⟩ (by ((try dsimp only); repeat (first | exact Pick.nil | ((apply Pick.cons); (focus (repeat (first | exact Rem.here | apply Rem.there)); done)))))
 rintro _
 dsimp only
 refine tr_cut (fun x : (SlX × SlX × SlX) × Nat × Nat × Nat => ([(9, .pointer (some ⟨x.2.1, 0, none⟩)), (10, .pointer (some ⟨x.2.2.1, 0, none⟩)), (11, .pointer (some ⟨x.2.2.2, 0, none⟩)), (1, .int .u32 (o : Int)), (2, .int .u32 (p : Int)), (3, .int .u32 (q : Int)), (4, .pointer (some ⟨g4, 0, none⟩)), (8, .bool false)], [.blk x.2.1 24 [.slice x.1.1.1 a.length x.1.1.2], .blk x.2.2.1 24 [.slice x.1.2.1.1 b.length x.1.2.1.2], .blk x.2.2.2 24 [.slice x.1.2.2.1 c.length x.1.2.2.2], .own (.slice x.1.1.1 a.length x.1.1.2) 61 5 a.length (lnC a), .own (.slice x.1.2.1.1 b.length x.1.2.1.2) 61 5 b.length (lnC b), .own (.slice x.1.2.2.1 c.length x.1.2.2.2) 61 5 c.length (lnC c), .blk g4 24 [.slice A1 l1.length a1]])) ?_ ?_
 ·(apply tr_v tk; (conv => whnf); (repeat ((first | (apply VStop.mk; refine tr_region_treeV (id := 3) (by kernel_rfl) [.blk g4 24 _] (by (repeat (first | exact sl0 _ | exact sl1 _ | refine sl2 _ ?_ | refine sl3 _ ?_))) [0, 1, 3, 4, 6, 7] [2, 5, 8, 9, 10, 11, 12, 13, 14] [.rd, .rd, .rd, .rd, .rd, .rd] (fun i => [.wr, .wr, .cr, .wr, .wr, .cr, .wr, .wr, .cr, .cr, .cr, .cr, .wr, .wr, .wr].getD i .wr) _ rfl rfl (by kernel_rfl) ?_; apply ot_v tk) | (apply VLdN.mk; (focus ((repeat (first | (with_reducible apply ldn_blk) | (with_reducible apply ldn_skip))); done)); exact rfl)); (conv => whnf))))
  refine VT.mk (otx_anyV [2, 9, 10, 11] (by kernel_rfl) (by decide) ?_)
  refine ⟨⟨by kernel_rfl, by decide, ?_⟩, ⟨by kernel_rfl, by decide, ?_⟩, ⟨by kernel_rfl, by decide, ?_⟩, ⟨by kernel_rfl, by decide, ?_⟩, trivial⟩
  (refine ot_mkS (fun w1 hs => b1 w1 (hs.book h1)) (fun Ba ca => ?_); dsimp only [List.cons_append, List.nil_append]; refine ot_nil ?_; refine sla ?_)
  refine VT.mk (otx_anyV [5, 9, 10, 11] (by kernel_rfl) (by decide) ?_)
  refine ⟨⟨by kernel_rfl, by decide, ?_⟩, ⟨by kernel_rfl, by decide, ?_⟩, ⟨by kernel_rfl, by decide, ?_⟩, ⟨by kernel_rfl, by decide, ?_⟩, trivial⟩
  (refine ot_mkS (fun w1 hs => b2 w1 (hs.book h1)) (fun Bb cb => ?_); dsimp only [List.cons_append, List.nil_append]; refine ot_nil ?_; refine sla ?_)
  refine VT.mk (otx_anyV [8, 9, 10, 11] (by kernel_rfl) (by decide) ?_)
  refine ⟨⟨by kernel_rfl, by decide, ?_⟩, ⟨by kernel_rfl, by decide, ?_⟩, ⟨by kernel_rfl, by decide, ?_⟩, ⟨by kernel_rfl, by decide, ?_⟩, trivial⟩
  (refine ot_mkS (fun w1 hs => b3 w1 (hs.book h1)) (fun Bc cc => ?_); dsimp only [List.cons_append, List.nil_append]; refine ot_nil ?_; refine sla ?_)
  refine VT.mk (otx_anyV [9, 10, 11] (by kernel_rfl) (by decide) ?_)
  refine ⟨⟨by kernel_rfl, by decide, ?_⟩, ⟨by kernel_rfl, by decide, ?_⟩, ⟨by kernel_rfl, by decide, ?_⟩, trivial⟩
  (apply ot_v tk; (conv => whnf); (apply VNew.mk; intro g9 hg9; (conv => whnf)); refine sla ?_)
  refine ox2 10 11 ?_ ?_
  (apply ot_v tk; (conv => whnf); (apply VNew.mk; intro g10 hg10; (conv => whnf)); refine sla ?_)
  refine ox1 11 ?_
  (apply ot_v tk; (conv => whnf); (apply VNew.mk; intro g11 hg11; (conv => whnf)); refine sla ?_)
  rotate_left
  (apply ot_v tk; (conv => whnf); (apply VNew.mk; intro g11 hg11; (conv => whnf)); refine sla ?_)
  refine ox1 10 ?_
  (apply ot_v tk; (conv => whnf); (apply VNew.mk; intro g10 hg10; (conv => whnf)); refine sla ?_)
  rotate_left
  (apply ot_v tk; (conv => whnf); (apply VNew.mk; intro g10 hg10; (conv => whnf)); refine sla ?_)
  refine ox2 9 11 ?_ ?_
  (apply ot_v tk; (conv => whnf); (apply VNew.mk; intro g9 hg9; (conv => whnf)); refine sla ?_)
  refine ox1 11 ?_
  (apply ot_v tk; (conv => whnf); (apply VNew.mk; intro g11 hg11; (conv => whnf)); refine sla ?_)
  rotate_left
  (apply ot_v tk; (conv => whnf); (apply VNew.mk; intro g11 hg11; (conv => whnf)); refine sla ?_)
  refine ox1 9 ?_
  (apply ot_v tk; (conv => whnf); (apply VNew.mk; intro g9 hg9; (conv => whnf)); refine sla ?_)
  rotate_left
  (apply ot_v tk; (conv => whnf); (apply VNew.mk; intro g11 hg11; (conv => whnf)); refine sla ?_)
  refine ox2 9 10 ?_ ?_
  (apply ot_v tk; (conv => whnf); (apply VNew.mk; intro g9 hg9; (conv => whnf)); refine sla ?_)
  refine ox1 10 ?_
  (apply ot_v tk; (conv => whnf); (apply VNew.mk; intro g10 hg10; (conv => whnf)); refine sla ?_)
  rotate_left
  (apply ot_v tk; (conv => whnf); (apply VNew.mk; intro g10 hg10; (conv => whnf)); refine sla ?_)
  refine ox1 9 ?_
  (apply ot_v tk; (conv => whnf); (apply VNew.mk; intro g9 hg9; (conv => whnf)); refine sla ?_)
  rotate_left
  (apply ot_v tk; (conv => whnf); (apply VNew.mk; intro g9 hg9; (conv => whnf)); refine sla ?_)
  refine VT.mk (otx_anyV [8, 10, 11] (by kernel_rfl) (by decide) ?_)
  refine ⟨⟨by kernel_rfl, by decide, ?_⟩, ⟨by kernel_rfl, by decide, ?_⟩, ⟨by kernel_rfl, by decide, ?_⟩, trivial⟩
  (refine ot_mkS (fun w1 hs => b3 w1 (hs.book h1)) (fun Bc cc => ?_); dsimp only [List.cons_append, List.nil_append]; refine ot_nil ?_; refine sla ?_)
  refine ox2 10 11 ?_ ?_
  (apply ot_v tk; (conv => whnf); (apply VNew.mk; intro g10 hg10; (conv => whnf)); refine sla ?_)
  refine ox1 11 ?_
  (apply ot_v tk; (conv => whnf); (apply VNew.mk; intro g11 hg11; (conv => whnf)); refine sla ?_)
  rotate_left
  (apply ot_v tk; (conv => whnf); (apply VNew.mk; intro g11 hg11; (conv => whnf)); refine sla ?_)
  refine ox1 10 ?_
  (apply ot_v tk; (conv => whnf); (apply VNew.mk; intro g10 hg10; (conv => whnf)); refine sla ?_)
  rotate_left
  (apply ot_v tk; (conv => whnf); (apply VNew.mk; intro g10 hg10; (conv => whnf)); refine sla ?_)
  refine ox2 8 11 ?_ ?_
  (refine ot_mkS (fun w1 hs => b3 w1 (hs.book h1)) (fun Bc cc => ?_); dsimp only [List.cons_append, List.nil_append]; refine ot_nil ?_; refine sla ?_)
  refine ox1 11 ?_
  (apply ot_v tk; (conv => whnf); (apply VNew.mk; intro g11 hg11; (conv => whnf)); refine sla ?_)
  rotate_left
  (apply ot_v tk; (conv => whnf); (apply VNew.mk; intro g11 hg11; (conv => whnf)); refine sla ?_)
  refine ox1 8 ?_
  (refine ot_mkS (fun w1 hs => b3 w1 (hs.book h1)) (fun Bc cc => ?_); dsimp only [List.cons_append, List.nil_append]; refine ot_nil ?_; refine sla ?_)
  rotate_left
  (apply ot_v tk; (conv => whnf); (apply VNew.mk; intro g11 hg11; (conv => whnf)); refine sla ?_)
  refine ox2 8 10 ?_ ?_
  (refine ot_mkS (fun w1 hs => b3 w1 (hs.book h1)) (fun Bc cc => ?_); dsimp only [List.cons_append, List.nil_append]; refine ot_nil ?_; refine sla ?_)
  refine ox1 10 ?_
  (apply ot_v tk; (conv => whnf); (apply VNew.mk; intro g10 hg10; (conv => whnf)); refine sla ?_)
  rotate_left
  (apply ot_v tk; (conv => whnf); (apply VNew.mk; intro g10 hg10; (conv => whnf)); refine sla ?_)
  refine ox1 8 ?_
  (refine ot_mkS (fun w1 hs => b3 w1 (hs.book h1)) (fun Bc cc => ?_); dsimp only [List.cons_append, List.nil_append]; refine ot_nil ?_; refine sla ?_)
  rotate_left
  (apply ot_v tk; (conv => whnf); (apply VNew.mk; intro g10 hg10; (conv => whnf)); refine sla ?_)
  refine VT.mk (otx_anyV [8, 9, 11] (by kernel_rfl) (by decide) ?_)
  refine ⟨⟨by kernel_rfl, by decide, ?_⟩, ⟨by kernel_rfl, by decide, ?_⟩, ⟨by kernel_rfl, by decide, ?_⟩, trivial⟩
  (refine ot_mkS (fun w1 hs => b3 w1 (hs.book h1)) (fun Bc cc => ?_); dsimp only [List.cons_append, List.nil_append]; refine ot_nil ?_; refine sla ?_)
  refine ox2 9 11 ?_ ?_
  (apply ot_v tk; (conv => whnf); (apply VNew.mk; intro g9 hg9; (conv => whnf)); refine sla ?_)
  refine ox1 11 ?_
  (apply ot_v tk; (conv => whnf); (apply VNew.mk; intro g11 hg11; (conv => whnf)); refine sla ?_)
  rotate_left
  (apply ot_v tk; (conv => whnf); (apply VNew.mk; intro g11 hg11; (conv => whnf)); refine sla ?_)
  refine ox1 9 ?_
  (apply ot_v tk; (conv => whnf); (apply VNew.mk; intro g9 hg9; (conv => whnf)); refine sla ?_)
  rotate_left
  (apply ot_v tk; (conv => whnf); (apply VNew.mk; intro g9 hg9; (conv => whnf)); refine sla ?_)
  refine ox2 8 11 ?_ ?_
  (refine ot_mkS (fun w1 hs => b3 w1 (hs.book h1)) (fun Bc cc => ?_); dsimp only [List.cons_append, List.nil_append]; refine ot_nil ?_; refine sla ?_)
  refine ox1 11 ?_
  (apply ot_v tk; (conv => whnf); (apply VNew.mk; intro g11 hg11; (conv => whnf)); refine sla ?_)
  rotate_left
  (apply ot_v tk; (conv => whnf); (apply VNew.mk; intro g11 hg11; (conv => whnf)); refine sla ?_)
  refine ox1 8 ?_
  (refine ot_mkS (fun w1 hs => b3 w1 (hs.book h1)) (fun Bc cc => ?_); dsimp only [List.cons_append, List.nil_append]; refine ot_nil ?_; refine sla ?_)
  rotate_left
  (apply ot_v tk; (conv => whnf); (apply VNew.mk; intro g11 hg11; (conv => whnf)); refine sla ?_)
  refine ox2 8 9 ?_ ?_
  (refine ot_mkS (fun w1 hs => b3 w1 (hs.book h1)) (fun Bc cc => ?_); dsimp only [List.cons_append, List.nil_append]; refine ot_nil ?_; refine sla ?_)
  refine ox1 9 ?_
  (apply ot_v tk; (conv => whnf); (apply VNew.mk; intro g9 hg9; (conv => whnf)); refine sla ?_)
  rotate_left
  (apply ot_v tk; (conv => whnf); (apply VNew.mk; intro g9 hg9; (conv => whnf)); refine sla ?_)
  refine ox1 8 ?_
  (refine ot_mkS (fun w1 hs => b3 w1 (hs.book h1)) (fun Bc cc => ?_); dsimp only [List.cons_append, List.nil_append]; refine ot_nil ?_; refine sla ?_)
  rotate_left
  (apply ot_v tk; (conv => whnf); (apply VNew.mk; intro g11 hg11; (conv => whnf)); refine sla ?_)
  refine VT.mk (otx_anyV [8, 9, 10] (by kernel_rfl) (by decide) ?_)
  refine ⟨⟨by kernel_rfl, by decide, ?_⟩, ⟨by kernel_rfl, by decide, ?_⟩, ⟨by kernel_rfl, by decide, ?_⟩, trivial⟩
  (refine ot_mkS (fun w1 hs => b3 w1 (hs.book h1)) (fun Bc cc => ?_); dsimp only [List.cons_append, List.nil_append]; refine ot_nil ?_; refine sla ?_)
  refine ox2 9 10 ?_ ?_
  (apply ot_v tk; (conv => whnf); (apply VNew.mk; intro g9 hg9; (conv => whnf)); refine sla ?_)
  refine ox1 10 ?_
  (apply ot_v tk; (conv => whnf); (apply VNew.mk; intro g10 hg10; (conv => whnf)); refine sla ?_)
  rotate_left
  (apply ot_v tk; (conv => whnf); (apply VNew.mk; intro g10 hg10; (conv => whnf)); refine sla ?_)
  refine ox1 9 ?_
  (apply ot_v tk; (conv => whnf); (apply VNew.mk; intro g9 hg9; (conv => whnf)); refine sla ?_)
  rotate_left
  (apply ot_v tk; (conv => whnf); (apply VNew.mk; intro g9 hg9; (conv => whnf)); refine sla ?_)
  refine ox2 8 10 ?_ ?_
  (refine ot_mkS (fun w1 hs => b3 w1 (hs.book h1)) (fun Bc cc => ?_); dsimp only [List.cons_append, List.nil_append]; refine ot_nil ?_; refine sla ?_)
  refine ox1 10 ?_
  (apply ot_v tk; (conv => whnf); (apply VNew.mk; intro g10 hg10; (conv => whnf)); refine sla ?_)
  rotate_left
  (apply ot_v tk; (conv => whnf); (apply VNew.mk; intro g10 hg10; (conv => whnf)); refine sla ?_)
  refine ox1 8 ?_
  (refine ot_mkS (fun w1 hs => b3 w1 (hs.book h1)) (fun Bc cc => ?_); dsimp only [List.cons_append, List.nil_append]; refine ot_nil ?_; refine sla ?_)
  rotate_left
  (apply ot_v tk; (conv => whnf); (apply VNew.mk; intro g10 hg10; (conv => whnf)); refine sla ?_)
  refine ox2 8 9 ?_ ?_
  (refine ot_mkS (fun w1 hs => b3 w1 (hs.book h1)) (fun Bc cc => ?_); dsimp only [List.cons_append, List.nil_append]; refine ot_nil ?_; refine sla ?_)
  refine ox1 9 ?_
  (apply ot_v tk; (conv => whnf); (apply VNew.mk; intro g9 hg9; (conv => whnf)); refine sla ?_)
  rotate_left
  (apply ot_v tk; (conv => whnf); (apply VNew.mk; intro g9 hg9; (conv => whnf)); refine sla ?_)
  refine ox1 8 ?_
  (refine ot_mkS (fun w1 hs => b3 w1 (hs.book h1)) (fun Bc cc => ?_); dsimp only [List.cons_append, List.nil_append]; refine ot_nil ?_; refine sla ?_)
  rotate_left
  (apply ot_v tk; (conv => whnf); (apply VNew.mk; intro g9 hg9; (conv => whnf)); refine sla ?_)
  refine VT.mk (otx_anyV [5, 10, 11] (by kernel_rfl) (by decide) ?_)
  refine ⟨⟨by kernel_rfl, by decide, ?_⟩, ⟨by kernel_rfl, by decide, ?_⟩, ⟨by kernel_rfl, by decide, ?_⟩, trivial⟩
  (refine ot_mkS (fun w1 hs => b2 w1 (hs.book h1)) (fun Bb cb => ?_); dsimp only [List.cons_append, List.nil_append]; refine ot_nil ?_; refine sla ?_)
  refine VT.mk (otx_anyV [8, 10, 11] (by kernel_rfl) (by decide) ?_)
  refine ⟨⟨by kernel_rfl, by decide, ?_⟩, ⟨by kernel_rfl, by decide, ?_⟩, ⟨by kernel_rfl, by decide, ?_⟩, trivial⟩
  (refine ot_mkS (fun w1 hs => b3 w1 (hs.book h1)) (fun Bc cc => ?_); dsimp only [List.cons_append, List.nil_append]; refine ot_nil ?_; refine sla ?_)
  refine ox2 10 11 ?_ ?_
  (apply ot_v tk; (conv => whnf); (apply VNew.mk; intro g10 hg10; (conv => whnf)); refine sla ?_)
  refine ox1 11 ?_
  (apply ot_v tk; (conv => whnf); (apply VNew.mk; intro g11 hg11; (conv => whnf)); refine sla ?_)
  rotate_left
  (apply ot_v tk; (conv => whnf); (apply VNew.mk; intro g11 hg11; (conv => whnf)); refine sla ?_)
  refine ox1 10 ?_
  (apply ot_v tk; (conv => whnf); (apply VNew.mk; intro g10 hg10; (conv => whnf)); refine sla ?_)
  rotate_left
  (apply ot_v tk; (conv => whnf); (apply VNew.mk; intro g10 hg10; (conv => whnf)); refine sla ?_)
  refine ox2 8 11 ?_ ?_
  (refine ot_mkS (fun w1 hs => b3 w1 (hs.book h1)) (fun Bc cc => ?_); dsimp only [List.cons_append, List.nil_append]; refine ot_nil ?_; refine sla ?_)
  refine ox1 11 ?_
  (apply ot_v tk; (conv => whnf); (apply VNew.mk; intro g11 hg11; (conv => whnf)); refine sla ?_)
  rotate_left
  (apply ot_v tk; (conv => whnf); (apply VNew.mk; intro g11 hg11; (conv => whnf)); refine sla ?_)
  refine ox1 8 ?_
  (refine ot_mkS (fun w1 hs => b3 w1 (hs.book h1)) (fun Bc cc => ?_); dsimp only [List.cons_append, List.nil_append]; refine ot_nil ?_; refine sla ?_)
  rotate_left
  (apply ot_v tk; (conv => whnf); (apply VNew.mk; intro g11 hg11; (conv => whnf)); refine sla ?_)
  refine ox2 8 10 ?_ ?_
  (refine ot_mkS (fun w1 hs => b3 w1 (hs.book h1)) (fun Bc cc => ?_); dsimp only [List.cons_append, List.nil_append]; refine ot_nil ?_; refine sla ?_)
  refine ox1 10 ?_
  (apply ot_v tk; (conv => whnf); (apply VNew.mk; intro g10 hg10; (conv => whnf)); refine sla ?_)
  rotate_left
  (apply ot_v tk; (conv => whnf); (apply VNew.mk; intro g10 hg10; (conv => whnf)); refine sla ?_)
  refine ox1 8 ?_
  (refine ot_mkS (fun w1 hs => b3 w1 (hs.book h1)) (fun Bc cc => ?_); dsimp only [List.cons_append, List.nil_append]; refine ot_nil ?_; refine sla ?_)
  rotate_left
  (apply ot_v tk; (conv => whnf); (apply VNew.mk; intro g10 hg10; (conv => whnf)); refine sla ?_)
  refine ox2 5 11 ?_ ?_
  (refine ot_mkS (fun w1 hs => b2 w1 (hs.book h1)) (fun Bb cb => ?_); dsimp only [List.cons_append, List.nil_append]; refine ot_nil ?_; refine sla ?_)
  refine ox2 8 11 ?_ ?_
  (refine ot_mkS (fun w1 hs => b3 w1 (hs.book h1)) (fun Bc cc => ?_); dsimp only [List.cons_append, List.nil_append]; refine ot_nil ?_; refine sla ?_)
  refine ox1 11 ?_
  (apply ot_v tk; (conv => whnf); (apply VNew.mk; intro g11 hg11; (conv => whnf)); refine sla ?_)
  rotate_left
  (apply ot_v tk; (conv => whnf); (apply VNew.mk; intro g11 hg11; (conv => whnf)); refine sla ?_)
  refine ox1 8 ?_
  (refine ot_mkS (fun w1 hs => b3 w1 (hs.book h1)) (fun Bc cc => ?_); dsimp only [List.cons_append, List.nil_append]; refine ot_nil ?_; refine sla ?_)
  rotate_left
  (apply ot_v tk; (conv => whnf); (apply VNew.mk; intro g11 hg11; (conv => whnf)); refine sla ?_)
  refine ox1 5 ?_
  (refine ot_mkS (fun w1 hs => b2 w1 (hs.book h1)) (fun Bb cb => ?_); dsimp only [List.cons_append, List.nil_append]; refine ot_nil ?_; refine sla ?_)
  refine ox1 8 ?_
  (refine ot_mkS (fun w1 hs => b3 w1 (hs.book h1)) (fun Bc cc => ?_); dsimp only [List.cons_append, List.nil_append]; refine ot_nil ?_; refine sla ?_)
  rotate_left
  (apply ot_v tk; (conv => whnf); (apply VNew.mk; intro g11 hg11; (conv => whnf)); refine sla ?_)
  refine ox2 5 10 ?_ ?_
  (refine ot_mkS (fun w1 hs => b2 w1 (hs.book h1)) (fun Bb cb => ?_); dsimp only [List.cons_append, List.nil_append]; refine ot_nil ?_; refine sla ?_)
  refine ox2 8 10 ?_ ?_
  (refine ot_mkS (fun w1 hs => b3 w1 (hs.book h1)) (fun Bc cc => ?_); dsimp only [List.cons_append, List.nil_append]; refine ot_nil ?_; refine sla ?_)
  refine ox1 10 ?_
  (apply ot_v tk; (conv => whnf); (apply VNew.mk; intro g10 hg10; (conv => whnf)); refine sla ?_)
  rotate_left
  (apply ot_v tk; (conv => whnf); (apply VNew.mk; intro g10 hg10; (conv => whnf)); refine sla ?_)
  refine ox1 8 ?_
  (refine ot_mkS (fun w1 hs => b3 w1 (hs.book h1)) (fun Bc cc => ?_); dsimp only [List.cons_append, List.nil_append]; refine ot_nil ?_; refine sla ?_)
  rotate_left
  (apply ot_v tk; (conv => whnf); (apply VNew.mk; intro g10 hg10; (conv => whnf)); refine sla ?_)
  refine ox1 5 ?_
  (refine ot_mkS (fun w1 hs => b2 w1 (hs.book h1)) (fun Bb cb => ?_); dsimp only [List.cons_append, List.nil_append]; refine ot_nil ?_; refine sla ?_)
  refine ox1 8 ?_
  (refine ot_mkS (fun w1 hs => b3 w1 (hs.book h1)) (fun Bc cc => ?_); dsimp only [List.cons_append, List.nil_append]; refine ot_nil ?_; refine sla ?_)
  rotate_left
  (apply ot_v tk; (conv => whnf); (apply VNew.mk; intro g10 hg10; (conv => whnf)); refine sla ?_)
  refine VT.mk (otx_anyV [5, 9, 11] (by kernel_rfl) (by decide) ?_)
  refine ⟨⟨by kernel_rfl, by decide, ?_⟩, ⟨by kernel_rfl, by decide, ?_⟩, ⟨by kernel_rfl, by decide, ?_⟩, trivial⟩
  (refine ot_mkS (fun w1 hs => b2 w1 (hs.book h1)) (fun Bb cb => ?_); dsimp only [List.cons_append, List.nil_append]; refine ot_nil ?_; refine sla ?_)
  refine VT.mk (otx_anyV [8, 9, 11] (by kernel_rfl) (by decide) ?_)
  refine ⟨⟨by kernel_rfl, by decide, ?_⟩, ⟨by kernel_rfl, by decide, ?_⟩, ⟨by kernel_rfl, by decide, ?_⟩, trivial⟩
  (refine ot_mkS (fun w1 hs => b3 w1 (hs.book h1)) (fun Bc cc => ?_); dsimp only [List.cons_append, List.nil_append]; refine ot_nil ?_; refine sla ?_)
  refine ox2 9 11 ?_ ?_
  (apply ot_v tk; (conv => whnf); (apply VNew.mk; intro g9 hg9; (conv => whnf)); refine sla ?_)
  refine ox1 11 ?_
  (apply ot_v tk; (conv => whnf); (apply VNew.mk; intro g11 hg11; (conv => whnf)); refine sla ?_)
  rotate_left
  (apply ot_v tk; (conv => whnf); (apply VNew.mk; intro g11 hg11; (conv => whnf)); refine sla ?_)
  refine ox1 9 ?_
  (apply ot_v tk; (conv => whnf); (apply VNew.mk; intro g9 hg9; (conv => whnf)); refine sla ?_)
  rotate_left
  (apply ot_v tk; (conv => whnf); (apply VNew.mk; intro g9 hg9; (conv => whnf)); refine sla ?_)
  refine ox2 8 11 ?_ ?_
  (refine ot_mkS (fun w1 hs => b3 w1 (hs.book h1)) (fun Bc cc => ?_); dsimp only [List.cons_append, List.nil_append]; refine ot_nil ?_; refine sla ?_)
  refine ox1 11 ?_
  (apply ot_v tk; (conv => whnf); (apply VNew.mk; intro g11 hg11; (conv => whnf)); refine sla ?_)
  rotate_left
  (apply ot_v tk; (conv => whnf); (apply VNew.mk; intro g11 hg11; (conv => whnf)); refine sla ?_)
  refine ox1 8 ?_
  (refine ot_mkS (fun w1 hs => b3 w1 (hs.book h1)) (fun Bc cc => ?_); dsimp only [List.cons_append, List.nil_append]; refine ot_nil ?_; refine sla ?_)
  rotate_left
  (apply ot_v tk; (conv => whnf); (apply VNew.mk; intro g11 hg11; (conv => whnf)); refine sla ?_)
  refine ox2 8 9 ?_ ?_
  (refine ot_mkS (fun w1 hs => b3 w1 (hs.book h1)) (fun Bc cc => ?_); dsimp only [List.cons_append, List.nil_append]; refine ot_nil ?_; refine sla ?_)
  refine ox1 9 ?_
  (apply ot_v tk; (conv => whnf); (apply VNew.mk; intro g9 hg9; (conv => whnf)); refine sla ?_)
  rotate_left
  (apply ot_v tk; (conv => whnf); (apply VNew.mk; intro g9 hg9; (conv => whnf)); refine sla ?_)
  refine ox1 8 ?_
  (refine ot_mkS (fun w1 hs => b3 w1 (hs.book h1)) (fun Bc cc => ?_); dsimp only [List.cons_append, List.nil_append]; refine ot_nil ?_; refine sla ?_)
  rotate_left
  (apply ot_v tk; (conv => whnf); (apply VNew.mk; intro g9 hg9; (conv => whnf)); refine sla ?_)
  refine ox2 5 11 ?_ ?_
  (refine ot_mkS (fun w1 hs => b2 w1 (hs.book h1)) (fun Bb cb => ?_); dsimp only [List.cons_append, List.nil_append]; refine ot_nil ?_; refine sla ?_)
  refine ox2 8 11 ?_ ?_
  (refine ot_mkS (fun w1 hs => b3 w1 (hs.book h1)) (fun Bc cc => ?_); dsimp only [List.cons_append, List.nil_append]; refine ot_nil ?_; refine sla ?_)
  refine ox1 11 ?_
  (apply ot_v tk; (conv => whnf); (apply VNew.mk; intro g11 hg11; (conv => whnf)); refine sla ?_)
  rotate_left
  (apply ot_v tk; (conv => whnf); (apply VNew.mk; intro g11 hg11; (conv => whnf)); refine sla ?_)
  refine ox1 8 ?_
  (refine ot_mkS (fun w1 hs => b3 w1 (hs.book h1)) (fun Bc cc => ?_); dsimp only [List.cons_append, List.nil_append]; refine ot_nil ?_; refine sla ?_)
  rotate_left
  (apply ot_v tk; (conv => whnf); (apply VNew.mk; intro g11 hg11; (conv => whnf)); refine sla ?_)
  refine ox1 5 ?_
  (refine ot_mkS (fun w1 hs => b2 w1 (hs.book h1)) (fun Bb cb => ?_); dsimp only [List.cons_append, List.nil_append]; refine ot_nil ?_; refine sla ?_)
  refine ox1 8 ?_
  (refine ot_mkS (fun w1 hs => b3 w1 (hs.book h1)) (fun Bc cc => ?_); dsimp only [List.cons_append, List.nil_append]; refine ot_nil ?_; refine sla ?_)
  rotate_left
  (apply ot_v tk; (conv => whnf); (apply VNew.mk; intro g11 hg11; (conv => whnf)); refine sla ?_)
  refine ox2 5 9 ?_ ?_
  (refine ot_mkS (fun w1 hs => b2 w1 (hs.book h1)) (fun Bb cb => ?_); dsimp only [List.cons_append, List.nil_append]; refine ot_nil ?_; refine sla ?_)
  refine ox2 8 9 ?_ ?_
  (refine ot_mkS (fun w1 hs => b3 w1 (hs.book h1)) (fun Bc cc => ?_); dsimp only [List.cons_append, List.nil_append]; refine ot_nil ?_; refine sla ?_)
  refine ox1 9 ?_
  (apply ot_v tk; (conv => whnf); (apply VNew.mk; intro g9 hg9; (conv => whnf)); refine sla ?_)
  rotate_left
  (apply ot_v tk; (conv => whnf); (apply VNew.mk; intro g9 hg9; (conv => whnf)); refine sla ?_)
  refine ox1 8 ?_
  (refine ot_mkS (fun w1 hs => b3 w1 (hs.book h1)) (fun Bc cc => ?_); dsimp only [List.cons_append, List.nil_append]; refine ot_nil ?_; refine sla ?_)
  rotate_left
  (apply ot_v tk; (conv => whnf); (apply VNew.mk; intro g9 hg9; (conv => whnf)); refine sla ?_)
  refine ox1 5 ?_
  (refine ot_mkS (fun w1 hs => b2 w1 (hs.book h1)) (fun Bb cb => ?_); dsimp only [List.cons_append, List.nil_append]; refine ot_nil ?_; refine sla ?_)
  refine ox1 8 ?_
  (refine ot_mkS (fun w1 hs => b3 w1 (hs.book h1)) (fun Bc cc => ?_); dsimp only [List.cons_append, List.nil_append]; refine ot_nil ?_; refine sla ?_)
  rotate_left
  (apply ot_v tk; (conv => whnf); (apply VNew.mk; intro g11 hg11; (conv => whnf)); refine sla ?_)
  refine VT.mk (otx_anyV [5, 9, 10] (by kernel_rfl) (by decide) ?_)
  refine ⟨⟨by kernel_rfl, by decide, ?_⟩, ⟨by kernel_rfl, by decide, ?_⟩, ⟨by kernel_rfl, by decide, ?_⟩, trivial⟩
  (refine ot_mkS (fun w1 hs => b2 w1 (hs.book h1)) (fun Bb cb => ?_); dsimp only [List.cons_append, List.nil_append]; refine ot_nil ?_; refine sla ?_)
  refine VT.mk (otx_anyV [8, 9, 10] (by kernel_rfl) (by decide) ?_)
  refine ⟨⟨by kernel_rfl, by decide, ?_⟩, ⟨by kernel_rfl, by decide, ?_⟩, ⟨by kernel_rfl, by decide, ?_⟩, trivial⟩
  (refine ot_mkS (fun w1 hs => b3 w1 (hs.book h1)) (fun Bc cc => ?_); dsimp only [List.cons_append, List.nil_append]; refine ot_nil ?_; refine sla ?_)
  refine ox2 9 10 ?_ ?_
  (apply ot_v tk; (conv => whnf); (apply VNew.mk; intro g9 hg9; (conv => whnf)); refine sla ?_)
  refine ox1 10 ?_
  (apply ot_v tk; (conv => whnf); (apply VNew.mk; intro g10 hg10; (conv => whnf)); refine sla ?_)
  rotate_left
  (apply ot_v tk; (conv => whnf); (apply VNew.mk; intro g10 hg10; (conv => whnf)); refine sla ?_)
  refine ox1 9 ?_
  (apply ot_v tk; (conv => whnf); (apply VNew.mk; intro g9 hg9; (conv => whnf)); refine sla ?_)
  rotate_left
  (apply ot_v tk; (conv => whnf); (apply VNew.mk; intro g9 hg9; (conv => whnf)); refine sla ?_)
  refine ox2 8 10 ?_ ?_
  (refine ot_mkS (fun w1 hs => b3 w1 (hs.book h1)) (fun Bc cc => ?_); dsimp only [List.cons_append, List.nil_append]; refine ot_nil ?_; refine sla ?_)
  refine ox1 10 ?_
  (apply ot_v tk; (conv => whnf); (apply VNew.mk; intro g10 hg10; (conv => whnf)); refine sla ?_)
  rotate_left
  (apply ot_v tk; (conv => whnf); (apply VNew.mk; intro g10 hg10; (conv => whnf)); refine sla ?_)
  refine ox1 8 ?_
  (refine ot_mkS (fun w1 hs => b3 w1 (hs.book h1)) (fun Bc cc => ?_); dsimp only [List.cons_append, List.nil_append]; refine ot_nil ?_; refine sla ?_)
  rotate_left
  (apply ot_v tk; (conv => whnf); (apply VNew.mk; intro g10 hg10; (conv => whnf)); refine sla ?_)
  refine ox2 8 9 ?_ ?_
  (refine ot_mkS (fun w1 hs => b3 w1 (hs.book h1)) (fun Bc cc => ?_); dsimp only [List.cons_append, List.nil_append]; refine ot_nil ?_; refine sla ?_)
  refine ox1 9 ?_
  (apply ot_v tk; (conv => whnf); (apply VNew.mk; intro g9 hg9; (conv => whnf)); refine sla ?_)
  rotate_left
  (apply ot_v tk; (conv => whnf); (apply VNew.mk; intro g9 hg9; (conv => whnf)); refine sla ?_)
  refine ox1 8 ?_
  (refine ot_mkS (fun w1 hs => b3 w1 (hs.book h1)) (fun Bc cc => ?_); dsimp only [List.cons_append, List.nil_append]; refine ot_nil ?_; refine sla ?_)
  rotate_left
  (apply ot_v tk; (conv => whnf); (apply VNew.mk; intro g9 hg9; (conv => whnf)); refine sla ?_)
  refine ox2 5 10 ?_ ?_
  (refine ot_mkS (fun w1 hs => b2 w1 (hs.book h1)) (fun Bb cb => ?_); dsimp only [List.cons_append, List.nil_append]; refine ot_nil ?_; refine sla ?_)
  refine ox2 8 10 ?_ ?_
  (refine ot_mkS (fun w1 hs => b3 w1 (hs.book h1)) (fun Bc cc => ?_); dsimp only [List.cons_append, List.nil_append]; refine ot_nil ?_; refine sla ?_)
  refine ox1 10 ?_
  (apply ot_v tk; (conv => whnf); (apply VNew.mk; intro g10 hg10; (conv => whnf)); refine sla ?_)
  rotate_left
  (apply ot_v tk; (conv => whnf); (apply VNew.mk; intro g10 hg10; (conv => whnf)); refine sla ?_)
  refine ox1 8 ?_
  (refine ot_mkS (fun w1 hs => b3 w1 (hs.book h1)) (fun Bc cc => ?_); dsimp only [List.cons_append, List.nil_append]; refine ot_nil ?_; refine sla ?_)
  rotate_left
  (apply ot_v tk; (conv => whnf); (apply VNew.mk; intro g10 hg10; (conv => whnf)); refine sla ?_)
  refine ox1 5 ?_
  (refine ot_mkS (fun w1 hs => b2 w1 (hs.book h1)) (fun Bb cb => ?_); dsimp only [List.cons_append, List.nil_append]; refine ot_nil ?_; refine sla ?_)
  refine ox1 8 ?_
  (refine ot_mkS (fun w1 hs => b3 w1 (hs.book h1)) (fun Bc cc => ?_); dsimp only [List.cons_append, List.nil_append]; refine ot_nil ?_; refine sla ?_)
  rotate_left
  (apply ot_v tk; (conv => whnf); (apply VNew.mk; intro g10 hg10; (conv => whnf)); refine sla ?_)
  refine ox2 5 9 ?_ ?_
  (refine ot_mkS (fun w1 hs => b2 w1 (hs.book h1)) (fun Bb cb => ?_); dsimp only [List.cons_append, List.nil_append]; refine ot_nil ?_; refine sla ?_)
  refine ox2 8 9 ?_ ?_
  (refine ot_mkS (fun w1 hs => b3 w1 (hs.book h1)) (fun Bc cc => ?_); dsimp only [List.cons_append, List.nil_append]; refine ot_nil ?_; refine sla ?_)
  refine ox1 9 ?_
  (apply ot_v tk; (conv => whnf); (apply VNew.mk; intro g9 hg9; (conv => whnf)); refine sla ?_)
  rotate_left
  (apply ot_v tk; (conv => whnf); (apply VNew.mk; intro g9 hg9; (conv => whnf)); refine sla ?_)
  refine ox1 8 ?_
  (refine ot_mkS (fun w1 hs => b3 w1 (hs.book h1)) (fun Bc cc => ?_); dsimp only [List.cons_append, List.nil_append]; refine ot_nil ?_; refine sla ?_)
  rotate_left
  (apply ot_v tk; (conv => whnf); (apply VNew.mk; intro g9 hg9; (conv => whnf)); refine sla ?_)
  refine ox1 5 ?_
  (refine ot_mkS (fun w1 hs => b2 w1 (hs.book h1)) (fun Bb cb => ?_); dsimp only [List.cons_append, List.nil_append]; refine ot_nil ?_; refine sla ?_)
  refine ox1 8 ?_
  (refine ot_mkS (fun w1 hs => b3 w1 (hs.book h1)) (fun Bc cc => ?_); dsimp only [List.cons_append, List.nil_append]; refine ot_nil ?_; refine sla ?_)
  rotate_left
  (apply ot_v tk; (conv => whnf); (apply VNew.mk; intro g9 hg9; (conv => whnf)); refine sla ?_)
  refine VT.mk (otx_anyV [2, 10, 11] (by kernel_rfl) (by decide) ?_)
  refine ⟨⟨by kernel_rfl, by decide, ?_⟩, ⟨by kernel_rfl, by decide, ?_⟩, ⟨by kernel_rfl, by decide, ?_⟩, trivial⟩
  (refine ot_mkS (fun w1 hs => b1 w1 (hs.book h1)) (fun Ba ca => ?_); dsimp only [List.cons_append, List.nil_append]; refine ot_nil ?_; refine sla ?_)
  refine VT.mk (otx_anyV [5, 10, 11] (by kernel_rfl) (by decide) ?_)
  refine ⟨⟨by kernel_rfl, by decide, ?_⟩, ⟨by kernel_rfl, by decide, ?_⟩, ⟨by kernel_rfl, by decide, ?_⟩, trivial⟩
  (refine ot_mkS (fun w1 hs => b2 w1 (hs.book h1)) (fun Bb cb => ?_); dsimp only [List.cons_append, List.nil_append]; refine ot_nil ?_; refine sla ?_)
  refine VT.mk (otx_anyV [8, 10, 11] (by kernel_rfl) (by decide) ?_)
  refine ⟨⟨by kernel_rfl, by decide, ?_⟩, ⟨by kernel_rfl, by decide, ?_⟩, ⟨by kernel_rfl, by decide, ?_⟩, trivial⟩
  (refine ot_mkS (fun w1 hs => b3 w1 (hs.book h1)) (fun Bc cc => ?_); dsimp only [List.cons_append, List.nil_append]; refine ot_nil ?_; refine sla ?_)
  refine ox2 10 11 ?_ ?_
  (apply ot_v tk; (conv => whnf); (apply VNew.mk; intro g10 hg10; (conv => whnf)); refine sla ?_)
  refine ox1 11 ?_
  (apply ot_v tk; (conv => whnf); (apply VNew.mk; intro g11 hg11; (conv => whnf)); refine sla ?_)
  rotate_left
  (apply ot_v tk; (conv => whnf); (apply VNew.mk; intro g11 hg11; (conv => whnf)); refine sla ?_)
  refine ox1 10 ?_
  (apply ot_v tk; (conv => whnf); (apply VNew.mk; intro g10 hg10; (conv => whnf)); refine sla ?_)
  rotate_left
  (apply ot_v tk; (conv => whnf); (apply VNew.mk; intro g10 hg10; (conv => whnf)); refine sla ?_)
  refine ox2 8 11 ?_ ?_
  (refine ot_mkS (fun w1 hs => b3 w1 (hs.book h1)) (fun Bc cc => ?_); dsimp only [List.cons_append, List.nil_append]; refine ot_nil ?_; refine sla ?_)
  refine ox1 11 ?_
  (apply ot_v tk; (conv => whnf); (apply VNew.mk; intro g11 hg11; (conv => whnf)); refine sla ?_)
  rotate_left
  (apply ot_v tk; (conv => whnf); (apply VNew.mk; intro g11 hg11; (conv => whnf)); refine sla ?_)
  refine ox1 8 ?_
  (refine ot_mkS (fun w1 hs => b3 w1 (hs.book h1)) (fun Bc cc => ?_); dsimp only [List.cons_append, List.nil_append]; refine ot_nil ?_; refine sla ?_)
  rotate_left
  (apply ot_v tk; (conv => whnf); (apply VNew.mk; intro g11 hg11; (conv => whnf)); refine sla ?_)
  refine ox2 8 10 ?_ ?_
  (refine ot_mkS (fun w1 hs => b3 w1 (hs.book h1)) (fun Bc cc => ?_); dsimp only [List.cons_append, List.nil_append]; refine ot_nil ?_; refine sla ?_)
  refine ox1 10 ?_
  (apply ot_v tk; (conv => whnf); (apply VNew.mk; intro g10 hg10; (conv => whnf)); refine sla ?_)
  rotate_left
  (apply ot_v tk; (conv => whnf); (apply VNew.mk; intro g10 hg10; (conv => whnf)); refine sla ?_)
  refine ox1 8 ?_
  (refine ot_mkS (fun w1 hs => b3 w1 (hs.book h1)) (fun Bc cc => ?_); dsimp only [List.cons_append, List.nil_append]; refine ot_nil ?_; refine sla ?_)
  rotate_left
  (apply ot_v tk; (conv => whnf); (apply VNew.mk; intro g10 hg10; (conv => whnf)); refine sla ?_)
  refine ox2 5 11 ?_ ?_
  (refine ot_mkS (fun w1 hs => b2 w1 (hs.book h1)) (fun Bb cb => ?_); dsimp only [List.cons_append, List.nil_append]; refine ot_nil ?_; refine sla ?_)
  refine ox2 8 11 ?_ ?_
  (refine ot_mkS (fun w1 hs => b3 w1 (hs.book h1)) (fun Bc cc => ?_); dsimp only [List.cons_append, List.nil_append]; refine ot_nil ?_; refine sla ?_)
  refine ox1 11 ?_
  (apply ot_v tk; (conv => whnf); (apply VNew.mk; intro g11 hg11; (conv => whnf)); refine sla ?_)
  rotate_left
  (apply ot_v tk; (conv => whnf); (apply VNew.mk; intro g11 hg11; (conv => whnf)); refine sla ?_)
  refine ox1 8 ?_
  (refine ot_mkS (fun w1 hs => b3 w1 (hs.book h1)) (fun Bc cc => ?_); dsimp only [List.cons_append, List.nil_append]; refine ot_nil ?_; refine sla ?_)
  rotate_left
  (apply ot_v tk; (conv => whnf); (apply VNew.mk; intro g11 hg11; (conv => whnf)); refine sla ?_)
  refine ox1 5 ?_
  (refine ot_mkS (fun w1 hs => b2 w1 (hs.book h1)) (fun Bb cb => ?_); dsimp only [List.cons_append, List.nil_append]; refine ot_nil ?_; refine sla ?_)
  refine ox1 8 ?_
  (refine ot_mkS (fun w1 hs => b3 w1 (hs.book h1)) (fun Bc cc => ?_); dsimp only [List.cons_append, List.nil_append]; refine ot_nil ?_; refine sla ?_)
  rotate_left
  (apply ot_v tk; (conv => whnf); (apply VNew.mk; intro g11 hg11; (conv => whnf)); refine sla ?_)
  refine ox2 5 10 ?_ ?_
  (refine ot_mkS (fun w1 hs => b2 w1 (hs.book h1)) (fun Bb cb => ?_); dsimp only [List.cons_append, List.nil_append]; refine ot_nil ?_; refine sla ?_)
  refine ox2 8 10 ?_ ?_
  (refine ot_mkS (fun w1 hs => b3 w1 (hs.book h1)) (fun Bc cc => ?_); dsimp only [List.cons_append, List.nil_append]; refine ot_nil ?_; refine sla ?_)
  refine ox1 10 ?_
  (apply ot_v tk; (conv => whnf); (apply VNew.mk; intro g10 hg10; (conv => whnf)); refine sla ?_)
  rotate_left
  (apply ot_v tk; (conv => whnf); (apply VNew.mk; intro g10 hg10; (conv => whnf)); refine sla ?_)
  refine ox1 8 ?_
  (refine ot_mkS (fun w1 hs => b3 w1 (hs.book h1)) (fun Bc cc => ?_); dsimp only [List.cons_append, List.nil_append]; refine ot_nil ?_; refine sla ?_)
  rotate_left
  (apply ot_v tk; (conv => whnf); (apply VNew.mk; intro g10 hg10; (conv => whnf)); refine sla ?_)
  refine ox1 5 ?_
  (refine ot_mkS (fun w1 hs => b2 w1 (hs.book h1)) (fun Bb cb => ?_); dsimp only [List.cons_append, List.nil_append]; refine ot_nil ?_; refine sla ?_)
  refine ox1 8 ?_
  (refine ot_mkS (fun w1 hs => b3 w1 (hs.book h1)) (fun Bc cc => ?_); dsimp only [List.cons_append, List.nil_append]; refine ot_nil ?_; refine sla ?_)
  rotate_left
  (apply ot_v tk; (conv => whnf); (apply VNew.mk; intro g10 hg10; (conv => whnf)); refine sla ?_)
  refine ox2 2 11 ?_ ?_
  (refine ot_mkS (fun w1 hs => b1 w1 (hs.book h1)) (fun Ba ca => ?_); dsimp only [List.cons_append, List.nil_append]; refine ot_nil ?_; refine sla ?_)
  refine ox2 5 11 ?_ ?_
  (refine ot_mkS (fun w1 hs => b2 w1 (hs.book h1)) (fun Bb cb => ?_); dsimp only [List.cons_append, List.nil_append]; refine ot_nil ?_; refine sla ?_)
  refine ox2 8 11 ?_ ?_
  (refine ot_mkS (fun w1 hs => b3 w1 (hs.book h1)) (fun Bc cc => ?_); dsimp only [List.cons_append, List.nil_append]; refine ot_nil ?_; refine sla ?_)
  refine ox1 11 ?_
  (apply ot_v tk; (conv => whnf); (apply VNew.mk; intro g11 hg11; (conv => whnf)); refine sla ?_)
  rotate_left
  (apply ot_v tk; (conv => whnf); (apply VNew.mk; intro g11 hg11; (conv => whnf)); refine sla ?_)
  refine ox1 8 ?_
  (refine ot_mkS (fun w1 hs => b3 w1 (hs.book h1)) (fun Bc cc => ?_); dsimp only [List.cons_append, List.nil_append]; refine ot_nil ?_; refine sla ?_)
  rotate_left
  (apply ot_v tk; (conv => whnf); (apply VNew.mk; intro g11 hg11; (conv => whnf)); refine sla ?_)
  refine ox1 5 ?_
  (refine ot_mkS (fun w1 hs => b2 w1 (hs.book h1)) (fun Bb cb => ?_); dsimp only [List.cons_append, List.nil_append]; refine ot_nil ?_; refine sla ?_)
  refine ox1 8 ?_
  (refine ot_mkS (fun w1 hs => b3 w1 (hs.book h1)) (fun Bc cc => ?_); dsimp only [List.cons_append, List.nil_append]; refine ot_nil ?_; refine sla ?_)
  rotate_left
  (apply ot_v tk; (conv => whnf); (apply VNew.mk; intro g11 hg11; (conv => whnf)); refine sla ?_)
  refine ox1 2 ?_
  (refine ot_mkS (fun w1 hs => b1 w1 (hs.book h1)) (fun Ba ca => ?_); dsimp only [List.cons_append, List.nil_append]; refine ot_nil ?_; refine sla ?_)
  refine ox1 5 ?_
  (refine ot_mkS (fun w1 hs => b2 w1 (hs.book h1)) (fun Bb cb => ?_); dsimp only [List.cons_append, List.nil_append]; refine ot_nil ?_; refine sla ?_)
  refine ox1 8 ?_
  (refine ot_mkS (fun w1 hs => b3 w1 (hs.book h1)) (fun Bc cc => ?_); dsimp only [List.cons_append, List.nil_append]; refine ot_nil ?_; refine sla ?_)
  rotate_left
  (apply ot_v tk; (conv => whnf); (apply VNew.mk; intro g11 hg11; (conv => whnf)); refine sla ?_)
  refine ox2 2 10 ?_ ?_
  (refine ot_mkS (fun w1 hs => b1 w1 (hs.book h1)) (fun Ba ca => ?_); dsimp only [List.cons_append, List.nil_append]; refine ot_nil ?_; refine sla ?_)
  refine ox2 5 10 ?_ ?_
  (refine ot_mkS (fun w1 hs => b2 w1 (hs.book h1)) (fun Bb cb => ?_); dsimp only [List.cons_append, List.nil_append]; refine ot_nil ?_; refine sla ?_)
  refine ox2 8 10 ?_ ?_
  (refine ot_mkS (fun w1 hs => b3 w1 (hs.book h1)) (fun Bc cc => ?_); dsimp only [List.cons_append, List.nil_append]; refine ot_nil ?_; refine sla ?_)
  refine ox1 10 ?_
  (apply ot_v tk; (conv => whnf); (apply VNew.mk; intro g10 hg10; (conv => whnf)); refine sla ?_)
  rotate_left
  (apply ot_v tk; (conv => whnf); (apply VNew.mk; intro g10 hg10; (conv => whnf)); refine sla ?_)
  refine ox1 8 ?_
  (refine ot_mkS (fun w1 hs => b3 w1 (hs.book h1)) (fun Bc cc => ?_); dsimp only [List.cons_append, List.nil_append]; refine ot_nil ?_; refine sla ?_)
  rotate_left
  (apply ot_v tk; (conv => whnf); (apply VNew.mk; intro g10 hg10; (conv => whnf)); refine sla ?_)
  refine ox1 5 ?_
  (refine ot_mkS (fun w1 hs => b2 w1 (hs.book h1)) (fun Bb cb => ?_); dsimp only [List.cons_append, List.nil_append]; refine ot_nil ?_; refine sla ?_)
  refine ox1 8 ?_
  (refine ot_mkS (fun w1 hs => b3 w1 (hs.book h1)) (fun Bc cc => ?_); dsimp only [List.cons_append, List.nil_append]; refine ot_nil ?_; refine sla ?_)
  rotate_left
  (apply ot_v tk; (conv => whnf); (apply VNew.mk; intro g10 hg10; (conv => whnf)); refine sla ?_)
  refine ox1 2 ?_
  (refine ot_mkS (fun w1 hs => b1 w1 (hs.book h1)) (fun Ba ca => ?_); dsimp only [List.cons_append, List.nil_append]; refine ot_nil ?_; refine sla ?_)
  refine ox1 5 ?_
  (refine ot_mkS (fun w1 hs => b2 w1 (hs.book h1)) (fun Bb cb => ?_); dsimp only [List.cons_append, List.nil_append]; refine ot_nil ?_; refine sla ?_)
  refine ox1 8 ?_
  (refine ot_mkS (fun w1 hs => b3 w1 (hs.book h1)) (fun Bc cc => ?_); dsimp only [List.cons_append, List.nil_append]; refine ot_nil ?_; refine sla ?_)
  rotate_left
  (apply ot_v tk; (conv => whnf); (apply VNew.mk; intro g10 hg10; (conv => whnf)); refine sla ?_)
  refine VT.mk (otx_anyV [2, 9, 11] (by kernel_rfl) (by decide) ?_)
  refine ⟨⟨by kernel_rfl, by decide, ?_⟩, ⟨by kernel_rfl, by decide, ?_⟩, ⟨by kernel_rfl, by decide, ?_⟩, trivial⟩
  (refine ot_mkS (fun w1 hs => b1 w1 (hs.book h1)) (fun Ba ca => ?_); dsimp only [List.cons_append, List.nil_append]; refine ot_nil ?_; refine sla ?_)
  refine VT.mk (otx_anyV [5, 9, 11] (by kernel_rfl) (by decide) ?_)
  refine ⟨⟨by kernel_rfl, by decide, ?_⟩, ⟨by kernel_rfl, by decide, ?_⟩, ⟨by kernel_rfl, by decide, ?_⟩, trivial⟩
  (refine ot_mkS (fun w1 hs => b2 w1 (hs.book h1)) (fun Bb cb => ?_); dsimp only [List.cons_append, List.nil_append]; refine ot_nil ?_; refine sla ?_)
  refine VT.mk (otx_anyV [8, 9, 11] (by kernel_rfl) (by decide) ?_)
  refine ⟨⟨by kernel_rfl, by decide, ?_⟩, ⟨by kernel_rfl, by decide, ?_⟩, ⟨by kernel_rfl, by decide, ?_⟩, trivial⟩
  (refine ot_mkS (fun w1 hs => b3 w1 (hs.book h1)) (fun Bc cc => ?_); dsimp only [List.cons_append, List.nil_append]; refine ot_nil ?_; refine sla ?_)
  refine ox2 9 11 ?_ ?_
  (apply ot_v tk; (conv => whnf); (apply VNew.mk; intro g9 hg9; (conv => whnf)); refine sla ?_)
  refine ox1 11 ?_
  (apply ot_v tk; (conv => whnf); (apply VNew.mk; intro g11 hg11; (conv => whnf)); refine sla ?_)
  rotate_left
  (apply ot_v tk; (conv => whnf); (apply VNew.mk; intro g11 hg11; (conv => whnf)); refine sla ?_)
  refine ox1 9 ?_
  (apply ot_v tk; (conv => whnf); (apply VNew.mk; intro g9 hg9; (conv => whnf)); refine sla ?_)
  rotate_left
  (apply ot_v tk; (conv => whnf); (apply VNew.mk; intro g9 hg9; (conv => whnf)); refine sla ?_)
  refine ox2 8 11 ?_ ?_
  (refine ot_mkS (fun w1 hs => b3 w1 (hs.book h1)) (fun Bc cc => ?_); dsimp only [List.cons_append, List.nil_append]; refine ot_nil ?_; refine sla ?_)
  refine ox1 11 ?_
  (apply ot_v tk; (conv => whnf); (apply VNew.mk; intro g11 hg11; (conv => whnf)); refine sla ?_)
  rotate_left
  (apply ot_v tk; (conv => whnf); (apply VNew.mk; intro g11 hg11; (conv => whnf)); refine sla ?_)
  refine ox1 8 ?_
  (refine ot_mkS (fun w1 hs => b3 w1 (hs.book h1)) (fun Bc cc => ?_); dsimp only [List.cons_append, List.nil_append]; refine ot_nil ?_; refine sla ?_)
  rotate_left
  (apply ot_v tk; (conv => whnf); (apply VNew.mk; intro g11 hg11; (conv => whnf)); refine sla ?_)
  refine ox2 8 9 ?_ ?_
  (refine ot_mkS (fun w1 hs => b3 w1 (hs.book h1)) (fun Bc cc => ?_); dsimp only [List.cons_append, List.nil_append]; refine ot_nil ?_; refine sla ?_)
  refine ox1 9 ?_
  (apply ot_v tk; (conv => whnf); (apply VNew.mk; intro g9 hg9; (conv => whnf)); refine sla ?_)
  rotate_left
  (apply ot_v tk; (conv => whnf); (apply VNew.mk; intro g9 hg9; (conv => whnf)); refine sla ?_)
  refine ox1 8 ?_
  (refine ot_mkS (fun w1 hs => b3 w1 (hs.book h1)) (fun Bc cc => ?_); dsimp only [List.cons_append, List.nil_append]; refine ot_nil ?_; refine sla ?_)
  rotate_left
  (apply ot_v tk; (conv => whnf); (apply VNew.mk; intro g9 hg9; (conv => whnf)); refine sla ?_)
  refine ox2 5 11 ?_ ?_
  (refine ot_mkS (fun w1 hs => b2 w1 (hs.book h1)) (fun Bb cb => ?_); dsimp only [List.cons_append, List.nil_append]; refine ot_nil ?_; refine sla ?_)
  refine ox2 8 11 ?_ ?_
  (refine ot_mkS (fun w1 hs => b3 w1 (hs.book h1)) (fun Bc cc => ?_); dsimp only [List.cons_append, List.nil_append]; refine ot_nil ?_; refine sla ?_)
  refine ox1 11 ?_
  (apply ot_v tk; (conv => whnf); (apply VNew.mk; intro g11 hg11; (conv => whnf)); refine sla ?_)
  rotate_left
  (apply ot_v tk; (conv => whnf); (apply VNew.mk; intro g11 hg11; (conv => whnf)); refine sla ?_)
  refine ox1 8 ?_
  (refine ot_mkS (fun w1 hs => b3 w1 (hs.book h1)) (fun Bc cc => ?_); dsimp only [List.cons_append, List.nil_append]; refine ot_nil ?_; refine sla ?_)
  rotate_left
  (apply ot_v tk; (conv => whnf); (apply VNew.mk; intro g11 hg11; (conv => whnf)); refine sla ?_)
  refine ox1 5 ?_
  (refine ot_mkS (fun w1 hs => b2 w1 (hs.book h1)) (fun Bb cb => ?_); dsimp only [List.cons_append, List.nil_append]; refine ot_nil ?_; refine sla ?_)
  refine ox1 8 ?_
  (refine ot_mkS (fun w1 hs => b3 w1 (hs.book h1)) (fun Bc cc => ?_); dsimp only [List.cons_append, List.nil_append]; refine ot_nil ?_; refine sla ?_)
  rotate_left
  (apply ot_v tk; (conv => whnf); (apply VNew.mk; intro g11 hg11; (conv => whnf)); refine sla ?_)
  refine ox2 5 9 ?_ ?_
  (refine ot_mkS (fun w1 hs => b2 w1 (hs.book h1)) (fun Bb cb => ?_); dsimp only [List.cons_append, List.nil_append]; refine ot_nil ?_; refine sla ?_)
  refine ox2 8 9 ?_ ?_
  (refine ot_mkS (fun w1 hs => b3 w1 (hs.book h1)) (fun Bc cc => ?_); dsimp only [List.cons_append, List.nil_append]; refine ot_nil ?_; refine sla ?_)
  refine ox1 9 ?_
  (apply ot_v tk; (conv => whnf); (apply VNew.mk; intro g9 hg9; (conv => whnf)); refine sla ?_)
  rotate_left
  (apply ot_v tk; (conv => whnf); (apply VNew.mk; intro g9 hg9; (conv => whnf)); refine sla ?_)
  refine ox1 8 ?_
  (refine ot_mkS (fun w1 hs => b3 w1 (hs.book h1)) (fun Bc cc => ?_); dsimp only [List.cons_append, List.nil_append]; refine ot_nil ?_; refine sla ?_)
  rotate_left
  (apply ot_v tk; (conv => whnf); (apply VNew.mk; intro g9 hg9; (conv => whnf)); refine sla ?_)
  refine ox1 5 ?_
  (refine ot_mkS (fun w1 hs => b2 w1 (hs.book h1)) (fun Bb cb => ?_); dsimp only [List.cons_append, List.nil_append]; refine ot_nil ?_; refine sla ?_)
  refine ox1 8 ?_
  (refine ot_mkS (fun w1 hs => b3 w1 (hs.book h1)) (fun Bc cc => ?_); dsimp only [List.cons_append, List.nil_append]; refine ot_nil ?_; refine sla ?_)
  rotate_left
  (apply ot_v tk; (conv => whnf); (apply VNew.mk; intro g9 hg9; (conv => whnf)); refine sla ?_)
  refine ox2 2 11 ?_ ?_
  (refine ot_mkS (fun w1 hs => b1 w1 (hs.book h1)) (fun Ba ca => ?_); dsimp only [List.cons_append, List.nil_append]; refine ot_nil ?_; refine sla ?_)
  refine ox2 5 11 ?_ ?_
  (refine ot_mkS (fun w1 hs => b2 w1 (hs.book h1)) (fun Bb cb => ?_); dsimp only [List.cons_append, List.nil_append]; refine ot_nil ?_; refine sla ?_)
  refine ox2 8 11 ?_ ?_
  (refine ot_mkS (fun w1 hs => b3 w1 (hs.book h1)) (fun Bc cc => ?_); dsimp only [List.cons_append, List.nil_append]; refine ot_nil ?_; refine sla ?_)
  refine ox1 11 ?_
  (apply ot_v tk; (conv => whnf); (apply VNew.mk; intro g11 hg11; (conv => whnf)); refine sla ?_)
  rotate_left
  (apply ot_v tk; (conv => whnf); (apply VNew.mk; intro g11 hg11; (conv => whnf)); refine sla ?_)
  refine ox1 8 ?_
  (refine ot_mkS (fun w1 hs => b3 w1 (hs.book h1)) (fun Bc cc => ?_); dsimp only [List.cons_append, List.nil_append]; refine ot_nil ?_; refine sla ?_)
  rotate_left
  (apply ot_v tk; (conv => whnf); (apply VNew.mk; intro g11 hg11; (conv => whnf)); refine sla ?_)
  refine ox1 5 ?_
  (refine ot_mkS (fun w1 hs => b2 w1 (hs.book h1)) (fun Bb cb => ?_); dsimp only [List.cons_append, List.nil_append]; refine ot_nil ?_; refine sla ?_)
  refine ox1 8 ?_
  (refine ot_mkS (fun w1 hs => b3 w1 (hs.book h1)) (fun Bc cc => ?_); dsimp only [List.cons_append, List.nil_append]; refine ot_nil ?_; refine sla ?_)
  rotate_left
  (apply ot_v tk; (conv => whnf); (apply VNew.mk; intro g11 hg11; (conv => whnf)); refine sla ?_)
  refine ox1 2 ?_
  (refine ot_mkS (fun w1 hs => b1 w1 (hs.book h1)) (fun Ba ca => ?_); dsimp only [List.cons_append, List.nil_append]; refine ot_nil ?_; refine sla ?_)
  refine ox1 5 ?_
  (refine ot_mkS (fun w1 hs => b2 w1 (hs.book h1)) (fun Bb cb => ?_); dsimp only [List.cons_append, List.nil_append]; refine ot_nil ?_; refine sla ?_)
  refine ox1 8 ?_
  (refine ot_mkS (fun w1 hs => b3 w1 (hs.book h1)) (fun Bc cc => ?_); dsimp only [List.cons_append, List.nil_append]; refine ot_nil ?_; refine sla ?_)
  rotate_left
  (apply ot_v tk; (conv => whnf); (apply VNew.mk; intro g11 hg11; (conv => whnf)); refine sla ?_)
  refine ox2 2 9 ?_ ?_
  (refine ot_mkS (fun w1 hs => b1 w1 (hs.book h1)) (fun Ba ca => ?_); dsimp only [List.cons_append, List.nil_append]; refine ot_nil ?_; refine sla ?_)
  refine ox2 5 9 ?_ ?_
  (refine ot_mkS (fun w1 hs => b2 w1 (hs.book h1)) (fun Bb cb => ?_); dsimp only [List.cons_append, List.nil_append]; refine ot_nil ?_; refine sla ?_)
  refine ox2 8 9 ?_ ?_
  (refine ot_mkS (fun w1 hs => b3 w1 (hs.book h1)) (fun Bc cc => ?_); dsimp only [List.cons_append, List.nil_append]; refine ot_nil ?_; refine sla ?_)
  refine ox1 9 ?_
  (apply ot_v tk; (conv => whnf); (apply VNew.mk; intro g9 hg9; (conv => whnf)); refine sla ?_)
  rotate_left
  (apply ot_v tk; (conv => whnf); (apply VNew.mk; intro g9 hg9; (conv => whnf)); refine sla ?_)
  refine ox1 8 ?_
  (refine ot_mkS (fun w1 hs => b3 w1 (hs.book h1)) (fun Bc cc => ?_); dsimp only [List.cons_append, List.nil_append]; refine ot_nil ?_; refine sla ?_)
  rotate_left
  (apply ot_v tk; (conv => whnf); (apply VNew.mk; intro g9 hg9; (conv => whnf)); refine sla ?_)
  refine ox1 5 ?_
  (refine ot_mkS (fun w1 hs => b2 w1 (hs.book h1)) (fun Bb cb => ?_); dsimp only [List.cons_append, List.nil_append]; refine ot_nil ?_; refine sla ?_)
  refine ox1 8 ?_
  (refine ot_mkS (fun w1 hs => b3 w1 (hs.book h1)) (fun Bc cc => ?_); dsimp only [List.cons_append, List.nil_append]; refine ot_nil ?_; refine sla ?_)
  rotate_left
  (apply ot_v tk; (conv => whnf); (apply VNew.mk; intro g9 hg9; (conv => whnf)); refine sla ?_)
  refine ox1 2 ?_
  (refine ot_mkS (fun w1 hs => b1 w1 (hs.book h1)) (fun Ba ca => ?_); dsimp only [List.cons_append, List.nil_append]; refine ot_nil ?_; refine sla ?_)
  refine ox1 5 ?_
  (refine ot_mkS (fun w1 hs => b2 w1 (hs.book h1)) (fun Bb cb => ?_); dsimp only [List.cons_append, List.nil_append]; refine ot_nil ?_; refine sla ?_)
  refine ox1 8 ?_
  (refine ot_mkS (fun w1 hs => b3 w1 (hs.book h1)) (fun Bc cc => ?_); dsimp only [List.cons_append, List.nil_append]; refine ot_nil ?_; refine sla ?_)
  rotate_left
  (apply ot_v tk; (conv => whnf); (apply VNew.mk; intro g11 hg11; (conv => whnf)); refine sla ?_)
  refine VT.mk (otx_anyV [2, 9, 10] (by kernel_rfl) (by decide) ?_)
  refine ⟨⟨by kernel_rfl, by decide, ?_⟩, ⟨by kernel_rfl, by decide, ?_⟩, ⟨by kernel_rfl, by decide, ?_⟩, trivial⟩
  (refine ot_mkS (fun w1 hs => b1 w1 (hs.book h1)) (fun Ba ca => ?_); dsimp only [List.cons_append, List.nil_append]; refine ot_nil ?_; refine sla ?_)
  refine VT.mk (otx_anyV [5, 9, 10] (by kernel_rfl) (by decide) ?_)
  refine ⟨⟨by kernel_rfl, by decide, ?_⟩, ⟨by kernel_rfl, by decide, ?_⟩, ⟨by kernel_rfl, by decide, ?_⟩, trivial⟩
  (refine ot_mkS (fun w1 hs => b2 w1 (hs.book h1)) (fun Bb cb => ?_); dsimp only [List.cons_append, List.nil_append]; refine ot_nil ?_; refine sla ?_)
  refine VT.mk (otx_anyV [8, 9, 10] (by kernel_rfl) (by decide) ?_)
  refine ⟨⟨by kernel_rfl, by decide, ?_⟩, ⟨by kernel_rfl, by decide, ?_⟩, ⟨by kernel_rfl, by decide, ?_⟩, trivial⟩
  (refine ot_mkS (fun w1 hs => b3 w1 (hs.book h1)) (fun Bc cc => ?_); dsimp only [List.cons_append, List.nil_append]; refine ot_nil ?_; refine sla ?_)
  refine ox2 9 10 ?_ ?_
  (apply ot_v tk; (conv => whnf); (apply VNew.mk; intro g9 hg9; (conv => whnf)); refine sla ?_)
  refine ox1 10 ?_
  (apply ot_v tk; (conv => whnf); (apply VNew.mk; intro g10 hg10; (conv => whnf)); refine sla ?_)
  rotate_left
  (apply ot_v tk; (conv => whnf); (apply VNew.mk; intro g10 hg10; (conv => whnf)); refine sla ?_)
  refine ox1 9 ?_
  (apply ot_v tk; (conv => whnf); (apply VNew.mk; intro g9 hg9; (conv => whnf)); refine sla ?_)
  rotate_left
  (apply ot_v tk; (conv => whnf); (apply VNew.mk; intro g9 hg9; (conv => whnf)); refine sla ?_)
  refine ox2 8 10 ?_ ?_
  (refine ot_mkS (fun w1 hs => b3 w1 (hs.book h1)) (fun Bc cc => ?_); dsimp only [List.cons_append, List.nil_append]; refine ot_nil ?_; refine sla ?_)
  refine ox1 10 ?_
  (apply ot_v tk; (conv => whnf); (apply VNew.mk; intro g10 hg10; (conv => whnf)); refine sla ?_)
  rotate_left
  (apply ot_v tk; (conv => whnf); (apply VNew.mk; intro g10 hg10; (conv => whnf)); refine sla ?_)
  refine ox1 8 ?_
  (refine ot_mkS (fun w1 hs => b3 w1 (hs.book h1)) (fun Bc cc => ?_); dsimp only [List.cons_append, List.nil_append]; refine ot_nil ?_; refine sla ?_)
  rotate_left
  (apply ot_v tk; (conv => whnf); (apply VNew.mk; intro g10 hg10; (conv => whnf)); refine sla ?_)
  refine ox2 8 9 ?_ ?_
  (refine ot_mkS (fun w1 hs => b3 w1 (hs.book h1)) (fun Bc cc => ?_); dsimp only [List.cons_append, List.nil_append]; refine ot_nil ?_; refine sla ?_)
  refine ox1 9 ?_
  (apply ot_v tk; (conv => whnf); (apply VNew.mk; intro g9 hg9; (conv => whnf)); refine sla ?_)
  rotate_left
  (apply ot_v tk; (conv => whnf); (apply VNew.mk; intro g9 hg9; (conv => whnf)); refine sla ?_)
  refine ox1 8 ?_
  (refine ot_mkS (fun w1 hs => b3 w1 (hs.book h1)) (fun Bc cc => ?_); dsimp only [List.cons_append, List.nil_append]; refine ot_nil ?_; refine sla ?_)
  rotate_left
  (apply ot_v tk; (conv => whnf); (apply VNew.mk; intro g9 hg9; (conv => whnf)); refine sla ?_)
  refine ox2 5 10 ?_ ?_
  (refine ot_mkS (fun w1 hs => b2 w1 (hs.book h1)) (fun Bb cb => ?_); dsimp only [List.cons_append, List.nil_append]; refine ot_nil ?_; refine sla ?_)
  refine ox2 8 10 ?_ ?_
  (refine ot_mkS (fun w1 hs => b3 w1 (hs.book h1)) (fun Bc cc => ?_); dsimp only [List.cons_append, List.nil_append]; refine ot_nil ?_; refine sla ?_)
  refine ox1 10 ?_
  (apply ot_v tk; (conv => whnf); (apply VNew.mk; intro g10 hg10; (conv => whnf)); refine sla ?_)
  rotate_left
  (apply ot_v tk; (conv => whnf); (apply VNew.mk; intro g10 hg10; (conv => whnf)); refine sla ?_)
  refine ox1 8 ?_
  (refine ot_mkS (fun w1 hs => b3 w1 (hs.book h1)) (fun Bc cc => ?_); dsimp only [List.cons_append, List.nil_append]; refine ot_nil ?_; refine sla ?_)
  rotate_left
  (apply ot_v tk; (conv => whnf); (apply VNew.mk; intro g10 hg10; (conv => whnf)); refine sla ?_)
  refine ox1 5 ?_
  (refine ot_mkS (fun w1 hs => b2 w1 (hs.book h1)) (fun Bb cb => ?_); dsimp only [List.cons_append, List.nil_append]; refine ot_nil ?_; refine sla ?_)
  refine ox1 8 ?_
  (refine ot_mkS (fun w1 hs => b3 w1 (hs.book h1)) (fun Bc cc => ?_); dsimp only [List.cons_append, List.nil_append]; refine ot_nil ?_; refine sla ?_)
  rotate_left
  (apply ot_v tk; (conv => whnf); (apply VNew.mk; intro g10 hg10; (conv => whnf)); refine sla ?_)
  refine ox2 5 9 ?_ ?_
  (refine ot_mkS (fun w1 hs => b2 w1 (hs.book h1)) (fun Bb cb => ?_); dsimp only [List.cons_append, List.nil_append]; refine ot_nil ?_; refine sla ?_)
  refine ox2 8 9 ?_ ?_
  (refine ot_mkS (fun w1 hs => b3 w1 (hs.book h1)) (fun Bc cc => ?_); dsimp only [List.cons_append, List.nil_append]; refine ot_nil ?_; refine sla ?_)
  refine ox1 9 ?_
  (apply ot_v tk; (conv => whnf); (apply VNew.mk; intro g9 hg9; (conv => whnf)); refine sla ?_)
  rotate_left
  (apply ot_v tk; (conv => whnf); (apply VNew.mk; intro g9 hg9; (conv => whnf)); refine sla ?_)
  refine ox1 8 ?_
  (refine ot_mkS (fun w1 hs => b3 w1 (hs.book h1)) (fun Bc cc => ?_); dsimp only [List.cons_append, List.nil_append]; refine ot_nil ?_; refine sla ?_)
  rotate_left
  (apply ot_v tk; (conv => whnf); (apply VNew.mk; intro g9 hg9; (conv => whnf)); refine sla ?_)
  refine ox1 5 ?_
  (refine ot_mkS (fun w1 hs => b2 w1 (hs.book h1)) (fun Bb cb => ?_); dsimp only [List.cons_append, List.nil_append]; refine ot_nil ?_; refine sla ?_)
  refine ox1 8 ?_
  (refine ot_mkS (fun w1 hs => b3 w1 (hs.book h1)) (fun Bc cc => ?_); dsimp only [List.cons_append, List.nil_append]; refine ot_nil ?_; refine sla ?_)
  rotate_left
  (apply ot_v tk; (conv => whnf); (apply VNew.mk; intro g9 hg9; (conv => whnf)); refine sla ?_)
  refine ox2 2 10 ?_ ?_
  (refine ot_mkS (fun w1 hs => b1 w1 (hs.book h1)) (fun Ba ca => ?_); dsimp only [List.cons_append, List.nil_append]; refine ot_nil ?_; refine sla ?_)
  refine ox2 5 10 ?_ ?_
  (refine ot_mkS (fun w1 hs => b2 w1 (hs.book h1)) (fun Bb cb => ?_); dsimp only [List.cons_append, List.nil_append]; refine ot_nil ?_; refine sla ?_)
  refine ox2 8 10 ?_ ?_
  (refine ot_mkS (fun w1 hs => b3 w1 (hs.book h1)) (fun Bc cc => ?_); dsimp only [List.cons_append, List.nil_append]; refine ot_nil ?_; refine sla ?_)
  refine ox1 10 ?_
  (apply ot_v tk; (conv => whnf); (apply VNew.mk; intro g10 hg10; (conv => whnf)); refine sla ?_)
  rotate_left
  (apply ot_v tk; (conv => whnf); (apply VNew.mk; intro g10 hg10; (conv => whnf)); refine sla ?_)
  refine ox1 8 ?_
  (refine ot_mkS (fun w1 hs => b3 w1 (hs.book h1)) (fun Bc cc => ?_); dsimp only [List.cons_append, List.nil_append]; refine ot_nil ?_; refine sla ?_)
  rotate_left
  (apply ot_v tk; (conv => whnf); (apply VNew.mk; intro g10 hg10; (conv => whnf)); refine sla ?_)
  refine ox1 5 ?_
  (refine ot_mkS (fun w1 hs => b2 w1 (hs.book h1)) (fun Bb cb => ?_); dsimp only [List.cons_append, List.nil_append]; refine ot_nil ?_; refine sla ?_)
  refine ox1 8 ?_
  (refine ot_mkS (fun w1 hs => b3 w1 (hs.book h1)) (fun Bc cc => ?_); dsimp only [List.cons_append, List.nil_append]; refine ot_nil ?_; refine sla ?_)
  rotate_left
  (apply ot_v tk; (conv => whnf); (apply VNew.mk; intro g10 hg10; (conv => whnf)); refine sla ?_)
  refine ox1 2 ?_
  (refine ot_mkS (fun w1 hs => b1 w1 (hs.book h1)) (fun Ba ca => ?_); dsimp only [List.cons_append, List.nil_append]; refine ot_nil ?_; refine sla ?_)
  refine ox1 5 ?_
  (refine ot_mkS (fun w1 hs => b2 w1 (hs.book h1)) (fun Bb cb => ?_); dsimp only [List.cons_append, List.nil_append]; refine ot_nil ?_; refine sla ?_)
  refine ox1 8 ?_
  (refine ot_mkS (fun w1 hs => b3 w1 (hs.book h1)) (fun Bc cc => ?_); dsimp only [List.cons_append, List.nil_append]; refine ot_nil ?_; refine sla ?_)
  rotate_left
  (apply ot_v tk; (conv => whnf); (apply VNew.mk; intro g10 hg10; (conv => whnf)); refine sla ?_)
  refine ox2 2 9 ?_ ?_
  (refine ot_mkS (fun w1 hs => b1 w1 (hs.book h1)) (fun Ba ca => ?_); dsimp only [List.cons_append, List.nil_append]; refine ot_nil ?_; refine sla ?_)
  refine ox2 5 9 ?_ ?_
  (refine ot_mkS (fun w1 hs => b2 w1 (hs.book h1)) (fun Bb cb => ?_); dsimp only [List.cons_append, List.nil_append]; refine ot_nil ?_; refine sla ?_)
  refine ox2 8 9 ?_ ?_
  (refine ot_mkS (fun w1 hs => b3 w1 (hs.book h1)) (fun Bc cc => ?_); dsimp only [List.cons_append, List.nil_append]; refine ot_nil ?_; refine sla ?_)
  refine ox1 9 ?_
  (apply ot_v tk; (conv => whnf); (apply VNew.mk; intro g9 hg9; (conv => whnf)); refine sla ?_)
  rotate_left
  (apply ot_v tk; (conv => whnf); (apply VNew.mk; intro g9 hg9; (conv => whnf)); refine sla ?_)
  refine ox1 8 ?_
  (refine ot_mkS (fun w1 hs => b3 w1 (hs.book h1)) (fun Bc cc => ?_); dsimp only [List.cons_append, List.nil_append]; refine ot_nil ?_; refine sla ?_)
  rotate_left
  (apply ot_v tk; (conv => whnf); (apply VNew.mk; intro g9 hg9; (conv => whnf)); refine sla ?_)
  refine ox1 5 ?_
  (refine ot_mkS (fun w1 hs => b2 w1 (hs.book h1)) (fun Bb cb => ?_); dsimp only [List.cons_append, List.nil_append]; refine ot_nil ?_; refine sla ?_)
  refine ox1 8 ?_
  (refine ot_mkS (fun w1 hs => b3 w1 (hs.book h1)) (fun Bc cc => ?_); dsimp only [List.cons_append, List.nil_append]; refine ot_nil ?_; refine sla ?_)
  rotate_left
  (apply ot_v tk; (conv => whnf); (apply VNew.mk; intro g9 hg9; (conv => whnf)); refine sla ?_)
  refine ox1 2 ?_
  (refine ot_mkS (fun w1 hs => b1 w1 (hs.book h1)) (fun Ba ca => ?_); dsimp only [List.cons_append, List.nil_append]; refine ot_nil ?_; refine sla ?_)
  refine ox1 5 ?_
  (refine ot_mkS (fun w1 hs => b2 w1 (hs.book h1)) (fun Bb cb => ?_); dsimp only [List.cons_append, List.nil_append]; refine ot_nil ?_; refine sla ?_)
  refine ox1 8 ?_
  (refine ot_mkS (fun w1 hs => b3 w1 (hs.book h1)) (fun Bc cc => ?_); dsimp only [List.cons_append, List.nil_append]; refine ot_nil ?_; refine sla ?_)
  rotate_left
  all_goals
   refine ox1 12 ?_
   (apply ot_v tk; (conv => whnf); (apply VSt.mk; (focus (repeat (first | exact At.here | apply At.there)); done); exact rfl; (conv => whnf)); refine sla ?_)
   refine ox1 13 ?_
   (apply ot_v tk; (conv => whnf); (apply VSt.mk; (focus (repeat (first | exact At.here | apply At.there)); done); exact rfl; (conv => whnf)); refine sla ?_)
   refine ox1 14 ?_
   (apply ot_v tk; (conv => whnf); (apply VSt.mk; (focus (repeat (first | exact At.here | apply At.there)); done); exact rfl; (conv => whnf)); refine sla ?_)
   refine VT.mk (otx_end ?_)
   exact VJ.mk (((Ba, ca), (Bb, cb), (Bc, cc)), g9, g10, g11) rfl ⟨rfl, rfl, rfl, rfl, rfl, rfl, rfl, rfl, trivial⟩ (by ((try dsimp only); repeat (first | exact Pick.nil | ((apply Pick.cons); (focus (repeat (first | exact Rem.here | apply Rem.there)); done)))))
 rintro ⟨⟨⟨Ba, ca⟩, ⟨Bb, cb⟩, ⟨Bc, cc⟩⟩, g9, g10, g11⟩
 dsimp only
 (apply tr_v tk; (conv => whnf); (repeat ((apply VLdN.mk; (focus ((repeat (first | (with_reducible apply ldn_blk) | (with_reducible apply ldn_skip))); done)); exact rfl); (conv => whnf))); apply VCall.stop)
 refine ot_callT (X := SlX) (us := []) (vs := []) (fun x => .tuple #[.agg #[.slice x.1 X.length x.2], .bool true]) (fun x => []) (fun x => [.own (.slice x.1 X.length x.2) 61 5 X.length (lnC X)]) _ (fun x c hc => one_mut hc) (by decide) rfl rfl rfl rfl (by kernel_rfl) (evl_of rfl) rfl (fun w1 hs => merged_j jx Ba ca Bb cb w1 (hs.own_rd (by (repeat (first | exact List.Mem.head _ | assumption | refine List.Mem.tail _ ?_)))) (hs.own_rd (by (repeat (first | exact List.Mem.head _ | assumption | refine List.Mem.tail _ ?_))))) ?_
 rintro ⟨Bx, cx⟩ _
 (dsimp only [List.cons_append, List.nil_append]; apply ot_v tk)
 ((conv => whnf); (repeat ((first | (apply VLdN.mk; (focus ((repeat (first | (with_reducible apply ldn_blk) | (with_reducible apply ldn_skip))); done)); exact rfl) | (apply VNew.mk; intro g hg) | (apply VSt.mk; (focus ((repeat (first | (with_reducible exact At.here) | (with_reducible apply At.there))); done)); exact rfl)); (conv => whnf))); apply VCall.stop)
 refine ot_callT (X := SlX) (us := []) (vs := []) (fun x => .tuple #[.agg #[.slice x.1 X.length x.2], .bool true]) (fun x => []) (fun x => [.own (.slice x.1 X.length x.2) 61 5 X.length (lnC X)]) _ (fun x c hc => one_mut hc) (by decide) rfl rfl rfl rfl (by kernel_rfl) (evl_of rfl) rfl (fun w1 hs => merged_j jx.swap Bb cb Ba ca w1 (hs.own_rd (by (repeat (first | exact List.Mem.head _ | assumption | refine List.Mem.tail _ ?_)))) (hs.own_rd (by (repeat (first | exact List.Mem.head _ | assumption | refine List.Mem.tail _ ?_))))) ?_
 rintro ⟨By, cy⟩ _
 (dsimp only [List.cons_append, List.nil_append]; apply ot_v tk)
 have q1 := fun {A : List Chunk} {w1 : World} (hs : St w A w1) (hq1 : Chunk.own (.slice Bx X.length cx) 61 5 X.length (lnC X) ∈ A) (hq2 : Chunk.own (.slice By X.length cy) 61 5 X.length (lnC X) ∈ A) => sameN hs hq1 hq2 rfl (by omega)
 ((conv => whnf); (repeat ((first | ((first | apply VStop.mk | apply VCall.stop); (first | refine tr_region_lex (id := 6) (by kernel_rfl) [.rd, .rd, .rd, .rd, .rd, .rd, .rd, .rd, .rd, .cr, .rd, .rd, .rd, .rd, .rd, .rd, .rd, .rd, .cr, .cr, .rd, .rd] rfl (by kernel_rfl) ?_ | (refine ot_or32 rfl rfl rfl rfl rfl ho hp ?_)); apply ot_v tk) | (apply VCall.q; kernel_rfl; (focus (intro w1 hs; first | ((with_reducible apply q1 hs); (repeat (first | exact List.Mem.head _ | assumption | refine List.Mem.tail _ ?_)))))) | (apply VLdN.mk; (focus ((repeat (first | (with_reducible apply ldn_blk) | (with_reducible apply ldn_skip))); done)); exact rfl) | apply VBr.f | (apply VNew.mk; intro g hg) | (apply VSt.mk; (focus ((repeat (first | (with_reducible exact At.here) | (with_reducible apply At.there))); done)); exact rfl)); (conv => whnf))); apply VCall.stop)
 refine ot_callT (X := SlX) (us := []) (vs := []) (fun x => .agg #[.slice x.1 X.length x.2]) (fun x => []) (fun x => [.own (.slice x.1 X.length x.2) 61 5 X.length (lnC X)]) _ (fun x c hc => one_mut hc) (by decide) rfl rfl rfl rfl (by kernel_rfl) (evl_of rfl) rfl (fun w1 hs => b4 w1 (hs.book h1)) ?_
 rintro ⟨Be, ce⟩ _
 (dsimp only [List.cons_append, List.nil_append]; apply ot_v tk)
 have q2 := fun {A : List Chunk} {w1 : World} (hs : St w A w1) (hq1 : Chunk.own (.slice Bx X.length cx) 61 5 X.length (lnC X) ∈ A) (hq2 : Chunk.own (.slice Be X.length ce) 61 5 X.length (lnC X) ∈ A) => sameN hs hq1 hq2 rfl (by omega)
 ((conv => whnf); (repeat ((first | (apply VCall.q; kernel_rfl; (focus (intro w1 hs; first | ((with_reducible apply q2 hs); (repeat (first | exact List.Mem.head _ | assumption | refine List.Mem.tail _ ?_)))))) | (apply VLdN.mk; (focus ((repeat (first | (with_reducible apply ldn_blk) | (with_reducible apply ldn_skip))); done)); exact rfl) | apply VBr.f); (conv => whnf))); apply VCall.stop)
 refine ot_callT (X := SlX) (us := []) (vs := []) (fun x => .tuple #[.agg #[.slice x.1 Z.length x.2], .bool true]) (fun x => []) (fun x => [.own (.slice x.1 Z.length x.2) 61 5 Z.length (lnC Z)]) _ (fun x c hc => one_mut hc) (by decide) rfl rfl rfl rfl (by kernel_rfl) (evl_of rfl) rfl (fun w1 hs => merged_j jz Bx cx Bc cc w1 (hs.own_rd (by (repeat (first | exact List.Mem.head _ | assumption | refine List.Mem.tail _ ?_)))) (hs.own_rd (by (repeat (first | exact List.Mem.head _ | assumption | refine List.Mem.tail _ ?_))))) ?_
 rintro ⟨Bz, cz⟩ _
 (dsimp only [List.cons_append, List.nil_append]; apply ot_v tk)
 ((conv => whnf); (repeat ((first | (apply VLdN.mk; (focus ((repeat (first | (with_reducible apply ldn_blk) | (with_reducible apply ldn_skip))); done)); exact rfl) | (apply VNew.mk; intro g hg) | (apply VSt.mk; (focus ((repeat (first | (with_reducible exact At.here) | (with_reducible apply At.there))); done)); exact rfl)); (conv => whnf))); apply VCall.stop)
 refine ot_callT (X := SlX) (us := []) (vs := []) (fun x => .tuple #[.agg #[.slice x.1 V.length x.2], .bool true]) (fun x => []) (fun x => [.own (.slice x.1 V.length x.2) 61 5 V.length (lnC V)]) _ (fun x c hc => one_mut hc) (by decide) rfl rfl rfl rfl (by kernel_rfl) (evl_of rfl) rfl (fun w1 hs => merged_j jv Bb cb Bc cc w1 (hs.own_rd (by (repeat (first | exact List.Mem.head _ | assumption | refine List.Mem.tail _ ?_)))) (hs.own_rd (by (repeat (first | exact List.Mem.head _ | assumption | refine List.Mem.tail _ ?_))))) ?_
 rintro ⟨Bv, cv⟩ _
 (dsimp only [List.cons_append, List.nil_append]; apply ot_v tk)
 ((conv => whnf); (repeat ((first | (apply VLdN.mk; (focus ((repeat (first | (with_reducible apply ldn_blk) | (with_reducible apply ldn_skip))); done)); exact rfl) | apply VBr.f | (apply VNew.mk; intro g hg) | (apply VSt.mk; (focus ((repeat (first | (with_reducible exact At.here) | (with_reducible apply At.there))); done)); exact rfl)); (conv => whnf))); apply VCall.stop)
 refine ot_callT (X := SlX) (us := []) (vs := []) (fun x => .tuple #[.agg #[.slice x.1 Z.length x.2], .bool true]) (fun x => []) (fun x => [.own (.slice x.1 Z.length x.2) 61 5 Z.length (lnC Z)]) _ (fun x c hc => one_mut hc) (by decide) rfl rfl rfl rfl (by kernel_rfl) (evl_of rfl) rfl (fun w1 hs => merged_j ju Ba ca Bv cv w1 (hs.own_rd (by (repeat (first | exact List.Mem.head _ | assumption | refine List.Mem.tail _ ?_)))) (hs.own_rd (by (repeat (first | exact List.Mem.head _ | assumption | refine List.Mem.tail _ ?_))))) ?_
 rintro ⟨Bu, cu⟩ _
 (dsimp only [List.cons_append, List.nil_append]; apply ot_v tk)
 ((conv => whnf); (repeat ((first | (apply VLdN.mk; (focus ((repeat (first | (with_reducible apply ldn_blk) | (with_reducible apply ldn_skip))); done)); exact rfl) | (apply VNew.mk; intro g hg) | (apply VSt.mk; (focus ((repeat (first | (with_reducible exact At.here) | (with_reducible apply At.there))); done)); exact rfl)); (conv => whnf))); apply VCall.stop)
 refine ot_callT (X := SlX) (us := []) (vs := []) (fun x => .tuple #[.agg #[.slice x.1 Z.length x.2], .bool true]) (fun x => []) (fun x => [.own (.slice x.1 Z.length x.2) 61 5 Z.length (lnC Z)]) _ (fun x c hc => one_mut hc) (by decide) rfl rfl rfl rfl (by kernel_rfl) (evl_of rfl) rfl (fun w1 hs => merged_j jt Bz cz Bb cb w1 (hs.own_rd (by (repeat (first | exact List.Mem.head _ | assumption | refine List.Mem.tail _ ?_)))) (hs.own_rd (by (repeat (first | exact List.Mem.head _ | assumption | refine List.Mem.tail _ ?_))))) ?_
 rintro ⟨Bt, ct⟩ _
 (dsimp only [List.cons_append, List.nil_append]; apply ot_v tk)
 ((conv => whnf); (repeat ((first | (apply VLdN.mk; (focus ((repeat (first | (with_reducible apply ldn_blk) | (with_reducible apply ldn_skip))); done)); exact rfl) | (apply VNew.mk; intro g hg) | (apply VSt.mk; (focus ((repeat (first | (with_reducible exact At.here) | (with_reducible apply At.there))); done)); exact rfl)); (conv => whnf))); apply VCall.stop)
 refine ot_callT (X := SlX) (us := []) (vs := []) (fun x => .tuple #[.agg #[.slice x.1 a.length x.2], .bool true]) (fun x => []) (fun x => [.own (.slice x.1 a.length x.2) 61 5 a.length (lnC a)]) _ (fun x c hc => one_mut hc) (by decide) rfl rfl rfl rfl (by kernel_rfl) (evl_of rfl) rfl (fun w1 hs => merged_j js Ba ca Ba ca w1 (hs.own_rd (by (repeat (first | exact List.Mem.head _ | assumption | refine List.Mem.tail _ ?_)))) (hs.own_rd (by (repeat (first | exact List.Mem.head _ | assumption | refine List.Mem.tail _ ?_))))) ?_
 rintro ⟨Bs, cs⟩ _
 (dsimp only [List.cons_append, List.nil_append]; apply ot_v tk)
 ((conv => whnf); (repeat ((first | (apply VLdN.mk; (focus ((repeat (first | (with_reducible apply ldn_blk) | (with_reducible apply ldn_skip))); done)); exact rfl) | (apply VNew.mk; intro g hg) | (apply VSt.mk; (focus ((repeat (first | (with_reducible exact At.here) | (with_reducible apply At.there))); done)); exact rfl)); (conv => whnf))); apply VCall.stop)
 refine ot_callT (X := SlX) (us := []) (vs := []) (fun x => .tuple #[.agg #[.slice x.1 l1.length x.2], .bool true]) (fun x => []) (fun x => [.own (.slice x.1 l1.length x.2) 61 5 l1.length (lnC l1)]) _ (fun x c hc => one_mut hc) (by decide) rfl rfl rfl rfl (by kernel_rfl) (evl_of rfl) rfl (fun w1 hs => merged_j ja Bz cz A1 a1 w1 (hs.own_rd (by (repeat (first | exact List.Mem.head _ | assumption | refine List.Mem.tail _ ?_)))) (hs.book h1)) ?_
 rintro ⟨Bl, cl⟩ _
 (dsimp only [List.cons_append, List.nil_append]; apply ot_v tk)
 have q3 := fun {A : List Chunk} {w1 : World} (hs : St w A w1) (hq1 : Chunk.own (.slice Bz Z.length cz) 61 5 Z.length (lnC Z) ∈ A) (hq2 : Chunk.own (.slice Bu Z.length cu) 61 5 Z.length (lnC Z) ∈ A) => sameN hs hq1 hq2 rfl (by omega)
 have q4 := fun {A : List Chunk} {w1 : World} (hs : St w A w1) (hq1 : Chunk.own (.slice Bt Z.length ct) 61 5 Z.length (lnC Z) ∈ A) (hq2 : Chunk.own (.slice Bz Z.length cz) 61 5 Z.length (lnC Z) ∈ A) => sameN hs hq1 hq2 rfl (by omega)
 have q5 := fun {A : List Chunk} {w1 : World} (hs : St w A w1) (hq1 : Chunk.own (.slice Bs a.length cs) 61 5 a.length (lnC a) ∈ A) (hq2 : Chunk.own (.slice Ba a.length ca) 61 5 a.length (lnC a) ∈ A) => sameN hs hq1 hq2 rfl (by omega)
 have q6 := fun {A : List Chunk} {w1 : World} (hs : St w A w1) (hq1 : Chunk.own (.slice Bl l1.length cl) 61 5 l1.length (lnC l1) ∈ A) => sameB (A2 := A1) (c2 := a1) hs hq1 h1 rfl (by omega)
 ((conv => whnf); (repeat ((first | ((first | apply VStop.mk | apply VCall.stop); (first | refine tr_region_lex (id := 16) (by kernel_rfl) [.rd, .rd, .rd, .rd, .rd, .rd, .rd, .rd, .rd, .rd, .rd, .rd, .rd, .rd, .rd, .rd, .rd, .cr, .rd, .rd, .rd, .rd, .rd, .cr, .rd, .rd, .rd, .rd, .rd, .cr, .rd, .rd, .rd, .rd, .rd, .cr, .rd, .rd, .rd, .rd, .rd, .rd, .rd, .rd, .rd, .rd, .cr, .cr, .rd, .rd] rfl (by kernel_rfl) ?_ | (refine ot_or32 rfl rfl rfl rfl rfl ho hp ?_) | (refine ot_or32 rfl rfl rfl rfl rfl h2 hq ?_)); apply ot_v tk) | (apply VCall.q; kernel_rfl; (focus (intro w1 hs; first | ((with_reducible apply q3 hs); (repeat (first | exact List.Mem.head _ | assumption | refine List.Mem.tail _ ?_))) | ((with_reducible apply q4 hs); (repeat (first | exact List.Mem.head _ | assumption | refine List.Mem.tail _ ?_))) | ((with_reducible apply q5 hs); (repeat (first | exact List.Mem.head _ | assumption | refine List.Mem.tail _ ?_))) | ((with_reducible apply q6 hs); (repeat (first | exact List.Mem.head _ | assumption | refine List.Mem.tail _ ?_)))))) | (apply VLdN.mk; (focus ((repeat (first | (with_reducible apply ldn_blk) | (with_reducible apply ldn_skip))); done)); exact rfl) | apply VBr.f | (apply VNew.mk; intro g hg) | (apply VSt.mk; (focus ((repeat (first | (with_reducible exact At.here) | (with_reducible apply At.there))); done)); exact rfl)); (conv => whnf))); apply VCall.stop)
 refine ot_callT (X := SlX) (us := []) (vs := []) (fun x => .agg #[.slice x.1 Z.length x.2]) (fun x => []) (fun x => [.own (.slice x.1 Z.length x.2) 61 5 Z.length (lnC Z)]) _ (fun x c hc => one_mut hc) (by decide) rfl rfl rfl rfl (by kernel_rfl) (evl_of rfl) rfl (fun w1 hs => b5 w1 (hs.book h1)) ?_
 rintro ⟨Bf, cf⟩ _
 (dsimp only [List.cons_append, List.nil_append]; apply ot_v tk)
 have q7 := fun {A : List Chunk} {w1 : World} (hs : St w A w1) (hq1 : Chunk.own (.slice Bz Z.length cz) 61 5 Z.length (lnC Z) ∈ A) (hq2 : Chunk.own (.slice Bf Z.length cf) 61 5 Z.length (lnC Z) ∈ A) => sameN hs hq1 hq2 rfl (by omega)
 ((conv => whnf); (repeat ((first | (apply VCall.q; kernel_rfl; (focus (intro w1 hs; first | ((with_reducible apply q7 hs); (repeat (first | exact List.Mem.head _ | assumption | refine List.Mem.tail _ ?_)))))) | (apply VLdN.mk; (focus ((repeat (first | (with_reducible apply ldn_blk) | (with_reducible apply ldn_skip))); done)); exact rfl) | apply VBr.f); (conv => whnf))); apply VCall.stop)
 refine ot_callT (X := SlX) (us := []) (vs := []) (fun x => .tuple #[.slice x.1 8 x.2, .int .i64 0]) (fun x => []) (fun x => [.own (.slice x.1 8 x.2) 2 1 8 (i64s S)]) _ (fun x c hc => one_mut hc) (by decide) rfl rfl rfl rfl (by kernel_rfl) (evl_of rfl) rfl (fun w1 hs => st2 Bl cl w1 (hs.own_rd (by (repeat (first | exact List.Mem.head _ | assumption | refine List.Mem.tail _ ?_))))) ?_
 rintro ⟨Bg, cg⟩ _
 (dsimp only [List.cons_append, List.nil_append]; apply ot_v tk)
 ((conv => whnf); (repeat ((apply VLdN.mk; (focus ((repeat (first | (with_reducible apply ldn_blk) | (with_reducible apply ldn_skip))); done)); exact rfl); (conv => whnf))); apply VCall.stop)
 refine ot_callT (X := SlX) (us := []) (vs := []) (fun x => .tuple #[.slice x.1 8 x.2, .int .i64 0]) (fun x => []) (fun x => [.own (.slice x.1 8 x.2) 2 1 8 (i64s S)]) _ (fun x c hc => one_mut hc) (by decide) rfl rfl rfl rfl (by kernel_rfl) (evl_of rfl) rfl (fun w1 hs => st1 w1 (hs.book h1)) ?_
 rintro ⟨Bh, ch⟩ _
 (dsimp only [List.cons_append, List.nil_append]; apply ot_v tk)
 have q8 := fun {A : List Chunk} {w1 : World} (hs : St w A w1) (a : Chunk.own (.slice Bg 8 cg) 2 1 8 (i64s S) ∈ A) (b : Chunk.own (.slice Bh 8 ch) 2 1 8 (i64s S) ∈ A) => longsN hs a b hln (by omega)
 ((conv => whnf); (repeat ((first | (apply VCall.q; kernel_rfl; (focus (intro w1 hs; first | ((with_reducible apply q8 hs); (repeat (first | exact List.Mem.head _ | assumption | refine List.Mem.tail _ ?_))) | with_reducible apply kw w1 (hE.st hs) (hM.st hs)))) | apply VBr.t | (apply v_t; omega)); (conv => whnf))))
 ((apply VRet.mk); refine ret1 (by first | exact .inl rfl | exact .inr rfl) rfl (by exact rv_tmp rfl) ?_; exact fun w h => ⟨rfl, h.base⟩)
end Go.Proofs.YtojeeindlijgkaaGreatDoor
