/- An array of three: lemmas for the rows of this seat. No conditions. -/
import Derived.Laws.StructEq
import Derived.Test.YtojeeindlijgkaaGreatDoorK40
import Derived.Test.YtojeeindlijgkaaGreatDoorK48
set_option linter.all false
namespace Go.Proofs.YtojeeindlijgkaaGreatDoor
open Go.RowKit
/-! ## An array of three -/
theorem build55 (a b c : Int) (w : World) : (Instr.build 55 #[(0, .int .u8 a), (1, .int .u8 b), (2, .int .u8 c)]).run Tryz.prog w = .ok (.agg #[.int .u8 a, .int .u8 b, .int .u8 c]) w := by kernel_rfl
section
variable {w0 : World} {n : Nat} {ds : List Deferred} {ops : List Oper} {o : Oper} {os : List Oper} {ks : List Kind} {ts : TS} {A : List Chunk} {K : TS → List Chunk → Prop} {d : Tmp} {x y z : Operand} {a b c : Int}
theorem ot_build55 (hop : o.op = .build 55 #[(0, x), (1, y), (2, z)]) (hd : o.dst = some d) (hw : wantB ops ts o = some true) (hx : evT ts x = some (.int .u8 a)) (hy : evT ts y = some (.int .u8 b)) (hz : evT ts z = some (.int .u8 c))
  (hk : OT Tryz.prog w0 n ds ops os ks.tail ((d, .agg #[.int .u8 a, .int .u8 b, .int .u8 c]) :: ts) A K) : OT Tryz.prog w0 n ds ops (o :: os) ks ts A K :=
 ot_val _ hd hw (fun ac w hh => by
  have h1 := build55 a b c w
  simp [execOp, hop, hh.ev hx, hh.ev hy, hh.ev hz, h1]) hk
end
theorem own_fnC {w0 : World} {A : List Chunk} {g c t n j : Nat} {f : Nat → Int} (h : .own (.slice (some ⟨g, 0, none⟩) n c) t 1 n (fnC f n) ∈ A) (hj : j < n) : CellAt w0 A g (0 + j * 1) (.int .i64 (f j)) := by
 rw [Nat.zero_add, Nat.mul_one]
 exact cell_own h (fnC_get hj)
/-! ## BookJoined -/
set_option maxHeartbeats 4000000 in
set_option maxRecDepth 20000 in
theorem law8_any (A1 : Option Addr) (a1 : Nat) (l1 : List Ln) (M1 M2 : Nat → Nat) (hM1 : ∀ k, M1 k < 256) (hM2 : ∀ k, M2 k < 256) (w : World) (h1 : BookR w A1 l1) (hm1 : l1.length ≤ maxLen) (hE : LayE w) (hM : MaxL w) :
  Calls Tryz.prog 8 #[.agg #[.slice A1 l1.length a1], .agg #[.int .u8 (M1 0 : Int), .int .u8 (M1 1 : Int), .int .u8 (M1 2 : Int)], .agg #[.int .u8 (M2 0 : Int), .int .u8 (M2 1 : Int), .int .u8 (M2 2 : Int)]] w fun e w' => e = .returned (.bool true) ∧ Below w.heap.size w w' := by
 have kw := fun w1 h1 h2 => works_any w1 h1 h2
 have g1 := fun w1 h => fine_any A1 a1 l1 w1 h hm1
 by_cases hg1 : chkBook l1 = 0
 rotate_left
 ·rw [decide_eq_false hg1] at g1
  refine fn_v tk (n := 204) (A := []) Tryz.func8 rfl rfl (Nat.le_of_ble_eq_true rfl) (St.nil (Below.refl _ _)) ?_
  ((conv => whnf); (repeat ((first | (apply VCall.q; kernel_rfl; (focus (intro w1 hs; first | with_reducible apply g1 w1 (hs.book h1) | with_reducible apply kw w1 (hE.st hs) (hM.st hs)))) | (apply VLdN.mk; (focus ((repeat (first | (with_reducible apply ldn_blk) | (with_reducible apply ldn_skip))); done)); exact rfl) | apply VBr.t | (apply VNew.mk; intro g hg)); (conv => whnf))))
  ((apply VRet.mk); refine ret1 (by first | exact .inl rfl | exact .inr rfl) rfl (by exact rv_tmp rfl) ?_; exact fun w h => ⟨rfl, h.base⟩)
 rw [decide_eq_true hg1] at g1
 have v1 := chk_valid.1 hg1
 have hl1 := v1.len
 have b1 := fun w1 h => begun_any A1 a1 l1 M1 hM1 w1 h v1
 have b2 := fun w1 h => begun_any A1 a1 l1 M2 hM2 w1 h v1
 have b3 := fun w1 h => begun_any A1 a1 l1 (fun k => max (M1 k) (M2 k)) (fun k => by have := hM1 k; have := hM2 k; show max (M1 k) (M2 k) < 256; omega) w1 h v1
 have hmx : ∀ k, (if ((M2 k : Nat) : Int) > (M1 k : Int) then (M2 k : Int) else (M1 k : Int)) = ((max (M1 k) (M2 k) : Nat) : Int) := fun k => by split <;> omega
 have hj := begL_join v1 M1 M2
 have hx := since_join v1 M1 M2
 have hy := since_join v1 M2 M1
 rw [show (fun c => max (M2 c) (M1 c)) = fun c => max (M1 c) (M2 c) from funext fun c => Nat.max_comm _ _] at hy
 have hsm := fun k => seenF_join hj k
 have qa := seenL_bad hj.va
 have qb := seenL_bad hj.vb
 generalize begL l1 (fun c => max (M1 c) (M2 c)) = m at *
 generalize begL l1 M1 = a at *
 generalize begL l1 M2 = b at *
 have ha := hj.va.len
 have hb := hj.vb.len
 have hmm := hj.vo.len
 have ka := fun B c w1 h => seen_ok B c a w1 h hj.va
 have kb := fun B c w1 h => seen_ok B c b w1 h hj.vb
 have km := fun B c w1 h => seen_ok B c m w1 h hj.vo
 have sx := fun B c SA sc w1 h h' => since_ok B c b SA sc (seenL a) w1 h h' hj.vb rfl qa
 have sy := fun B c SA sc w1 h h' => since_ok B c a SA sc (seenL b) w1 h h' hj.va rfl qb
 have kc := fun B1 c1 B2 c2 w1 h h' => clash_any B1 c1 a B2 c2 b w1 h h' hj.va hj.vb
 rw [hj.free] at kc
 unfold clashV at kc
 generalize b.filter (sinceP (seenL a)) = X at *
 generalize a.filter (sinceP (seenL b)) = Y at *
 have hX := hx.vb.len
 have hY := hy.vb.len
 have e3 : fnC (seenF a) 3 = i64s (seenL a) := rfl
 have e4 : fnC (seenF b) 3 = i64s (seenL b) := rfl
 refine fn_t (n := 204) (A := []) Tryz.func8 rfl rfl (Nat.le_of_ble_eq_true rfl) (St.nil (Below.refl _ _)) ?_
 refine tr_cut (fun x : Nat × Nat × Nat => ([(3, .pointer (some ⟨x.1, 0, none⟩)), (4, .pointer (some ⟨x.2.1, 0, none⟩)), (5, .pointer (some ⟨x.2.2, 0, none⟩)), (6, .bool false)], [.blk x.1 24 [.slice A1 l1.length a1], .blk x.2.1 55 [.int .u8 (M1 0 : Int), .int .u8 (M1 1 : Int), .int .u8 (M1 2 : Int)], .blk x.2.2 55 [.int .u8 (M2 0 : Int), .int .u8 (M2 1 : Int), .int .u8 (M2 2 : Int)]])) ?_ ?_
 ·(apply tr_v tk; (conv => whnf); (repeat ((apply VNew.mk; intro g hg); (conv => whnf))))
  revert g hg; intro g5 hg5
  revert g hg; intro g4 hg4
  revert g hg; intro g3 hg3
  exact VJ.mk (g3, g4, g5) rfl ⟨rfl, rfl, rfl, rfl, trivial⟩ (by ((try dsimp only); repeat (first | exact Pick.nil | ((apply Pick.cons); (focus (repeat (first | exact Rem.here | apply Rem.there)); done)))))
 rintro ⟨g3, g4, g5⟩
 dsimp only
 refine tr_cut (fun x : Unit => ([(3, .pointer (some ⟨g3, 0, none⟩)), (4, .pointer (some ⟨g4, 0, none⟩)), (5, .pointer (some ⟨g5, 0, none⟩)), (6, .bool false)], [.blk g3 24 [.slice A1 l1.length a1], .blk g4 55 [.int .u8 (M1 0 : Int), .int .u8 (M1 1 : Int), .int .u8 (M1 2 : Int)], .blk g5 55 [.int .u8 (M2 0 : Int), .int .u8 (M2 1 : Int), .int .u8 (M2 2 : Int)]])) ?_ ?_
 ·(apply tr_v tk; (conv => whnf); (repeat ((first | (apply VCall.q; kernel_rfl; (focus (intro w1 hs; first | with_reducible apply g1 w1 (hs.book h1)))) | (apply VLdN.mk; (focus ((repeat (first | (with_reducible apply ldn_blk) | (with_reducible apply ldn_skip))); done)); exact rfl) | apply VBr.f); (conv => whnf))))
  exact VJ.mk () rfl ⟨rfl, rfl, rfl, rfl, trivial⟩ (by ((try dsimp only); repeat (first | exact Pick.nil | ((apply Pick.cons); (focus (repeat (first | exact Rem.here | apply Rem.there)); done)))))
 rintro _
 dsimp only
 refine tr_cut (fun x : SlX × SlX × Nat × Nat => ([(7, .pointer (some ⟨x.2.2.1, 0, none⟩)), (8, .pointer (some ⟨x.2.2.2, 0, none⟩)), (3, .pointer (some ⟨g3, 0, none⟩)), (4, .pointer (some ⟨g4, 0, none⟩)), (5, .pointer (some ⟨g5, 0, none⟩)), (6, .bool false)], [.blk x.2.2.1 24 [.slice x.1.1 a.length x.1.2], .blk x.2.2.2 24 [.slice x.2.1.1 b.length x.2.1.2], .own (.slice x.1.1 a.length x.1.2) 61 5 a.length (lnC a), .own (.slice x.2.1.1 b.length x.2.1.2) 61 5 b.length (lnC b), .blk g3 24 [.slice A1 l1.length a1], .blk g4 55 [.int .u8 (M1 0 : Int), .int .u8 (M1 1 : Int), .int .u8 (M1 2 : Int)], .blk g5 55 [.int .u8 (M2 0 : Int), .int .u8 (M2 1 : Int), .int .u8 (M2 2 : Int)]])) ?_ ?_
 ·(apply tr_v tk; (conv => whnf); (repeat ((first | (apply VStop.mk; refine tr_region_treeV (id := 3) (by kernel_rfl) [.blk g3 24 _, .blk g4 55 _, .blk g5 55 _] (by (repeat (first | exact sl0 _ | exact sl1 _ | refine sl2 _ ?_ | refine sl3 _ ?_))) [0, 1, 3, 4] [2, 5, 6, 7, 8, 9] [.rd, .rd, .rd, .rd] (fun i => [.wr, .wr, .cr, .wr, .wr, .cr, .cr, .cr, .wr, .wr].getD i .wr) _ rfl rfl (by kernel_rfl) ?_; apply ot_v tk) | (apply VLdN.mk; (focus ((repeat (first | (with_reducible apply ldn_blk) | (with_reducible apply ldn_skip))); done)); exact rfl)); (conv => whnf))))
  refine VT.mk (otx_anyV [2, 6, 7] (by kernel_rfl) (by decide) ?_)
  refine ⟨⟨by kernel_rfl, by decide, ?_⟩, ⟨by kernel_rfl, by decide, ?_⟩, ⟨by kernel_rfl, by decide, ?_⟩, trivial⟩
  ·(refine ot_callT (X := SlX) (us := []) (vs := []) (fun x => .agg #[.slice x.1 a.length x.2]) (fun x => []) (fun x => [.own (.slice x.1 a.length x.2) 61 5 a.length (lnC a)]) _ (fun x c hc => one_mut hc) (by decide) rfl rfl rfl rfl (by kernel_rfl) (evl_of rfl) rfl (fun w1 hs => b1 w1 (hs.book h1)) ?_; rintro ⟨Ba, ca⟩ _; dsimp only [List.cons_append, List.nil_append]; refine ot_nil ?_; refine sla ?_)
   refine VT.mk (otx_anyV [5, 6, 7] (by kernel_rfl) (by decide) ?_)
   refine ⟨⟨by kernel_rfl, by decide, ?_⟩, ⟨by kernel_rfl, by decide, ?_⟩, ⟨by kernel_rfl, by decide, ?_⟩, trivial⟩
   ·(refine ot_callT (X := SlX) (us := []) (vs := []) (fun x => .agg #[.slice x.1 b.length x.2]) (fun x => []) (fun x => [.own (.slice x.1 b.length x.2) 61 5 b.length (lnC b)]) _ (fun x c hc => one_mut hc) (by decide) rfl rfl rfl rfl (by kernel_rfl) (evl_of rfl) rfl (fun w1 hs => b2 w1 (hs.book h1)) ?_; rintro ⟨Bb, cb⟩ _; dsimp only [List.cons_append, List.nil_append]; refine ot_nil ?_; refine sla ?_)
    refine ox2 6 7 ?_ ?_
    ·(apply ot_v tk; (conv => whnf); (apply VNew.mk; intro g7 hg7; (conv => whnf)); refine sla ?_)
     refine ox1 7 ?_
     (apply ot_v tk; (conv => whnf); (apply VNew.mk; intro g8 hg8; (conv => whnf)); refine sla ?_)
     refine ox1 8 ?_
     (apply ot_v tk; (conv => whnf); (apply VSt.mk; (focus (repeat (first | exact At.here | apply At.there)); done); exact rfl; (conv => whnf)); refine sla ?_)
     refine ox1 9 ?_
     (apply ot_v tk; (conv => whnf); (apply VSt.mk; (focus (repeat (first | exact At.here | apply At.there)); done); exact rfl; (conv => whnf)); refine sla ?_)
     refine VT.mk (otx_end ?_)
     exact VJ.mk ((Ba, ca), (Bb, cb), g7, g8) rfl ⟨rfl, rfl, rfl, rfl, rfl, rfl, trivial⟩ (by ((try dsimp only); repeat (first | exact Pick.nil | ((apply Pick.cons); (focus (repeat (first | exact Rem.here | apply Rem.there)); done)))))
    ·(apply ot_v tk; (conv => whnf); (apply VNew.mk; intro g8 hg8; (conv => whnf)); refine sla ?_)
     refine ox1 6 ?_
     (apply ot_v tk; (conv => whnf); (apply VNew.mk; intro g7 hg7; (conv => whnf)); refine sla ?_)
     refine ox1 8 ?_
     (apply ot_v tk; (conv => whnf); (apply VSt.mk; (focus (repeat (first | exact At.here | apply At.there)); done); exact rfl; (conv => whnf)); refine sla ?_)
     refine ox1 9 ?_
     (apply ot_v tk; (conv => whnf); (apply VSt.mk; (focus (repeat (first | exact At.here | apply At.there)); done); exact rfl; (conv => whnf)); refine sla ?_)
     refine VT.mk (otx_end ?_)
     exact VJ.mk ((Ba, ca), (Bb, cb), g7, g8) rfl ⟨rfl, rfl, rfl, rfl, rfl, rfl, trivial⟩ (by ((try dsimp only); repeat (first | exact Pick.nil | ((apply Pick.cons); (focus (repeat (first | exact Rem.here | apply Rem.there)); done)))))
   ·(apply ot_v tk; (conv => whnf); (apply VNew.mk; intro g7 hg7; (conv => whnf)); refine sla ?_)
    refine ox2 5 7 ?_ ?_
    ·(refine ot_callT (X := SlX) (us := []) (vs := []) (fun x => .agg #[.slice x.1 b.length x.2]) (fun x => []) (fun x => [.own (.slice x.1 b.length x.2) 61 5 b.length (lnC b)]) _ (fun x c hc => one_mut hc) (by decide) rfl rfl rfl rfl (by kernel_rfl) (evl_of rfl) rfl (fun w1 hs => b2 w1 (hs.book h1)) ?_; rintro ⟨Bb, cb⟩ _; dsimp only [List.cons_append, List.nil_append]; refine ot_nil ?_; refine sla ?_)
     refine ox1 7 ?_
     (apply ot_v tk; (conv => whnf); (apply VNew.mk; intro g8 hg8; (conv => whnf)); refine sla ?_)
     refine ox1 8 ?_
     (apply ot_v tk; (conv => whnf); (apply VSt.mk; (focus (repeat (first | exact At.here | apply At.there)); done); exact rfl; (conv => whnf)); refine sla ?_)
     refine ox1 9 ?_
     (apply ot_v tk; (conv => whnf); (apply VSt.mk; (focus (repeat (first | exact At.here | apply At.there)); done); exact rfl; (conv => whnf)); refine sla ?_)
     refine VT.mk (otx_end ?_)
     exact VJ.mk ((Ba, ca), (Bb, cb), g7, g8) rfl ⟨rfl, rfl, rfl, rfl, rfl, rfl, trivial⟩ (by ((try dsimp only); repeat (first | exact Pick.nil | ((apply Pick.cons); (focus (repeat (first | exact Rem.here | apply Rem.there)); done)))))
    ·(apply ot_v tk; (conv => whnf); (apply VNew.mk; intro g8 hg8; (conv => whnf)); refine sla ?_)
     refine ox1 5 ?_
     (refine ot_callT (X := SlX) (us := []) (vs := []) (fun x => .agg #[.slice x.1 b.length x.2]) (fun x => []) (fun x => [.own (.slice x.1 b.length x.2) 61 5 b.length (lnC b)]) _ (fun x c hc => one_mut hc) (by decide) rfl rfl rfl rfl (by kernel_rfl) (evl_of rfl) rfl (fun w1 hs => b2 w1 (hs.book h1)) ?_; rintro ⟨Bb, cb⟩ _; dsimp only [List.cons_append, List.nil_append]; refine ot_nil ?_; refine sla ?_)
     refine ox1 8 ?_
     (apply ot_v tk; (conv => whnf); (apply VSt.mk; (focus (repeat (first | exact At.here | apply At.there)); done); exact rfl; (conv => whnf)); refine sla ?_)
     refine ox1 9 ?_
     (apply ot_v tk; (conv => whnf); (apply VSt.mk; (focus (repeat (first | exact At.here | apply At.there)); done); exact rfl; (conv => whnf)); refine sla ?_)
     refine VT.mk (otx_end ?_)
     exact VJ.mk ((Ba, ca), (Bb, cb), g7, g8) rfl ⟨rfl, rfl, rfl, rfl, rfl, rfl, trivial⟩ (by ((try dsimp only); repeat (first | exact Pick.nil | ((apply Pick.cons); (focus (repeat (first | exact Rem.here | apply Rem.there)); done)))))
   ·(apply ot_v tk; (conv => whnf); (apply VNew.mk; intro g8 hg8; (conv => whnf)); refine sla ?_)
    refine ox2 5 6 ?_ ?_
    ·(refine ot_callT (X := SlX) (us := []) (vs := []) (fun x => .agg #[.slice x.1 b.length x.2]) (fun x => []) (fun x => [.own (.slice x.1 b.length x.2) 61 5 b.length (lnC b)]) _ (fun x c hc => one_mut hc) (by decide) rfl rfl rfl rfl (by kernel_rfl) (evl_of rfl) rfl (fun w1 hs => b2 w1 (hs.book h1)) ?_; rintro ⟨Bb, cb⟩ _; dsimp only [List.cons_append, List.nil_append]; refine ot_nil ?_; refine sla ?_)
     refine ox1 6 ?_
     (apply ot_v tk; (conv => whnf); (apply VNew.mk; intro g7 hg7; (conv => whnf)); refine sla ?_)
     refine ox1 8 ?_
     (apply ot_v tk; (conv => whnf); (apply VSt.mk; (focus (repeat (first | exact At.here | apply At.there)); done); exact rfl; (conv => whnf)); refine sla ?_)
     refine ox1 9 ?_
     (apply ot_v tk; (conv => whnf); (apply VSt.mk; (focus (repeat (first | exact At.here | apply At.there)); done); exact rfl; (conv => whnf)); refine sla ?_)
     refine VT.mk (otx_end ?_)
     exact VJ.mk ((Ba, ca), (Bb, cb), g7, g8) rfl ⟨rfl, rfl, rfl, rfl, rfl, rfl, trivial⟩ (by ((try dsimp only); repeat (first | exact Pick.nil | ((apply Pick.cons); (focus (repeat (first | exact Rem.here | apply Rem.there)); done)))))
    ·(apply ot_v tk; (conv => whnf); (apply VNew.mk; intro g7 hg7; (conv => whnf)); refine sla ?_)
     refine ox1 5 ?_
     (refine ot_callT (X := SlX) (us := []) (vs := []) (fun x => .agg #[.slice x.1 b.length x.2]) (fun x => []) (fun x => [.own (.slice x.1 b.length x.2) 61 5 b.length (lnC b)]) _ (fun x c hc => one_mut hc) (by decide) rfl rfl rfl rfl (by kernel_rfl) (evl_of rfl) rfl (fun w1 hs => b2 w1 (hs.book h1)) ?_; rintro ⟨Bb, cb⟩ _; dsimp only [List.cons_append, List.nil_append]; refine ot_nil ?_; refine sla ?_)
     refine ox1 8 ?_
     (apply ot_v tk; (conv => whnf); (apply VSt.mk; (focus (repeat (first | exact At.here | apply At.there)); done); exact rfl; (conv => whnf)); refine sla ?_)
     refine ox1 9 ?_
     (apply ot_v tk; (conv => whnf); (apply VSt.mk; (focus (repeat (first | exact At.here | apply At.there)); done); exact rfl; (conv => whnf)); refine sla ?_)
     refine VT.mk (otx_end ?_)
     exact VJ.mk ((Ba, ca), (Bb, cb), g7, g8) rfl ⟨rfl, rfl, rfl, rfl, rfl, rfl, trivial⟩ (by ((try dsimp only); repeat (first | exact Pick.nil | ((apply Pick.cons); (focus (repeat (first | exact Rem.here | apply Rem.there)); done)))))
  ·(apply ot_v tk; (conv => whnf); (apply VNew.mk; intro g7 hg7; (conv => whnf)); refine sla ?_)
   refine ox2 2 7 ?_ ?_
   ·(refine ot_callT (X := SlX) (us := []) (vs := []) (fun x => .agg #[.slice x.1 a.length x.2]) (fun x => []) (fun x => [.own (.slice x.1 a.length x.2) 61 5 a.length (lnC a)]) _ (fun x c hc => one_mut hc) (by decide) rfl rfl rfl rfl (by kernel_rfl) (evl_of rfl) rfl (fun w1 hs => b1 w1 (hs.book h1)) ?_; rintro ⟨Ba, ca⟩ _; dsimp only [List.cons_append, List.nil_append]; refine ot_nil ?_; refine sla ?_)
    refine ox2 5 7 ?_ ?_
    ·(refine ot_callT (X := SlX) (us := []) (vs := []) (fun x => .agg #[.slice x.1 b.length x.2]) (fun x => []) (fun x => [.own (.slice x.1 b.length x.2) 61 5 b.length (lnC b)]) _ (fun x c hc => one_mut hc) (by decide) rfl rfl rfl rfl (by kernel_rfl) (evl_of rfl) rfl (fun w1 hs => b2 w1 (hs.book h1)) ?_; rintro ⟨Bb, cb⟩ _; dsimp only [List.cons_append, List.nil_append]; refine ot_nil ?_; refine sla ?_)
     refine ox1 7 ?_
     (apply ot_v tk; (conv => whnf); (apply VNew.mk; intro g8 hg8; (conv => whnf)); refine sla ?_)
     refine ox1 8 ?_
     (apply ot_v tk; (conv => whnf); (apply VSt.mk; (focus (repeat (first | exact At.here | apply At.there)); done); exact rfl; (conv => whnf)); refine sla ?_)
     refine ox1 9 ?_
     (apply ot_v tk; (conv => whnf); (apply VSt.mk; (focus (repeat (first | exact At.here | apply At.there)); done); exact rfl; (conv => whnf)); refine sla ?_)
     refine VT.mk (otx_end ?_)
     exact VJ.mk ((Ba, ca), (Bb, cb), g7, g8) rfl ⟨rfl, rfl, rfl, rfl, rfl, rfl, trivial⟩ (by ((try dsimp only); repeat (first | exact Pick.nil | ((apply Pick.cons); (focus (repeat (first | exact Rem.here | apply Rem.there)); done)))))
    ·(apply ot_v tk; (conv => whnf); (apply VNew.mk; intro g8 hg8; (conv => whnf)); refine sla ?_)
     refine ox1 5 ?_
     (refine ot_callT (X := SlX) (us := []) (vs := []) (fun x => .agg #[.slice x.1 b.length x.2]) (fun x => []) (fun x => [.own (.slice x.1 b.length x.2) 61 5 b.length (lnC b)]) _ (fun x c hc => one_mut hc) (by decide) rfl rfl rfl rfl (by kernel_rfl) (evl_of rfl) rfl (fun w1 hs => b2 w1 (hs.book h1)) ?_; rintro ⟨Bb, cb⟩ _; dsimp only [List.cons_append, List.nil_append]; refine ot_nil ?_; refine sla ?_)
     refine ox1 8 ?_
     (apply ot_v tk; (conv => whnf); (apply VSt.mk; (focus (repeat (first | exact At.here | apply At.there)); done); exact rfl; (conv => whnf)); refine sla ?_)
     refine ox1 9 ?_
     (apply ot_v tk; (conv => whnf); (apply VSt.mk; (focus (repeat (first | exact At.here | apply At.there)); done); exact rfl; (conv => whnf)); refine sla ?_)
     refine VT.mk (otx_end ?_)
     exact VJ.mk ((Ba, ca), (Bb, cb), g7, g8) rfl ⟨rfl, rfl, rfl, rfl, rfl, rfl, trivial⟩ (by ((try dsimp only); repeat (first | exact Pick.nil | ((apply Pick.cons); (focus (repeat (first | exact Rem.here | apply Rem.there)); done)))))
   ·(apply ot_v tk; (conv => whnf); (apply VNew.mk; intro g8 hg8; (conv => whnf)); refine sla ?_)
    refine ox1 2 ?_
    (refine ot_callT (X := SlX) (us := []) (vs := []) (fun x => .agg #[.slice x.1 a.length x.2]) (fun x => []) (fun x => [.own (.slice x.1 a.length x.2) 61 5 a.length (lnC a)]) _ (fun x c hc => one_mut hc) (by decide) rfl rfl rfl rfl (by kernel_rfl) (evl_of rfl) rfl (fun w1 hs => b1 w1 (hs.book h1)) ?_; rintro ⟨Ba, ca⟩ _; dsimp only [List.cons_append, List.nil_append]; refine ot_nil ?_; refine sla ?_)
    refine ox1 5 ?_
    (refine ot_callT (X := SlX) (us := []) (vs := []) (fun x => .agg #[.slice x.1 b.length x.2]) (fun x => []) (fun x => [.own (.slice x.1 b.length x.2) 61 5 b.length (lnC b)]) _ (fun x c hc => one_mut hc) (by decide) rfl rfl rfl rfl (by kernel_rfl) (evl_of rfl) rfl (fun w1 hs => b2 w1 (hs.book h1)) ?_; rintro ⟨Bb, cb⟩ _; dsimp only [List.cons_append, List.nil_append]; refine ot_nil ?_; refine sla ?_)
    refine ox1 8 ?_
    (apply ot_v tk; (conv => whnf); (apply VSt.mk; (focus (repeat (first | exact At.here | apply At.there)); done); exact rfl; (conv => whnf)); refine sla ?_)
    refine ox1 9 ?_
    (apply ot_v tk; (conv => whnf); (apply VSt.mk; (focus (repeat (first | exact At.here | apply At.there)); done); exact rfl; (conv => whnf)); refine sla ?_)
    refine VT.mk (otx_end ?_)
    exact VJ.mk ((Ba, ca), (Bb, cb), g7, g8) rfl ⟨rfl, rfl, rfl, rfl, rfl, rfl, trivial⟩ (by ((try dsimp only); repeat (first | exact Pick.nil | ((apply Pick.cons); (focus (repeat (first | exact Rem.here | apply Rem.there)); done)))))
  ·(apply ot_v tk; (conv => whnf); (apply VNew.mk; intro g8 hg8; (conv => whnf)); refine sla ?_)
   refine ox2 2 6 ?_ ?_
   ·(refine ot_callT (X := SlX) (us := []) (vs := []) (fun x => .agg #[.slice x.1 a.length x.2]) (fun x => []) (fun x => [.own (.slice x.1 a.length x.2) 61 5 a.length (lnC a)]) _ (fun x c hc => one_mut hc) (by decide) rfl rfl rfl rfl (by kernel_rfl) (evl_of rfl) rfl (fun w1 hs => b1 w1 (hs.book h1)) ?_; rintro ⟨Ba, ca⟩ _; dsimp only [List.cons_append, List.nil_append]; refine ot_nil ?_; refine sla ?_)
    refine ox2 5 6 ?_ ?_
    ·(refine ot_callT (X := SlX) (us := []) (vs := []) (fun x => .agg #[.slice x.1 b.length x.2]) (fun x => []) (fun x => [.own (.slice x.1 b.length x.2) 61 5 b.length (lnC b)]) _ (fun x c hc => one_mut hc) (by decide) rfl rfl rfl rfl (by kernel_rfl) (evl_of rfl) rfl (fun w1 hs => b2 w1 (hs.book h1)) ?_; rintro ⟨Bb, cb⟩ _; dsimp only [List.cons_append, List.nil_append]; refine ot_nil ?_; refine sla ?_)
     refine ox1 6 ?_
     (apply ot_v tk; (conv => whnf); (apply VNew.mk; intro g7 hg7; (conv => whnf)); refine sla ?_)
     refine ox1 8 ?_
     (apply ot_v tk; (conv => whnf); (apply VSt.mk; (focus (repeat (first | exact At.here | apply At.there)); done); exact rfl; (conv => whnf)); refine sla ?_)
     refine ox1 9 ?_
     (apply ot_v tk; (conv => whnf); (apply VSt.mk; (focus (repeat (first | exact At.here | apply At.there)); done); exact rfl; (conv => whnf)); refine sla ?_)
     refine VT.mk (otx_end ?_)
     exact VJ.mk ((Ba, ca), (Bb, cb), g7, g8) rfl ⟨rfl, rfl, rfl, rfl, rfl, rfl, trivial⟩ (by ((try dsimp only); repeat (first | exact Pick.nil | ((apply Pick.cons); (focus (repeat (first | exact Rem.here | apply Rem.there)); done)))))
    ·(apply ot_v tk; (conv => whnf); (apply VNew.mk; intro g7 hg7; (conv => whnf)); refine sla ?_)
     refine ox1 5 ?_
     (refine ot_callT (X := SlX) (us := []) (vs := []) (fun x => .agg #[.slice x.1 b.length x.2]) (fun x => []) (fun x => [.own (.slice x.1 b.length x.2) 61 5 b.length (lnC b)]) _ (fun x c hc => one_mut hc) (by decide) rfl rfl rfl rfl (by kernel_rfl) (evl_of rfl) rfl (fun w1 hs => b2 w1 (hs.book h1)) ?_; rintro ⟨Bb, cb⟩ _; dsimp only [List.cons_append, List.nil_append]; refine ot_nil ?_; refine sla ?_)
     refine ox1 8 ?_
     (apply ot_v tk; (conv => whnf); (apply VSt.mk; (focus (repeat (first | exact At.here | apply At.there)); done); exact rfl; (conv => whnf)); refine sla ?_)
     refine ox1 9 ?_
     (apply ot_v tk; (conv => whnf); (apply VSt.mk; (focus (repeat (first | exact At.here | apply At.there)); done); exact rfl; (conv => whnf)); refine sla ?_)
     refine VT.mk (otx_end ?_)
     exact VJ.mk ((Ba, ca), (Bb, cb), g7, g8) rfl ⟨rfl, rfl, rfl, rfl, rfl, rfl, trivial⟩ (by ((try dsimp only); repeat (first | exact Pick.nil | ((apply Pick.cons); (focus (repeat (first | exact Rem.here | apply Rem.there)); done)))))
   ·(apply ot_v tk; (conv => whnf); (apply VNew.mk; intro g7 hg7; (conv => whnf)); refine sla ?_)
    refine ox1 2 ?_
    (refine ot_callT (X := SlX) (us := []) (vs := []) (fun x => .agg #[.slice x.1 a.length x.2]) (fun x => []) (fun x => [.own (.slice x.1 a.length x.2) 61 5 a.length (lnC a)]) _ (fun x c hc => one_mut hc) (by decide) rfl rfl rfl rfl (by kernel_rfl) (evl_of rfl) rfl (fun w1 hs => b1 w1 (hs.book h1)) ?_; rintro ⟨Ba, ca⟩ _; dsimp only [List.cons_append, List.nil_append]; refine ot_nil ?_; refine sla ?_)
    refine ox1 5 ?_
    (refine ot_callT (X := SlX) (us := []) (vs := []) (fun x => .agg #[.slice x.1 b.length x.2]) (fun x => []) (fun x => [.own (.slice x.1 b.length x.2) 61 5 b.length (lnC b)]) _ (fun x c hc => one_mut hc) (by decide) rfl rfl rfl rfl (by kernel_rfl) (evl_of rfl) rfl (fun w1 hs => b2 w1 (hs.book h1)) ?_; rintro ⟨Bb, cb⟩ _; dsimp only [List.cons_append, List.nil_append]; refine ot_nil ?_; refine sla ?_)
    refine ox1 8 ?_
    (apply ot_v tk; (conv => whnf); (apply VSt.mk; (focus (repeat (first | exact At.here | apply At.there)); done); exact rfl; (conv => whnf)); refine sla ?_)
    refine ox1 9 ?_
    (apply ot_v tk; (conv => whnf); (apply VSt.mk; (focus (repeat (first | exact At.here | apply At.there)); done); exact rfl; (conv => whnf)); refine sla ?_)
    refine VT.mk (otx_end ?_)
    exact VJ.mk ((Ba, ca), (Bb, cb), g7, g8) rfl ⟨rfl, rfl, rfl, rfl, rfl, rfl, trivial⟩ (by ((try dsimp only); repeat (first | exact Pick.nil | ((apply Pick.cons); (focus (repeat (first | exact Rem.here | apply Rem.there)); done)))))
 rintro ⟨⟨Ba, ca⟩, ⟨Bb, cb⟩, g7, g8⟩
 dsimp only
 (apply tr_v tk; (conv => whnf); (repeat ((apply VLdN.mk; (focus ((repeat (first | (with_reducible apply ldn_blk) | (with_reducible apply ldn_skip))); done)); exact rfl); (conv => whnf))); apply VCall.stop)
 refine ot_callT (X := SlX) (us := []) (vs := []) (fun x => .tuple #[.slice x.1 3 x.2, .int .i64 0]) (fun x => []) (fun x => [.own (.slice x.1 3 x.2) 3 1 3 (fnC (seenF a) 3)]) _ (fun x c hc => one_mut hc) (by decide) rfl rfl rfl rfl (by kernel_rfl) (evl_of rfl) rfl (fun w1 hs => ka Ba ca w1 (hs.own_rd (by (repeat (first | exact List.Mem.head _ | assumption | refine List.Mem.tail _ ?_))))) ?_
 rintro ⟨Bs, cs⟩ _
 (dsimp only [List.cons_append, List.nil_append]; apply ot_v tk)
 ((conv => whnf); (repeat ((apply VLdN.mk; (focus ((repeat (first | (with_reducible apply ldn_blk) | (with_reducible apply ldn_skip))); done)); exact rfl); (conv => whnf))); apply VCall.stop)
 refine ot_callT (X := SlX) (us := []) (vs := []) (fun x => .tuple #[.slice x.1 3 x.2, .int .i64 0]) (fun x => []) (fun x => [.own (.slice x.1 3 x.2) 3 1 3 (fnC (seenF b) 3)]) _ (fun x c hc => one_mut hc) (by decide) rfl rfl rfl rfl (by kernel_rfl) (evl_of rfl) rfl (fun w1 hs => kb Bb cb w1 (hs.own_rd (by (repeat (first | exact List.Mem.head _ | assumption | refine List.Mem.tail _ ?_))))) ?_
 rintro ⟨Bt, ct⟩ _
 (dsimp only [List.cons_append, List.nil_append]; apply ot_v tk)
 ((conv => whnf); (repeat ((first | (apply VLdN.mk; (focus ((repeat (first | (with_reducible apply ldn_blk) | (with_reducible apply ldn_skip))); done)); exact rfl) | apply VBr.f | (apply v_f; omega)); (conv => whnf))); apply VCall.stop)
 refine ot_callT (X := SlX) (us := []) (vs := []) (fun x => .tuple #[.agg #[.slice x.1 X.length x.2], .int .i64 0]) (fun x => []) (fun x => [.own (.slice x.1 X.length x.2) 61 5 X.length (lnC X)]) _ (fun x c hc => one_mut hc) (by decide) rfl rfl rfl rfl (by kernel_rfl) (evl_of rfl) rfl (fun w1 hs => sx Bb cb Bs cs w1 (hs.own_rd (by (repeat (first | exact List.Mem.head _ | assumption | refine List.Mem.tail _ ?_)))) (hs.own_rd (by (repeat (first | exact List.Mem.head _ | assumption | refine List.Mem.tail _ ?_))))) ?_
 rintro ⟨Bx, cx⟩ _
 (dsimp only [List.cons_append, List.nil_append]; apply ot_v tk)
 ((conv => whnf); (repeat ((first | (apply VLdN.mk; (focus ((repeat (first | (with_reducible apply ldn_blk) | (with_reducible apply ldn_skip))); done)); exact rfl) | (apply VNew.mk; intro g hg) | (apply VSt.mk; (focus ((repeat (first | (with_reducible exact At.here) | (with_reducible apply At.there))); done)); exact rfl)); (conv => whnf))); apply VCall.stop)
 refine ot_callT (X := SlX) (us := []) (vs := []) (fun x => .tuple #[.agg #[.slice x.1 Y.length x.2], .int .i64 0]) (fun x => []) (fun x => [.own (.slice x.1 Y.length x.2) 61 5 Y.length (lnC Y)]) _ (fun x c hc => one_mut hc) (by decide) rfl rfl rfl rfl (by kernel_rfl) (evl_of rfl) rfl (fun w1 hs => sy Ba ca Bt ct w1 (hs.own_rd (by (repeat (first | exact List.Mem.head _ | assumption | refine List.Mem.tail _ ?_)))) (hs.own_rd (by (repeat (first | exact List.Mem.head _ | assumption | refine List.Mem.tail _ ?_))))) ?_
 rintro ⟨By, cy⟩ _
 (dsimp only [List.cons_append, List.nil_append]; apply ot_v tk)
 have q1 := fun w1 => great_any Bx cx X.length w1 (by unfold maxLen; omega)
 have q2 := fun w1 => great_any By cy Y.length w1 (by unfold maxLen; omega)
 rw [decide_eq_false (by omega)] at q1 q2
 have q0 := fun {A : List Chunk} {w1 : World} (hs : St w A w1) (p : Chunk.own (.slice Ba a.length ca) 61 5 a.length (lnC a) ∈ A) (q : Chunk.own (.slice Bb b.length cb) 61 5 b.length (lnC b) ∈ A) => kc Ba ca Bb cb w1 (hs.own_rd p) (hs.own_rd q)
 ((conv => whnf); (repeat ((first | (apply VCall.q; kernel_rfl; (focus (intro w1 hs; first | ((with_reducible apply q0 hs); (repeat (first | exact List.Mem.head _ | assumption | refine List.Mem.tail _ ?_))) | with_reducible apply q1 w1 | with_reducible apply q2 w1))) | (apply VLdN.mk; (focus ((repeat (first | (with_reducible apply ldn_blk) | (with_reducible apply ldn_skip))); done)); exact rfl) | apply VBr.f | (apply v_f; omega) | (apply VNew.mk; intro g hg) | (apply VSt.mk; (focus ((repeat (first | (with_reducible exact At.here) | (with_reducible apply At.there))); done)); exact rfl)); (conv => whnf))); apply VCall.stop)
 refine ot_callT (X := SlX) (us := []) (vs := []) (fun x => .tuple #[.agg #[.slice x.1 m.length x.2], .bool true]) (fun x => []) (fun x => [.own (.slice x.1 m.length x.2) 61 5 m.length (lnC m)]) _ (fun x c hc => one_mut hc) (by decide) rfl rfl rfl rfl (by kernel_rfl) (evl_of rfl) rfl (fun w1 hs => merged_j hj Ba ca Bb cb w1 (hs.own_rd (by (repeat (first | exact List.Mem.head _ | assumption | refine List.Mem.tail _ ?_)))) (hs.own_rd (by (repeat (first | exact List.Mem.head _ | assumption | refine List.Mem.tail _ ?_))))) ?_
 rintro ⟨Bm, cm⟩ _
 (dsimp only [List.cons_append, List.nil_append]; apply ot_v tk)
 ((conv => whnf); (repeat ((first | (apply VLdN.mk; (focus ((repeat (first | (with_reducible apply ldn_blk) | (with_reducible apply ldn_skip))); done)); exact rfl) | (apply VNew.mk; intro g hg) | (apply VSt.mk; (focus ((repeat (first | (with_reducible exact At.here) | (with_reducible apply At.there))); done)); exact rfl)); (conv => whnf))); apply VCall.stop)
 refine ot_callT (X := SlX) (us := []) (vs := []) (fun x => .tuple #[.agg #[.slice x.1 m.length x.2], .bool true]) (fun x => []) (fun x => [.own (.slice x.1 m.length x.2) 61 5 m.length (lnC m)]) _ (fun x c hc => one_mut hc) (by decide) rfl rfl rfl rfl (by kernel_rfl) (evl_of rfl) rfl (fun w1 hs => merged_j hx Ba ca Bx cx w1 (hs.own_rd (by (repeat (first | exact List.Mem.head _ | assumption | refine List.Mem.tail _ ?_)))) (hs.own_rd (by (repeat (first | exact List.Mem.head _ | assumption | refine List.Mem.tail _ ?_))))) ?_
 rintro ⟨Bn, cn⟩ _
 (dsimp only [List.cons_append, List.nil_append]; apply ot_v tk)
 ((conv => whnf); (repeat ((first | (apply VLdN.mk; (focus ((repeat (first | (with_reducible apply ldn_blk) | (with_reducible apply ldn_skip))); done)); exact rfl) | (apply VNew.mk; intro g hg) | (apply VSt.mk; (focus ((repeat (first | (with_reducible exact At.here) | (with_reducible apply At.there))); done)); exact rfl)); (conv => whnf))); apply VCall.stop)
 refine ot_callT (X := SlX) (us := []) (vs := []) (fun x => .tuple #[.agg #[.slice x.1 m.length x.2], .bool true]) (fun x => []) (fun x => [.own (.slice x.1 m.length x.2) 61 5 m.length (lnC m)]) _ (fun x c hc => one_mut hc) (by decide) rfl rfl rfl rfl (by kernel_rfl) (evl_of rfl) rfl (fun w1 hs => merged_j hy Bb cb By cy w1 (hs.own_rd (by (repeat (first | exact List.Mem.head _ | assumption | refine List.Mem.tail _ ?_)))) (hs.own_rd (by (repeat (first | exact List.Mem.head _ | assumption | refine List.Mem.tail _ ?_))))) ?_
 rintro ⟨Bk, ck⟩ _
 (dsimp only [List.cons_append, List.nil_append]; apply ot_v tk)
 have q3 := fun {A : List Chunk} {w1 : World} (hs : St w A w1) (a : Chunk.own (.slice Bm m.length cm) 61 5 m.length (lnC m) ∈ A) (b : Chunk.own (.slice Bn m.length cn) 61 5 m.length (lnC m) ∈ A) => sameN hs a b rfl (by omega)
 have q4 := fun {A : List Chunk} {w1 : World} (hs : St w A w1) (a : Chunk.own (.slice Bm m.length cm) 61 5 m.length (lnC m) ∈ A) (b : Chunk.own (.slice Bk m.length ck) 61 5 m.length (lnC m) ∈ A) => sameN hs a b rfl (by omega)
 ((conv => whnf); (repeat ((first | (apply VCall.q; kernel_rfl; (focus (intro w1 hs; first | ((with_reducible apply q3 hs); (repeat (first | exact List.Mem.head _ | assumption | refine List.Mem.tail _ ?_))) | ((with_reducible apply q4 hs); (repeat (first | exact List.Mem.head _ | assumption | refine List.Mem.tail _ ?_)))))) | (apply VLd.mk; (focus ((repeat (first | ((with_reducible apply ld_blk); exact rfl) | (with_reducible apply ld_skip))); done))) | (apply VLdN.mk; (focus ((repeat (first | (with_reducible apply ldn_blk) | (with_reducible apply ldn_skip))); done)); exact rfl) | apply VBr.f | (apply VNew.mk; intro g hg) | (apply VIx.mk (j := 0); exact rfl; omega) | (apply VSt.mk; (focus ((repeat (first | (with_reducible exact At.here) | (with_reducible apply At.there))); done)); exact rfl) | (apply v_ixn; omega)); (conv => whnf))); apply VStop.mk)
 simp only [hmx]
 (apply ot_v tk; (conv => whnf); (repeat ((first | ((first | apply VStop.mk | apply VCall.stop); (refine ot_build55 rfl rfl rfl rfl rfl rfl ?_); apply ot_v tk) | (apply VLdN.mk; (focus ((repeat (first | (with_reducible apply ldn_blk) | (with_reducible apply ldn_skip))); done)); exact rfl) | (apply VNew.mk; intro g hg) | (apply VSt.mk; (focus ((repeat (first | (with_reducible exact At.here) | (with_reducible apply At.there))); done)); exact rfl)); (conv => whnf))); apply VCall.stop)
 refine ot_callT (X := SlX) (us := []) (vs := []) (fun x => .tuple #[.slice x.1 3 x.2, .int .i64 0]) (fun x => []) (fun x => [.own (.slice x.1 3 x.2) 3 1 3 (fnC (seenF m) 3)]) _ (fun x c hc => one_mut hc) (by decide) rfl rfl rfl rfl (by kernel_rfl) (evl_of rfl) rfl (fun w1 hs => km Bm cm w1 (hs.own_rd (by (repeat (first | exact List.Mem.head _ | assumption | refine List.Mem.tail _ ?_))))) ?_
 rintro ⟨Bu, cu⟩ _
 (dsimp only [List.cons_append, List.nil_append]; apply ot_v tk)
 ((conv => whnf); (repeat ((first | ((first | apply VStop.mk | apply VCall.stop); refine tr_region_lex (id := 20) (by kernel_rfl) [.rd, .rd, .rd, .cr, .cr, .rd, .rd, .rd, .rd, .rd, .rd, .rd, .rd, .rd, .rd, .rd, .rd] rfl (by kernel_rfl) ?_; apply ot_v tk) | (apply VLdN.mk; (focus ((repeat (first | (with_reducible apply ldn_blk) | (with_reducible apply ldn_skip))); done)); exact rfl)); (conv => whnf))); apply VCall.stop)
 refine ot_callT (X := SlX) (us := []) (vs := []) (fun x => .agg #[.slice x.1 m.length x.2]) (fun x => []) (fun x => [.own (.slice x.1 m.length x.2) 61 5 m.length (lnC m)]) _ (fun x c hc => one_mut hc) (by decide) rfl rfl rfl rfl (by kernel_rfl) (evl_of rfl) rfl (fun w1 hs => b3 w1 (hs.book h1)) ?_
 rintro ⟨Be, ce⟩ _
 (dsimp only [List.cons_append, List.nil_append]; apply ot_v tk)
 have q5 := fun {A : List Chunk} {w1 : World} (hs : St w A w1) (a : Chunk.own (.slice Bm m.length cm) 61 5 m.length (lnC m) ∈ A) (b : Chunk.own (.slice Be m.length ce) 61 5 m.length (lnC m) ∈ A) => sameN hs a b rfl (by omega)
 ((conv => whnf); (repeat ((first | (apply VCall.q; kernel_rfl; (focus (intro w1 hs; first | ((with_reducible apply q5 hs); (repeat (first | exact List.Mem.head _ | assumption | refine List.Mem.tail _ ?_)))))) | apply VBr.f | (apply v_f; omega)); (conv => whnf))); apply VStop.mk)
 refine tr_own_addr (B := Bs) (m := 3) (cc := cs) (te := 3) (sz := 1) (xs := fnC (seenF a) 3) (by (repeat (first | exact List.Mem.head _ | assumption | refine List.Mem.tail _ ?_))) (by omega) ?_
 rintro ps rfl
 refine tr_own_addr (B := Bt) (m := 3) (cc := ct) (te := 3) (sz := 1) (xs := fnC (seenF b) 3) (by (repeat (first | exact List.Mem.head _ | assumption | refine List.Mem.tail _ ?_))) (by omega) ?_
 rintro pt rfl
 refine tr_own_addr (B := Bu) (m := 3) (cc := cu) (te := 3) (sz := 1) (xs := fnC (seenF m) 3) (by (repeat (first | exact List.Mem.head _ | assumption | refine List.Mem.tail _ ?_))) (by omega) ?_
 rintro pu rfl
 refine tr_pick (l := [(9, .slice (some ⟨ps, 0, none⟩) 3 cs), (11, .slice (some ⟨pt, 0, none⟩) 3 ct), (27, .slice (some ⟨pu, 0, none⟩) 3 cu), (29, .int .i64 0)]) (B := [.own (.slice (some ⟨ps, 0, none⟩) 3 cs) 3 1 3 (fnC (seenF a) 3), .own (.slice (some ⟨pt, 0, none⟩) 3 ct) 3 1 3 (fnC (seenF b) 3), .own (.slice (some ⟨pu, 0, none⟩) 3 cu) 3 1 3 (fnC (seenF m) 3)]) ⟨rfl, rfl, rfl, rfl, trivial⟩ (by ((try dsimp only); repeat (first | exact Pick.nil | ((apply Pick.cons); (focus (repeat (first | exact Rem.here | apply Rem.there)); done))))) ?_
 refine v_loop (fun gm ds ts A => ds = [] ∧ ∃ j : Nat, j + gm = 3 ∧ A = [.own (.slice (some ⟨ps, 0, none⟩) 3 cs) 3 1 3 (fnC (seenF a) 3), .own (.slice (some ⟨pt, 0, none⟩) 3 ct) 3 1 3 (fnC (seenF b) 3), .own (.slice (some ⟨pu, 0, none⟩) 3 cu) 3 1 3 (fnC (seenF m) 3)] ∧ ts = [(9, .slice (some ⟨ps, 0, none⟩) 3 cs), (11, .slice (some ⟨pt, 0, none⟩) 3 ct), (27, .slice (some ⟨pu, 0, none⟩) 3 cu), (29, .int .i64 (j : Int))]) 3 (l := [(9, _), (11, _), (27, _), (29, _)]) (B := _) ?_ (List.Sublist.refl _) ⟨rfl, 0, by omega, rfl, rfl⟩ ?_
 ·exact ⟨rfl, rfl, rfl, rfl, trivial⟩
 rintro gm ds ts A ⟨rfl, j, hjj, rfl, rfl⟩
 by_cases hlt : j < 3
 ·have hz := hsm j
  have f1 := fun {A : List Chunk} (h : Chunk.own (.slice (some ⟨ps, 0, none⟩) 3 cs) 3 1 3 (fnC (seenF a) 3) ∈ A) => own_fnC (w0 := w) (j := j) h hlt
  have f2 := fun {A : List Chunk} (h : Chunk.own (.slice (some ⟨pt, 0, none⟩) 3 ct) 3 1 3 (fnC (seenF b) 3) ∈ A) => own_fnC (w0 := w) (j := j) h hlt
  have f3 := fun {A : List Chunk} (h : Chunk.own (.slice (some ⟨pu, 0, none⟩) 3 cu) 3 1 3 (fnC (seenF m) 3) ∈ A) => own_fnC (w0 := w) (j := j) h hlt
  have hz2 : ¬(seenF m j ≠ if seenF b j > seenF a j then seenF b j else seenF a j) := by rw [hz]; split <;> omega
  (apply tr_v tk; (conv => whnf); (repeat ((first | (apply VStop.mk; refine tr_region_draw (id := 25) (by kernel_rfl) [0, 1, 2, 3, 4, 5, 6, 7, 8, 9, 10, 11, 12, 13] [.rd, .rd, .rd, .rd, .rd, .rd, .rd, .rd, .rd, .rd, .rd, .rd, .rd, .rd] rfl (by kernel_rfl) ?_; apply ot_v tk) | (apply VLd.mk; first | exact f1 (by (repeat (first | exact List.Mem.head _ | assumption | refine List.Mem.tail _ ?_))) | exact f2 (by (repeat (first | exact List.Mem.head _ | assumption | refine List.Mem.tail _ ?_))) | exact f3 (by (repeat (first | exact List.Mem.head _ | assumption | refine List.Mem.tail _ ?_)))) | (apply VIx.mk (j := j); exact rfl; omega) | (apply v_f; exact hz2) | (apply VRng.mk; omega) | apply VBr.t | apply VBr.f | (apply v_t; omega)); (conv => whnf))))
  exact v_rnd (gm - 1) (by omega) (l := [(9, _), (11, _), (27, _), (29, _)]) (B := _) ⟨rfl, rfl, rfl, rfl, trivial⟩ (List.Sublist.refl _) ⟨rfl, j + 1, by omega, rfl, rfl⟩
 obtain rfl : j = 3 := by omega
 (apply tr_v tk; (conv => whnf); (repeat ((first | (apply VCall.q; kernel_rfl; (focus (intro w1 hs; first | with_reducible apply kw w1 (hE.st hs) (hM.st hs)))) | apply VBr.f | (apply v_f; omega)); (conv => whnf))))
 ((apply VRet.mk); refine ret1 (by first | exact .inl rfl | exact .inr rfl) rfl (by exact rv_tmp rfl) ?_; exact fun w h => ⟨rfl, h.base⟩)
end Go.Proofs.YtojeeindlijgkaaGreatDoor
