/- BookParts: lemmas for the rows of this seat. No conditions. -/
import Derived.Laws.StructEq
import Derived.Test.YtojeeindlijgkaaGreatDoorK40
import Derived.Test.YtojeeindlijgkaaGreatDoorK41
set_option linter.all false
namespace Go.Proofs.YtojeeindlijgkaaGreatDoor
open Go.RowKit
/-! ## BookParts -/
theorem intsO {l : List Int} {m : Nat} {A1 A2 : Option Addr} {c1 c2 : Nat} {A : List Chunk} {w0 w : World} (hs : St w0 A w) (h1 : Chunk.own (.slice A1 m c1) 3 1 m (i64s l) ∈ A) (h2 : Chunk.own (.slice A2 m c2) 3 1 m (i64s l) ∈ A) (hl : l.length = m) (hm : m ≤ 1000) :
  Calls Tryz.prog 37 #[.slice A1 m c1, .slice A2 m c2] w fun e w' => e = .returned (.bool true) ∧ Below w.heap.size w w' := by
 subst hl
 have := ints_any A1 c1 l A2 c2 l w (hs.own_rd h1) (hs.own_rd h2) (by unfold maxLen; omega)
 rwa [decide_eq_true rfl] at this
set_option maxHeartbeats 4000000 in
set_option maxRecDepth 20000 in
theorem law5_any (A1 : Option Addr) (a1 : Nat) (l1 : List Ln) (A2 : Option Addr) (a2 : Nat) (l2 : List Ln) (SA : Option Addr) (sc : Nat) (sn : List Int) (w : World) (h1 : BookR w A1 l1) (h2 : BookR w A2 l2) (hm1 : l1.length ≤ maxLen) (hm2 : l2.length ≤ maxLen) (hE : LayE w) (hM : MaxL w) (hs0 : Reads w w.heap.size 1 SA sn.length (i64s sn)) (hsm : sn.length ≤ maxLen) :
  Calls Tryz.prog 5 #[.agg #[.slice A1 l1.length a1], .agg #[.slice A2 l2.length a2], .slice SA sn.length sc] w fun e w' => e = .returned (.bool true) ∧ Below w.heap.size w w' := by
 have kw := fun w1 h1 h2 => works_any w1 h1 h2
 have g1 := fun w1 => great_any A1 a1 l1.length w1 hm1
 have g2 := fun w1 => great_any A2 a2 l2.length w1 hm2
 by_cases hg1 : 26 < l1.length
 ·rw [decide_eq_true hg1] at g1
  refine fn_v tk (n := 122) (A := []) Tryz.func5 rfl rfl (Nat.le_of_ble_eq_true rfl) (St.nil (Below.refl _ _)) ?_
  ((conv => whnf); (repeat ((first | (apply VCall.q; kernel_rfl; (focus (intro w1 hs; first | with_reducible apply g1 w1 | with_reducible apply kw w1 (hE.st hs) (hM.st hs)))) | (apply VLdN.mk; (focus ((repeat (first | (with_reducible apply ldn_blk) | (with_reducible apply ldn_skip))); done)); exact rfl) | apply VBr.t | (apply VNew.mk; intro g hg)); (conv => whnf))))
  ((apply VRet.mk); refine ret1 (by first | exact .inl rfl | exact .inr rfl) rfl (by exact rv_tmp rfl) ?_; exact fun w h => ⟨rfl, h.base⟩)
 rw [decide_eq_false hg1] at g1
 by_cases hg2 : 26 < l2.length
 ·rw [decide_eq_true hg2] at g2
  refine fn_v tk (n := 122) (A := []) Tryz.func5 rfl rfl (Nat.le_of_ble_eq_true rfl) (St.nil (Below.refl _ _)) ?_
  ((conv => whnf); (repeat ((first | (apply VCall.q; kernel_rfl; (focus (intro w1 hs; first | with_reducible apply g1 w1 | with_reducible apply g2 w1 | with_reducible apply kw w1 (hE.st hs) (hM.st hs)))) | (apply VLdN.mk; (focus ((repeat (first | (with_reducible apply ldn_blk) | (with_reducible apply ldn_skip))); done)); exact rfl) | apply VBr.t | apply VBr.f | (apply VNew.mk; intro g hg)); (conv => whnf))))
  ((apply VRet.mk); refine ret1 (by first | exact .inl rfl | exact .inr rfl) rfl (by exact rv_tmp rfl) ?_; exact fun w h => ⟨rfl, h.base⟩)
 rw [decide_eq_false hg2] at g2
 by_cases hg3 : 10 < sn.length
 ·refine fn_v tk (n := 122) (A := []) Tryz.func5 rfl rfl (Nat.le_of_ble_eq_true rfl) (St.nil (Below.refl _ _)) ?_
  ((conv => whnf); (repeat ((first | (apply VCall.q; kernel_rfl; (focus (intro w1 hs; first | with_reducible apply g1 w1 | with_reducible apply g2 w1 | with_reducible apply kw w1 (hE.st hs) (hM.st hs)))) | (apply VLdN.mk; (focus ((repeat (first | (with_reducible apply ldn_blk) | (with_reducible apply ldn_skip))); done)); exact rfl) | apply VBr.t | apply VBr.f | (apply v_t; omega) | (apply VNew.mk; intro g hg)); (conv => whnf))))
  ((apply VRet.mk); refine ret1 (by first | exact .inl rfl | exact .inr rfl) rfl (by exact rv_tmp rfl) ?_; exact fun w h => ⟨rfl, h.base⟩)
 have hx1 : l1.length ≤ 1000 := by omega
 have hx2 : l2.length ≤ 1000 := by omega
 have k1 := fun w1 h h' => common_all A1 a1 l1 A2 a2 l2 w1 h h' hx1 hx2
 have k2 := fun w1 h h' => refCommon_all A1 a1 l1 A2 a2 l2 w1 h h' hx1 hx2
 have k3 := fun w1 h h' => only_all A1 a1 l1 A2 a2 l2 w1 h h' hx1 hx2
 have k4 := fun w1 h h' => refOnly_all A1 a1 l1 A2 a2 l2 w1 h h' hx1 hx2
 have k5 := fun w1 h => seen_all A1 a1 l1 w1 h hx1
 have k6 := fun w1 h => refSeen_all A1 a1 l1 w1 h hx1
 have k7 := fun w1 h h' => since_all A1 a1 l1 w1 h hx1 SA sc sn h'
 have k8 := fun w1 h h' => refSince_all A1 a1 l1 w1 h hx1 SA sc sn h'
 have nc := prtR_len true l1 l2 hx1
 have no := prtR_len false l1 l2 hx1
 have ns := seeR_len l1
 have nn := sncR_len l1 sn hx1
 generalize prtR true l1 l2 = R1 at *
 generalize prtR false l1 l2 = R2 at *
 generalize seeR l1 = R3 at *
 generalize sncR l1 sn = R4 at *
 obtain ⟨Lc, zc⟩ := R1
 obtain ⟨Lo, zo⟩ := R2
 obtain ⟨Ls, zs⟩ := R3
 obtain ⟨Ln, zn⟩ := R4
 dsimp only at nc no ns nn
 refine fn_v tk (n := 122) (A := []) Tryz.func5 rfl rfl (Nat.le_of_ble_eq_true rfl) (St.nil (Below.refl _ _)) ?_
 ((conv => whnf); (repeat ((first | (apply VCall.q; kernel_rfl; (focus (intro w1 hs; first | with_reducible apply g1 w1 | with_reducible apply g2 w1))) | (apply VLdN.mk; (focus ((repeat (first | (with_reducible apply ldn_blk) | (with_reducible apply ldn_skip))); done)); exact rfl) | apply VBr.f | (apply v_f; omega) | (apply VNew.mk; intro g hg)); (conv => whnf))); apply VCall.stop)
 refine ot_callT (X := SlX) (us := []) (vs := []) (fun x => .tuple #[.agg #[.slice x.1 Lc.length x.2], .int .i64 zc]) (fun x => []) (fun x => [.own (.slice x.1 Lc.length x.2) 61 5 Lc.length (lnC Lc)]) _ (fun x c hc => one_mut hc) (by decide) rfl rfl rfl rfl (by kernel_rfl) (evl_of rfl) rfl (fun w1 hs => k1 w1 (hs.book h1) (hs.book h2)) ?_
 rintro ⟨B1, c1⟩ _
 (dsimp only [List.cons_append, List.nil_append]; apply ot_v tk)
 ((conv => whnf); (repeat ((first | (apply VLdN.mk; (focus ((repeat (first | (with_reducible apply ldn_blk) | (with_reducible apply ldn_skip))); done)); exact rfl) | (apply VNew.mk; intro g hg) | (apply VSt.mk; (focus ((repeat (first | (with_reducible exact At.here) | (with_reducible apply At.there))); done)); exact rfl)); (conv => whnf))); apply VCall.stop)
 refine ot_callT (X := SlX) (us := []) (vs := []) (fun x => .tuple #[.agg #[.slice x.1 Lc.length x.2], .int .i64 zc]) (fun x => []) (fun x => [.own (.slice x.1 Lc.length x.2) 61 5 Lc.length (lnC Lc)]) _ (fun x c hc => one_mut hc) (by decide) rfl rfl rfl rfl (by kernel_rfl) (evl_of rfl) rfl (fun w1 hs => k2 w1 (hs.book h1) (hs.book h2)) ?_
 rintro ⟨B2, c2⟩ _
 (dsimp only [List.cons_append, List.nil_append]; apply ot_v tk)
 ((conv => whnf); (repeat ((first | (apply VLdN.mk; (focus ((repeat (first | (with_reducible apply ldn_blk) | (with_reducible apply ldn_skip))); done)); exact rfl) | (apply VNew.mk; intro g hg) | (apply VSt.mk; (focus ((repeat (first | (with_reducible exact At.here) | (with_reducible apply At.there))); done)); exact rfl)); (conv => whnf))); apply VCall.stop)
 refine ot_callT (X := SlX) (us := []) (vs := []) (fun x => .tuple #[.agg #[.slice x.1 Lo.length x.2], .int .i64 zo]) (fun x => []) (fun x => [.own (.slice x.1 Lo.length x.2) 61 5 Lo.length (lnC Lo)]) _ (fun x c hc => one_mut hc) (by decide) rfl rfl rfl rfl (by kernel_rfl) (evl_of rfl) rfl (fun w1 hs => k3 w1 (hs.book h1) (hs.book h2)) ?_
 rintro ⟨B3, c3⟩ _
 (dsimp only [List.cons_append, List.nil_append]; apply ot_v tk)
 ((conv => whnf); (repeat ((first | (apply VLdN.mk; (focus ((repeat (first | (with_reducible apply ldn_blk) | (with_reducible apply ldn_skip))); done)); exact rfl) | (apply VNew.mk; intro g hg) | (apply VSt.mk; (focus ((repeat (first | (with_reducible exact At.here) | (with_reducible apply At.there))); done)); exact rfl)); (conv => whnf))); apply VCall.stop)
 refine ot_callT (X := SlX) (us := []) (vs := []) (fun x => .tuple #[.agg #[.slice x.1 Lo.length x.2], .int .i64 zo]) (fun x => []) (fun x => [.own (.slice x.1 Lo.length x.2) 61 5 Lo.length (lnC Lo)]) _ (fun x c hc => one_mut hc) (by decide) rfl rfl rfl rfl (by kernel_rfl) (evl_of rfl) rfl (fun w1 hs => k4 w1 (hs.book h1) (hs.book h2)) ?_
 rintro ⟨B4, c4⟩ _
 (dsimp only [List.cons_append, List.nil_append]; apply ot_v tk)
 ((conv => whnf); (repeat ((first | (apply VLdN.mk; (focus ((repeat (first | (with_reducible apply ldn_blk) | (with_reducible apply ldn_skip))); done)); exact rfl) | (apply VNew.mk; intro g hg) | (apply VSt.mk; (focus ((repeat (first | (with_reducible exact At.here) | (with_reducible apply At.there))); done)); exact rfl)); (conv => whnf))); apply VCall.stop)
 refine ot_callT (X := SlX) (us := []) (vs := []) (fun x => .tuple #[.slice x.1 Ls.length x.2, .int .i64 zs]) (fun x => []) (fun x => [.own (.slice x.1 Ls.length x.2) 3 1 Ls.length (i64s Ls)]) _ (fun x c hc => one_mut hc) (by decide) rfl rfl rfl rfl (by kernel_rfl) (evl_of rfl) rfl (fun w1 hs => k5 w1 (hs.book h1)) ?_
 rintro ⟨B5, c5⟩ _
 (dsimp only [List.cons_append, List.nil_append]; apply ot_v tk)
 ((conv => whnf); (repeat ((apply VLdN.mk; (focus ((repeat (first | (with_reducible apply ldn_blk) | (with_reducible apply ldn_skip))); done)); exact rfl); (conv => whnf))); apply VCall.stop)
 refine ot_callT (X := SlX) (us := []) (vs := []) (fun x => .tuple #[.slice x.1 Ls.length x.2, .int .i64 zs]) (fun x => []) (fun x => [.own (.slice x.1 Ls.length x.2) 3 1 Ls.length (i64s Ls)]) _ (fun x c hc => one_mut hc) (by decide) rfl rfl rfl rfl (by kernel_rfl) (evl_of rfl) rfl (fun w1 hs => k6 w1 (hs.book h1)) ?_
 rintro ⟨B6, c6⟩ _
 (dsimp only [List.cons_append, List.nil_append]; apply ot_v tk)
 ((conv => whnf); (repeat ((apply VLdN.mk; (focus ((repeat (first | (with_reducible apply ldn_blk) | (with_reducible apply ldn_skip))); done)); exact rfl); (conv => whnf))); apply VCall.stop)
 refine ot_callT (X := SlX) (us := []) (vs := []) (fun x => .tuple #[.agg #[.slice x.1 Ln.length x.2], .int .i64 zn]) (fun x => []) (fun x => [.own (.slice x.1 Ln.length x.2) 61 5 Ln.length (lnC Ln)]) _ (fun x c hc => one_mut hc) (by decide) rfl rfl rfl rfl (by kernel_rfl) (evl_of rfl) rfl (fun w1 hs => k7 w1 (hs.book h1) (hs.reads hs0)) ?_
 rintro ⟨B7, c7⟩ _
 (dsimp only [List.cons_append, List.nil_append]; apply ot_v tk)
 ((conv => whnf); (repeat ((first | (apply VLdN.mk; (focus ((repeat (first | (with_reducible apply ldn_blk) | (with_reducible apply ldn_skip))); done)); exact rfl) | (apply VNew.mk; intro g hg) | (apply VSt.mk; (focus ((repeat (first | (with_reducible exact At.here) | (with_reducible apply At.there))); done)); exact rfl)); (conv => whnf))); apply VCall.stop)
 refine ot_callT (X := SlX) (us := []) (vs := []) (fun x => .tuple #[.agg #[.slice x.1 Ln.length x.2], .int .i64 zn]) (fun x => []) (fun x => [.own (.slice x.1 Ln.length x.2) 61 5 Ln.length (lnC Ln)]) _ (fun x c hc => one_mut hc) (by decide) rfl rfl rfl rfl (by kernel_rfl) (evl_of rfl) rfl (fun w1 hs => k8 w1 (hs.book h1) (hs.reads hs0)) ?_
 rintro ⟨B8, c8⟩ _
 (dsimp only [List.cons_append, List.nil_append]; apply ot_v tk)
 have q1 := fun {A : List Chunk} {w1 : World} (hs : St w A w1) (a : Chunk.own (.slice B1 Lc.length c1) 61 5 Lc.length (lnC Lc) ∈ A) (b : Chunk.own (.slice B2 Lc.length c2) 61 5 Lc.length (lnC Lc) ∈ A) => sameN hs a b rfl nc
 have q2 := fun {A : List Chunk} {w1 : World} (hs : St w A w1) (a : Chunk.own (.slice B3 Lo.length c3) 61 5 Lo.length (lnC Lo) ∈ A) (b : Chunk.own (.slice B4 Lo.length c4) 61 5 Lo.length (lnC Lo) ∈ A) => sameN hs a b rfl no
 have q4 := fun {A : List Chunk} {w1 : World} (hs : St w A w1) (a : Chunk.own (.slice B7 Ln.length c7) 61 5 Ln.length (lnC Ln) ∈ A) (b : Chunk.own (.slice B8 Ln.length c8) 61 5 Ln.length (lnC Ln) ∈ A) => sameN hs a b rfl nn
 have q3 := fun {A : List Chunk} {w1 : World} (hs : St w A w1) (a : Chunk.own (.slice B5 Ls.length c5) 3 1 Ls.length (i64s Ls) ∈ A) (b : Chunk.own (.slice B6 Ls.length c6) 3 1 Ls.length (i64s Ls) ∈ A) => intsO hs a b rfl ns
 ((conv => whnf); (repeat ((first | (apply VCall.q; kernel_rfl; (focus (intro w1 hs; first | ((with_reducible apply q1 hs); (repeat (first | exact List.Mem.head _ | assumption | refine List.Mem.tail _ ?_))) | ((with_reducible apply q2 hs); (repeat (first | exact List.Mem.head _ | assumption | refine List.Mem.tail _ ?_))) | ((with_reducible apply q3 hs); (repeat (first | exact List.Mem.head _ | assumption | refine List.Mem.tail _ ?_))) | ((with_reducible apply q4 hs); (repeat (first | exact List.Mem.head _ | assumption | refine List.Mem.tail _ ?_))) | with_reducible apply kw w1 (hE.st hs) (hM.st hs)))) | (apply VLdN.mk; (focus ((repeat (first | (with_reducible apply ldn_blk) | (with_reducible apply ldn_skip))); done)); exact rfl) | apply VBr.t | (apply v_t; omega) | (apply VNew.mk; intro g hg) | (apply VSt.mk; (focus ((repeat (first | (with_reducible exact At.here) | (with_reducible apply At.there))); done)); exact rfl)); (conv => whnf))))
 ((apply VRet.mk); refine ret1 (by first | exact .inl rfl | exact .inr rfl) rfl (by exact rv_tmp rfl) ?_; exact fun w h => ⟨rfl, h.base⟩)
end Go.Proofs.YtojeeindlijgkaaGreatDoor
