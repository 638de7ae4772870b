/- Prefixes of books and of texts: lemmas for the rows of this seat. No conditions. -/
import Derived.Laws.StructEq
import Derived.Laws.IdiomStrings
import Derived.Laws.Strings2
import Derived.Laws.Strings3
import Derived.Test.YtojeeindlijgkaaGreatDoorK41
import Derived.Test.YtojeeindlijgkaaGreatDoorK46
import Derived.Test.YtojeeindlijgkaaGreatDoorK48
set_option linter.all false
namespace Go.Proofs.YtojeeindlijgkaaGreatDoor
open Go.RowKit
/-! ## Prefixes of books and of texts -/
theorem lnC_take (l : List Ln) (k : Nat) : lnC (l.take k) = (lnC l).take (k * 5) := by
 conv => rhs; rw [← List.take_append_drop k l, lnC_append]
 by_cases h : k ≤ l.length
 ·rw [List.take_left' (by rw [lnC_length, List.length_take]; omega)]
 ·rw [List.drop_eq_nil_of_le (by omega), List.take_of_length_le (l := l) (by omega)]
  show _ = (lnC l ++ []).take (k * 5)
  rw [List.append_nil, List.take_of_length_le (by rw [lnC_length]; omega)]
theorem book_take {w : World} {B : Option Addr} {l : List Ln} (h : BookR w B l) (k : Nat) : BookR w B (l.take k) := by
 refine ⟨by rw [lnC_length], fun hn => ?_⟩
 rw [List.length_take] at hn
 obtain ⟨b, o, e, hb, hc⟩ := h.2 (by omega)
 refine ⟨b, o, e, hb, fun j u hu => hc j u ?_⟩
 rw [lnC_take] at hu
 have hj := (List.getElem?_eq_some_iff.1 hu).1
 rw [List.length_take] at hj
 rwa [List.getElem?_take_of_lt (by omega)] at hu
section
variable {P : Program} {w0 : World} {n : Nat} {ds : List Deferred} {ops : List Oper} {o : Oper} {os : List Oper} {ks : List Kind} {ts : TS} {A : List Chunk} {K : TS → List Chunk → Prop} {d : Tmp} {x y z : Operand} {t u : TypeId}
theorem ot_sto {l : List UInt8} {j : Nat} {k : IntKind} {p : Int} (hp : p = (j : Int)) (hj : j ≤ l.length) (ht : P.underlying t = some .string) (hop : o.op = .slice t x none (some y) none) (hd : o.dst = some d) (hw : wantB ops ts o = some true) (hx : evT ts x = some (.string (bs l))) (hy : evT ts y = some (.int k p))
  (hk : OT P w0 n ds ops os ks.tail ((d, .string (bs (l.take j))) :: ts) A K) : OT P w0 n ds ops (o :: os) ks ts A K :=
 ot_val _ hd hw (fun a w hh => by
  subst hp
  have h1 := run_slice_string_h (P := P) w t ht (s := bs l) k j (by omega) (by rw [bs_size]; omega)
  rw [bs_extract] at h1
  have h2 := run_sliceAt_string w t (.string (bs l)) none (some (.int k j)) none ht
  simp only [Int.toNat_natCast, Nat.sub_zero, List.drop_zero] at h1
  simp [execOp, hop, hh.ev hx, hh.ev hy, h2, h1]) hk
end
theorem Valid.take {l : List Ln} (h : Valid l) (k : Nat) : Valid (l.take k) := h.sub (List.take_sublist k l)
/-- What Load hands back, if it reads a book. -/
theorem load_zero {s : List UInt8} (h : (loaR s).2 = 0) : Valid (loaR s).1 ∧ (fileF (loaR s).1).2 = s := by
 unfold loaR at h ⊢
 split at h
 ·cases h
 rename_i h1
 rw [if_neg h1]
 split at h
 ·cases h
 rename_i h2
 rw [if_neg h2]
 split at h
 ·cases h
 rename_i h3
 rw [if_neg h3]
 split at h
 ·rename_i h4; exact absurd h h4
 rename_i h4
 rw [if_neg h4]
 exact ⟨chk_valid.1 (Decidable.not_not.1 h4), Decidable.not_not.1 h3⟩
theorem loaR_vals (s : List UInt8) : 0 ≤ (loaR s).2 ∧ (loaR s).2 ≤ 30 := by
 have := chkBook_vals (linesR (spl 10 [] s).dropLast)
 unfold loaR
 split
 ·decide
 ·split
  ·decide
  ·split
   ·decide
   ·split
    ·dsimp only; omega
    ·exact ⟨Int.le_refl _, by show (0 : Int) ≤ 30; decide⟩
theorem tmod_nat (a b : Nat) : Int.tmod (a : Int) ((b : Int) + 1) = ((a % (b + 1) : Nat) : Int) := by
 rw [show ((b : Int) + 1) = ((b + 1 : Nat) : Int) by omega]
 exact (Int.ofNat_tmod a (b + 1)).symm
/-! ## BookFiled -/
set_option maxHeartbeats 4000000 in
set_option maxRecDepth 20000 in
theorem law11_any (A1 : Option Addr) (a1 : Nat) (l1 : List Ln) (b : Nat) (s : List UInt8) (hb8 : b < 256) (w : World) (h1 : BookR w A1 l1) (hm1 : l1.length ≤ maxLen) (hc1 : l1.length ≤ a1) (hE : LayE w) (hM : MaxL w) :
  Calls Tryz.prog 11 #[.agg #[.slice A1 l1.length a1], .int .u8 (b : Int), .string (bs s)] w fun e w' => e = .returned (.bool true) ∧ Below w.heap.size w w' := by
 have kw := fun w1 h1 h2 => works_any w1 h1 h2
 have g1 := fun w1 h => fine_any A1 a1 l1 w1 h hm1
 by_cases hg1 : chkBook l1 = 0
 rotate_left
 ·rw [decide_eq_false hg1] at g1
  refine fn_v tk (n := 125) (A := []) Tryz.func11 rfl rfl (Nat.le_of_ble_eq_true rfl) (St.nil (Below.refl _ _)) ?_
  ((conv => whnf); (repeat ((first | (apply VCall.q; kernel_rfl; (focus (intro w1 hs; first | with_reducible apply g1 w1 (hs.book h1) | with_reducible apply kw w1 (hE.st hs) (hM.st hs)))) | (apply VLdN.mk; (focus ((repeat (first | (with_reducible apply ldn_blk) | (with_reducible apply ldn_skip))); done)); exact rfl) | apply VBr.t | (apply VNew.mk; intro g hg)); (conv => whnf))))
  ((apply VRet.mk); refine ret1 (by first | exact .inl rfl | exact .inr rfl) rfl (by exact rv_tmp rfl) ?_; exact fun w h => ⟨rfl, h.base⟩)
 rw [decide_eq_true hg1] at g1
 by_cases hs2 : 2000 < s.length
 ·refine fn_v tk (n := 125) (A := []) Tryz.func11 rfl rfl (Nat.le_of_ble_eq_true rfl) (St.nil (Below.refl _ _)) ?_
  ((conv => whnf); (repeat ((first | ((first | apply VStop.mk | apply VCall.stop); (refine ot_slen Tryz.underlying9 rfl rfl rfl rfl ?_); apply ot_v tk) | (apply VCall.q; kernel_rfl; (focus (intro w1 hs; first | with_reducible apply g1 w1 (hs.book h1) | with_reducible apply kw w1 (hE.st hs) (hM.st hs)))) | (apply VLdN.mk; (focus ((repeat (first | (with_reducible apply ldn_blk) | (with_reducible apply ldn_skip))); done)); exact rfl) | apply VBr.t | apply VBr.f | (apply v_t; omega) | (apply VNew.mk; intro g hg)); (conv => whnf))))
  ((apply VRet.mk); refine ret1 (by first | exact .inl rfl | exact .inr rfl) rfl (by exact rv_tmp rfl) ?_; exact fun w h => ⟨rfl, h.base⟩)
 have v1 := chk_valid.1 hg1
 have hl1 := v1.len
 have v2 := v1.take (b % (l1.length + 1))
 have hF : b % (l1.length + 1) ≤ l1.length := Nat.le_of_lt_succ (Nat.mod_lt _ (Nat.succ_pos _))
 have hrem := tmod_nat b l1.length
 have hft := file_take l1 (b % (l1.length + 1))
 have k1 := fun w1 h hT => file_ok A1 a1 l1 w1 h v1 hT
 have k2 := fun w1 h hT => file_ok A1 a1 (l1.take (b % (l1.length + 1))) w1 h v2 hT
 have k3 := fun w1 hE hM => load_file v1 w1 hE hM
 have k4 := fun w1 hE hM => load_file v2 w1 hE hM
 have k5 := fun w1 hE hM => load_all s w1 hE hM
 have hT := v1.file_len
 have h2 := book_take h1 (b % (l1.length + 1))
 have ht2 : (l1.take (b % (l1.length + 1))).length = b % (l1.length + 1) := by rw [List.length_take]; omega
 have hz := load_zero (s := s)
 have hzl := loaR_len s
 have hzv := loaR_vals s
 generalize b % (l1.length + 1) = F at *
 generalize l1.take F = l2 at *
 generalize loaR s = R at *
 obtain ⟨L3, z3⟩ := R
 dsimp only at hz hzl hzv
 subst ht2
 generalize hTT : (fileF l1).2 = T at *
 generalize hGG : (fileF l2).2 = G at *
 have hd1 : decide (T.take G.length = G) = !false := decide_eq_true hft.1
 refine fn_v tk (n := 125) (A := []) Tryz.func11 rfl rfl (Nat.le_of_ble_eq_true rfl) (St.nil (Below.refl _ _)) ?_
 ((conv => whnf); (repeat ((first | ((first | apply VStop.mk | apply VCall.stop); (first | (refine ot_slen Tryz.underlying9 rfl rfl rfl rfl ?_) | (refine ot_slice_hi (hi := l2.length) tk rfl rfl rfl rfl rfl rfl rfl rfl hrem (by omega) ?_) | (refine ot_sto rfl hft.2 Tryz.underlying9 rfl rfl rfl rfl rfl ?_) | (refine ot_strn _ hd1 rfl rfl rfl rfl rfl ?_)); apply ot_v tk) | (apply VCall.q; kernel_rfl; (focus (intro w1 hs; first | with_reducible apply g1 w1 (hs.book h1) | with_reducible apply k1 w1 (hs.book h1) (hE.st hs).t10 | with_reducible apply k2 w1 (hs.book h2) (hE.st hs).t10))) | (apply VLd.mk; (focus ((repeat (first | ((with_reducible apply ld_blk); exact rfl) | (with_reducible apply ld_skip))); done))) | (apply VLdN.mk; (focus ((repeat (first | (with_reducible apply ldn_blk) | (with_reducible apply ldn_skip))); done)); exact rfl) | (apply VRng.mk; omega) | apply VBr.f | (apply v_f; omega) | (apply VNew.mk; intro g hg) | (apply v_wr64; omega) | (apply VNz.mk; omega)); (conv => whnf))); apply VCall.stop)
 refine ot_callT (X := SlX) (us := []) (vs := []) (fun x => .tuple #[.agg #[.slice x.1 l1.length x.2], .int .i64 0]) (fun x => []) (fun x => [.own (.slice x.1 l1.length x.2) 61 5 l1.length (lnC l1)]) _ (fun x c hc => one_mut hc) (by decide) rfl rfl rfl rfl (by kernel_rfl) (evl_of rfl) rfl (fun w1 hs => k3 w1 (hE.st hs) (hM.st hs)) ?_
 rintro ⟨B1, c1⟩ _
 (dsimp only [List.cons_append, List.nil_append]; apply ot_v tk)
 ((conv => whnf); (repeat ((first | (apply VNew.mk; intro g hg) | (apply VSt.mk; (focus ((repeat (first | (with_reducible exact At.here) | (with_reducible apply At.there))); done)); exact rfl)); (conv => whnf))); apply VCall.stop)
 refine ot_callT (X := SlX) (us := []) (vs := []) (fun x => .tuple #[.agg #[.slice x.1 l2.length x.2], .int .i64 0]) (fun x => []) (fun x => [.own (.slice x.1 l2.length x.2) 61 5 l2.length (lnC l2)]) _ (fun x c hc => one_mut hc) (by decide) rfl rfl rfl rfl (by kernel_rfl) (evl_of rfl) rfl (fun w1 hs => k4 w1 (hE.st hs) (hM.st hs)) ?_
 rintro ⟨B2, c2⟩ _
 (dsimp only [List.cons_append, List.nil_append]; apply ot_v tk)
 have q1 := fun {A : List Chunk} {w1 : World} (hs : St w A w1) (a : Chunk.own (.slice B1 l1.length c1) 61 5 l1.length (lnC l1) ∈ A) => sameB (A2 := A1) (c2 := a1) hs a h1 rfl (by omega)
 rw [hrem]
 ((conv => whnf); (repeat ((first | (apply VCall.q; kernel_rfl; (focus (intro w1 hs; first | ((with_reducible apply q1 hs); (repeat (first | exact List.Mem.head _ | assumption | refine List.Mem.tail _ ?_)))))) | (apply VLd.mk; (focus ((repeat (first | ((with_reducible apply ld_blk); exact rfl) | (with_reducible apply ld_skip))); done))) | (apply VLdN.mk; (focus ((repeat (first | (with_reducible apply ldn_blk) | (with_reducible apply ldn_skip))); done)); exact rfl) | apply VBr.f | (apply v_f; omega) | (apply VNew.mk; intro g hg) | (apply VSt.mk; (focus ((repeat (first | (with_reducible exact At.here) | (with_reducible apply At.there))); done)); exact rfl)); (conv => whnf))); apply VCall.stop)
 refine ot_callT (X := SlX) (us := []) (vs := []) (fun x => .tuple #[.agg #[.slice x.1 L3.length x.2], .int .i64 z3]) (fun x => []) (fun x => [.own (.slice x.1 L3.length x.2) 61 5 L3.length (lnC L3)]) _ (fun x c hc => one_mut hc) (by decide) rfl rfl rfl rfl (by kernel_rfl) (evl_of rfl) rfl (fun w1 hs => k5 w1 (hE.st hs) (hM.st hs)) ?_
 rintro ⟨B3, c3⟩ _
 (dsimp only [List.cons_append, List.nil_append]; apply ot_v tk)
 by_cases h0 : z3 = 0
 ·obtain ⟨v3, h3⟩ := hz h0
  subst h0
  have k6 := fun w1 h hT => file_ok B3 c3 L3 w1 h v3 hT
  rw [h3] at k6
  have k6 := fun {A : List Chunk} {w1 : World} (hs : St w A w1) (a : Chunk.own (.slice B3 L3.length c3) 61 5 L3.length (lnC L3) ∈ A) => k6 w1 (hs.own_rd a) (hE.st hs).t10
  ((conv => whnf); (repeat ((first | ((first | apply VStop.mk | apply VCall.stop); (refine ot_strq true (decide_eq_true rfl) rfl rfl rfl rfl rfl ?_); apply ot_v tk) | (apply VCall.q; kernel_rfl; (focus (intro w1 hs; first | ((with_reducible apply k6 hs); (repeat (first | exact List.Mem.head _ | assumption | refine List.Mem.tail _ ?_))) | with_reducible apply kw w1 (hE.st hs) (hM.st hs)))) | (apply VLdN.mk; (focus ((repeat (first | (with_reducible apply ldn_blk) | (with_reducible apply ldn_skip))); done)); exact rfl) | apply VBr.t | apply VBr.f | (apply v_t; omega) | (apply v_f; omega) | (apply VNew.mk; intro g hg) | (apply VSt.mk; (focus ((repeat (first | (with_reducible exact At.here) | (with_reducible apply At.there))); done)); exact rfl)); (conv => whnf))))
  ((apply VRet.mk); refine ret1 (by first | exact .inl rfl | exact .inr rfl) rfl (by exact rv_tmp rfl) ?_; exact fun w h => ⟨rfl, h.base⟩)
 ·((conv => whnf); (repeat ((first | (apply VCall.q; kernel_rfl; (focus (intro w1 hs; first | with_reducible apply kw w1 (hE.st hs) (hM.st hs)))) | apply VBr.t | (apply v_t; omega) | (apply VNew.mk; intro g hg) | (apply VSt.mk; (focus ((repeat (first | (with_reducible exact At.here) | (with_reducible apply At.there))); done)); exact rfl)); (conv => whnf))))
  ((apply VRet.mk); refine ret1 (by first | exact .inl rfl | exact .inr rfl) rfl (by exact rv_tmp rfl) ?_; exact fun w h => ⟨rfl, h.base⟩)
end Go.Proofs.YtojeeindlijgkaaGreatDoor
