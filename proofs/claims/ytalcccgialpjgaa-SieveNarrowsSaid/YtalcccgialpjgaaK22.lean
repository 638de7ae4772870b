/- CellOf: lemmas for the rows of this seat. No conditions. -/
import Derived.Test.YtalcccgialpjgaaM18
import Derived.Test.YtalcccgialpjgaaM22
set_option linter.all false
namespace Go.Proofs.Ytalcccgialpjgaa
open Go.RowKit
/-! ## CellOf -/
section
variable (RA : Option Addr) (rc : Nat) (CA : Option Addr) (cc : Nat) (XA : Option Addr) (xc : Nat) (R C : List R2) (X : List (List R2)) (w : World) (hT : TabR w RA CA XA R C X)
include hT
set_option maxHeartbeats 2000000 in
set_option maxRecDepth 20000 in
theorem cellOf_any (hV : Valid R C X) (hH : HasT R C X) (i k : Nat) (hi : i < R.length) (hk : k < C.length) : Calls Try.prog 74 #[tabV RA rc CA cc XA xc R C X, .int .i64 (i : Int), .int .i64 (k : Int)] w fun e w' => e = .returned (.agg #[.int .i64 (cellR R C X i k).1, .int .i64 (cellR R C X i k).2]) ∧ Below w.heap.size w w' := by
  have hn4 := hV.r4
  have hm4 := hV.c4
  have hxl := hV.x
  have hx := hV.rX hi hk
  have hok := cellR_ok hH hi hk
  have hxk := hV.xs _ (List.getElem_mem (show i < X.length by omega))
  obtain ⟨xb, xo, rfl, B, c, hce, hrd⟩ := nest_gen hT.x (show i < X.length by omega)
  obtain ⟨b2, o2, rfl, _⟩ := hrd.2 (by omega)
  have k2 : ∀ Ch, CellsAt w Ch b2 (o2 + k * 2) [.int .i64 (xAt X i k).1, .int .i64 (xAt X i k).2] := by
    have := rg_cells hrd (k := k) (by omega) (by omega)
    unfold xAt
    rw [List.getElem?_eq_getElem (by omega), Option.getD_some]
    exact this
  have hwi := fun w1 (h : TabR w1 RA CA (some ⟨xb, xo, none⟩) R C X) r => with_any RA rc CA cc (some ⟨xb, xo, none⟩) xc R C X w1 h hV i k hi hk r
  have hbl : (xAt X i k).1 ≤ (cellR R C X i k).1 ∧ (cellR R C X i k).1 ≤ (cellR R C X i k).2 ∧ (cellR R C X i k).2 ≤ (xAt X i k).2 := by
    obtain ⟨f, hf, e1⟩ := hok.lo
    obtain ⟨f', hf', e2⟩ := hok.hi
    have := hf.x i k hi hk
    have := hf'.x i k hi hk
    have := (hok.all _ hok.lo).2
    omega
  have hva : ∀ t : Int, 0 ≤ t ∧ t ≤ 12 → Valid R C (setX X i k (t, t)) := fun t ht => hV.setX hi hk (rangeB_iff.2 (by dsimp only; omega))
  have his := fun (x : TabX) t w1 (h : TabR w1 x.r.1 x.c.1 x.x.1 R C (setX X i k (t, t))) hv => is_any x.r.1 x.r.2 x.c.1 x.c.2 x.x.1 x.x.2 R C (setX X i k (t, t)) w1 h hv
  have hha : ∀ t : Int, (xAt X i k).1 ≤ t → t ≤ (xAt X i k).2 → (HasT R C (setX X i k (t, t)) ↔ cellP R C X i k t) := fun t h1 h2 => hasT_setX hV hi hk ⟨h1, h2⟩
  unfold tabV at *
  refine fn_v tk (n := 47) (A := []) Try.func74 rfl rfl (Nat.le_of_ble_eq_true rfl) (St.nil (Below.refl _ _)) ?_
  ((try first | apply tr_v tk | apply ot_v tk); (conv => whnf); (repeat ((first | (apply VIx.mk (j := i); exact rfl; omega) | (apply VIx.mk (j := k); exact rfl; omega) | (apply VLd.mk; first | exact hce _) | (apply VLdN.mk; (first | exact k2 _); exact rfl) | (apply VLd.mk; (focus ((repeat (first | ((with_reducible apply ld_blk); exact rfl) | (with_reducible apply ld_skip))); done))) | (apply VNew.mk; intro g hg) | (apply VSt.mk; (focus ((repeat (first | (with_reducible exact At.here) | (with_reducible apply At.there))); done)); exact rfl)); (conv => whnf))); try (first | apply VStop.mk | apply VCall.stop))
  revert g hg
  intro g7 hg7
  revert g hg
  intro g6 hg6
  revert g hg
  intro g3 hg3
  refine v_loop (fun gm ds ts A => ds = [] ∧ ∃ t : Int, (xAt X i k).1 ≤ t ∧ t ≤ (cellR R C X i k).1 ∧ t + gm = (cellR R C X i k).1 ∧ A = [.blk g7 37 [.int .i64 t, .int .i64 (xAt X i k).2], .blk g6 37 [.int .i64 0, .int .i64 0], .blk g3 25 [.slice RA R.length rc, .slice CA C.length cc, .slice (some ⟨xb, xo, none⟩) X.length xc]] ∧ ts = [(1, .int .i64 (i : Int)), (2, .int .i64 (k : Int)), (3, .pointer (some ⟨g3, 0, none⟩)), (6, .pointer (some ⟨g6, 0, none⟩)), (7, .pointer (some ⟨g7, 0, none⟩))]) ((cellR R C X i k).1 - (xAt X i k).1).toNat
    (l := [(1, _), (2, _), (3, _), (6, _), (7, _)]) (B := _) ?_ (List.Sublist.refl _) ⟨rfl, (xAt X i k).1, by omega, by omega, by omega, rfl, rfl⟩ ?_
  · exact ⟨rfl, rfl, rfl, rfl, rfl, trivial⟩
  rintro gm ds ts A ⟨rfl, t, ht1, ht2, ht3, rfl, rfl⟩
  by_cases hlt : gm = 0
  rotate_left
  · have hno : ¬HasT R C (setX X i k (t, t)) := by
      rw [hha t (by omega) (by omega)]
      intro h
      have := (hok.all _ h).1
      omega
    ((try first | apply tr_v tk | apply ot_v tk); (conv => whnf); (repeat ((first | (apply VLd.mk; (focus ((repeat (first | ((with_reducible apply ld_blk); exact rfl) | (with_reducible apply ld_skip))); done))) | (apply VLdN.mk; (focus ((repeat (first | (with_reducible apply ldn_blk) | (with_reducible apply ldn_skip))); done)); exact rfl)); (conv => whnf))); try (first | apply VStop.mk | apply VCall.stop))
    refine ot_callT (X := TabX) (us := []) (vs := []) (fun x => tabX x R C (setX X i k (t, t))) (fun x => []) (fun x => tabCh R C (setX X i k (t, t)) x) _ (fun x c hc => tabCh_mut (x := x) c hc) (by decide) rfl rfl rfl rfl (by kernel_rfl) (evl_of rfl) rfl (fun w1 hs => hwi w1 (hs.tab hT) (t, t)) ?_
    intro x hx
    have h2 := fun w1 h => his x t w1 h (hva t (by omega)) false (by simp [hno])
    unfold tabX tabV at *
    dsimp only [List.cons_append, List.nil_append]
    apply ot_v tk
    have h3 := fun w1 (hs : St w (.blk g7 37 [.int .i64 t, .int .i64 (xAt X i k).2] :: .blk g6 37 [.int .i64 0, .int .i64 0] :: .blk g3 25 [.slice RA R.length rc, .slice CA C.length cc, .slice (some ⟨xb, xo, none⟩) X.length xc] :: tabCh R C (setX X i k (t, t)) x) w1) => h2 w1 (hs.tabX x hx (fun d hd => .tail _ (.tail _ (.tail _ hd))))
    ((try first | apply tr_v tk | apply ot_v tk); (conv => whnf); (repeat ((first | (apply VCall.q; kernel_rfl; (focus (intro w1 hs; first | with_reducible apply h3 w1 hs))) | (apply VLd.mk; (focus ((repeat (first | ((with_reducible apply ld_blk); exact rfl) | (with_reducible apply ld_skip))); done))) | (apply VRng.mk; omega) | apply VBr.t | (apply VSt.mk; (focus ((repeat (first | (with_reducible exact At.here) | (with_reducible apply At.there))); done)); exact rfl)); (conv => whnf))); try (first | apply VStop.mk | apply VCall.stop))
    exact v_rnd (gm - 1) (by omega) (l := [(1, _), (2, _), (3, _), (6, _), (7, _)]) (B := [.blk g7 37 [.int .i64 (t + 1), .int .i64 (xAt X i k).2], .blk g6 37 [.int .i64 0, .int .i64 0], .blk g3 25 [.slice RA R.length rc, .slice CA C.length cc, .slice (some ⟨xb, xo, none⟩) X.length xc]]) ⟨rfl, rfl, rfl, rfl, rfl, trivial⟩ (.cons_cons _ (.cons_cons _ (.cons_cons _ (List.nil_sublist _)))) ⟨rfl, t + 1, by omega, by omega, by omega, rfl, rfl⟩
  obtain rfl : t = (cellR R C X i k).1 := by omega
  have hyes : HasT R C (setX X i k ((cellR R C X i k).1, (cellR R C X i k).1)) := by
    rw [hha _ (by omega) (by omega)]
    exact hok.lo
  ((try first | apply tr_v tk | apply ot_v tk); (conv => whnf); (repeat ((first | (apply VLd.mk; (focus ((repeat (first | ((with_reducible apply ld_blk); exact rfl) | (with_reducible apply ld_skip))); done))) | (apply VLdN.mk; (focus ((repeat (first | (with_reducible apply ldn_blk) | (with_reducible apply ldn_skip))); done)); exact rfl)); (conv => whnf))); try (first | apply VStop.mk | apply VCall.stop))
  refine ot_callT (X := TabX) (us := []) (vs := []) (fun x => tabX x R C (setX X i k ((cellR R C X i k).1, (cellR R C X i k).1))) (fun x => []) (fun x => tabCh R C (setX X i k ((cellR R C X i k).1, (cellR R C X i k).1)) x) _ (fun x c hc => tabCh_mut (x := x) c hc) (by decide) rfl rfl rfl rfl (by kernel_rfl) (evl_of rfl) rfl (fun w1 hs => hwi w1 (hs.tab hT) ((cellR R C X i k).1, (cellR R C X i k).1)) ?_
  intro x hx
  have h2 := fun w1 h => his x (cellR R C X i k).1 w1 h (hva _ (by omega)) true (by simp [hyes])
  clear hlt ht1 ht2 ht3
  unfold tabX tabV at *
  dsimp only [List.cons_append, List.nil_append]
  apply ot_v tk
  have h3 := fun w1 (hs : St w (.blk g7 37 [.int .i64 (cellR R C X i k).1, .int .i64 (xAt X i k).2] :: .blk g6 37 [.int .i64 0, .int .i64 0] :: .blk g3 25 [.slice RA R.length rc, .slice CA C.length cc, .slice (some ⟨xb, xo, none⟩) X.length xc] :: tabCh R C (setX X i k ((cellR R C X i k).1, (cellR R C X i k).1)) x) w1) => h2 w1 (hs.tabX x hx (fun d hd => .tail _ (.tail _ (.tail _ hd))))
  ((try first | apply tr_v tk | apply ot_v tk); (conv => whnf); (repeat ((first | (apply VCall.q; kernel_rfl; (focus (intro w1 hs; first | with_reducible apply h3 w1 hs))) | apply VBr.f); (conv => whnf))); try (first | apply VStop.mk | apply VCall.stop))
  refine v_loop (fun gm ds ts A => ds = [] ∧ ∃ t : Int, (cellR R C X i k).2 ≤ t ∧ t ≤ (xAt X i k).2 ∧ (cellR R C X i k).2 + gm = t ∧ A = [.blk g7 37 [.int .i64 (cellR R C X i k).1, .int .i64 t], .blk g6 37 [.int .i64 0, .int .i64 0], .blk g3 25 [.slice RA R.length rc, .slice CA C.length cc, .slice (some ⟨xb, xo, none⟩) X.length xc]] ∧ ts = [(1, .int .i64 (i : Int)), (2, .int .i64 (k : Int)), (3, .pointer (some ⟨g3, 0, none⟩)), (6, .pointer (some ⟨g6, 0, none⟩)), (7, .pointer (some ⟨g7, 0, none⟩))]) ((xAt X i k).2 - (cellR R C X i k).2).toNat
    (l := [(1, _), (2, _), (3, _), (6, _), (7, _)]) (B := [.blk g7 37 [.int .i64 (cellR R C X i k).1, .int .i64 (xAt X i k).2], .blk g6 37 [.int .i64 0, .int .i64 0], .blk g3 25 [.slice RA R.length rc, .slice CA C.length cc, .slice (some ⟨xb, xo, none⟩) X.length xc]]) ?_ (.cons_cons _ (.cons_cons _ (.cons_cons _ (List.nil_sublist _)))) ⟨rfl, (xAt X i k).2, by omega, by omega, by omega, rfl, rfl⟩ ?_
  · exact ⟨rfl, rfl, rfl, rfl, rfl, trivial⟩
  rintro gm ds ts A ⟨rfl, t, ht1, ht2, ht3, rfl, rfl⟩
  by_cases hlt : gm = 0
  rotate_left
  · have hno : ¬HasT R C (setX X i k (t, t)) := by
      rw [hha t (by omega) (by omega)]
      intro h
      have := (hok.all _ h).2
      omega
    ((try first | apply tr_v tk | apply ot_v tk); (conv => whnf); (repeat ((first | (apply VLd.mk; (focus ((repeat (first | ((with_reducible apply ld_blk); exact rfl) | (with_reducible apply ld_skip))); done))) | (apply VLdN.mk; (focus ((repeat (first | (with_reducible apply ldn_blk) | (with_reducible apply ldn_skip))); done)); exact rfl)); (conv => whnf))); try (first | apply VStop.mk | apply VCall.stop))
    refine ot_callT (X := TabX) (us := []) (vs := []) (fun x => tabX x R C (setX X i k (t, t))) (fun x => []) (fun x => tabCh R C (setX X i k (t, t)) x) _ (fun x c hc => tabCh_mut (x := x) c hc) (by decide) rfl rfl rfl rfl (by kernel_rfl) (evl_of rfl) rfl (fun w1 hs => hwi w1 (hs.tab hT) (t, t)) ?_
    intro x hx
    have h2 := fun w1 h => his x t w1 h (hva t (by omega)) false (by simp [hno])
    unfold tabX tabV at *
    dsimp only [List.cons_append, List.nil_append]
    apply ot_v tk
    have h3 := fun w1 (hs : St w (.blk g7 37 [.int .i64 (cellR R C X i k).1, .int .i64 t] :: .blk g6 37 [.int .i64 0, .int .i64 0] :: .blk g3 25 [.slice RA R.length rc, .slice CA C.length cc, .slice (some ⟨xb, xo, none⟩) X.length xc] :: tabCh R C (setX X i k (t, t)) x) w1) => h2 w1 (hs.tabX x hx (fun d hd => .tail _ (.tail _ (.tail _ hd))))
    ((try first | apply tr_v tk | apply ot_v tk); (conv => whnf); (repeat ((first | (apply VCall.q; kernel_rfl; (focus (intro w1 hs; first | with_reducible apply h3 w1 hs))) | (apply VLd.mk; (focus ((repeat (first | ((with_reducible apply ld_blk); exact rfl) | (with_reducible apply ld_skip))); done))) | (apply VRng.mk; omega) | apply VBr.t | (apply VSt.mk; (focus ((repeat (first | (with_reducible exact At.here) | (with_reducible apply At.there))); done)); exact rfl)); (conv => whnf))); try (first | apply VStop.mk | apply VCall.stop))
    exact v_rnd (gm - 1) (by omega) (l := [(1, _), (2, _), (3, _), (6, _), (7, _)]) (B := [.blk g7 37 [.int .i64 (cellR R C X i k).1, .int .i64 (t - 1)], .blk g6 37 [.int .i64 0, .int .i64 0], .blk g3 25 [.slice RA R.length rc, .slice CA C.length cc, .slice (some ⟨xb, xo, none⟩) X.length xc]]) ⟨rfl, rfl, rfl, rfl, rfl, trivial⟩ (.cons_cons _ (.cons_cons _ (.cons_cons _ (List.nil_sublist _)))) ⟨rfl, t - 1, by omega, by omega, by omega, rfl, rfl⟩
  obtain rfl : t = (cellR R C X i k).2 := by omega
  have hyes : HasT R C (setX X i k ((cellR R C X i k).2, (cellR R C X i k).2)) := by
    rw [hha _ (by omega) (by omega)]
    exact hok.hi
  ((try first | apply tr_v tk | apply ot_v tk); (conv => whnf); (repeat ((first | (apply VLd.mk; (focus ((repeat (first | ((with_reducible apply ld_blk); exact rfl) | (with_reducible apply ld_skip))); done))) | (apply VLdN.mk; (focus ((repeat (first | (with_reducible apply ldn_blk) | (with_reducible apply ldn_skip))); done)); exact rfl)); (conv => whnf))); try (first | apply VStop.mk | apply VCall.stop))
  refine ot_callT (X := TabX) (us := []) (vs := []) (fun x => tabX x R C (setX X i k ((cellR R C X i k).2, (cellR R C X i k).2))) (fun x => []) (fun x => tabCh R C (setX X i k ((cellR R C X i k).2, (cellR R C X i k).2)) x) _ (fun x c hc => tabCh_mut (x := x) c hc) (by decide) rfl rfl rfl rfl (by kernel_rfl) (evl_of rfl) rfl (fun w1 hs => hwi w1 (hs.tab hT) ((cellR R C X i k).2, (cellR R C X i k).2)) ?_
  intro x hx
  have h2 := fun w1 h => his x (cellR R C X i k).2 w1 h (hva _ (by omega)) true (by simp [hyes])
  clear hlt ht1 ht2 ht3
  unfold tabX tabV at *
  dsimp only [List.cons_append, List.nil_append]
  apply ot_v tk
  have h3 := fun w1 (hs : St w (.blk g7 37 [.int .i64 (cellR R C X i k).1, .int .i64 (cellR R C X i k).2] :: .blk g6 37 [.int .i64 0, .int .i64 0] :: .blk g3 25 [.slice RA R.length rc, .slice CA C.length cc, .slice (some ⟨xb, xo, none⟩) X.length xc] :: tabCh R C (setX X i k ((cellR R C X i k).2, (cellR R C X i k).2)) x) w1) => h2 w1 (hs.tabX x hx (fun d hd => .tail _ (.tail _ (.tail _ hd))))
  ((try first | apply tr_v tk | apply ot_v tk); (conv => whnf); (repeat ((first | (apply VCall.q; kernel_rfl; (focus (intro w1 hs; first | with_reducible apply h3 w1 hs))) | (apply VLdN.mk; (focus ((repeat (first | (with_reducible apply ldn_blk) | (with_reducible apply ldn_skip))); done)); exact rfl) | apply VBr.f | (apply VSt.mk; (focus ((repeat (first | (with_reducible exact At.here) | (with_reducible apply At.there))); done)); exact rfl)); (conv => whnf))); try (first | apply VStop.mk | apply VCall.stop))
  (apply VRet.mk)
  refine ret1 (by first | exact .inl rfl | exact .inr rfl) rfl (by exact rv_row tk rfl rfl rfl (by first | exact cells_blk_all (by (repeat (first | exact List.Mem.head _ | assumption | refine List.Mem.tail _ ?_))) | exact cells_row0 (by (repeat (first | exact List.Mem.head _ | assumption | refine List.Mem.tail _ ?_)))) rfl) ?_
  exact fun w h => ⟨rfl, h.base⟩
end
end Go.Proofs.Ytalcccgialpjgaa
