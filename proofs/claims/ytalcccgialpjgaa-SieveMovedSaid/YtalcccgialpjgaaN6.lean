/- left: lemmas for the rows of this seat. No conditions. -/
import Derived.Test.YtalcccgialpjgaaN5
set_option linter.all false
namespace Go.Proofs.Ytalcccgialpjgaa
open Go.RowKit
/-! ## left -/
/-- What is left, as a map. -/
def leftM (lo hi fl : Nat → Nat → Int) : Int × Int → Option Value := keyM (fun u v => decide (0 < res lo hi fl u v)) (intV (res lo hi fl))
section
variable (RA : Option Addr) (rc : Nat) (CA : Option Addr) (cc : Nat) (XA : Option Addr) (xc : Nat) (R C : List R2) (X : List (List R2)) (lo hi fl : Nat → Nat → Int) (gn bm fm : Nat) (w : World) (hT : NetAt w RA rc CA cc XA xc R C X lo hi fl gn bm fm) (hG : NetG R.length C.length lo hi fl)
include hT hG
set_option maxHeartbeats 4000000 in
set_option maxRecDepth 20000 in
theorem left_any : Calls Try.prog 105 #[.pointer (some ⟨gn, 0, none⟩)] w fun e w' => ∃ x : Nat, e = .returned (.map (some x)) ∧ True ∧ St w [.prd x (MapP pairE (leftM lo hi fl) [])] w' := by
 have c1 : ∀ {j u}, (netC RA rc CA cc XA xc R C X bm fm)[j]? = some u → ∀ A, CellAt w A gn j u := fun hu A => CellAt.base (hT.cell _ _ hu)
 obtain ⟨st, hb⟩ := hT.bm
 obtain ⟨arr, clock, hob, hI⟩ := hb.it
 obtain ⟨stf, hf⟩ := hT.fm
 have hfl : fm < w.heap.size := by
  obtain ⟨es, cl, hh, _⟩ := hf
  exact (Array.getElem?_eq_some_iff.1 hh).1
 have m1 : ∀ A, MapAt w A fm pairE (keyM (netE R.length C.length) (intV fl)) := mapAt_base hf hfl
 have hnil : (fun _ => none : Int × Int → Option Value) = keyM (fun _ _ => false) (intV (res lo hi fl)) := by
  funext p
  unfold keyM mapN
  split <;> rfl
 refine fn_v tk (n := 57) (A := []) Try.func105 rfl rfl (Nat.le_of_ble_eq_true rfl) (St.nil (Below.refl _ _)) ?_
 ((conv => whnf); apply VStop.mk)
 refine ot_makeMapF pairE (by decide) rfl rfl rfl (fun gl hgl => ?_)
 apply ot_v tk
 ((conv => whnf); (repeat ((apply VLd.mk; first | exact c1 rfl _); (conv => whnf))); apply VStop.mk)
 refine ot_rangeB mapB (by decide) rfl rfl rfl rfl (objAt_base hob _) (fun gi hgi => ?_)
 rw [hnil]
 apply ot_v tk
 ((conv => whnf); apply VStop.mk)
 refine v_loop (fun gm ds ts A => ds = [] ∧ ∃ (vs : List (Int × Int)) (E : Nat → Nat → Bool) (seen : Array Nat), seen.size + gm = clock ∧ ItOK pairE (keyM (netE R.length C.length) (rngV lo hi)) vs arr clock seen ∧ (∀ k ∈ vs, ∃ u v : Nat, k = ((u : Int), (v : Int)) ∧ netE R.length C.length u v = true) ∧ (∀ a b : Nat, E a b = true ↔ (((a : Int), (b : Int)) ∈ vs ∨ ((b : Int), (a : Int)) ∈ vs)) ∧ A = [.obj gi (.mapIter (some bm) clock seen clock), .prd gl (MapP pairE (keyM E (intV (res lo hi fl))) [])] ∧ ts = [(0, .pointer (some ⟨gn, 0, none⟩)), (3, .map (some gl)), (13, .pointer (some ⟨gi, 0, none⟩))]) clock
  (l := [(0, _), (3, _), (13, _)]) (B := _) ?_ (List.Sublist.refl _) ⟨rfl, [], fun _ _ => false, #[], by simp, hI, by simp, by simp, rfl, rfl⟩ ?_
 ·exact ⟨rfl, rfl, rfl, trivial⟩
 clear hI hnil
 rintro gm ds ts A ⟨rfl, vs, E, seen, hgm, hI, hvs, hE, rfl, rfl⟩
 (apply tr_v tk; (conv => whnf); apply VStop.mk)
 refine ot_nextK pairK hI rfl rfl rfl rfl rfl (objAt_base hob _) (A2 := fun s => [.obj gi (.mapIter (some bm) clock s clock), .prd gl (MapP pairE (keyM E (intV (res lo hi fl))) [])]) (fun s => .here) (fun hall => ?_) (fun e k he hek hkv hkn hI2 => ?_)
 ·have hEe : ∀ a b, E a b = true ↔ (netE R.length C.length a b = true ∨ netE R.length C.length b a = true) := fun a b => by
   have hq : ∀ u v : Nat, ((u : Int), (v : Int)) ∈ vs ↔ netE R.length C.length u v = true := fun u v => ⟨fun h => by
    obtain ⟨u', v', h1, h2⟩ := hvs _ h
    simp only [Prod.mk.injEq] at h1
    obtain rfl : u = u' := by omega
    obtain rfl : v = v' := by omega
    exact h2, fun h => hall _ (rngV lo hi u v) (by rw [keyM_nat, if_pos h])⟩
   rw [hE, hq, hq]
  clear hE hvs hI hall hgm
  apply ot_v tk
  ((conv => whnf); (repeat (apply VBr.f; (conv => whnf))); apply VStop.mk)
  refine ot_map_it (enc := pairE) (fun arr2 clock2 => [.obj gi (.mapIter (some bm) clock seen clock), .obj gl (.map arr2 clock2)]) rfl (fun _ _ => .there .here) (fun arr2 clock2 hI => ?_)
  refine ot_rangeB mapF (by decide) rfl rfl rfl rfl (objAt_mem (.tail _ (.head _))) (fun gj hgj => ?_)
  apply ot_v tk
  ((conv => whnf); apply VStop.mk)
  refine v_loop (fun gm ds ts A => ds = [] ∧ ∃ (vs : List (Int × Int)) (F : Nat → Nat → Bool) (seen : Array Nat) (arr : Array MapEntry), seen.size + gm = clock2 ∧ ItOK pairE (keyM F (intV (res lo hi fl))) vs arr clock2 seen ∧ (∀ a b : Nat, F a b = true ↔ (E a b = true ∧ (((a : Int), (b : Int)) ∈ vs → 0 < res lo hi fl a b))) ∧ A = [.obj gj (.mapIter (some gl) clock2 seen clock2), .obj gl (.map arr clock2)] ∧ ts = [(3, .map (some gl)), (46, .pointer (some ⟨gj, 0, none⟩))]) clock2
   (l := [(3, _), (46, _)]) (B := [_, _]) ?_ (.cons_cons _ (.cons _ (List.Sublist.refl _))) ⟨rfl, [], E, #[], arr2, by simp, hI, by simp, rfl, rfl⟩ ?_
  ·exact ⟨rfl, rfl, trivial⟩
  clear hI
  rintro gm2 ds ts A ⟨rfl, vs2, F, seen2, arr3, hgm, hI, hF, rfl, rfl⟩
  (apply tr_v tk; (conv => whnf); apply VStop.mk)
  refine ot_nextK pairK hI rfl rfl rfl rfl rfl (objAt_mem (.tail _ (.head _))) (A2 := fun s => [.obj gj (.mapIter (some gl) clock2 s clock2), .obj gl (.map arr3 clock2)]) (fun s => .here) (fun hall => ?_) (fun e k he hek hkv hkn hI2 => ?_)
  ·have hfin : keyM F (intV (res lo hi fl)) = leftM lo hi fl := keyM_congr (fun a b => by
    rw [Bool.eq_iff_iff, decide_eq_true_eq]
    constructor
    ·intro h
     exact ((hF a b).1 h).2 (hall _ (intV (res lo hi fl) a b) (by rw [keyM_nat, if_pos h]))
    ·intro h
     exact (hF a b).2 ⟨(hEe a b).2 (hG.edge h), fun _ => h⟩) fun _ _ _ => rfl
   rw [hfin] at hI
   apply ot_v tk
   ((conv => whnf); (repeat (apply VBr.f; (conv => whnf))))
   (apply VRet.mk)
   refine ret1 (by first | exact .inl rfl | exact .inr rfl) rfl (by exact rv_tmp rfl) ?_
   exact fun w hs => ⟨gl, rfl, trivial, Pick.st (by ((try dsimp only); repeat (first | exact Pick.nil | ((apply Pick.cons); (focus (repeat (first | exact Rem.here | apply Rem.there)); done))))) (hs.map_done hI (.there .here))⟩
  obtain ⟨u, v, rfl, huv, hval⟩ := keyM_some hkv
  rw [hval]
  have hs := hI2.size
  rw [Array.size_push] at hs
  apply ot_v tk
  by_cases hr : res lo hi fl u v ≤ 0
  ·((conv => whnf); (repeat ((first | (apply VStop.mk; (first | (refine ot_entryK hI2 rfl rfl rfl rfl (objAt_mem (.tail _ (.head _))) (.head _) he hek ?_; rw [hval]) | (refine ot_delK (k := ((u : Int), (v : Int))) (A'v := fun a => [_, _, .obj gl (.map a clock2)]) pairK mapF hI2 rfl rfl rfl rfl rfl (by exact rfl) (fun a => .there (.there .here)) (fun arr4 hI4 => ?_))); apply ot_v tk) | (apply VLdN.mk; (focus ((repeat (first | (with_reducible apply ldn_blk) | (with_reducible apply ldn_skip))); done)); exact rfl) | apply VBr.t | (apply v_t; omega) | (apply VNew.mk; intro g hg) | (apply VSt.mk; (focus ((repeat (first | (with_reducible exact At.here) | (with_reducible apply At.there))); done)); exact rfl)); (conv => whnf))))
   rw [keyM_del] at hI4
   refine v_rnd (gm2 - 1) (by omega) (l := [(3, _), (46, _)]) (B := [_, _]) ⟨rfl, rfl, trivial⟩ (.cons _ (List.Sublist.refl _)) ⟨rfl, vs2 ++ [((u : Int), (v : Int))], _, seen2.push e.born, arr4, by rw [Array.size_push]; omega, hI4, fun a b => ?_, rfl, rfl⟩
   rw [Bool.and_eq_true, Bool.not_eq_true', decide_eq_false_iff_not, hF, List.mem_append, List.mem_singleton, Prod.mk.injEq]
   have e1 : (a : Int) = u ↔ a = u := by omega
   have e2 : (b : Int) = v ↔ b = v := by omega
   rw [e1, e2]
   constructor
   ·rintro ⟨⟨h1, h2⟩, h3⟩
    exact ⟨h1, fun h => h.elim h2 fun h => absurd h h3⟩
   ·rintro ⟨h1, h2⟩
    refine ⟨⟨h1, fun h => h2 (.inl h)⟩, ?_⟩
    rintro ⟨rfl, rfl⟩
    have := h2 (.inr ⟨rfl, rfl⟩)
    omega
  ·((conv => whnf); (repeat ((first | (apply VStop.mk; (refine ot_entryK hI2 rfl rfl rfl rfl (objAt_mem (.tail _ (.head _))) (.head _) he hek ?_; rw [hval]); apply ot_v tk) | apply VBr.t | apply VBr.f | (apply v_f; omega) | (apply VNew.mk; intro g hg) | (apply VSt.mk; (focus ((repeat (first | (with_reducible exact At.here) | (with_reducible apply At.there))); done)); exact rfl)); (conv => whnf))))
   refine v_rnd (gm2 - 1) (by omega) (l := [(3, _), (46, _)]) (B := [_, _]) ⟨rfl, rfl, trivial⟩ (.cons _ (List.Sublist.refl _)) ⟨rfl, vs2 ++ [((u : Int), (v : Int))], F, seen2.push e.born, arr3, by rw [Array.size_push]; omega, hI2, fun a b => ?_, rfl, rfl⟩
   rw [hF, List.mem_append, List.mem_singleton, Prod.mk.injEq]
   have e1 : (a : Int) = u ↔ a = u := by omega
   have e2 : (b : Int) = v ↔ b = v := by omega
   rw [e1, e2]
   constructor
   ·rintro ⟨h1, h2⟩
    refine ⟨h1, fun h => h.elim h2 ?_⟩
    rintro ⟨rfl, rfl⟩
    omega
   ·rintro ⟨h1, h2⟩
    exact ⟨h1, fun h => h2 (.inl h)⟩
 obtain ⟨u, v, rfl, huv, hval⟩ := keyM_some hkv
 rw [hval]
 have hr := hG.res huv
 have hs := hI2.size
 rw [Array.size_push] at hs
 have hsm := hG.sg u v
 have hsl := hG.slo u v
 have hsh := hG.shi u v
 have hk1 := keyM_upd E (intV (res lo hi fl)) (intV (res lo hi fl)) u v (.int .i64 (hi u v - fl u v)) (by unfold intV; rw [hr.1]) fun _ _ _ _ => rfl
 have hk2 := keyM_upd (fun a b => E a b || decide (a = u ∧ b = v)) (intV (res lo hi fl)) (intV (res lo hi fl)) v u (.int .i64 (fl u v - lo u v)) (by unfold intV; rw [hr.2]) fun _ _ _ _ => rfl
 have hlk : keyM (netE R.length C.length) (intV fl) ((u : Int), (v : Int)) = some (.int .i64 (fl u v)) := by rw [keyM_nat, if_pos huv]; rfl
 apply ot_v tk
 ((conv => whnf); (repeat ((first | (apply VStop.mk; (first | (refine ot_entryK hI2 rfl rfl rfl rfl (objAt_base hob _) (.head _) he hek ?_; rw [hval]) | refine tr_region_lex (id := 5) (by kernel_rfl) [.rd, .rd, .rd, .rd, .rd, .rd, .rd, .rd, .rd, .rd, .rd, .wr] rfl (by kernel_rfl) ?_ | refine tr_region_lex (id := 6) (by kernel_rfl) [.rd, .rd, .rd, .rd, .rd, .rd, .rd, .rd, .rd, .rd, .rd, .rd, .rd, .rd, .rd, .wr] rfl (by kernel_rfl) ?_ | (refine ot_look_v hlk pairK mapF zv2 rfl rfl rfl rfl (by exact rfl) (m1 _) ?_) | (refine ot_updF (k := ((u : Int), (v : Int))) pairK mapF rfl rfl rfl rfl rfl (by exact rfl) (by exact rfl) (.there (.there (.there .here))) ?_; rw [hk1]) | (refine ot_updF (k := ((v : Int), (u : Int))) pairK mapF rfl rfl rfl rfl rfl (by exact rfl) (by exact rfl) (.there (.there (.there .here))) ?_; rw [hk2])); apply ot_v tk) | (apply VLd.mk; first | exact c1 rfl _) | (apply VLd.mk; (focus ((repeat (first | ((with_reducible apply ld_blk); exact rfl) | (with_reducible apply ld_skip))); done))) | (apply VLdN.mk; (focus ((repeat (first | (with_reducible apply ldn_blk) | (with_reducible apply ldn_skip))); done)); exact rfl) | (apply VRng.mk; omega) | apply VBr.t | (apply VNew.mk; intro g hg) | (apply VSt.mk; (focus ((repeat (first | (with_reducible exact At.here) | (with_reducible apply At.there))); done)); exact rfl)); (conv => whnf))))
 refine v_rnd (gm - 1) (by omega) (l := [(0, _), (3, _), (13, _)]) (B := _) ⟨rfl, rfl, rfl, trivial⟩ (.cons _ (.cons _ (List.Sublist.refl _))) ⟨rfl, vs ++ [((u : Int), (v : Int))], _, seen.push e.born, by rw [Array.size_push]; omega, hI2, fun k hk => ?_, fun a b => ?_, rfl, rfl⟩
 ·rcases List.mem_append.1 hk with hk | hk
  ·exact hvs k hk
  ·exact ⟨u, v, List.mem_singleton.1 hk, huv⟩
 ·rw [Bool.or_eq_true, Bool.or_eq_true, hE, decide_eq_true_eq, decide_eq_true_eq, List.mem_append, List.mem_append, List.mem_singleton, List.mem_singleton, Prod.mk.injEq, Prod.mk.injEq]
  have e1 : (a : Int) = u ↔ a = u := by omega
  have e2 : (b : Int) = v ↔ b = v := by omega
  have e3 : (b : Int) = u ↔ b = u := by omega
  have e4 : (a : Int) = v ↔ a = v := by omega
  rw [e1, e2, e3, e4]
  constructor
  ·rintro ((h | h) | h)
   ·exact h.imp .inl .inl
   ·exact .inl (.inr h)
   ·exact .inr (.inr h.symm)
  ·rintro ((h | h) | (h | h))
   ·exact .inl (.inl (.inl h))
   ·exact .inl (.inr h)
   ·exact .inl (.inl (.inr h))
   ·exact .inr h.symm
end
end Go.Proofs.Ytalcccgialpjgaa
