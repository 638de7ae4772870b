/- A cut: what is known behind a piece of code, in whatever order it came: lemmas for the rows of this seat. No conditions. -/
import Derived.Test.YtalcccgialpjgaaV3
import Derived.Test.YtalcccgialpjgaaN3
set_option linter.all false
namespace Go.Proofs.Ytalcccgialpjgaa
open Go.RowKit
/-! ## A cut: what is known behind a piece of code, in whatever order it came -/
inductive Rem (c : Chunk) : List Chunk → List Chunk → Prop
 | here {A : List Chunk} : Rem c (c :: A) A
 | there {d : Chunk} {A B : List Chunk} (h : Rem c A B) : Rem c (d :: A) (d :: B)
inductive Pick : List Chunk → List Chunk → Prop
 | nil {A : List Chunk} : Pick [] A
 | cons {c : Chunk} {A A' B : List Chunk} (h : Rem c A A') (hB : Pick B A') : Pick (c :: B) A
theorem Rem.perm {c : Chunk} : ∀ {A B : List Chunk}, Rem c A B → A.Perm (c :: B)
 | _, _, .here => .refl _
 | _, _, .there h => (h.perm.cons _).trans (.swap _ _ _)
theorem Pick.perm : ∀ {B A : List Chunk}, Pick B A → ∃ C, A.Perm (B ++ C)
 | _, A, .nil => ⟨A, .refl _⟩
 | _, _, .cons h hB => by
  obtain ⟨C, h2⟩ := hB.perm
  exact ⟨C, h.perm.trans (h2.cons _)⟩
theorem Pick.st {B A : List Chunk} {w0 w : World} (h : Pick B A) (hs : St w0 A w) : St w0 B w := by
 obtain ⟨C, h2⟩ := h.perm
 exact (hs.perm h2).sub (List.sublist_append_left _ _)
inductive VJ {X : Type} (J : X → TS × List Chunk) (ds0 ds : List Deferred) (ts : TS) (A : List Chunk) : Prop
 | mk (x : X) (h1 : ds = ds0) (h2 : subT (J x).1 ts) (h3 : Pick (J x).2 A)
section
variable {P : Program} {w0 : World} {n : Nat} {r : Option Nat} {ds : List Deferred} {ts : TS} {A : List Chunk} {Q : PostT}
theorem tr_pick {c : Code} {l : TS} {B : List Chunk} (hl : subT l ts) (hB : Pick B A) (h : Tr P r w0 n c ds l B Q) : Tr P r w0 n c ds ts A Q :=
 tr_st (fun _ hs => hB.st hs) (tr_weak hl (List.Sublist.refl _) h)
theorem tr_cut {X : Type} (J : X → TS × List Chunk) {c1 c2 : Code} (h : Tr P r w0 n c1 ds ts A (thenQ (VJ J ds) Q)) (k : ∀ x, Tr P r w0 n c2 ds (J x).1 (J x).2 Q) : Tr P r w0 n (.seq c1 c2) ds ts A Q :=
 tr_seq (tr_mono h fun e ds' ts' A' q => by
  cases e with
  | normal =>
   obtain ⟨x, rfl, h2, h3⟩ := q
   exact tr_pick h2 h3 (k x)
  | _ => exact q)
end
section
variable {P : Program} {w0 : World} {n : Nat} {ds : List Deferred} {ops : List Oper} {K : TS → List Chunk → Prop}
theorem otx_anyV {A0 : List Chunk} {kd : Nat → Kind} {D done todo F : List Nat} {x : Nat} {ts : TS} {A : List Chunk} (l : List Nat) (hf : frees ops done todo = l) (hne : l ≠ [])
  (h : allP l fun i => treeB ops D done todo i = true ∧ kd i ≠ .rd ∧ OT P w0 n ds ops [nthO ops i] [kd i] ts A fun ts' A' => A0.Sublist A' ∧ VT (OTX P w0 n ds ops A0 kd D F (done ++ [i]) (todo.erase i) ts' A' K)) : OTX P w0 n ds ops A0 kd D (x :: F) done todo ts A K := by
 subst hf
 refine ⟨fun e => hne (by rw [e]; rfl), ?_⟩
 generalize frees ops done todo = l at *
 clear hne
 induction l with
 | nil => trivial
 | cons i l ih => exact ⟨⟨⟨h.1.1, h.1.2.1⟩, ot_mono (fun _ _ h => ⟨h.1, vt_of h.2⟩) h.1.2.2⟩, ih h.2⟩
end
/-! ## Rows of numbers by functions -/
def fnC (f : Nat → Int) (n : Nat) : List Value := (List.range n).map fun i => .int .i64 (f i)
theorem fnC_length (f : Nat → Int) (n : Nat) : (fnC f n).length = n := by simp [fnC]
theorem fnC_get {f : Nat → Int} {n i : Nat} (h : i < n) : (fnC f n)[i]? = some (.int .i64 (f i)) := by
 simp [fnC, h]
theorem fnC_set (f : Nat → Int) (n j : Nat) (v : Int) : (fnC f n).set j (.int .i64 v) = fnC (fun i => if i = j then v else f i) n := by
 apply List.ext_getElem?
 intro i
 rw [List.getElem?_set]
 by_cases hij : j = i
 ·subst hij
  by_cases hj : j < n
  ·rw [if_pos rfl, if_pos (by rw [fnC_length]; exact hj), fnC_get hj, if_pos rfl]
  ·rw [if_pos rfl, if_neg (by rw [fnC_length]; exact hj)]
   rw [List.getElem?_eq_none (by rw [fnC_length]; omega)]
 ·rw [if_neg hij]
  by_cases hi : i < n
  ·rw [fnC_get hi, fnC_get hi, if_neg (by omega)]
  ·rw [List.getElem?_eq_none (by rw [fnC_length]; omega), List.getElem?_eq_none (by rw [fnC_length]; omega)]
theorem fnC_congr {f g : Nat → Int} {n : Nat} (h : ∀ i, i < n → f i = g i) : fnC f n = fnC g n := by
 apply List.ext_getElem?
 intro i
 by_cases hi : i < n
 ·rw [fnC_get hi, fnC_get hi, h i hi]
 ·rw [List.getElem?_eq_none (by rw [fnC_length]; omega), List.getElem?_eq_none (by rw [fnC_length]; omega)]
theorem fnC_zero (n : Nat) : List.replicate n (.int .i64 0) = fnC (fun _ => 0) n := by
 apply List.ext_getElem?
 intro i
 by_cases hi : i < n
 ·rw [fnC_get hi, List.getElem?_replicate, if_pos hi]
 ·rw [List.getElem?_replicate, if_neg hi, List.getElem?_eq_none (by rw [fnC_length]; omega)]
theorem ble_fnC {v : Value} {f : Nat → Int} {n o : Nat} (h : o < n) : Nat.ble (o + [v].length) (fnC f n).length = true := ble_one _ (by rw [fnC_length]; exact h)
theorem setMany_fnC {f : Nat → Int} {n o : Nat} {v : Int} (h : o < n) : setMany (fnC f n) o [.int .i64 v] = fnC (fun i => if i = o then v else f i) n := by
 rw [setMany_one _ (by rw [fnC_length]; exact h), fnC_set]
theorem setMany_fnC1 {f : Nat → Int} {n o : Nat} {v : Int} (h : o < n) : setMany (fnC f n) (0 + o * 1) [.int .i64 v] = fnC (fun i => if i = o then v else f i) n := by
 rw [Nat.zero_add, Nat.mul_one, setMany_fnC h]
theorem cell_fnC {w0 : World} {A : List Chunk} {g t n j : Nat} {f : Nat → Int} (h : .blk g t (fnC f n) ∈ A) (hj : j < n) : CellAt w0 A g (0 + j * 1) (.int .i64 (f j)) := by
 rw [Nat.zero_add, Nat.mul_one]
 exact cell_blk h (fnC_get hj)
/-! ## CheckTruth -/
theorem num_row {w : World} {nb no : Nat} {L : List (List Int)} (hN : NestR w 1 (some ⟨nb, no, none⟩) (nestI L)) {i : Nat} (hi : i < L.length) (h0 : 0 < L[i].length) :
  ∃ B2 o2 c', (∀ Ch, CellAt w Ch nb (no + i * 1) (.slice (some ⟨B2, o2, none⟩) L[i].length c')) ∧ ∀ k, k < L[i].length → ∀ Ch, CellAt w Ch B2 (o2 + k * 1) (.int .i64 (nAt L i k)) := by
 obtain ⟨b, o, he, B, c, h1, h2⟩ := nest_gen hN hi
 cases he
 obtain ⟨b2, o2, rfl, _⟩ := h2.2 (by omega)
 refine ⟨b2, o2, c, h1, fun k hk Ch => ?_⟩
 have := int_cell h2 hk Ch
 unfold nAt
 rw [List.getElem?_eq_getElem hi, Option.getD_some]
 exact this
section
variable (RA : Option Addr) (rc : Nat) (CA : Option Addr) (cc : Nat) (XA : Option Addr) (xc : Nat) (R C : List R2) (X : List (List R2)) (w : World) (hT : TabR w RA CA XA R C X) (NA : Option Addr) (nc : Nat) (L : List (List Int)) (hN : NestR w 1 NA (nestI L))
include hT hN
set_option maxHeartbeats 4000000 in
set_option maxRecDepth 20000 in
theorem checkTruth_any (hF : FitT R C X) (hl7 : L.length ≤ 7) (hls : ∀ s ∈ L, s.length ≤ 7) : Calls Try.prog 21 #[tabV RA rc CA cc XA xc R C X, .slice NA L.length nc] w fun e w' => e = .returned (.int .i64 (chkTru R C X L)) ∧ Below w.heap.size w w' := by
 have hct := fun w1 (h : TabR w1 RA CA XA R C X) => checkTable_any RA rc CA cc XA xc R C X w1 h hF
 unfold tabV at *
 by_cases hz : chkTab R C X = 0
 rotate_left
 ·have hck : chkTru R C X L = chkTab R C X := by unfold chkTru; rw [if_pos hz]
  rw [hck]
  refine fn_v tk (n := 145) (A := []) Try.func21 rfl rfl (Nat.le_of_ble_eq_true rfl) (St.nil (Below.refl _ _)) ?_
  generalize chkTab R C X = z at *
  ((conv => whnf); (repeat ((first | (apply VCall.q; kernel_rfl; (focus (intro w1 hs; first | with_reducible apply hct w1 (hs.tab hT)))) | (apply VLdN.mk; (focus ((repeat (first | (with_reducible apply ldn_blk) | (with_reducible apply ldn_skip))); done)); exact rfl) | apply VBr.t | (apply v_t; omega) | (apply VNew.mk; intro g hg)); (conv => whnf))))
  ((apply VRet.mk); refine ret1 (by first | exact .inl rfl | exact .inr rfl) rfl (by exact rv_tmp rfl) ?_; exact fun w h => ⟨rfl, h.base⟩)
 have hV := chk_valid hz
 rw [hz] at hct
 have hn := hV.r1
 have hn4 := hV.r4
 have hm := hV.c1
 have hm4 := hV.c4
 obtain ⟨rb, ro, rfl, _⟩ := hT.r.2 (by omega)
 obtain ⟨cb, co, rfl, _⟩ := hT.c.2 (by omega)
 have hx := hV.x
 obtain ⟨xb, xo, rfl, _⟩ := (show ∃ xb xo, XA = some ⟨xb, xo, none⟩ ∧ True by
  obtain ⟨b, o, he, _⟩ := nest_gen hT.x (show 0 < X.length by omega)
  exact ⟨b, o, he, trivial⟩)
 have hco : ∀ {g : Nat} {w1 : World} {A1 : List Chunk}, St w A1 w1 → w1.cell? ⟨g, 1, none⟩ = some (.slice (some ⟨cb, co, none⟩) C.length cc) → _ := fun {g w1 A1} hs hg => contains67_any NA nc L g (some ⟨cb, co, none⟩) cc C.length w1 (hs.nest hN) (by unfold maxLen; omega) hg
 by_cases hl : L.length = R.length
 rotate_left
 ·rw [tru15 hz (.inl hl)]
  refine fn_v tk (n := 145) (A := []) Try.func21 rfl rfl (Nat.le_of_ble_eq_true rfl) (St.nil (Below.refl _ _)) ?_
  ((conv => whnf); (repeat ((first | (apply VCall.q; kernel_rfl; (focus (intro w1 hs; first | with_reducible apply hct w1 (hs.tab hT)))) | (apply VLd.mk; (focus ((repeat (first | ((with_reducible apply ld_blk); exact rfl) | (with_reducible apply ld_skip))); done))) | (apply VLdN.mk; (focus ((repeat (first | (with_reducible apply ldn_blk) | (with_reducible apply ldn_skip))); done)); exact rfl) | apply VBr.t | apply VBr.f | (apply v_t; omega) | (apply v_f; omega) | (apply VNew.mk; intro g hg)); (conv => whnf))))
  ((apply VRet.mk); refine ret1 (by first | exact .inl rfl | exact .inr rfl) rfl (by exact rv_tmp rfl) ?_; exact fun w h => ⟨rfl, h.base⟩)
 cases hb1 : L.any (fun s => decide ((s.length : Int) ≠ C.length)) with
 | true =>
  rw [hb1] at hco
  have hck : chkTru R C X L = 15 := by unfold chkTru; rw [if_neg (by omega), if_neg (by omega), if_pos hb1]
  rw [hck]
  refine fn_v tk (n := 145) (A := []) Try.func21 rfl rfl (Nat.le_of_ble_eq_true rfl) (St.nil (Below.refl _ _)) ?_
  ((conv => whnf); (repeat ((first | (apply VCall.q; kernel_rfl; (focus (intro w1 hs; first | with_reducible apply hct w1 (hs.tab hT) | ((with_reducible apply hco hs); exact cell_blk (by (repeat (first | exact List.Mem.head _ | assumption | refine List.Mem.tail _ ?_))) rfl w1 hs)))) | (apply VLd.mk; (focus ((repeat (first | ((with_reducible apply ld_blk); exact rfl) | (with_reducible apply ld_skip))); done))) | (apply VLdN.mk; (focus ((repeat (first | (with_reducible apply ldn_blk) | (with_reducible apply ldn_skip))); done)); exact rfl) | apply VBr.t | apply VBr.f | (apply v_f; omega) | (apply VNew.mk; intro g hg)); (conv => whnf))))
  ((apply VRet.mk); refine ret1 (by first | exact .inl rfl | exact .inr rfl) rfl (by exact rv_tmp rfl) ?_; exact fun w h => ⟨rfl, h.base⟩)
 | false =>
 rw [hb1] at hco
 have hs := (any_lenI L _).1 hb1
 obtain ⟨nb, no, rfl, _⟩ := (show ∃ xb xo, NA = some ⟨xb, xo, none⟩ ∧ True by
  obtain ⟨b, o, he, _⟩ := nest_gen hN (show 0 < L.length by omega)
  exact ⟨b, o, he, trivial⟩)
 have hcell : ∀ {i k}, i < R.length → k < C.length → ∃ (hi : i < L.length) (hix : i < X.length), (∃ B2 o2 c', (∀ Ch, CellAt w Ch nb (no + i * 1) (.slice (some ⟨B2, o2, none⟩) L[i].length c')) ∧ ∀ Ch, CellAt w Ch B2 (o2 + k * 1) (.int .i64 (nAt L i k))) ∧ L[i].length = C.length ∧ (∃ B2 o2 c', (∀ Ch, CellAt w Ch xb (xo + i * 1) (.slice (some ⟨B2, o2, none⟩) X[i].length c')) ∧ ∀ Ch, CellsAt w Ch B2 (o2 + k * 2) [.int .i64 (xAt X i k).1, .int .i64 (xAt X i k).2]) ∧ X[i].length = C.length := fun {i k} hi hk => by
  have h1 : i < L.length := by omega
  have h2 : i < X.length := by omega
  have h3 := hs _ (List.getElem_mem h1)
  have h4 := hV.xs _ (List.getElem_mem h2)
  exact ⟨h1, h2, num_cell hN h1 (by omega), h3, hT.cell h2 (by omega), h4⟩
 refine fn_k Try.func21 rfl rfl (Nat.le_of_ble_eq_true rfl) (n := 145) (A := []) (St.nil (Below.refl _ _)) ?_
 refine tr_seqK ?_
 (apply tr_v tk; (conv => whnf); (repeat ((apply VNew.mk; intro g hg); (conv => whnf))); apply VStop.mk)
 refine tr_seqK ?_
 (apply tr_v tk; (conv => whnf); (repeat ((first | (apply VCall.q; kernel_rfl; (focus (intro w1 hs; first | with_reducible apply hct w1 (hs.tab hT)))) | (apply VLdN.mk; (focus ((repeat (first | (with_reducible apply ldn_blk) | (with_reducible apply ldn_skip))); done)); exact rfl)); (conv => whnf))); apply VStop.mk)
 refine tr_seqK ?_
 (apply tr_v tk; (conv => whnf); apply VStop.mk)
 refine tr_seqK ?_
 (apply tr_v tk; (conv => whnf); (repeat ((first | (apply VCall.q; kernel_rfl; (focus (intro w1 hs; first | ((with_reducible apply hco hs); exact cell_blk (by (repeat (first | exact List.Mem.head _ | assumption | refine List.Mem.tail _ ?_))) rfl w1 hs)))) | (apply VLd.mk; (focus ((repeat (first | ((with_reducible apply ld_blk); exact rfl) | (with_reducible apply ld_skip))); done))) | apply VBr.f | (apply v_f; omega)); (conv => whnf))); apply VStop.mk)
 refine tr_cut (fun x : Nat × Nat => ([(1, .slice (some ⟨nb, no, none⟩) L.length nc), (2, .pointer (some ⟨g, 0, none⟩)), (7, .slice (some ⟨x.1, 0, none⟩) R.length R.length), (8, .slice (some ⟨x.2, 0, none⟩) C.length C.length)], [.blk x.1 2 (fnC (fun _ => 0) R.length), .blk x.2 2 (fnC (fun _ => 0) C.length), .blk g 25 [.slice (some ⟨rb, ro, none⟩) R.length rc, .slice (some ⟨cb, co, none⟩) C.length cc, .slice (some ⟨xb, xo, none⟩) X.length xc]])) ?_ ?_
 ·(apply tr_v tk; (conv => whnf); (repeat ((first | (apply VStop.mk; refine tr_region_treeV (id := 7) (by kernel_rfl) [.blk g 25 _] (by (repeat (first | exact sl0 _ | exact sl1 _ | refine sl2 _ ?_ | refine sl3 _ ?_))) [0, 1, 2, 4, 5, 6] [3, 7, 8, 9] [.rd, .rd, .rd, .rd, .rd, .rd] (fun i => [.wr, .wr, .wr, .cr, .wr, .wr, .wr, .cr, .wr, .wr].getD i .wr) _ rfl rfl (by kernel_rfl) ?_; apply ot_v tk) | (apply VLd.mk; (focus ((repeat (first | ((with_reducible apply ld_blk); exact rfl) | (with_reducible apply ld_skip))); done)))); (conv => whnf))))
  refine ox2 3 7 ?_ ?_
  ·(refine ot_makeSlice tk (by decide) rfl rfl rfl rfl rfl rfl rfl rfl rfl rfl rfl rfl (by omega) (by decide) (fun gr _ => ?_); refine ot_nil ?_; refine sla ?_)
   refine ox2 7 8 ?_ ?_
   ·(refine ot_makeSlice tk (by decide) rfl rfl rfl rfl rfl rfl rfl rfl rfl rfl rfl rfl (by omega) (by decide) (fun gc _ => ?_); refine ot_nil ?_; refine sla ?_)
    refine ox1 8 ?_
    (apply ot_v tk; (conv => whnf); refine sla ?_)
    refine ox1 9 ?_
    (apply ot_v tk; (conv => whnf); refine sla ?_)
    refine VT.mk (otx_end ?_)
    (refine VJ.mk (gr, gc) rfl ⟨rfl, rfl, rfl, rfl, trivial⟩ ?_; rw [← fnC_zero, ← fnC_zero]; ((try dsimp only); repeat (first | exact Pick.nil | ((apply Pick.cons); (focus (repeat (first | exact Rem.here | apply Rem.there)); done)))))
   ·(apply ot_v tk; (conv => whnf); refine sla ?_)
    refine ox1 7 ?_
    (refine ot_makeSlice tk (by decide) rfl rfl rfl rfl rfl rfl rfl rfl rfl rfl rfl rfl (by omega) (by decide) (fun gc _ => ?_); refine ot_nil ?_; refine sla ?_)
    refine ox1 9 ?_
    (apply ot_v tk; (conv => whnf); refine sla ?_)
    refine VT.mk (otx_end ?_)
    (refine VJ.mk (gr, gc) rfl ⟨rfl, rfl, rfl, rfl, trivial⟩ ?_; rw [← fnC_zero, ← fnC_zero]; ((try dsimp only); repeat (first | exact Pick.nil | ((apply Pick.cons); (focus (repeat (first | exact Rem.here | apply Rem.there)); done)))))
  ·(refine ot_makeSlice tk (by decide) rfl rfl rfl rfl rfl rfl rfl rfl rfl rfl rfl rfl (by omega) (by decide) (fun gc _ => ?_); refine ot_nil ?_; refine sla ?_)
   refine ox1 3 ?_
   (refine ot_makeSlice tk (by decide) rfl rfl rfl rfl rfl rfl rfl rfl rfl rfl rfl rfl (by omega) (by decide) (fun gr _ => ?_); refine ot_nil ?_; refine sla ?_)
   refine ox1 8 ?_
   (apply ot_v tk; (conv => whnf); refine sla ?_)
   refine ox1 9 ?_
   (apply ot_v tk; (conv => whnf); refine sla ?_)
   refine VT.mk (otx_end ?_)
   (refine VJ.mk (gr, gc) rfl ⟨rfl, rfl, rfl, rfl, trivial⟩ ?_; rw [← fnC_zero, ← fnC_zero]; ((try dsimp only); repeat (first | exact Pick.nil | ((apply Pick.cons); (focus (repeat (first | exact Rem.here | apply Rem.there)); done)))))
 rintro ⟨gr, gc⟩
 dsimp only
 refine tr_seqK ?_
 (apply tr_v tk; (conv => whnf); (repeat ((apply VStop.mk; (refine ot_clear tk rfl rfl rfl rfl rfl rfl rfl rfl rfl rfl (by omega) (by (repeat (first | exact Upd.here | apply Upd.there))) (by rw [fnC_length]) ?_); apply ot_v tk); (conv => whnf))); apply VStop.mk)
 rw [fnC_zero]
 refine tr_seqK ?_
 (apply tr_v tk; (conv => whnf); apply VStop.mk)
 refine v_loop (fun gm ds ts A => ds = [] ∧ ∃ i fr fc, i + gm = R.length ∧ (∀ i' k, i' < i → k < C.length → inR (xAt X i' k) (nAt L i' k) = true) ∧ (∀ i', i' < R.length → fr i' = if i' < i then rowS L C.length i' else 0) ∧ (∀ k, k < C.length → fc k = sm (fun i => nAt L i k) i) ∧ A = [.blk gr 2 (fnC fr R.length), .blk gc 2 (fnC fc C.length), .blk g 25 [.slice (some ⟨rb, ro, none⟩) R.length rc, .slice (some ⟨cb, co, none⟩) C.length cc, .slice (some ⟨xb, xo, none⟩) X.length xc]] ∧ ts = [(2, .pointer (some ⟨g, 0, none⟩)), (7, .slice (some ⟨gr, 0, none⟩) R.length R.length), (8, .slice (some ⟨gc, 0, none⟩) C.length C.length), (45, .slice (some ⟨nb, no, none⟩) L.length nc), (46, .int .i64 (L.length : Int)), (47, .int .i64 (i : Int))]) R.length
  (l := [(2, _), (7, _), (8, _), (45, _), (46, _), (47, _)]) (B := _) ?_ (List.Sublist.refl _) ⟨rfl, 0, fun _ => 0, fun _ => 0, by omega, fun i _ h => absurd h (by omega), fun _ _ => rfl, fun _ _ => rfl, rfl, rfl⟩ ?_
 ·exact ⟨rfl, rfl, rfl, rfl, rfl, rfl, trivial⟩
 rintro gm ds ts A ⟨rfl, i, fr, fc, hi, hX, hfr, hfc, rfl, rfl⟩
 by_cases hlt : i < R.length
 ·have hiL : i < L.length := by omega
  have hl2 := hs _ (List.getElem_mem hiL)
  obtain ⟨B2, o2, c2, hc1, hcR⟩ := num_row hN hiL (by omega)
  (apply tr_v tk; (conv => whnf); (repeat ((first | (apply VIx.mk (j := i); exact rfl; omega) | (apply VLd.mk; first | exact hc1 _) | apply VBr.t | (apply v_t; omega)); (conv => whnf))); apply VStop.mk)
  refine v_loop (fun gm ds ts A => ds = [] ∧ ∃ k fr fc, k + gm = C.length ∧ (∀ k', k' < k → inR (xAt X i k') (nAt L i k') = true) ∧ (∀ i', i' < R.length → fr i' = if i' < i then rowS L C.length i' else if i' = i then sm (fun k => nAt L i k) k else 0) ∧ (∀ k', k' < C.length → fc k' = sm (fun i => nAt L i k') i + if k' < k then nAt L i k' else 0) ∧ A = [.blk gr 2 (fnC fr R.length), .blk gc 2 (fnC fc C.length), .blk g 25 [.slice (some ⟨rb, ro, none⟩) R.length rc, .slice (some ⟨cb, co, none⟩) C.length cc, .slice (some ⟨xb, xo, none⟩) X.length xc]] ∧ ts = [(2, .pointer (some ⟨g, 0, none⟩)), (7, .slice (some ⟨gr, 0, none⟩) R.length R.length), (8, .slice (some ⟨gc, 0, none⟩) C.length C.length), (45, .slice (some ⟨nb, no, none⟩) L.length nc), (46, .int .i64 (L.length : Int)), (47, .int .i64 (i : Int)), (9, .int .i64 (i : Int)), (52, .slice (some ⟨B2, o2, none⟩) L[i].length c2), (53, .int .i64 (L[i].length : Int)), (54, .int .i64 (k : Int))]) C.length
   (l := [(2, _), (7, _), (8, _), (45, _), (46, _), (47, _), (9, _), (52, _), (53, _), (54, _)]) (B := _) ?_ (List.Sublist.refl _) ⟨rfl, 0, fr, fc, by omega, fun i h => absurd h (by omega), fun i' h => by rw [hfr i' h]; split; rfl; split; rfl; rfl, fun k' h => by rw [hfc k' h]; simp, rfl, rfl⟩ ?_
  ·exact ⟨rfl, rfl, rfl, rfl, rfl, rfl, rfl, rfl, rfl, rfl, trivial⟩
  clear hfr hfc fr fc
  rintro gm2 ds ts A ⟨rfl, k, fr, fc, hk, hK, hfr, hfc, rfl, rfl⟩
  by_cases hkt : k < C.length
  ·obtain ⟨_, _, _, _, ⟨B3, o3, c3, hc3, hc4⟩, hl3⟩ := hcell hlt hkt
   have hc2 := hcR k (by omega)
   have hnb : ∀ k', k' < C.length → inR (xAt X i k') (nAt L i k') = true → 0 ≤ nAt L i k' ∧ nAt L i k' ≤ 12 := fun k' h h' => inR_valid hV hlt h h'
   have hbd := within_one (xAt X i k).1 (xAt X i k).2 (nAt L i k)
   change _ = inR (xAt X i k) (nAt L i k) at hbd
   cases hb : inR (xAt X i k) (nAt L i k) with
   | false =>
    rw [tru3 hz hl hs hlt hkt hb]
    rw [hb] at hbd
    (apply tr_v tk; (conv => whnf); (repeat ((first | ((first | apply VStop.mk | apply VCall.stop); refine tr_region_lex (id := 15) (by kernel_rfl) [.rd, .rd, .rd, .rd, .rd, .rd, .rd, .rd, .rd, .rd, .rd, .rd, .rd, .rd, .rd, .rd, .rd, .rd, .rd, .cr, .cr, .rd] rfl (by kernel_rfl) ?_; apply ot_v tk) | (apply VIx.mk (j := i); exact rfl; omega) | (apply VIx.mk (j := k); exact rfl; omega) | (apply VLd.mk; first | exact hc2 _ | exact hc3 _ | exact (hc4 _).cell (j := 0) rfl | exact (hc4 _).cell (j := 1) rfl) | (apply VCall.q; kernel_rfl; (focus (intro w1 hs; first | with_reducible apply within1_one hbd hs))) | (apply VLd.mk; (focus ((repeat (first | ((with_reducible apply ld_blk); exact rfl) | (with_reducible apply ld_skip))); done))) | apply VBr.t | (apply v_t; omega) | (apply VNew.mk; intro g hg)); (conv => whnf))))
    ((apply VRet.mk); refine ret1 (by first | exact .inl rfl | exact .inr rfl) rfl (by exact rv_tmp rfl) ?_; exact fun w h => ⟨rfl, h.base⟩)
   | true =>
   rw [hb] at hbd
   have h1 := sm_bound (f := fun k => nAt L i k) (n := k) fun k' h => (hnb k' (by omega) (hK k' h)).2
   have h2 := sm_bound' (f := fun k => nAt L i k) (n := k) fun k' h => (hnb k' (by omega) (hK k' h)).1
   have h3 := sm_bound (f := fun i => nAt L i k) (n := i) fun i' h => (inR_valid hV (by omega) hkt (hX i' k h hkt)).2
   have h4 := sm_bound' (f := fun i => nAt L i k) (n := i) fun i' h => (inR_valid hV (by omega) hkt (hX i' k h hkt)).1
   have h5 := hfr i hlt
   rw [if_neg (by omega), if_pos rfl] at h5
   have h6 := hfc k hkt
   rw [if_neg (by omega)] at h6
   have h7 := hnb k hkt hb
   have hst : sm (fun k => nAt L i k) (k + 1) = sm (fun k => nAt L i k) k + nAt L i k := rfl
   (apply tr_v tk; (conv => whnf); (repeat ((first | ((first | apply VStop.mk | apply VCall.stop); refine tr_region_lex (id := 15) (by kernel_rfl) [.rd, .rd, .rd, .rd, .rd, .rd, .rd, .rd, .rd, .rd, .rd, .rd, .rd, .rd, .rd, .rd, .rd, .rd, .rd, .cr, .cr, .rd] rfl (by kernel_rfl) ?_; apply ot_v tk) | (apply VIx.mk (j := i); exact rfl; omega) | (apply VIx.mk (j := k); exact rfl; omega) | (apply VLd.mk; first | exact hc2 _ | exact hc3 _ | exact (hc4 _).cell (j := 0) rfl | exact (hc4 _).cell (j := 1) rfl | exact cell_fnC (by (repeat (first | with_unfolding_all exact List.Mem.head _ | assumption | with_unfolding_all refine List.Mem.tail _ ?_))) hlt | exact cell_fnC (by (repeat (first | with_unfolding_all exact List.Mem.head _ | assumption | with_unfolding_all refine List.Mem.tail _ ?_))) hkt) | (apply VSt.old; (focus (repeat (first | exact Upd.here | apply Upd.there)); done); exact ble_fnC (by omega); exact setMany_fnC1 (by omega)) | (apply VCall.q; kernel_rfl; (focus (intro w1 hs; first | with_reducible apply within1_one hbd hs))) | (apply VLd.mk; (focus ((repeat (first | ((with_reducible apply ld_blk); exact rfl) | (with_reducible apply ld_skip))); done))) | (apply VRng.mk; omega) | apply VBr.t | apply VBr.f | (apply v_t; omega) | (apply VNew.mk; intro g hg)); (conv => whnf))))
   refine v_rnd (gm2 - 1) (by omega) (l := [(2, _), (7, _), (8, _), (45, _), (46, _), (47, _), (9, _), (52, _), (53, _), (54, _)]) (B := _) ⟨rfl, rfl, rfl, rfl, rfl, rfl, rfl, rfl, rfl, rfl, trivial⟩ (.cons _ (List.Sublist.refl _)) ⟨rfl, k + 1, _, _, by omega, fun k' h => ?_, fun i' h => ?_, fun k' h => ?_, rfl, rfl⟩
   ·rcases Nat.lt_or_ge k' k with h9 | h9
    ·exact hK k' h9
    ·obtain rfl : k' = k := by omega
     exact hb
   ·have := hfr i' h
    by_cases he : i' = i
    ·subst he
     rw [if_pos rfl, if_neg (by omega), if_pos rfl, hst, h5]
    ·rw [if_neg he, this, if_neg he, if_neg he]
   ·have := hfc k' h
    by_cases he : k' = k
    ·subst he
     rw [if_pos rfl, if_pos (by omega), h6]; omega
    ·rw [if_neg he, this]
     by_cases hq : k' < k
     ·rw [if_pos hq, if_pos (by omega)]
     ·rw [if_neg hq, if_neg (by omega)]
  ·obtain rfl : k = C.length := by omega
   (apply tr_v tk; (conv => whnf); (repeat ((first | (apply VRng.mk; omega) | apply VBr.f | (apply v_f; omega)); (conv => whnf))))
   refine v_rnd (gm - 1) (by omega) (l := [(2, _), (7, _), (8, _), (45, _), (46, _), (47, _)]) (B := _) ⟨rfl, rfl, rfl, rfl, rfl, rfl, trivial⟩ (List.Sublist.refl _) ⟨rfl, i + 1, fr, fc, by omega, fun i' k' h h' => ?_, fun i' h => ?_, fun k' h => ?_, rfl, rfl⟩
   ·rcases Nat.lt_or_ge i' i with h9 | h9
    ·exact hX i' k' h9 h'
    ·obtain rfl : i' = i := by omega
     exact hK k' h'
   ·rw [hfr i' h]
    by_cases he : i' < i
    ·rw [if_pos he, if_pos (by omega)]
    ·rw [if_neg he]
     by_cases he : i' = i
     ·subst he
      rw [if_pos rfl, if_pos (by omega)]; rfl
     ·rw [if_neg he, if_neg (by omega)]
   ·rw [hfc k' h, if_pos h]; rfl
 ·obtain rfl : i = R.length := by omega
  have hX' : ∀ i k, i < R.length → k < C.length → inR (xAt X i k) (nAt L i k) = true := fun i k h h' => hX i k h h'
  have hfr' : ∀ i', i' < R.length → fr i' = rowS L C.length i' := fun i' h => by rw [hfr i' h, if_pos h]
  clear hX hfr
  (apply tr_v tk; (conv => whnf); (repeat ((first | apply VBr.f | (apply v_f; omega)); (conv => whnf))); apply VStop.mk)
  (apply tr_v tk; (conv => whnf); apply VStop.mk)
  clear hlt hi
  refine v_loop (fun gm ds ts A => ds = [] ∧ ∃ j, j + gm = R.length ∧ (∀ i, i < j → inR (rAt R i) (rowS L C.length i) = true) ∧ A = [.blk gr 2 (fnC fr R.length), .blk gc 2 (fnC fc C.length), .blk g 25 [.slice (some ⟨rb, ro, none⟩) R.length rc, .slice (some ⟨cb, co, none⟩) C.length cc, .slice (some ⟨xb, xo, none⟩) X.length xc]] ∧ ts = [(2, .pointer (some ⟨g, 0, none⟩)), (8, .slice (some ⟨gc, 0, none⟩) C.length C.length), (97, .slice (some ⟨gr, 0, none⟩) R.length R.length), (98, .int .i64 (R.length : Int)), (99, .int .i64 (j : Int))]) R.length
   (l := [(2, _), (8, _), (97, _), (98, _), (99, _)]) (B := _) ?_ (List.Sublist.refl _) ⟨rfl, 0, by omega, fun i h => absurd h (by omega), rfl, rfl⟩ ?_
  ·exact ⟨rfl, rfl, rfl, rfl, rfl, trivial⟩
  rintro gm ds ts A ⟨rfl, j, hj, hR, rfl, rfl⟩
  by_cases hlt : j < R.length
  ·have hrc := hT.row hlt
   have hfj := hfr' j hlt
   have hbd := within_one (rAt R j).1 (rAt R j).2 (fr j)
   change _ = inR (rAt R j) (fr j) at hbd
   rw [hfj] at hbd
   cases hb : inR (rAt R j) (rowS L C.length j) with
   | false =>
    rw [tru20 hz hl hs hX' (.inl ⟨j, hlt, hb⟩)]
    rw [hb, ← hfj] at hbd
    (apply tr_v tk; (conv => whnf); (repeat ((first | ((first | apply VStop.mk | apply VCall.stop); refine tr_region_lex (id := 24) (by kernel_rfl) [.rd, .rd, .rd, .rd, .rd, .rd, .rd, .rd, .rd, .rd, .rd, .rd, .rd, .cr, .cr, .rd] rfl (by kernel_rfl) ?_; apply ot_v tk) | (apply VIx.mk (j := j); exact rfl; omega) | (apply VLd.mk; first | exact (hrc _).cell (j := 0) rfl | exact (hrc _).cell (j := 1) rfl | exact cell_fnC (by (repeat (first | with_unfolding_all exact List.Mem.head _ | assumption | with_unfolding_all refine List.Mem.tail _ ?_))) hlt) | (apply VCall.q; kernel_rfl; (focus (intro w1 hs; first | with_reducible apply within1_one hbd hs))) | (apply VLd.mk; (focus ((repeat (first | ((with_reducible apply ld_blk); exact rfl) | (with_reducible apply ld_skip))); done))) | apply VBr.t | (apply v_t; omega) | (apply VNew.mk; intro g hg)); (conv => whnf))))
    ((apply VRet.mk); refine ret1 (by first | exact .inl rfl | exact .inr rfl) rfl (by exact rv_tmp rfl) ?_; exact fun w h => ⟨rfl, h.base⟩)
   | true =>
   rw [hb, ← hfj] at hbd
   (apply tr_v tk; (conv => whnf); (repeat ((first | ((first | apply VStop.mk | apply VCall.stop); refine tr_region_lex (id := 24) (by kernel_rfl) [.rd, .rd, .rd, .rd, .rd, .rd, .rd, .rd, .rd, .rd, .rd, .rd, .rd, .cr, .cr, .rd] rfl (by kernel_rfl) ?_; apply ot_v tk) | (apply VIx.mk (j := j); exact rfl; omega) | (apply VLd.mk; first | exact (hrc _).cell (j := 0) rfl | exact (hrc _).cell (j := 1) rfl | exact cell_fnC (by (repeat (first | with_unfolding_all exact List.Mem.head _ | assumption | with_unfolding_all refine List.Mem.tail _ ?_))) hlt) | (apply VCall.q; kernel_rfl; (focus (intro w1 hs; first | with_reducible apply within1_one hbd hs))) | (apply VLd.mk; (focus ((repeat (first | ((with_reducible apply ld_blk); exact rfl) | (with_reducible apply ld_skip))); done))) | (apply VRng.mk; omega) | apply VBr.t | apply VBr.f | (apply v_t; omega) | (apply VNew.mk; intro g hg)); (conv => whnf))))
   exact v_rnd (gm - 1) (by omega) (l := [(2, _), (8, _), (97, _), (98, _), (99, _)]) (B := _) ⟨rfl, rfl, rfl, rfl, rfl, trivial⟩ (.cons _ (List.Sublist.refl _)) ⟨rfl, j + 1, by omega, fun i h => (by
    rcases Nat.lt_or_ge i j with h1 | h1
    ·exact hR i h1
    ·obtain rfl : i = j := by omega
     exact hb), rfl, rfl⟩
  have hR' : ∀ i, i < R.length → inR (rAt R i) (rowS L C.length i) = true := fun i h => hR i (by omega)
  clear hR
  (apply tr_v tk; (conv => whnf); (repeat ((first | apply VBr.f | (apply v_f; omega)); (conv => whnf))); apply VStop.mk)
  clear hj hlt
  refine v_loop (fun gm ds ts A => ds = [] ∧ ∃ j, j + gm = C.length ∧ (∀ i, i < j → inR (rAt C i) (colS L R.length i) = true) ∧ A = [.blk gr 2 (fnC fr R.length), .blk gc 2 (fnC fc C.length), .blk g 25 [.slice (some ⟨rb, ro, none⟩) R.length rc, .slice (some ⟨cb, co, none⟩) C.length cc, .slice (some ⟨xb, xo, none⟩) X.length xc]] ∧ ts = [(2, .pointer (some ⟨g, 0, none⟩)), (121, .slice (some ⟨gc, 0, none⟩) C.length C.length), (122, .int .i64 (C.length : Int)), (123, .int .i64 (j : Int))]) C.length
   (l := [(2, _), (121, _), (122, _), (123, _)]) (B := _) ?_ (List.Sublist.refl _) ⟨rfl, 0, by omega, fun i h => absurd h (by omega), rfl, rfl⟩ ?_
  ·exact ⟨rfl, rfl, rfl, rfl, trivial⟩
  rintro gm ds ts A ⟨rfl, j, hj, hC, rfl, rfl⟩
  by_cases hlt : j < C.length
  ·have hrc := hT.col hlt
   have hfj : fc j = colS L R.length j := hfc j hlt
   have hbd := within_one (rAt C j).1 (rAt C j).2 (fc j)
   change _ = inR (rAt C j) (fc j) at hbd
   rw [hfj] at hbd
   cases hb : inR (rAt C j) (colS L R.length j) with
   | false =>
    rw [tru20 hz hl hs hX' (.inr ⟨j, hlt, hb⟩)]
    rw [hb, ← hfj] at hbd
    (apply tr_v tk; (conv => whnf); (repeat ((first | ((first | apply VStop.mk | apply VCall.stop); refine tr_region_lex (id := 30) (by kernel_rfl) [.rd, .rd, .rd, .rd, .rd, .rd, .rd, .rd, .rd, .rd, .rd, .rd, .rd, .cr, .cr, .rd] rfl (by kernel_rfl) ?_; apply ot_v tk) | (apply VIx.mk (j := j); exact rfl; omega) | (apply VLd.mk; first | exact (hrc _).cell (j := 0) rfl | exact (hrc _).cell (j := 1) rfl | exact cell_fnC (by (repeat (first | with_unfolding_all exact List.Mem.head _ | assumption | with_unfolding_all refine List.Mem.tail _ ?_))) hlt) | (apply VCall.q; kernel_rfl; (focus (intro w1 hs; first | with_reducible apply within1_one hbd hs))) | (apply VLd.mk; (focus ((repeat (first | ((with_reducible apply ld_blk); exact rfl) | (with_reducible apply ld_skip))); done))) | apply VBr.t | (apply v_t; omega) | (apply VNew.mk; intro g hg)); (conv => whnf))))
    ((apply VRet.mk); refine ret1 (by first | exact .inl rfl | exact .inr rfl) rfl (by exact rv_tmp rfl) ?_; exact fun w h => ⟨rfl, h.base⟩)
   | true =>
   rw [hb, ← hfj] at hbd
   (apply tr_v tk; (conv => whnf); (repeat ((first | ((first | apply VStop.mk | apply VCall.stop); refine tr_region_lex (id := 30) (by kernel_rfl) [.rd, .rd, .rd, .rd, .rd, .rd, .rd, .rd, .rd, .rd, .rd, .rd, .rd, .cr, .cr, .rd] rfl (by kernel_rfl) ?_; apply ot_v tk) | (apply VIx.mk (j := j); exact rfl; omega) | (apply VLd.mk; first | exact (hrc _).cell (j := 0) rfl | exact (hrc _).cell (j := 1) rfl | exact cell_fnC (by (repeat (first | with_unfolding_all exact List.Mem.head _ | assumption | with_unfolding_all refine List.Mem.tail _ ?_))) hlt) | (apply VCall.q; kernel_rfl; (focus (intro w1 hs; first | with_reducible apply within1_one hbd hs))) | (apply VLd.mk; (focus ((repeat (first | ((with_reducible apply ld_blk); exact rfl) | (with_reducible apply ld_skip))); done))) | (apply VRng.mk; omega) | apply VBr.t | apply VBr.f | (apply v_t; omega) | (apply VNew.mk; intro g hg)); (conv => whnf))))
   exact v_rnd (gm - 1) (by omega) (l := [(2, _), (121, _), (122, _), (123, _)]) (B := _) ⟨rfl, rfl, rfl, rfl, trivial⟩ (.cons _ (List.Sublist.refl _)) ⟨rfl, j + 1, by omega, fun i h => (by
    rcases Nat.lt_or_ge i j with h1 | h1
    ·exact hC i h1
    ·obtain rfl : i = j := by omega
     exact hb), rfl, rfl⟩
  rw [tru0 hz hl hs hX' hR' fun k h => hC k (by omega)]
  (apply tr_v tk; (conv => whnf); (repeat ((first | apply VBr.f | (apply v_f; omega)); (conv => whnf))))
  ((apply VRet.mk); refine ret1 (by first | exact .inl rfl | exact .inr rfl) rfl (by exact rv_tmp rfl) ?_; exact fun w h => ⟨rfl, h.base⟩)
end
end Go.Proofs.Ytalcccgialpjgaa
