/- An array of zeros: lemmas for the rows of this seat. No conditions. -/
import Derived.Test.YtalcccgialpjgaaN8
import Derived.Test.YtalcccgialpjgaaN10
set_option linter.all false
namespace Go.Proofs.Ytalcccgialpjgaa
open Go.RowKit
/-! ## An array of zeros -/
section
variable {P : Program} {tab : TT} {w0 : World} {n : Nat} {ds : List Deferred} {ops : List Oper} {o : Oper} {os : List Oper} {ks : List Kind} {ts : TS} {A : List Chunk} {K : TS → List Chunk → Prop} {d : Tmp} {t : TypeId} {i : TI}
theorem ot_buildZ {m e : Nat} (hT : TabOk P tab) (hop : o.op = .build t #[]) (hd : o.dst = some d) (hw : wantB ops ts o = some true) (hi : lookI tab t = some i) (hl : i.d = .ar m e) (hl' : ∃ i', lookI tab e = some i')
  (hk : OT P w0 n ds ops os ks.tail ((d, .agg i.zero.toArray) :: ts) A K) : OT P w0 n ds ops (o :: os) ks ts A K :=
 ot_val _ hd hw (fun a w hd' => by
  obtain ⟨z, hz1, hz2⟩ := (hT t i hi).zv w
  obtain ⟨i', hi'⟩ := hl'
  have h1 := (hT t i hi).ar hl
  have h2 := (hT e i' hi').sz w
  simp [execOp, hop, Instr.build, hz1, run_underlying h1, h2, Instr.fill, hz2]) hk
end
/-! ## fill -/
/-- The sets that marks are. -/
def setOf (seen : Nat → Int) (v : Nat) : Bool := decide (seen v ≠ 0)
theorem way_pos {N : Nat} {L : Nat → Nat → Bool} {frm : List Nat} {seen : Nat → Int} (h : WayOK N L frm seen) {v : Nat} (hv : v < N) (hs : seen v ≠ 0) : 0 < seen v := by
 obtain ⟨rk, h1, h2, _⟩ := h
 rcases h2 v hv hs with hf | ⟨p, _, h, _⟩
 ·rw [h1 v hf]; omega
 ·omega
theorem way_lt {N : Nat} {L : Nat → Nat → Bool} {frm : List Nat} {seen : Nat → Int} (h : WayOK N L frm seen) (hN : N ≤ 10) {v : Nat} (hv : v < 10) : 0 ≤ seen v := by
 by_cases h1 : v < N
 ·by_cases h2 : seen v = 0
  ·omega
  ·have := way_pos h h1 h2; omega
 ·obtain ⟨rk, _, _, _, h4⟩ := h
  have := h4 v hv (by omega)
  omega
/-- The marks show a cut that is too narrow. -/
structure CutS (N : Nat) (lo hi : Nat → Nat → Int) (seen : Nat → Int) : Prop where
 pos : ∀ v, v < 10 → 0 ≤ seen v
 some_ : ∃ v, v < N ∧ seen v ≠ 0
 cut : crossOut (setOf seen) N hi < crossIn (setOf seen) N lo
theorem cutS_of {n m : Nat} {lo hi fl : Nat → Nat → Int} {frm : List Nat} {seen : Nat → Int} (hN : 2 + n + m ≤ 10) (hfl : Flow n m lo hi fl) {L : Nat → Nat → Bool} (hL : ∀ u v, L u v = false → res lo hi fl u v ≤ 0) (hw : WayOK (2 + n + m) L frm seen) (hr : ∀ v, v < 2 + n + m → (v ∈ frm ↔ 0 < exc (2 + n + m) fl v)) (hne : ∃ v, v ∈ frm ∧ v < 2 + n + m) (hp : ∀ v, v < 2 + n + m → exc (2 + n + m) fl v < 0 → seen v = 0) : CutS (2 + n + m) lo hi seen := by
 have hw' := hw
 obtain ⟨rk, h1, h2, h3, h4⟩ := hw
 obtain ⟨v0, hv0, hv0n⟩ := hne
 have hs0 : seen v0 ≠ 0 := by rw [h1 v0 hv0]; omega
 refine ⟨fun v hv => way_lt hw' hN hv, ⟨v0, hv0n, hs0⟩, ?_⟩
 have hsh : Shut (2 + n + m) lo hi fl (setOf seen) := fun u v hu hv hsu hsv => by
  unfold setOf at hsu hsv
  simp only [decide_eq_true_eq, decide_eq_false_iff_not, ne_eq, Decidable.not_not] at hsu hsv
  refine hL u v ?_
  cases hb : L u v with
  | false => rfl
  | true => exact absurd hsv (h3 u v hu hv hsu hb)
 have hc := hsh.cut hfl.inb
 have hq := sm_pos (f := fun v => if setOf seen v = true then exc (2 + n + m) fl v else 0) (n := 2 + n + m) (fun i hi => by
  split
  ·rename_i h
   unfold setOf at h
   simp only [decide_eq_true_eq] at h
   exact Int.not_lt.1 fun hx => h (hp i hi hx)
  ·exact Int.le_refl _) hv0n
 rw [if_pos (by unfold setOf; simpa using hs0), hc] at hq
 have := (hr v0 hv0n).1 hv0
 omega
abbrev netA (nc : List Value) (gn : Nat) (bm : Nat) (B : Int × Int → Option Value) (stb : List (Nat × (Int × Int))) (fm : Nat) (F : Int × Int → Option Value) (stf : List (Nat × (Int × Int))) (rest : List Chunk) : List Chunk :=
 .blk gn 103 nc :: .prd bm (MapP pairE B stb) :: .prd fm (MapP pairE F stf) :: rest
def richL (N : Nat) (fl : Nat → Nat → Int) (k : Nat) : List Nat := (List.range k).filter fun v => decide (0 < exc N fl v)
theorem richL_step (N : Nat) (fl : Nat → Nat → Int) (k : Nat) : richL N fl (k + 1) = if 0 < exc N fl k then richL N fl k ++ [k] else richL N fl k := by
 unfold richL
 rw [List.range_succ, List.filter_append]
 by_cases h : 0 < exc N fl k
 ·rw [if_pos h]; simp [h]
 ·rw [if_neg h]; simp [h]
theorem netF_of {RA : Option Addr} {rc : Nat} {CA : Option Addr} {cc : Nat} {XA : Option Addr} {xc : Nat} {R C : List R2} {X : List (List R2)} {lo hi : Nat → Nat → Int} {gn bm fm : Nat} {stb : List (Nat × (Int × Int))} {rest : List Chunk} (pre : List Chunk) :
  NetF RA rc CA cc XA xc R C X lo hi gn bm fm (fun fl st => pre ++ netA (netC RA rc CA cc XA xc R C X bm fm) gn bm (keyM (netE R.length C.length) (rngV lo hi)) stb fm (keyM (netE R.length C.length) (intV fl)) st rest) := by
 refine ⟨fun fl st => List.mem_append_right _ (.head _), fun fl st => ⟨stb, List.mem_append_right _ (.tail _ (.head _))⟩, fun fl st fl' st' => ?_⟩
 induction pre with
 | nil => exact .there (.there .here)
 | cons c pre ih => exact .there ih
theorem exc_small {N : Nat} {g : Nat → Nat → Int} (hN : N ≤ 10) (hg : Small g) (v : Nat) : exc N g v ≤ 200000 ∧ -200000 ≤ exc N g v := by
 have h1 := sm_bound (f := fun u => g u v) (n := N) fun i _ => (hg i v).2
 have h2 := sm_bound' (f := fun u => g u v) (n := N) fun i _ => (hg i v).1
 have h3 := sm_bound (f := fun u => g v u) (n := N) fun i _ => (hg v i).2
 have h4 := sm_bound' (f := fun u => g v u) (n := N) fun i _ => (hg v i).1
 unfold exc
 omega
structure FillX where
 ok : Bool
 seen : Nat → Int
 fl : Nat → Nat → Int
 st : List (Nat × (Int × Int))
section
variable {RA : Option Addr} {rc : Nat} {CA : Option Addr} {cc : Nat} {XA : Option Addr} {xc : Nat} {R C : List R2} {X : List (List R2)} {lo hi : Nat → Nat → Int} {gn bm fm : Nat}
set_option maxHeartbeats 4000000 in
set_option maxRecDepth 20000 in
theorem fill_any (hn : R.length ≤ 4) (hm : C.length ≤ 4) (hB : Bnds R.length C.length lo hi) (hlh : ∀ u v, lo u v ≤ hi u v) {w0 w : World} {stb : List (Nat × (Int × Int))} {rest : List Chunk} (hs : St w0 (netA (netC RA rc CA cc XA xc R C X bm fm) gn bm (keyM (netE R.length C.length) (rngV lo hi)) stb fm (fun _ => none) [] rest) w) :
  Calls Try.prog 81 #[.pointer (some ⟨gn, 0, none⟩)] w fun e w' => ∃ x : FillX, e = .returned (.tuple #[.agg (fnC x.seen 10).toArray, .bool x.ok]) ∧
   (Flow R.length C.length lo hi x.fl ∧ (x.ok = true → Circ (2 + R.length + C.length) lo hi x.fl) ∧ (x.ok = false → CutS (2 + R.length + C.length) lo hi x.seen)) ∧ St w0 (netA (netC RA rc CA cc XA xc R C X bm fm) gn bm (keyM (netE R.length C.length) (rngV lo hi)) [] fm (keyM (netE R.length C.length) (intV x.fl)) x.st rest) w' := by
 have hN : 2 + R.length + C.length ≤ 10 := by omega
 have hnil : (fun _ => none : Int × Int → Option Value) = keyM (fun _ _ => false) (intV lo) := by
  funext p
  unfold keyM mapN
  split <;> rfl
 rw [hnil] at hs
 generalize hnc : netC RA rc CA cc XA xc R C X bm fm = nc at *
 have c1 : ∀ {j u A1}, .blk gn 103 nc ∈ A1 → nc[j]? = some u → CellAt w0 A1 gn j u := fun hm hu => cell_blk hm hu
 have nc1 : nc[3]? = some (.map (some bm)) := by rw [← hnc]; rfl
 have nc2 : nc[4]? = some (.map (some fm)) := by rw [← hnc]; rfl
 refine fn_v tk (n := 98) (A := _) Try.func81 rfl rfl (Nat.le_of_ble_eq_true rfl) hs ?_
 ((conv => whnf); (repeat ((first | (apply VLd.mk; first | exact c1 (by (repeat (first | with_unfolding_all exact List.Mem.head _ | assumption | with_unfolding_all refine List.Mem.tail _ ?_))) nc1 | exact c1 (by (repeat (first | with_unfolding_all exact List.Mem.head _ | assumption | with_unfolding_all refine List.Mem.tail _ ?_))) nc2) | (apply VNew.mk; intro g hg)); (conv => whnf))); apply VStop.mk)
 revert g hg
 intro g2 hg2
 refine ot_map_it (enc := pairE) (fun arr clock => [.blk g2 109 (List.replicate 10 (.int .i64 0)), .blk gn 103 nc, .obj bm (.map arr clock), .prd fm (MapP pairE (keyM (fun _ _ => false) (intV lo)) [])] ++ rest) rfl (fun _ _ => .there (.there .here)) (fun arr clock hI => ?_)
 dsimp only [List.cons_append, List.nil_append]
 refine ot_rangeB mapB (by decide) rfl rfl rfl rfl (objAt_mem (by (repeat (first | with_unfolding_all exact List.Mem.head _ | assumption | with_unfolding_all refine List.Mem.tail _ ?_)))) (fun gi hgi => ?_)
 apply ot_v tk
 ((conv => whnf); apply VStop.mk)
 rw [fnC_zero]
 refine v_loop (fun gm ds ts A => ds = [] ∧ ∃ (vs : List (Int × Int)) (E : Nat → Nat → Bool) (seen : Array Nat), seen.size + gm = clock ∧ ItOK pairE (keyM (netE R.length C.length) (rngV lo hi)) vs arr clock seen ∧ (∀ k ∈ vs, ∃ u v : Nat, k = ((u : Int), (v : Int)) ∧ netE R.length C.length u v = true) ∧ (∀ a b : Nat, E a b = true ↔ ((a : Int), (b : Int)) ∈ vs) ∧ A = .obj gi (.mapIter (some bm) clock seen clock) :: .blk g2 109 (fnC (fun _ => 0) 10) :: .blk gn 103 nc :: .obj bm (.map arr clock) :: .prd fm (MapP pairE (keyM E (intV lo)) []) :: rest ∧ ts = [(0, .pointer (some ⟨gn, 0, none⟩)), (2, .pointer (some ⟨g2, 0, none⟩)), (17, .pointer (some ⟨gi, 0, none⟩))]) clock
  (l := [(0, _), (2, _), (17, _)]) (B := _) ?_ (List.Sublist.refl _) ⟨rfl, [], fun _ _ => false, #[], by simp, hI, by simp, by simp, rfl, rfl⟩ ?_
 ·exact ⟨rfl, rfl, rfl, trivial⟩
 clear hI hnil
 rintro gm ds ts A ⟨rfl, vs, E, seen, hgm, hI, hvs, hE, rfl, rfl⟩
 (apply tr_v tk; (conv => whnf); apply VStop.mk)
 refine ot_nextK pairK hI rfl rfl rfl rfl rfl (objAt_mem (by (repeat (first | with_unfolding_all exact List.Mem.head _ | assumption | with_unfolding_all refine List.Mem.tail _ ?_)))) (A2 := fun s => .obj gi (.mapIter (some bm) clock s clock) :: .blk g2 109 (fnC (fun _ => 0) 10) :: .blk gn 103 nc :: .obj bm (.map arr clock) :: .prd fm (MapP pairE (keyM E (intV lo)) []) :: rest) (fun s => .here) (fun hall => ?_) (fun e k he hek hkv hkn hI2 => ?_)
 rotate_left
 ·obtain ⟨u, v, rfl, huv, hval⟩ := keyM_some hkv
  rw [hval]
  have hs := hI2.size
  rw [Array.size_push] at hs
  have hk1 := keyM_upd E (intV lo) (intV lo) u v (.int .i64 (lo u v)) rfl fun _ _ _ _ => rfl
  apply ot_v tk
  ((conv => whnf); (repeat ((first | (apply VStop.mk; (first | (refine ot_entryK hI2 rfl rfl rfl rfl (objAt_mem (by (repeat (first | with_unfolding_all exact List.Mem.head _ | assumption | with_unfolding_all refine List.Mem.tail _ ?_)))) (by (repeat (first | with_unfolding_all exact List.Mem.head _ | assumption | with_unfolding_all refine List.Mem.tail _ ?_))) he hek ?_; rw [hval]) | refine tr_region_lex (id := 4) (by kernel_rfl) [.rd, .rd, .rd, .rd, .rd, .rd, .rd, .wr] rfl (by kernel_rfl) ?_ | (refine ot_updF (k := ((u : Int), (v : Int))) pairK mapF rfl rfl rfl rfl rfl (by exact rfl) (by exact rfl) (.there (.there (.there (.there (.there (.there .here)))))) ?_; rw [hk1])); apply ot_v tk) | (apply VLd.mk; first | exact c1 (by (repeat (first | with_unfolding_all exact List.Mem.head _ | assumption | with_unfolding_all refine List.Mem.tail _ ?_))) nc2) | (apply VLd.mk; (focus ((repeat (first | ((with_reducible apply ld_blk); exact rfl) | (with_reducible apply ld_skip))); done))) | (apply VLdN.mk; (focus ((repeat (first | (with_reducible apply ldn_blk) | (with_reducible apply ldn_skip))); done)); exact rfl) | apply VBr.t | (apply VNew.mk; intro g hg) | (apply VSt.mk; (focus ((repeat (first | (with_reducible exact At.here) | (with_reducible apply At.there))); done)); exact rfl)); (conv => whnf))))
  refine v_rnd (gm - 1) (by omega) (l := [(0, _), (2, _), (17, _)]) (B := _) ⟨rfl, rfl, rfl, trivial⟩ (.cons _ (.cons _ (List.Sublist.refl _))) ⟨rfl, vs ++ [((u : Int), (v : Int))], _, seen.push e.born, by rw [Array.size_push]; omega, hI2, fun k hk => ?_, fun a b => ?_, rfl, rfl⟩
  ·rcases List.mem_append.1 hk with hk | hk
   ·exact hvs k hk
   ·exact ⟨u, v, List.mem_singleton.1 hk, huv⟩
  ·rw [Bool.or_eq_true, hE, decide_eq_true_eq, List.mem_append, List.mem_singleton, Prod.mk.injEq]
   have e1 : (a : Int) = u ↔ a = u := by omega
   have e2 : (b : Int) = v ↔ b = v := by omega
   rw [e1, e2]
 have hEe : E = netE R.length C.length := by
  funext a b
  rw [Bool.eq_iff_iff, hE]
  exact ⟨fun h => by
   obtain ⟨u', v', h1, h2⟩ := hvs _ h
   simp only [Prod.mk.injEq] at h1
   obtain rfl : a = u' := by omega
   obtain rfl : b = v' := by omega
   exact h2, fun h => hall _ (rngV lo hi a b) (by rw [keyM_nat, if_pos h])⟩
 subst hEe
 clear hall hgm hvs hE
 apply ot_v tk
 ((conv => whnf); (repeat (apply VBr.f; (conv => whnf))); apply VStop.mk)
 refine tr_st (B := .blk g2 109 (fnC (fun _ => 0) 10) :: netA nc gn bm (keyM (netE R.length C.length) (rngV lo hi)) [] fm (keyM (netE R.length C.length) (intV lo)) [] rest) (fun w hs => ((hs.map_done hI (.there (.there (.there .here)))).sub (.cons _ (List.Sublist.refl _)))) ?_
 have hfl0 : Flow R.length C.length lo hi lo := ⟨hB.lo0, fun u v _ _ => ⟨Int.le_refl _, hlh u v⟩⟩
 clear hI
 have hdn := dfc_nonneg (2 + R.length + C.length) lo
 refine v_loop (fun gm ds ts A => ds = [] ∧ ∃ (fl : Nat → Nat → Int) (st : List (Nat × (Int × Int))), (gm : Int) = dfc (2 + R.length + C.length) fl ∧ Flow R.length C.length lo hi fl ∧ A = .blk g2 109 (fnC (fun _ => 0) 10) :: netA nc gn bm (keyM (netE R.length C.length) (rngV lo hi)) [] fm (keyM (netE R.length C.length) (intV fl)) st rest ∧ ts = [(0, .pointer (some ⟨gn, 0, none⟩)), (2, .pointer (some ⟨g2, 0, none⟩)), (6, .func (.func 100) #[.pointer (some ⟨gn, 0, none⟩)] #[])]) (dfc (2 + R.length + C.length) lo).toNat
  (l := [(0, _), (2, _), (6, _)]) (B := _) ?_ (List.Sublist.refl _) ⟨rfl, lo, [], by omega, hfl0, rfl, rfl⟩ ?_
 ·exact ⟨rfl, rfl, rfl, trivial⟩
 clear hdn hfl0
 rintro gm ds ts A ⟨rfl, fl, st, hgm, hfl, rfl, rfl⟩
 have hG := hfl.net hB
 have hc0 : ∀ {A1 : List Chunk} {w1 : World}, St w0 A1 w1 → .blk gn 103 nc ∈ A1 → w1.cell? ⟨gn, 0, none⟩ = some (.slice RA R.length rc) ∧ w1.cell? ⟨gn, 1, none⟩ = some (.slice CA C.length cc) := fun hs hm => ⟨cell_blk hm (by rw [← hnc]; rfl) _ hs, cell_blk hm (by rw [← hnc]; rfl) _ hs⟩
 have hnd : ∀ {A1 : List Chunk} {w1 : World}, St w0 A1 w1 → .blk gn 103 nc ∈ A1 → _ := fun {A1 w1} hs hm => nodes'_any RA rc CA cc R.length C.length gn w1 (hc0 hs hm).1 (hc0 hs hm).2 (by omega) (by omega)
 have hat : ∀ {pre rest' : List Chunk} {w1 : World}, St w0 (pre ++ netA nc gn bm (keyM (netE R.length C.length) (rngV lo hi)) [] fm (keyM (netE R.length C.length) (intV fl)) st rest') w1 → NetAt w1 RA rc CA cc XA xc R C X lo hi fl gn bm fm := fun {pre rest' w1} hs => by
  have hF := netF_of (RA := RA) (rc := rc) (CA := CA) (cc := cc) (XA := XA) (xc := xc) (R := R) (C := C) (X := X) (lo := lo) (hi := hi) (gn := gn) (bm := bm) (fm := fm) (stb := []) (rest := rest') pre
  rw [hnc] at hF
  exact hF.at_ (fl := fl) (st := st) (List.Sublist.refl _) hs
 have hat1 : ∀ {c : Chunk} {rest' : List Chunk} {w1 : World}, St w0 (c :: netA nc gn bm (keyM (netE R.length C.length) (rngV lo hi)) [] fm (keyM (netE R.length C.length) (intV fl)) st rest') w1 → NetAt w1 RA rc CA cc XA xc R C X lo hi fl gn bm fm := fun {c rest' w1} hs => hat (pre := [c]) hs
 have hat2 : ∀ {c d : Chunk} {rest' : List Chunk} {w1 : World}, St w0 (c :: d :: netA nc gn bm (keyM (netE R.length C.length) (rngV lo hi)) [] fm (keyM (netE R.length C.length) (intV fl)) st rest') w1 → NetAt w1 RA rc CA cc XA xc R C X lo hi fl gn bm fm := fun {c d rest' w1} hs => hat (pre := [c, d]) hs
 have hex := fun (w1 : World) (node : Nat) (h : node < 2 + R.length + C.length) hA => excess_any RA rc CA cc XA xc R C X lo hi fl gn bm fm w1 hA hG hn hm node h
 (apply tr_v tk; (conv => whnf); (repeat ((apply VCall.q; kernel_rfl; (focus (intro w1 hs; first | ((with_reducible apply hnd hs); (repeat (first | with_unfolding_all exact List.Mem.head _ | assumption | with_unfolding_all refine List.Mem.tail _ ?_)))))); (conv => whnf))); apply VStop.mk)
 refine v_loop (fun gm ds ts A => ds = [] ∧ ∃ (k : Nat) (B : Option Addr) (cap : Nat) (RL : List Chunk), k + gm = 2 + R.length + C.length ∧ (B = none → (richL (2 + R.length + C.length) fl k).length = 0) ∧ (B = none ∨ ∃ b o, B = some ⟨b, o, none⟩) ∧ (richL (2 + R.length + C.length) fl k).length ≤ cap ∧ (∀ A1, RL.Sublist A1 → ∀ w1, St w0 A1 w1 → Reads w1 w1.heap.size 1 B (richL (2 + R.length + C.length) fl k).length (natV (richL (2 + R.length + C.length) fl k))) ∧ A.Perm (.blk g2 109 (fnC (fun _ => 0) 10) :: netA nc gn bm (keyM (netE R.length C.length) (rngV lo hi)) [] fm (keyM (netE R.length C.length) (intV fl)) st (RL ++ rest)) ∧ ts = [(0, .pointer (some ⟨gn, 0, none⟩)), (2, .pointer (some ⟨g2, 0, none⟩)), (6, .func (.func 100) #[.pointer (some ⟨gn, 0, none⟩)] #[]), (7, .slice B (richL (2 + R.length + C.length) fl k).length cap), (33, .int .i64 ((2 + R.length + C.length : Nat) : Int)), (34, .int .i64 (k : Int))]) (2 + R.length + C.length)
  (l := [(0, _), (2, _), (6, _), (7, _), (33, _), (34, _)]) (B := _) ?_ (List.Sublist.refl _) ⟨rfl, 0, none, 0, [], by omega, fun _ => rfl, .inl rfl, Nat.le_refl _, fun A1 _ w1 _ => ⟨rfl, fun h => absurd h (Nat.lt_irrefl 0)⟩, .refl _, rfl⟩ ?_
 ·exact ⟨rfl, rfl, rfl, rfl, rfl, rfl, trivial⟩
 rintro gm2 ds ts A ⟨rfl, k, B, cap, RL, hk, hB1, hB2, hcap, hR, hA, rfl⟩
 refine tr_perm hA ?_
 clear hA A
 have hst := richL_step (2 + R.length + C.length) fl k
 by_cases hlt : k < 2 + R.length + C.length
 ·by_cases hx : 0 < exc (2 + R.length + C.length) fl k
  ·rw [if_pos hx] at hst
   have hbl : (richL (2 + R.length + C.length) fl k).length ≤ 10 := by
    have := List.length_filter_le (fun v => decide (0 < exc (2 + R.length + C.length) fl v)) (List.range k)
    rw [List.length_range] at this
    unfold richL; omega
   generalize richL (2 + R.length + C.length) fl k = rl at *
   (apply tr_v tk; (conv => whnf); (repeat ((first | ((first | apply VStop.mk | apply VCall.stop); (first | (refine ot_slice_trim tk rfl rfl rfl rfl rfl rfl rfl rfl rfl rfl rfl hcap hB2 ?_) | (refine ot_append_full (sz := 1) (xs := natV rl) (news := [.int .i64 (k : Int)]) tk (by decide) rfl rfl rfl rfl rfl rfl rfl rfl rfl (by decide) hB1 (fun w1 hs => hR _ (.cons _ (.cons _ (.cons _ (.cons _ (.cons _ (List.sublist_append_left _ _)))))) w1 hs) (cells_blk_all (.head _)) rfl (by omega) (by decide) (fun gr capr hgr hcr => ?_))); apply ot_v tk) | (apply VCall.q; kernel_rfl; (focus (intro w1 hs; first | with_reducible apply hex w1 k hlt (hat1 hs)))) | (apply VRng.mk; omega) | apply VBr.t | (apply v_t; omega) | (apply VNew.mk; intro g hg)); (conv => whnf))))
   have hnv : natV rl ++ [.int .i64 (k : Int)] = natV (rl ++ [k]) := by simp [natV]
   rw [hnv]
   have hll : rl.length + 1 = (rl ++ [k]).length := by simp
   refine v_rnd (gm2 - 1) (by omega) (l := [(0, _), (2, _), (6, _), (7, _), (33, _), (34, _)]) (B := .row gr 0 (natV (rl ++ [k])) :: .blk g2 109 (fnC (fun _ => 0) 10) :: netA nc gn bm (keyM (netE R.length C.length) (rngV lo hi)) [] fm (keyM (netE R.length C.length) (intV fl)) st rest) ⟨rfl, rfl, rfl, rfl, rfl, rfl, trivial⟩ (.cons_cons _ (.cons _ (.cons_cons _ (.cons_cons _ (.cons_cons _ (.cons_cons _ (List.sublist_append_right _ _))))))) ⟨rfl, k + 1, some ⟨gr, 0, none⟩, capr, [.row gr 0 (natV (rl ++ [k]))], by omega, (fun h => by cases h), .inr ⟨_, _, rfl⟩, by rw [hst]; omega, fun A1 hA1 w1 hs => ?_, (List.perm_middle (l₁ := [_, _, _, _])).symm, by rw [hst, ← hll]; rfl⟩
   rw [hst]
   have hh := hs.all _ (hA1.subset (.head _))
   exact ⟨by simp [natV], fun _ => ⟨gr, 0, rfl, hh.1, fun j u hu => hh.2 j u hu⟩⟩
  ·rw [if_neg hx] at hst
   (apply tr_v tk; (conv => whnf); (repeat ((first | (apply VCall.q; kernel_rfl; (focus (intro w1 hs; first | with_reducible apply hex w1 k hlt (hat1 hs)))) | (apply VRng.mk; omega) | apply VBr.t | apply VBr.f | (apply v_t; omega) | (apply v_f; omega)); (conv => whnf))))
   exact v_rnd (gm2 - 1) (by omega) (l := [(0, _), (2, _), (6, _), (7, _), (33, _), (34, _)]) (B := _) ⟨rfl, rfl, rfl, rfl, rfl, rfl, trivial⟩ (List.Sublist.refl _) ⟨rfl, k + 1, B, cap, RL, by omega, by rw [hst]; exact hB1, hB2, by rw [hst]; exact hcap, by rw [hst]; exact hR, .refl _, by rw [hst]; rfl⟩
 obtain rfl : k = 2 + R.length + C.length := by omega
 clear hk hlt hst
 generalize hrl : richL (2 + R.length + C.length) fl (2 + R.length + C.length) = rl at *
 have hrm : ∀ v, v < 2 + R.length + C.length → (v ∈ rl ↔ 0 < exc (2 + R.length + C.length) fl v) := fun v hv => by
  rw [← hrl]
  unfold richL
  rw [List.mem_filter, List.mem_range, decide_eq_true_eq]
  exact ⟨fun h => h.2, fun h => ⟨hv, h⟩⟩
 have hrn : rl.Nodup := by
  rw [← hrl]
  exact List.Nodup.sublist List.filter_sublist List.nodup_range
 have hrN : ∀ f ∈ rl, f < 2 + R.length + C.length := fun f hf => by
  rw [← hrl] at hf
  unfold richL at hf
  exact List.mem_range.1 (List.mem_filter.1 hf).1
 by_cases hr0 : rl.length = 0
 ·have hnil2 : rl = [] := List.eq_nil_of_length_eq_zero hr0
  have hci : Circ (2 + R.length + C.length) lo hi fl := circ_of_le hfl.inb fun v hv => Int.not_lt.1 fun h => by
   have := (hrm v hv).2 h
   rw [hnil2] at this; cases this
  (apply tr_v tk; (conv => whnf); (repeat ((first | (apply VStop.mk; (refine ot_buildZ tk rfl rfl rfl rfl rfl ⟨_, rfl⟩ ?_); apply ot_v tk) | apply VBr.t | apply VBr.f | (apply v_t; omega) | (apply v_f; omega) | (apply VSt.mk; (focus ((repeat (first | (with_reducible exact At.here) | (with_reducible apply At.there))); done)); exact rfl)); (conv => whnf))))
  (apply VRet.mk)
  refine ret2 (by first | exact .inl rfl | exact .inr rfl) rfl (by exact rv_row tk rfl rfl rfl (by first | exact cells_blk_all (by (repeat (first | exact List.Mem.head _ | assumption | refine List.Mem.tail _ ?_))) | exact cells_row0 (by (repeat (first | exact List.Mem.head _ | assumption | refine List.Mem.tail _ ?_)))) rfl) (by exact rv_tmp rfl) ?_
  exact fun w hs => ⟨⟨true, fun _ => 0, fl, st⟩, rfl, ⟨hfl, fun _ => hci, fun h => by cases h⟩, hs.sub (.cons _ (.cons_cons _ (.cons_cons _ (.cons_cons _ (List.sublist_append_right _ _)))))⟩
 obtain ⟨rb, ro, rfl⟩ : ∃ rb ro, B = some ⟨rb, ro, none⟩ := by
  rcases hB2 with h | h
  ·exact absurd (hB1 h) hr0
  ·exact h
 have hway := fun (w1 : World) hA hR => way_any RA rc CA cc XA xc R C X lo hi fl gn bm fm w1 hA hG hn hm rb ro cap rl hR (by omega) hrN hrn 0 0
 (apply tr_v tk; (conv => whnf); (repeat ((first | apply VBr.f | (apply v_f; omega)); (conv => whnf))); apply VCall.stop)
 refine ot_callQ (X := Nat → Int) (us := []) (vs := []) (fun seen => .agg (fnC seen 10).toArray) (fun seen => WayOK (2 + R.length + C.length) (lessM (fun u v => decide (0 < res lo hi fl u v)) 0 0) rl seen) (by decide) rfl rfl rfl rfl (by kernel_rfl) (evl_of rfl) rfl (fun w1 hs => hway w1 (hat1 hs) (hR _ (.cons _ (.cons _ (.cons _ (.cons _ (List.sublist_append_left _ _))))) w1 hs)) (fun seen hseen => ?_)
 have hL1 : ∀ u v, lessM (fun u v => decide (0 < res lo hi fl u v)) 0 0 u v = true → 0 < res lo hi fl u v := fun u v h => by
  unfold lessM at h
  simp only [Bool.and_eq_true, decide_eq_true_eq] at h
  exact h.1.1
 have hL2 : ∀ u v, lessM (fun u v => decide (0 < res lo hi fl u v)) 0 0 u v = false → res lo hi fl u v ≤ 0 := fun u v h => Int.not_lt.1 fun hp => by
  unfold lessM at h
  dsimp only at h
  rw [decide_eq_true hp] at h
  by_cases huv : u = 0 ∧ v = 0
  ·rw [huv.1, huv.2] at hp
   have h00 : netE R.length C.length 0 0 = false := by
    cases hb : netE R.length C.length 0 0 with
    | false => rfl
    | true => rw [netE_iff] at hb; unfold netP at hb; omega
   have := hfl.g0 _ _ h00
   have := hB.hi0 _ _ h00
   have := hB.lo0 _ _ h00
   unfold res at hp; omega
  ·have h1 : decide (u = 0 ∧ v = 0) = false := decide_eq_false huv
   rw [h1] at h
   simp at h
 apply ot_v tk
 ((conv => whnf); (repeat ((first | (apply VCall.q; kernel_rfl; (focus (intro w1 hs; first | ((with_reducible apply hnd hs); (repeat (first | with_unfolding_all exact List.Mem.head _ | assumption | with_unfolding_all refine List.Mem.tail _ ?_)))))) | (apply VNew.mk; intro g hg) | (apply VSt.mk; (focus ((repeat (first | (with_reducible exact At.here) | (with_reducible apply At.there))); done)); exact rfl)); (conv => whnf))); apply VStop.mk)
 revert g hg
 intro g9 hg9
 have hfb : ∀ k, k < 2 + R.length + C.length → 0 < seen k → seen k ≠ 0 := fun k _ h => by omega
 obtain ⟨rk, hback⟩ := hseen.back
 have hsb : ∀ v, v < 10 → -1 ≤ seen v ∧ seen v ≤ 100 := fun v hv => by
  have h0 := way_lt hseen hN hv
  refine ⟨by omega, ?_⟩
  by_cases h1 : seen v = 0
  ·omega
  obtain ⟨_, q1, q2, q3, q4⟩ := hseen
  by_cases h2 : v < 2 + R.length + C.length
  ·rcases q2 v h2 h1 with h | ⟨p, p1, p2, _⟩
   ·rw [q1 v h]; omega
   ·omega
  ·have := q4 v hv (by omega); omega
 refine v_loop (fun gm2 ds ts A => ds = [] ∧ ∃ k : Nat, k + gm2 = 2 + R.length + C.length ∧ (∀ v, v < k → exc (2 + R.length + C.length) fl v < 0 → seen v = 0) ∧ A = .blk g9 109 (fnC seen 10) :: .blk g2 109 (fnC (fun _ => 0) 10) :: netA nc gn bm (keyM (netE R.length C.length) (rngV lo hi)) [] fm (keyM (netE R.length C.length) (intV fl)) st rest ∧ ts = [(0, .pointer (some ⟨gn, 0, none⟩)), (2, .pointer (some ⟨g2, 0, none⟩)), (6, .func (.func 100) #[.pointer (some ⟨gn, 0, none⟩)] #[]), (9, .pointer (some ⟨g9, 0, none⟩)), (60, .int .i64 ((2 + R.length + C.length : Nat) : Int)), (61, .int .i64 (k : Int))]) (2 + R.length + C.length)
  (l := [(0, _), (2, _), (6, _), (9, _), (60, _), (61, _)]) (B := .blk g9 109 (fnC seen 10) :: .blk g2 109 (fnC (fun _ => 0) 10) :: netA nc gn bm (keyM (netE R.length C.length) (rngV lo hi)) [] fm (keyM (netE R.length C.length) (intV fl)) st rest) ?_ (.cons_cons _ (.cons_cons _ (.cons_cons _ (.cons_cons _ (.cons_cons _ (List.sublist_append_right _ _)))))) ⟨rfl, 0, by omega, fun v h => absurd h (by omega), rfl, rfl⟩ ?_
 ·exact ⟨rfl, rfl, rfl, rfl, rfl, rfl, trivial⟩
 clear hR hcap hB1
 rintro gm2 ds ts A ⟨rfl, k, hk, hno, rfl, rfl⟩
 by_cases hlt : k < 2 + R.length + C.length
 rotate_left
 ·have hcs := cutS_of hN hfl hL2 hseen hrm (by
   cases hq : rl with
   | nil => rw [hq] at hr0; exact absurd rfl hr0
   | cons v _ => exact ⟨v, .head _, hrN v (by rw [hq]; exact .head _)⟩) fun v hv h => hno v (by omega) h
  (apply tr_v tk; (conv => whnf); (repeat ((first | (apply VLdN.mk; exact cells_blk_all (by (repeat (first | with_unfolding_all exact List.Mem.head _ | assumption | with_unfolding_all refine List.Mem.tail _ ?_))); exact rfl) | apply VBr.f | (apply v_f; omega) | (apply VSt.mk; (focus ((repeat (first | (with_reducible exact At.here) | (with_reducible apply At.there))); done)); exact rfl)); (conv => whnf))))
  (apply VRet.mk)
  refine ret2 (by first | exact .inl rfl | exact .inr rfl) rfl (by exact rv_row tk rfl rfl rfl (by first | exact cells_blk_all (by (repeat (first | exact List.Mem.head _ | assumption | refine List.Mem.tail _ ?_))) | exact cells_row0 (by (repeat (first | exact List.Mem.head _ | assumption | refine List.Mem.tail _ ?_)))) rfl) (by exact rv_tmp rfl) ?_
  exact fun w hs => ⟨⟨false, seen, fl, st⟩, rfl, ⟨hfl, (fun h => by cases h), fun _ => hcs⟩, hs.sub (.cons _ (.cons _ (List.Sublist.refl _)))⟩
 have hsk := hsb k (by omega)
 by_cases hx : exc (2 + R.length + C.length) fl k < 0 ∧ seen k > 0
 rotate_left
 ·have hno' : ∀ v, v < k + 1 → exc (2 + R.length + C.length) fl v < 0 → seen v = 0 := fun v hv h => by
   rcases Nat.lt_or_ge v k with h1 | h1
   ·exact hno v h1 h
   ·obtain rfl : v = k := by omega
    have := way_lt hseen hN (show v < 10 by omega)
    omega
  by_cases hx1 : exc (2 + R.length + C.length) fl k < 0
  ·have hx2 : ¬(seen k > 0) := fun h => hx ⟨hx1, h⟩
   (apply tr_v tk; (conv => whnf); (repeat ((first | (apply VIx.mk (j := k); exact rfl; omega) | (apply VLd.mk; first | exact cell_fnC (by (repeat (first | with_unfolding_all exact List.Mem.head _ | assumption | with_unfolding_all refine List.Mem.tail _ ?_))) (by omega)) | (apply VCall.q; kernel_rfl; (focus (intro w1 hs; first | with_reducible apply hex w1 k hlt (hat2 hs)))) | (apply VRng.mk; omega) | apply VBr.t | apply VBr.f | (apply v_t; omega) | (apply v_f; omega)); (conv => whnf))))
   exact v_rnd (gm2 - 1) (by omega) (l := [(0, _), (2, _), (6, _), (9, _), (60, _), (61, _)]) (B := _) ⟨rfl, rfl, rfl, rfl, rfl, rfl, trivial⟩ (List.Sublist.refl _) ⟨rfl, k + 1, by omega, hno', rfl, rfl⟩
  ·(apply tr_v tk; (conv => whnf); (repeat ((first | (apply VCall.q; kernel_rfl; (focus (intro w1 hs; first | with_reducible apply hex w1 k hlt (hat2 hs)))) | (apply VRng.mk; omega) | apply VBr.t | apply VBr.f | (apply v_t; omega) | (apply v_f; omega)); (conv => whnf))))
   exact v_rnd (gm2 - 1) (by omega) (l := [(0, _), (2, _), (6, _), (9, _), (60, _), (61, _)]) (B := _) ⟨rfl, rfl, rfl, rfl, rfl, rfl, trivial⟩ (List.Sublist.refl _) ⟨rfl, k + 1, by omega, hno', rfl, rfl⟩
 obtain ⟨hx1, hx2⟩ := hx
 obtain ⟨r, l, hws, hrf, hl⟩ := hback k hlt (by omega)
 (apply tr_v tk; (conv => whnf); (repeat ((first | (apply VIx.mk (j := k); exact rfl; omega) | (apply VLd.mk; first | exact cell_fnC (by (repeat (first | with_unfolding_all exact List.Mem.head _ | assumption | with_unfolding_all refine List.Mem.tail _ ?_))) (by omega)) | (apply VCall.q; kernel_rfl; (focus (intro w1 hs; first | with_reducible apply hex w1 k hlt (hat2 hs)))) | apply VBr.t | (apply v_t; omega)); (conv => whnf))); apply VStop.mk)
 refine v_loop (fun gm ds ts A => ds = [] ∧ ∃ (j at_ : Nat), j + gm = l.length ∧ WayS seen r at_ (l.drop j) ∧ at_ < 2 + R.length + C.length ∧ A = .blk g9 109 (fnC seen 10) :: .blk g2 109 (fnC (fun _ => 0) 10) :: netA nc gn bm (keyM (netE R.length C.length) (rngV lo hi)) [] fm (keyM (netE R.length C.length) (intV fl)) st rest ∧ ts = [(0, .pointer (some ⟨gn, 0, none⟩)), (2, .pointer (some ⟨g2, 0, none⟩)), (6, .func (.func 100) #[.pointer (some ⟨gn, 0, none⟩)] #[]), (9, .pointer (some ⟨g9, 0, none⟩)), (10, .int .i64 (k : Int)), (11, .int .i64 (exc (2 + R.length + C.length) fl k)), (12, .int .i64 (at_ : Int))]) l.length
  (l := [(0, _), (2, _), (6, _), (9, _), (10, _), (11, _), (12, _)]) (B := _) ?_ (List.Sublist.refl _) ⟨rfl, 0, k, by omega, hws, hlt, rfl, rfl⟩ ?_
 ·exact ⟨rfl, rfl, rfl, rfl, rfl, rfl, rfl, trivial⟩
 rintro gm3 ds ts A ⟨rfl, j, at_, hj, hwk, hat', rfl, rfl⟩
 by_cases hjt : j < l.length
 ·have hdr := List.drop_eq_getElem_cons hjt
  rw [hdr] at hwk
  generalize l[j] = x at *
  generalize hd2 : l.drop (j + 1) = l2 at *
  cases hwk with
  | @step _ p _ h1 h2 hwk =>
  have hp := (hl (p, at_) (by
   have : (p, at_) ∈ l.drop j := by rw [hdr]; exact .head _
   exact List.mem_of_mem_drop this)).1
  have e1 : seen at_ - 1 = (p : Int) := by omega
  (apply tr_v tk; (conv => whnf); (repeat ((first | (apply VIx.mk (j := at_); exact rfl; omega) | (apply VLd.mk; first | exact cell_fnC (by (repeat (first | with_unfolding_all exact List.Mem.head _ | assumption | with_unfolding_all refine List.Mem.tail _ ?_))) (by omega)) | (apply VRng.mk; omega) | apply VBr.t | (apply v_t; omega)); (conv => whnf))))
  rw [e1]
  exact v_rnd (gm3 - 1) (by omega) (l := [(0, _), (2, _), (6, _), (9, _), (10, _), (11, _), (12, _)]) (B := _) ⟨rfl, rfl, rfl, rfl, rfl, rfl, rfl, trivial⟩ (List.Sublist.refl _) ⟨rfl, j + 1, p, by omega, by rw [hd2]; exact hwk, hp, rfl, rfl⟩
 obtain rfl : j = l.length := by omega
 rw [List.drop_length] at hwk
 cases hwk with
 | stop hroot =>
 have hpr := (hrm r (hrN r hrf)).1 hrf
 have hxk := exc_small hN hG.sg k
 have hxr := exc_small hN hG.sg r
 (apply tr_v tk; (conv => whnf); (repeat ((first | ((first | apply VStop.mk | apply VCall.stop); refine tr_region_lex (id := 24) (by kernel_rfl) [.rd, .rd, .rd, .rd, .rd, .rd, .rd, .cr, .rd, .wr] rfl (by kernel_rfl) ?_; apply ot_v tk) | (apply VIx.mk (j := r); exact rfl; omega) | (apply VLd.mk; first | exact cell_fnC (by (repeat (first | with_unfolding_all exact List.Mem.head _ | assumption | with_unfolding_all refine List.Mem.tail _ ?_))) (by omega)) | (apply VLdN.mk; exact cells_blk_all (by (repeat (first | with_unfolding_all exact List.Mem.head _ | assumption | with_unfolding_all refine List.Mem.tail _ ?_))); exact rfl) | (apply VCall.q; kernel_rfl; (focus (intro w1 hs; first | with_reducible apply hex w1 r (hrN r hrf) (hat2 hs)))) | (apply VRng.mk; omega) | apply VBr.f | (apply v_f; omega)); (conv => whnf))); apply VCall.stop)
 obtain ⟨mo, hmo, hmo1, hmo2⟩ : ∃ mo, (if exc (2 + R.length + C.length) fl r < -exc (2 + R.length + C.length) fl k then exc (2 + R.length + C.length) fl r else -exc (2 + R.length + C.length) fl k) = mo ∧ mo ≤ exc (2 + R.length + C.length) fl r ∧ mo ≤ -exc (2 + R.length + C.length) fl k ∧ 0 < mo ∧ mo ≤ 1000000 := ⟨_, rfl, by split <;> omega, by split <;> omega, by split <;> omega, by split <;> omega⟩
 rw [hmo]
 have hpu := fun {w1 : World} (hs : St w0 (.blk g9 109 (fnC seen 10) :: .blk g2 109 (fnC (fun _ => 0) 10) :: netA nc gn bm (keyM (netE R.length C.length) (rngV lo hi)) [] fm (keyM (netE R.length C.length) (intV fl)) st rest) w1) => push_any (netF_of (RA := RA) (rc := rc) (CA := CA) (cc := cc) (XA := XA) (xc := xc) (R := R) (C := C) (X := X) (lo := lo) (hi := hi) (gn := gn) (bm := bm) (fm := fm) (stb := []) (rest := rest) [.blk g9 109 (fnC seen 10), .blk g2 109 (fnC (fun _ => 0) 10)]) hn hm hB hfl (st := st) (by rw [hnc]; exact hs) hseen hL1 k hlt (by omega) mo hmo2.2.1 hmo2.2.2
 rw [hnc] at hpu
 refine ot_callW (X := Int × (Nat → Nat → Int) × List (Nat × (Int × Int))) (us := []) (vs := []) (fun x => .int .i64 x.1) (fun x => .blk g9 109 (fnC seen 10) :: .blk g2 109 (fnC (fun _ => 0) 10) :: netA nc gn bm (keyM (netE R.length C.length) (rngV lo hi)) [] fm (keyM (netE R.length C.length) (intV x.2.1)) x.2.2 rest)
  (fun x => ∃ r l, WayS seen r k l ∧ r ∈ rl ∧ Along R.length C.length lo hi fl x.1 l ∧ 0 < x.1 ∧ x.1 ≤ mo ∧ x.2.1 = l.foldl (pushE (netE R.length C.length) x.1) fl) rfl rfl rfl rfl rfl (by kernel_rfl) (evl_of rfl) rfl (fun w1 hs => hpu hs) ?_
 rintro ⟨a, fl', st'⟩ ⟨r', l', hws', hr', hal, ha0, ha1, hfl'⟩
 dsimp only at hal ha0 ha1 hfl' ⊢
 obtain ⟨rfl, rfl⟩ := hws.uniq hws'
 subst hfl'
 have hdf := dfc_way (e := netE R.length C.length) (a := a) (g := fl) hws.way (fun x hx => ⟨(hl x hx).1, (hl x hx).2.1⟩) hlt ha0 (by omega) (by omega)
 have hdn := dfc_nonneg (2 + R.length + C.length) (l.foldl (pushE (netE R.length C.length) a) fl)
 have hfn := Along.flow hB (by omega) hfl hal
 apply ot_v tk
 ((conv => whnf))
 exact v_rnd (dfc (2 + R.length + C.length) (l.foldl (pushE (netE R.length C.length) a) fl)).toNat (by omega) (l := [(0, _), (2, _), (6, _)]) (B := .blk g2 109 (fnC (fun _ => 0) 10) :: netA nc gn bm (keyM (netE R.length C.length) (rngV lo hi)) [] fm (keyM (netE R.length C.length) (intV (l.foldl (pushE (netE R.length C.length) a) fl))) st' rest) ⟨rfl, rfl, rfl, trivial⟩ (.cons _ (List.Sublist.refl _)) ⟨rfl, _, st', by omega, hfn, rfl, rfl⟩
end
end Go.Proofs.Ytalcccgialpjgaa
