/- At, Stock: lemmas for the rows of this seat. No conditions. -/
import Derived.Laws.StructEq
import Derived.Test.YtojeeindlijgkaaGreatDoorK8
import Derived.Test.YtojeeindlijgkaaGreatDoorK9
set_option linter.all false
namespace Go.Proofs.YtojeeindlijgkaaGreatDoor
open Go.RowKit
/-! ## At, Stock -/
section
variable {P : Program} {tab : TT} {w0 w : World} {n : Nat} {r : Option Nat} {ds : List Deferred} {ops : List Oper} {o : Oper} {os : List Oper} {ks : List Kind} {ts : TS} {A : List Chunk} {K : TS → List Chunk → Prop} {Q : PostT} {d : Tmp} {x y : Operand} {t u : TypeId} {i i' : TI}
/-- The whole of an array, as a slice. -/
theorem ot_slice_arr {m e g : Nat} (hT : TabOk P tab) (hop : o.op = .slice t x none none none) (hd : o.dst = some d) (hw : wantB ops ts o = some true) (hx : evT ts x = some (.pointer (some ⟨g, 0, none⟩))) (hi : lookI tab t = some i) (hdd : i.d = .ar m e) (hi' : lookI tab e = some i')
  (hk : OT P w0 n ds ops os ks.tail ((d, .slice (some ⟨g, 0, none⟩) m m) :: ts) A K) : OT P w0 n ds ops (o :: os) ks ts A K :=
 ot_val _ hd hw (fun a w hh => by
  have h1 := (hT t i hi).ar hdd
  have h2 := (hT e i' hi').sz w
  simp only [execOp, hop, hh.ev hx, Instr.sliceAt, Option.map_none, Sem.run_bind, run_underlying h1, Result.andThen_ok, Instr.sureAddr, asAddr, Instr.sliceBounds, Sem.run_pure, h2, Nat.zero_mul, Addr.add_none, Nat.sub_zero]
  by_cases hc : m = 0 <;> simp [hc]) hk
theorem ot_own_addr {B : Option Addr} {cc sz m : Nat} {te : TypeId} {xs : List Value} (hA : .own (.slice B m cc) te sz m xs ∈ A) (hm : 0 < m) (hh : ks.headD .wr = .wr) (h : ∀ b, B = some ⟨b, 0, none⟩ → OT P w0 n ds ops (o :: os) ks ts A K) : OT P w0 n ds ops (o :: os) ks ts A K :=
 ot_fact hh (p := ∃ b, B = some ⟨b, 0, none⟩) (fun w' hs => own_addr hs hA hm) fun ⟨b, e⟩ => h b e
theorem tr_own_addr {c : Code} {B : Option Addr} {cc sz m : Nat} {te : TypeId} {xs : List Value} (hA : .own (.slice B m cc) te sz m xs ∈ A) (hm : 0 < m) (h : ∀ b, B = some ⟨b, 0, none⟩ → Tr P r w0 n c ds ts A Q) : Tr P r w0 n c ds ts A Q :=
 tr_fact (p := ∃ b, B = some ⟨b, 0, none⟩) (fun w' hs => own_addr hs hA hm) fun ⟨b, e⟩ => h b e
end
theorem one_fnC {f : Nat → Int} {n : Nat} : ∀ u ∈ fnC f n, u.oneCell' = true := by
 intro u hu
 obtain ⟨i, _, rfl⟩ := List.mem_map.1 hu
 rfl
section
variable (B : Option Addr) (c : Nat) (l : List Ln) (w : World) (h : BookR w B l) (hm : l.length ≤ maxLen)
include h hm
set_option maxRecDepth 20000 in
theorem at_err (s : Int) (hE : chkBook l ≠ 0) : Calls Tryz.prog 19 #[.agg #[.slice B l.length c], .int .i64 s] w fun e w' => e = .returned (.tuple #[.slice none 0 0, .int .i64 (chkBook l)]) ∧ Below w.heap.size w w' := by
 have k1 := fun {g t : Nat} {A : List Chunk} {w0 w1 : World} (hs : St w0 A w1) (hb : BookR w1 B l) (hA : Chunk.blk g t [.slice B l.length c] ∈ A) => open1_err g B c l w1 (hs.blk_reads hA rfl) hb hm hE
 generalize chkBook l = z at *
 refine fn_v tk (n := 35) (A := []) Tryz.func19 rfl rfl (Nat.le_of_ble_eq_true rfl) (St.nil (Below.refl _ _)) ?_
 ((conv => whnf); (repeat ((first | (apply VCall.q; kernel_rfl; (focus (intro w1 hs; first | ((with_reducible apply k1 hs (hs.book h)); (repeat (first | exact List.Mem.head _ | assumption | refine List.Mem.tail _ ?_)))))) | (apply VLdN.mk; (focus ((repeat (first | (with_reducible apply ldn_blk) | (with_reducible apply ldn_skip))); done)); exact rfl) | apply VBr.t | (apply v_t; omega) | (apply VNew.mk; intro g hg)); (conv => whnf))))
 (apply VRet.mk)
 refine ret2 (by first | exact .inl rfl | exact .inr rfl) rfl (by exact rv_tmp rfl) (by exact rv_tmp rfl) ?_
 exact fun w h => ⟨rfl, h.base⟩
set_option maxRecDepth 20000 in
theorem at_arg (s : Int) (z0 : chkBook l = 0) (hs : inB s 0 999 = false) : Calls Tryz.prog 19 #[.agg #[.slice B l.length c], .int .i64 s] w fun e w' => e = .returned (.tuple #[.slice none 0 0, .int .i64 2]) ∧ Below w.heap.size w w' := by
 have k2 := fun {g t : Nat} {A : List Chunk} {w0 w1 : World} (hw : St w0 A w1) (hm : Chunk.blk g t [.int .i64 s] ∈ A) => within1_mem (lo := 0) (hi := 999) hs hw hm
 refine fn_v tk (n := 35) (A := []) Tryz.func19 rfl rfl (Nat.le_of_ble_eq_true rfl) (St.nil (Below.refl _ _)) ?_
 ((conv => whnf); (repeat ((first | (apply VLdN.mk; (focus ((repeat (first | (with_reducible apply ldn_blk) | (with_reducible apply ldn_skip))); done)); exact rfl) | (apply VNew.mk; intro g hg)); (conv => whnf))); apply VCall.stop)
 refine ot_callT (X := OpX) (us := []) (vs := []) (fun x => .tuple #[.slice x.B 1 x.c, .int .i64 0]) (fun x => []) (fun x => [.blk x.d1 93 [.slice B l.length c], .own (.slice x.B 1 x.c) 79 1 1 [.pointer (some ⟨x.d1, 0, none⟩)]]) _ (fun x c hc => two_mut hc) (by decide) rfl rfl rfl rfl (by kernel_rfl) (evl_of rfl) rfl (fun w1 hs => open1_ok _ B c l w1 (hs.blk_reads (by (repeat (first | exact List.Mem.head _ | assumption | refine List.Mem.tail _ ?_))) rfl) (hs.book h) hm z0) ?_
 intro x _
 (dsimp only [List.cons_append, List.nil_append]; apply ot_v tk)
 ((conv => whnf); (repeat ((first | (apply VCall.q; kernel_rfl; (focus (intro w1 hs; first | ((with_reducible apply k2 hs); (repeat (first | exact List.Mem.head _ | assumption | refine List.Mem.tail _ ?_)))))) | apply VBr.t | apply VBr.f | (apply v_f; omega) | (apply VNew.mk; intro g hg)); (conv => whnf))))
 (apply VRet.mk)
 refine ret2 (by first | exact .inl rfl | exact .inr rfl) rfl (by exact rv_tmp rfl) (by exact rv_tmp rfl) ?_
 exact fun w h => ⟨rfl, h.base⟩
set_option maxRecDepth 20000 in
theorem at_ok (s : Int) (hV : Valid l) (hs : inB s 0 999 = true) : Calls Tryz.prog 19 #[.agg #[.slice B l.length c], .int .i64 s] w fun e w' => ∃ x : SlX, e = .returned (.tuple #[.slice x.1 8 x.2, .int .i64 0]) ∧ True ∧ St w ([] ++ [.own (.slice x.1 8 x.2) 2 1 8 (fnC (stF s l) 8)]) w' := by
 have z0 := chk_valid.2 hV
 have k2 := fun {g t : Nat} {A : List Chunk} {w0 w1 : World} (hw : St w0 A w1) (hm : Chunk.blk g t [.int .i64 s] ∈ A) => within1_mem (lo := 0) (hi := 999) hs hw hm
 refine fn_v tk (n := 35) (A := []) Tryz.func19 rfl rfl (Nat.le_of_ble_eq_true rfl) (St.nil (Below.refl _ _)) ?_
 ((conv => whnf); (repeat ((first | (apply VLdN.mk; (focus ((repeat (first | (with_reducible apply ldn_blk) | (with_reducible apply ldn_skip))); done)); exact rfl) | (apply VNew.mk; intro g hg)); (conv => whnf))); apply VCall.stop)
 refine ot_callT (X := OpX) (us := []) (vs := []) (fun x => .tuple #[.slice x.B 1 x.c, .int .i64 0]) (fun x => []) (fun x => [.blk x.d1 93 [.slice B l.length c], .own (.slice x.B 1 x.c) 79 1 1 [.pointer (some ⟨x.d1, 0, none⟩)]]) _ (fun x c hc => two_mut hc) (by decide) rfl rfl rfl rfl (by kernel_rfl) (evl_of rfl) rfl (fun w1 hs => open1_ok _ B c l w1 (hs.blk_reads (by (repeat (first | exact List.Mem.head _ | assumption | refine List.Mem.tail _ ?_))) rfl) (hs.book h) hm z0) ?_
 intro x _
 obtain ⟨Bx, cx, d1, d2⟩ := x
 dsimp only [List.cons_append, List.nil_append]
 refine ot_own_addr (B := Bx) (m := 1) (cc := cx) (te := 79) (sz := 1) (xs := [.pointer (some ⟨d1, 0, none⟩)]) (by (repeat (first | exact List.Mem.head _ | assumption | refine List.Mem.tail _ ?_))) (by omega) rfl ?_
 rintro bx rfl
 apply ot_v tk
 have k3 := fun {A : List Chunk} {w1 : World} (hs : St w A w1) (hA : Chunk.blk d1 93 [.slice B l.length c] ∈ A) => stock56_any s d1 B c l w1 (cell_blk hA rfl w1 hs) (hs.book h) hV
 unfold stV at k3
 ((conv => whnf); (repeat ((first | ((first | apply VStop.mk | apply VCall.stop); (first | (refine ot_makeSlice (m := 8) tk (by decide) rfl rfl rfl rfl rfl rfl rfl rfl rfl rfl rfl rfl (by omega) (by decide) (fun g hg => ?_)) | (refine ot_slice_arr tk rfl rfl rfl rfl rfl rfl rfl ?_) | (refine ot_copy (vs := fnC (stF s l) 8) tk rfl rfl rfl rfl rfl rfl rfl rfl rfl rfl (fun w1 hs => hs.blk_reads (by (repeat (first | exact List.Mem.head _ | assumption | refine List.Mem.tail _ ?_))) rfl) (fun u hu => one_fnC u hu) .here rfl (fun e => by cases e) ?_)); apply ot_v tk) | (apply VLd.mk; exact cell_own (by (repeat (first | exact List.Mem.head _ | assumption | refine List.Mem.tail _ ?_))) rfl) | (apply VCall.q; kernel_rfl; (focus (intro w1 hs; first | ((with_reducible apply k2 hs); (repeat (first | exact List.Mem.head _ | assumption | refine List.Mem.tail _ ?_))) | ((with_reducible apply k3 hs); (repeat (first | exact List.Mem.head _ | assumption | refine List.Mem.tail _ ?_)))))) | apply VBr.f | (apply v_f; omega) | (apply VNew.mk; intro g hg) | (apply VIx.mk (j := 0); exact rfl; omega) | (apply VSt.mk; (focus ((repeat (first | (with_reducible exact At.here) | (with_reducible apply At.there))); done)); exact rfl)); (conv => whnf))))
 (apply VRet.mk)
 refine ret2 (by first | exact .inl rfl | exact .inr rfl) rfl (by exact rv_tmp rfl) (by exact rv_tmp rfl) ?_
 exact fun w hs => ⟨(some ⟨_, 0, none⟩, 8), rfl, trivial, (hs.sub (.cons_cons _ (List.nil_sublist _))).blk_own (sz := 1) (by rw [fnC_length]) (by unfold maxLen; omega)⟩
set_option maxRecDepth 20000 in
theorem stock_err (hE : chkBook l ≠ 0) : Calls Tryz.prog 17 #[.agg #[.slice B l.length c]] w fun e w' => e = .returned (.tuple #[.slice none 0 0, .int .i64 (chkBook l)]) ∧ Below w.heap.size w w' := by
 have k1 := fun w1 h => at_err B c l w1 h hm 999 hE
 generalize chkBook l = z at *
 refine fn_v tk (n := 8) (A := []) Tryz.func17 rfl rfl (Nat.le_of_ble_eq_true rfl) (St.nil (Below.refl _ _)) ?_
 ((conv => whnf); (repeat ((first | (apply VCall.q; kernel_rfl; (focus (intro w1 hs; first | with_reducible apply k1 w1 (hs.book h)))) | (apply VLdN.mk; (focus ((repeat (first | (with_reducible apply ldn_blk) | (with_reducible apply ldn_skip))); done)); exact rfl) | (apply VNew.mk; intro g hg)); (conv => whnf))))
 (apply VRet.mk)
 refine ret2 (by first | exact .inl rfl | exact .inr rfl) rfl (by exact rv_tmp rfl) (by exact rv_tmp rfl) ?_
 exact fun w h => ⟨rfl, h.base⟩
set_option maxRecDepth 20000 in
theorem stock_ok (hV : Valid l) : Calls Tryz.prog 17 #[.agg #[.slice B l.length c]] w fun e w' => ∃ x : SlX, e = .returned (.tuple #[.slice x.1 8 x.2, .int .i64 0]) ∧ True ∧ St w ([] ++ [.own (.slice x.1 8 x.2) 2 1 8 (fnC (stF 999 l) 8)]) w' := by
 have k1 := fun w1 h => at_ok B c l w1 h hm 999 hV rfl
 refine fn_v tk (n := 8) (A := []) Tryz.func17 rfl rfl (Nat.le_of_ble_eq_true rfl) (St.nil (Below.refl _ _)) ?_
 ((conv => whnf); (repeat ((first | (apply VLdN.mk; (focus ((repeat (first | (with_reducible apply ldn_blk) | (with_reducible apply ldn_skip))); done)); exact rfl) | (apply VNew.mk; intro g hg)); (conv => whnf))); apply VCall.stop)
 refine ot_callT (X := SlX) (us := []) (vs := []) (fun x => .tuple #[.slice x.1 8 x.2, .int .i64 0]) (fun x => []) (fun x => [.own (.slice x.1 8 x.2) 2 1 8 (fnC (stF 999 l) 8)]) _ (fun x c hc => one_mut hc) (by decide) rfl rfl rfl rfl (by kernel_rfl) (evl_of rfl) rfl (fun w1 hs => k1 w1 (hs.book h)) ?_
 intro x _
 (dsimp only [List.cons_append, List.nil_append]; apply ot_v tk)
 ((conv => whnf))
 (apply VRet.mk)
 refine ret2 (by first | exact .inl rfl | exact .inr rfl) rfl (by exact rv_tmp rfl) (by exact rv_tmp rfl) ?_
 exact fun w hs => ⟨x, rfl, trivial, hs.sub (.cons _ (List.Sublist.refl _))⟩
end
/-! ## Maps of lines -/
def pairE (p : Int × Int) : Value := .agg #[.int .i64 p.1, .int .i64 p.2]
theorem pairK : KeyEnc Tryz.prog 90 pairE := pairKeys Tryz.underlying90 Tryz.underlying3 Tryz.underlying3 rfl rfl (by decide) (by decide) (by kernel_rfl)
theorem mapS : Tryz.prog.underlying 85 = some (.map 90 61) := Tryz.underlying85
theorem zv61 : ∀ w, (zeroValue 61).run Tryz.prog w = .ok (.agg #[.int .i64 0, .int .i64 0, .int .i64 0, .int .i64 0, .int .i64 0]) w := fun w => by kernel_rfl
def key (x : Ln) : Int × Int := (x.st, x.ck)
def mapO (f : Int × Int → Option Ln) : Int × Int → Option Value := fun p => (f p).map lnV
def updO (f : Int × Int → Option Ln) (x : Ln) : Int × Int → Option Ln := fun p => if p = key x then some x else f p
def delO (f : Int × Int → Option Ln) (k : Int × Int) : Int × Int → Option Ln := fun p => if p = k then none else f p
theorem mapO_upd (f : Int × Int → Option Ln) (x : Ln) : updM (mapO f) (x.st, x.ck) (lnV x) = mapO (updO f x) := by
 funext p
 unfold updM mapO updO key
 split <;> rfl
theorem mapO_del (f : Int × Int → Option Ln) (k : Int × Int) : delM (mapO f) k = mapO (delO f k) := by
 funext p
 unfold delM mapO delO
 split <;> rfl
theorem mapO_none : (fun _ => none : Int × Int → Option Value) = mapO fun _ => none := rfl
def linesF (l : List Ln) : Int × Int → Option Ln := l.foldl updO fun _ => none
theorem linesF_step {l : List Ln} {j : Nat} (h : j < l.length) : linesF (l.take (j + 1)) = updO (linesF (l.take j)) (lnAt l j) := by
 unfold linesF
 rw [List.take_succ_eq_append_getElem h, List.foldl_append, lnAt_get h]; rfl
theorem foldO_some {l : List Ln} : ∀ {f : Int × Int → Option Ln} {p : Int × Int} {y : Ln}, l.foldl updO f p = some y → (y ∈ l ∧ key y = p) ∨ f p = some y := by
 induction l with
 | nil => intro f p y h; exact .inr h
 | cons x l ih =>
  intro f p y h
  rcases ih h with ⟨h1, h2⟩ | h1
  ·exact .inl ⟨List.mem_cons_of_mem _ h1, h2⟩
  ·unfold updO at h1
   split at h1
   ·rename_i e
    cases h1
    exact .inl ⟨List.mem_cons_self, e.symm⟩
   ·exact .inr h1
theorem foldO_none {l : List Ln} : ∀ {f : Int × Int → Option Ln} {p : Int × Int}, l.foldl updO f p = none → f p = none ∧ ∀ y ∈ l, key y ≠ p := by
 induction l with
 | nil => intro f p h; exact ⟨h, by simp⟩
 | cons x l ih =>
  intro f p h
  obtain ⟨h1, h2⟩ := ih h
  unfold updO at h1
  split at h1
  ·cases h1
  ·rename_i e
   exact ⟨h1, fun y hy => by
    rcases List.mem_cons.1 hy with rfl | hy
    ·exact fun e' => e e'.symm
    ·exact h2 y hy⟩
theorem linesF_some {l : List Ln} {p : Int × Int} {y : Ln} (h : linesF l p = some y) : y ∈ l ∧ key y = p := by
 rcases foldO_some h with h | h
 ·exact h
 ·cases h
theorem linesF_none {l : List Ln} {p : Int × Int} (h : linesF l p = none) : ∀ y ∈ l, key y ≠ p := (foldO_none h).2
theorem mem_at {l : List Ln} {y : Ln} (h : y ∈ l) : ∃ j, j < l.length ∧ lnAt l j = y := by
 obtain ⟨j, hj, e⟩ := List.getElem_of_mem h
 exact ⟨j, hj, by rw [lnAt_get hj, e]⟩
theorem Valid.key_inj {l : List Ln} (h : Valid l) {x y : Ln} (hx : x ∈ l) (hy : y ∈ l) (e : key x = key y) : x = y := by
 obtain ⟨i, hi, rfl⟩ := mem_at hx
 obtain ⟨j, hj, rfl⟩ := mem_at hy
 unfold key at e
 have e1 := congrArg Prod.fst e
 have e2 := congrArg Prod.snd e
 dsimp only at e1 e2
 rcases Nat.lt_trichotomy i j with hij | rfl | hij
 ·have := before_iff.1 (h.ord i j hij hj); omega
 ·rfl
 ·have := before_iff.1 (h.ord j i hij hi); omega
theorem Valid.linesF {l : List Ln} (h : Valid l) {x : Ln} (hx : x ∈ l) : linesF l (key x) = some x := by
 cases hf : YtojeeindlijgkaaGreatDoor.linesF l (key x) with
 | none => exact absurd rfl (linesF_none hf x hx)
 | some y =>
  obtain ⟨h1, h2⟩ := linesF_some hf
  rw [h.key_inj h1 hx h2]
theorem prd_mut {b : Nat} {p : Option Obj → Prop} {d : Chunk} (h : d ∈ [Chunk.prd b p]) : d.mut = true := by rw [List.mem_singleton.1 h]; rfl
set_option maxRecDepth 20000 in
theorem lines_any (gd : Nat) (B : Option Addr) (c : Nat) (l : List Ln) (w : World) (hd : w.cell? ⟨gd, 0, none⟩ = some (.slice B l.length c)) (h : BookR w B l) (hm : l.length ≤ maxLen) : Calls Tryz.prog 62 #[.pointer (some ⟨gd, 0, none⟩)] w fun e w' => ∃ x : Nat, e = .returned (.map (some x)) ∧ True ∧ St w ([] ++ [.prd x (MapP pairE (mapO (linesF l)) [])]) w' := by
 unfold maxLen at hm
 have cd : ∀ A, CellAt w A gd 0 _ := fun A => CellAt.base hd
 refine fn_v tk (n := 26) (A := []) Tryz.func62 rfl rfl (Nat.le_of_ble_eq_true rfl) (St.nil (Below.refl _ _)) ?_
 ((conv => whnf); (repeat ((first | (apply VStop.mk; (refine ot_makeMapF pairE (by decide) rfl rfl rfl (fun gm hgm => ?_)); apply ot_v tk) | (apply VLd.mk; exact cd _)); (conv => whnf))); apply VStop.mk)
 rw [mapO_none]
 refine v_loop (fun g2 ds ts A => ds = [] ∧ ∃ j : Nat, j + g2 = l.length ∧ A = [.prd gm (MapP pairE (mapO (linesF (l.take j))) [])] ∧ ts = [(3, .map (some gm)), (11, .slice B l.length c), (12, .int .i64 (l.length : Int)), (13, .int .i64 (j : Int))]) l.length (l := [(3, _), (11, _), (12, _), (13, _)]) (B := _) ?_ (List.Sublist.refl _) ⟨rfl, 0, by omega, rfl, rfl⟩ ?_
 ·exact ⟨rfl, rfl, rfl, rfl, trivial⟩
 rintro g2 ds ts A ⟨rfl, j, hj, rfl, rfl⟩
 by_cases hlt : j < l.length
 ·obtain ⟨b, o, rfl⟩ := book_addr h hlt
  have c1 := fun A => ln_cells h hlt A
  have hst := linesF_step hlt
  have hup := mapO_upd (linesF (l.take j)) (lnAt l j)
  rw [← hst] at hup
  clear hst
  unfold lnL at c1
  unfold lnV at hup
  generalize lnAt l j = x at *
  generalize linesF (l.take j) = f at *
  generalize hf' : linesF (l.take (j + 1)) = f' at *
  (apply tr_v tk; (conv => whnf); (repeat ((first | (apply VStop.mk; (refine ot_updF (k := (x.st, x.ck)) pairK mapS rfl rfl rfl rfl rfl (by exact rfl) (by exact rfl) (.there .here) ?_); apply ot_v tk) | (apply VLdN.mk; exact c1 _; exact rfl) | (apply VIx.mk (j := j); exact rfl; omega) | (apply VLd.mk; (focus ((repeat (first | ((with_reducible apply ld_blk); exact rfl) | (with_reducible apply ld_skip))); done))) | (apply VLdN.mk; (focus ((repeat (first | (with_reducible apply ldn_blk) | (with_reducible apply ldn_skip))); done)); exact rfl) | (apply VRng.mk; omega) | apply VBr.t | (apply v_t; omega) | (apply VNew.mk; intro g hg) | (apply VSt.mk; (focus ((repeat (first | (with_reducible exact At.here) | (with_reducible apply At.there))); done)); exact rfl)); (conv => whnf))))
  exact v_rnd (g2 - 1) (by omega) (l := [(3, _), (11, _), (12, _), (13, _)]) (B := _) ⟨rfl, rfl, rfl, rfl, trivial⟩ (.cons _ (List.Sublist.refl _)) ⟨rfl, j + 1, by omega, by rw [hup, hf'], rfl⟩
 obtain rfl : j = l.length := by omega
 rw [List.take_length]
 (apply tr_v tk; (conv => whnf); (repeat ((first | apply VBr.f | (apply v_f; omega)); (conv => whnf))))
 (apply VRet.mk)
 refine ret1 (by first | exact .inl rfl | exact .inr rfl) rfl (by exact rv_tmp rfl) ?_
 exact fun w hs => ⟨gm, rfl, trivial, hs⟩
end Go.Proofs.YtojeeindlijgkaaGreatDoor
