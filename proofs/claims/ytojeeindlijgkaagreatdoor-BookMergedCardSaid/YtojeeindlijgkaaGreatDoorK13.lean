/- only, where: lemmas for the rows of this seat. No conditions. -/
import Derived.Laws.StructEq
import Derived.Test.YtojeeindlijgkaaGreatDoorK11
set_option linter.all false
namespace Go.Proofs.YtojeeindlijgkaaGreatDoor
open Go.RowKit
/-! ## only, where -/
def zLn : Ln := ⟨0, 0, 0, 0, 0⟩
def stepD (f : Int × Int → Option Ln) (x : Ln) : Int × Int → Option Ln := if (f (key x)).getD zLn = x then delO f (key x) else f
def onlyF (l1 l2 : List Ln) : Int × Int → Option Ln := l2.foldl stepD (linesF l1)
theorem onlyF_step (l1 : List Ln) {l2 : List Ln} {j : Nat} (h : j < l2.length) : onlyF l1 (l2.take (j + 1)) = stepD (onlyF l1 (l2.take j)) (lnAt l2 j) := by
 unfold onlyF
 rw [List.take_succ_eq_append_getElem h, List.foldl_append, lnAt_get h]; rfl
theorem stepD_none {f : Int × Int → Option Ln} {p : Int × Int} (h : f p = none) (y : Ln) : stepD f y p = none := by
 unfold stepD
 split
 ·unfold delO
  split
  ·rfl
  ·exact h
 ·exact h
theorem foldD_none {l : List Ln} : ∀ {f : Int × Int → Option Ln} {p : Int × Int}, f p = none → l.foldl stepD f p = none := by
 induction l with
 | nil => exact fun h => h
 | cons y l ih => exact fun h => ih (stepD_none h y)
theorem foldD_some {l : List Ln} {x : Ln} : ∀ {f : Int × Int → Option Ln}, f (key x) = some x → l.foldl stepD f (key x) = if x ∈ l then none else some x := by
 induction l with
 | nil => intro f h; rw [if_neg (by simp)]; exact h
 | cons y l ih =>
  intro f h
  rw [List.foldl_cons]
  by_cases e : x = y
  ·subst e
   rw [if_pos List.mem_cons_self]
   refine foldD_none ?_
   unfold stepD
   rw [h, Option.getD_some, if_pos rfl]
   exact if_pos rfl
  ·have hs : stepD f y (key x) = some x := by
    unfold stepD
    split
    ·rename_i hy
     unfold delO
     rw [if_neg]
     ·exact h
     ·intro ek
      rw [← ek, h, Option.getD_some] at hy
      exact e hy
    ·exact h
   rw [ih hs]
   simp only [List.mem_cons, e, false_or]
theorem onlyF_eq {l1 : List Ln} (h : Valid l1) (l2 : List Ln) {x : Ln} (hx : x ∈ l1) : onlyF l1 l2 (key x) = if x ∈ l2 then none else some x := foldD_some (h.linesF hx)
section
variable {P : Program} {w0 w : World} {n : Nat} {ds : List Deferred} {ops : List Oper} {o : Oper} {os : List Oper} {ks : List Kind} {ts : TS} {A : List Chunk} {K : TS → List Chunk → Prop} {d : Tmp} {x y : Operand} {t kt et : TypeId} {κ : Type} [DecidableEq κ] {enc : κ → Value} {m : κ → Option Value} {b : Nat}
theorem ot_look_g {zv v : Value} {k : κ} (hn : (m k).getD zv = v) (Ke : KeyEnc P kt enc) (ht : P.underlying t = some (.map kt et)) (hzv : ∀ w, (zeroValue et).run P w = .ok zv w) (hop : o.op = .lookup t x y false) (hd : o.dst = some d) (hw : wantB ops ts o = some true) (hx : evT ts x = some (.map (some b))) (hy : evT ts y = some (enc k))
  (hm : MapAt w0 A b enc m) (hk : OT P w0 n ds ops os ks.tail ((d, v) :: ts) A K) : OT P w0 n ds ops (o :: os) ks ts A K :=
 ot_lookF (k := k) Ke ht hzv hop hd hw hx hy hm (by rw [hn]; exact hk)
theorem own_cap5 {w0 w : World} {A : List Chunk} {a : Addr} {t sz n cap : Nat} {xs : List Value} (hs : St w0 A w) (h : .own (.slice (some a) n cap) t sz n xs ∈ A) : n ≤ cap := by
 obtain ⟨_, h2⟩ := hs.all _ h
 rcases h2 with ⟨h2, _⟩ | ⟨g', cap', cur, h3, _, _, h6, _⟩
 ·cases h2
 ·cases h3; exact h6
end
set_option maxRecDepth 20000 in
theorem only_any (gd : Nat) (A1 : Option Addr) (c1 : Nat) (l1 : List Ln) (A2 : Option Addr) (c2 : Nat) (l2 : List Ln) (w : World) (hd : w.cell? ⟨gd, 0, none⟩ = some (.slice A1 l1.length c1)) (h1 : BookR w A1 l1) (h2 : BookR w A2 l2) (hm1 : l1.length ≤ maxLen) (hm2 : l2.length ≤ maxLen) : Calls Tryz.prog 68 #[.pointer (some ⟨gd, 0, none⟩), .slice A2 l2.length c2] w fun e w' => ∃ x : Nat, e = .returned (.map (some x)) ∧ True ∧ St w ([] ++ [.prd x (MapP pairE (mapO (onlyF l1 l2)) [])]) w' := by
 have kl := fun w1 (hs : St w [] w1) => lines_any gd A1 c1 l1 w1 (CellAt.base hd w1 hs) (hs.book h1) hm1
 unfold maxLen at hm2
 clear hd
 refine fn_v tk (n := 31) (A := []) Tryz.func68 rfl rfl (Nat.le_of_ble_eq_true rfl) (St.nil (Below.refl _ _)) ?_
 ((conv => whnf); apply VCall.stop)
 refine ot_callT (X := Nat) (us := []) (vs := []) (fun x => .map (some x)) (fun x => []) (fun x => [.prd x (MapP pairE (mapO (linesF l1)) [])]) _ (fun x c hc => prd_mut hc) (by decide) rfl rfl rfl rfl (by kernel_rfl) (evl_of rfl) rfl (fun w1 hs => kl w1 (St.nil hs.base)) ?_
 intro gm _
 (dsimp only [List.cons_append, List.nil_append]; apply ot_v tk)
 ((conv => whnf); apply VStop.mk)
 refine v_loop (fun g2 ds ts A => ds = [] ∧ ∃ j : Nat, j + g2 = l2.length ∧ A = [.prd gm (MapP pairE (mapO (onlyF l1 (l2.take j))) [])] ∧ ts = [(5, .map (some gm)), (11, .slice A2 l2.length c2), (12, .int .i64 (l2.length : Int)), (13, .int .i64 (j : Int))]) l2.length (l := [(5, _), (11, _), (12, _), (13, _)]) (B := _) ?_ (List.Sublist.refl _) ⟨rfl, 0, by omega, rfl, rfl⟩ ?_
 ·exact ⟨rfl, rfl, rfl, rfl, trivial⟩
 rintro g2 ds ts A ⟨rfl, j, hj, rfl, rfl⟩
 by_cases hlt : j < l2.length
 ·obtain ⟨b, o, rfl⟩ := book_addr h2 hlt
  have c1 := fun A => ln_cells h2 hlt A
  have hst := onlyF_step l1 hlt
  unfold lnL at c1
  generalize lnAt l2 j = x at *
  generalize onlyF l1 (l2.take j) = f at *
  generalize hf' : onlyF l1 (l2.take (j + 1)) = f' at *
  obtain ⟨y, hy⟩ : ∃ y, (f (key x)).getD zLn = y := ⟨_, rfl⟩
  have hk : (mapO f (x.st, x.ck)).getD (.agg #[.int .i64 0, .int .i64 0, .int .i64 0, .int .i64 0, .int .i64 0]) = lnV y := by
   rw [← hy]
   show ((f (key x)).map lnV).getD _ = _
   cases f (key x) <;> rfl
  unfold lnV at hk
  unfold stepD at hst
  rw [hy] at hst
  by_cases e : y = x
  ·rw [if_pos e] at hst
   have he := fun w => ln_eqV (x := y) (y := x) (decide_eq_true e) w
   have hdel := mapO_del f (key x)
   rw [← hst] at hdel
   unfold key at hdel
   (apply tr_v tk; (conv => whnf); (repeat ((first | (apply VStop.mk; (first | refine tr_region_lex (id := 6) (by kernel_rfl) [.rd, .rd, .rd, .rd, .rd] rfl (by kernel_rfl) ?_ | (refine ot_look_g (k := (x.st, x.ck)) hk pairK mapS zv61 rfl rfl rfl rfl (by exact rfl) (mapAt_mem (by (repeat (first | exact List.Mem.head _ | assumption | refine List.Mem.tail _ ?_)))) ?_) | (refine ot_delF (k := (x.st, x.ck)) pairK mapS rfl rfl rfl rfl rfl (by exact rfl) (.there (.there .here)) ?_)); apply ot_v tk) | (apply VLdN.mk; exact c1 _; exact rfl) | (apply VIx.mk (j := j); exact rfl; omega) | (apply VEq.mk true; kernel_rfl; exact he) | (apply VLd.mk; (focus ((repeat (first | ((with_reducible apply ld_blk); exact rfl) | (with_reducible apply ld_skip))); done))) | (apply VLdN.mk; (focus ((repeat (first | (with_reducible apply ldn_blk) | (with_reducible apply ldn_skip))); done)); exact rfl) | (apply VRng.mk; omega) | apply VBr.t | (apply v_t; omega) | (apply VNew.mk; intro g hg) | (apply VSt.mk; (focus ((repeat (first | (with_reducible exact At.here) | (with_reducible apply At.there))); done)); exact rfl)); (conv => whnf))))
   exact v_rnd (g2 - 1) (by omega) (l := [(5, _), (11, _), (12, _), (13, _)]) (B := _) ⟨rfl, rfl, rfl, rfl, trivial⟩ (.cons _ (.cons _ (List.Sublist.refl _))) ⟨rfl, j + 1, by omega, by rw [hdel, hf'], rfl⟩
  ·rw [if_neg e] at hst
   have he := fun w => ln_eqV (x := y) (y := x) (decide_eq_false e) w
   (apply tr_v tk; (conv => whnf); (repeat ((first | (apply VStop.mk; (first | refine tr_region_lex (id := 6) (by kernel_rfl) [.rd, .rd, .rd, .rd, .rd] rfl (by kernel_rfl) ?_ | (refine ot_look_g (k := (x.st, x.ck)) hk pairK mapS zv61 rfl rfl rfl rfl (by exact rfl) (mapAt_mem (by (repeat (first | exact List.Mem.head _ | assumption | refine List.Mem.tail _ ?_)))) ?_)); apply ot_v tk) | (apply VLdN.mk; exact c1 _; exact rfl) | (apply VIx.mk (j := j); exact rfl; omega) | (apply VEq.mk false; kernel_rfl; exact he) | (apply VLd.mk; (focus ((repeat (first | ((with_reducible apply ld_blk); exact rfl) | (with_reducible apply ld_skip))); done))) | (apply VLdN.mk; (focus ((repeat (first | (with_reducible apply ldn_blk) | (with_reducible apply ldn_skip))); done)); exact rfl) | (apply VRng.mk; omega) | apply VBr.t | apply VBr.f | (apply v_t; omega) | (apply VNew.mk; intro g hg) | (apply VSt.mk; (focus ((repeat (first | (with_reducible exact At.here) | (with_reducible apply At.there))); done)); exact rfl)); (conv => whnf))))
   exact v_rnd (g2 - 1) (by omega) (l := [(5, _), (11, _), (12, _), (13, _)]) (B := _) ⟨rfl, rfl, rfl, rfl, trivial⟩ (.cons _ (.cons _ (List.Sublist.refl _))) ⟨rfl, j + 1, by omega, by rw [hf', hst], rfl⟩
 obtain rfl : j = l2.length := by omega
 rw [List.take_length]
 (apply tr_v tk; (conv => whnf); (repeat ((first | apply VBr.f | (apply v_f; omega)); (conv => whnf))))
 (apply VRet.mk)
 refine ret1 (by first | exact .inl rfl | exact .inr rfl) rfl (by exact rv_tmp rfl) ?_
 exact fun w hs => ⟨gm, rfl, trivial, hs⟩
theorem filter_nil_step {α : Type} (p : α → Bool) {l : List α} {j : Nat} (h : j < l.length) (hp : p l[j] = true) : ((l.take (j + 1)).filter p).length = ((l.take j).filter p).length + 1 := by
 rw [filter_step p h, hp, if_pos rfl, List.length_append]; rfl
set_option maxHeartbeats 1000000 in
set_option maxRecDepth 20000 in
theorem where_any (f : FuncId) (u : Value) (p : Ln → Bool) (gd : Nat) (A1 : Option Addr) (c1 : Nat) (l1 : List Ln) (w : World) (hf : hasBody Tryz.prog f = true) (hc : ∀ x ∈ l1, ∀ w1, St w [] w1 → Calls Tryz.prog f #[lnV x, u] w1 fun e w' => e = .returned (.bool (p x)) ∧ Below w1.heap.size w1 w')
  (hd : w.cell? ⟨gd, 0, none⟩ = some (.slice A1 l1.length c1)) (h1 : BookR w A1 l1) (hm1 : l1.length ≤ 1000) : Calls Tryz.prog 69 #[.pointer (some ⟨gd, 0, none⟩), .func (.func f) #[] #[u]] w fun e w' => ∃ x : SlX, e = .returned (.agg #[.slice x.1 (l1.filter p).length x.2]) ∧ True ∧ St w ([] ++ [.own (.slice x.1 (l1.filter p).length x.2) 61 5 (l1.filter p).length (lnC (l1.filter p))]) w' := by
 have cd : ∀ A, CellAt w A gd 0 _ := fun A => CellAt.base hd
 clear hd
 refine fn_v tk (n := 33) (A := []) Tryz.func69 rfl rfl (Nat.le_of_ble_eq_true rfl) (St.nil (Below.refl _ _)) ?_
 ((conv => whnf); (repeat ((first | (apply VLd.mk; exact cd _) | (apply VNew.mk; intro g hg)); (conv => whnf))); apply VStop.mk)
 revert g hg
 intro g4 hg4
 refine tr_own_nil 61 5 ?_
 refine v_loop (fun gm ds ts A => ds = [] ∧ ∃ (j : Nat) (Bx : Option Addr) (cx : Nat), j + gm = l1.length ∧ ((l1.take j).filter p = [] → Bx = none ∧ cx = 0) ∧ A = [.own (.slice Bx ((l1.take j).filter p).length cx) 61 5 ((l1.take j).filter p).length (lnC ((l1.take j).filter p)), .blk g4 24 [.slice none 0 0]] ∧ ts = [(1, .func (.func f) #[] #[u]), (4, .pointer (some ⟨g4, 0, none⟩)), (5, .slice Bx ((l1.take j).filter p).length cx), (12, .slice A1 l1.length c1), (13, .int .i64 (l1.length : Int)), (14, .int .i64 (j : Int))]) l1.length (l := [(1, _), (4, _), (5, _), (12, _), (13, _), (14, _)]) (B := _) ?_ (List.Sublist.refl _) ⟨rfl, 0, none, 0, by omega, fun _ => ⟨rfl, rfl⟩, rfl, rfl⟩ ?_
 ·exact ⟨rfl, rfl, rfl, rfl, rfl, rfl, trivial⟩
 rintro gm ds ts A ⟨rfl, j, Bx, cx, hj, hnil, rfl, rfl⟩
 by_cases hlt : j < l1.length
 ·obtain ⟨b, o, rfl⟩ := book_addr h1 hlt
  have ca := fun A => ln_cells h1 hlt A
  have kx := fun w1 hs => hc (lnAt l1 j) (by rw [lnAt_get hlt]; exact List.getElem_mem hlt) w1 hs
  have hst := filter_step p hlt
  rw [← lnAt_get hlt] at hst
  have hle := filter_le p l1 j
  unfold lnL at ca
  unfold lnV at kx
  generalize lnAt l1 j = x at *
  cases hp : p x
  ·rw [hp] at kx hst
   rw [if_neg (by decide), List.append_nil] at hst
   generalize (l1.take j).filter p = O at *
   (apply tr_v tk; (conv => whnf); (repeat ((first | (apply VLdN.mk; exact ca _; exact rfl) | (apply VIx.mk (j := j); exact rfl; omega) | (apply VLdN.mk; (focus ((repeat (first | (with_reducible apply ldn_blk) | (with_reducible apply ldn_skip))); done)); exact rfl) | apply VBr.t | (apply v_t; omega) | (apply VNew.mk; intro g hg) | (apply VSt.mk; (focus ((repeat (first | (with_reducible exact At.here) | (with_reducible apply At.there))); done)); exact rfl)); (conv => whnf))); apply VCall.stop)
   refine ot_callv_q (us := []) (vs := [u]) rfl rfl rfl rfl hf (evl_of rfl) (fun w1 hs => kx w1 (St.nil hs.base)) ?_
   (apply ot_v tk; (conv => whnf); (repeat ((first | (apply VRng.mk; omega) | apply VBr.f); (conv => whnf))))
   exact v_rnd (gm - 1) (by omega) (l := [(1, _), (4, _), (5, _), (12, _), (13, _), (14, _)]) (B := _) ⟨rfl, rfl, rfl, rfl, rfl, rfl, trivial⟩ (.cons _ (List.Sublist.refl _)) ⟨rfl, j + 1, Bx, cx, by omega, by rw [hst]; exact hnil, by rw [hst], by rw [hst]; rfl⟩
  ·rw [hp] at kx hst
   rw [if_pos rfl] at hst
   have hne : (l1.take (j + 1)).filter p = [] → False := by rw [hst]; simp
   generalize (l1.take j).filter p = O at *
   have hs2 : (O ++ [x]).length = O.length + 1 := by rw [List.length_append]; rfl
   have hs3 := lnC_snoc O x
   unfold lnL at hs3
   by_cases hO : O = []
   ·obtain ⟨rfl, rfl⟩ := hnil hO
    subst hO
    simp only [List.length_nil, lnC]
    clear hs2 hs3 hle
    (apply tr_v tk; (conv => whnf); (repeat ((first | (apply VLdN.mk; exact ca _; exact rfl) | (apply VIx.mk (j := j); exact rfl; omega) | (apply VLdN.mk; (focus ((repeat (first | (with_reducible apply ldn_blk) | (with_reducible apply ldn_skip))); done)); exact rfl) | apply VBr.t | (apply v_t; omega) | (apply VNew.mk; intro g hg) | (apply VSt.mk; (focus ((repeat (first | (with_reducible exact At.here) | (with_reducible apply At.there))); done)); exact rfl)); (conv => whnf))); apply VCall.stop)
    refine ot_callv_q (us := []) (vs := [u]) rfl rfl rfl rfl hf (evl_of rfl) (fun w1 hs => kx w1 (St.nil hs.base)) ?_
    (apply ot_v tk; (conv => whnf); (repeat ((first | (apply VStop.mk; (first | refine tr_region_draw (id := 6) (by kernel_rfl) [0, 1, 2, 3, 4, 5, 6, 7, 8, 9] [.rd, .rd, .rd, .rd, .rd, .rd, .rd, .cr, .wr, .rd] rfl (by kernel_rfl) ?_ | (refine ot_slice_trim tk rfl rfl rfl rfl rfl rfl rfl rfl rfl rfl rfl (Nat.le_refl 0) (.inl rfl) ?_) | (refine ot_appendS (sz := 5) (sl := 0) (A'v := fun v' => _ :: _ :: .own v' 61 5 (0 + 1) ([] ++ [.int .i64 x.st, .int .i64 x.ck, .int .i64 x.kd, .int .i64 x.th, .int .i64 x.vl]) :: _) tk rfl rfl rfl rfl rfl rfl rfl rfl rfl rfl (by decide) rfl (cells_blk_all (.head _)) rfl rfl (fun v' => .there (.there .here)) (by omega) (by decide) (fun B3 c3 => ?_))); apply ot_v tk) | (apply VLdN.mk; (focus ((repeat (first | (with_reducible apply ldn_blk) | (with_reducible apply ldn_skip))); done)); exact rfl) | (apply VRng.mk; omega) | apply VBr.t | (apply VNew.mk; intro g hg)); (conv => whnf))))
    exact v_rnd (gm - 1) (by omega) (l := [(1, _), (4, _), (5, _), (12, _), (13, _), (14, _)]) (B := _) ⟨rfl, rfl, rfl, rfl, rfl, rfl, trivial⟩ (.cons _ (.cons _ (List.Sublist.refl _))) ⟨rfl, j + 1, B3, c3, by omega, fun h => (hne h).elim, by rw [hst]; rfl, by rw [hst]; rfl⟩
   ·have hpos : 0 < O.length := List.length_pos_iff.2 hO
    refine tr_fact (p := (∃ b, Bx = some ⟨b, 0, none⟩) ∧ O.length ≤ cx) (fun w' hs => by
     obtain ⟨b, rfl⟩ := own_addr hs (.head _) hpos
     exact ⟨⟨b, rfl⟩, own_cap5 hs (.head _)⟩) ?_
    rintro ⟨⟨bx, rfl⟩, hcap⟩
    (apply tr_v tk; (conv => whnf); (repeat ((first | (apply VLdN.mk; exact ca _; exact rfl) | (apply VIx.mk (j := j); exact rfl; omega) | (apply VLdN.mk; (focus ((repeat (first | (with_reducible apply ldn_blk) | (with_reducible apply ldn_skip))); done)); exact rfl) | apply VBr.t | (apply v_t; omega) | (apply VNew.mk; intro g hg) | (apply VSt.mk; (focus ((repeat (first | (with_reducible exact At.here) | (with_reducible apply At.there))); done)); exact rfl)); (conv => whnf))); apply VCall.stop)
    refine ot_callv_q (us := []) (vs := [u]) rfl rfl rfl rfl hf (evl_of rfl) (fun w1 hs => kx w1 (St.nil hs.base)) ?_
    (apply ot_v tk; (conv => whnf); (repeat ((first | (apply VStop.mk; (first | refine tr_region_draw (id := 6) (by kernel_rfl) [0, 1, 2, 3, 4, 5, 6, 7, 8, 9] [.rd, .rd, .rd, .rd, .rd, .rd, .rd, .cr, .wr, .rd] rfl (by kernel_rfl) ?_ | (refine ot_slice_trim tk rfl rfl rfl rfl rfl rfl rfl rfl rfl rfl rfl hcap (.inr ⟨_, _, rfl⟩) ?_) | (refine ot_append_fullO (sz := 5) (sl := O.length) (m := 1) (xs := lnC O) (news := [.int .i64 x.st, .int .i64 x.ck, .int .i64 x.kd, .int .i64 x.th, .int .i64 x.vl]) tk (by decide) rfl rfl rfl rfl rfl rfl rfl rfl rfl rfl (by decide) hpos (fun w1 hs => hs.own_rd (.tail _ (.tail _ (.head _)))) (cells_blk_all (.head _)) rfl (by omega) (by decide) (fun gk ck' hgk => ?_))); apply ot_v tk) | (apply VLdN.mk; (focus ((repeat (first | (with_reducible apply ldn_blk) | (with_reducible apply ldn_skip))); done)); exact rfl) | (apply VRng.mk; omega) | apply VBr.t | (apply VNew.mk; intro g hg)); (conv => whnf))))
    exact v_rnd (gm - 1) (by omega) (l := [(1, _), (4, _), (5, _), (12, _), (13, _), (14, _)]) (B := _) ⟨rfl, rfl, rfl, rfl, rfl, rfl, trivial⟩ (.cons_cons _ (.cons _ (.cons _ (.cons _ (List.Sublist.refl _))))) ⟨rfl, j + 1, some ⟨gk, 0, none⟩, ck', by omega, fun h => (hne h).elim, by rw [hst, hs2, hs3], by rw [hst, hs2]; rfl⟩
 obtain rfl : j = l1.length := by omega
 rw [List.take_length]
 (apply tr_v tk; (conv => whnf); (repeat ((first | apply VBr.f | (apply v_f; omega) | (apply VSt.mk; (focus ((repeat (first | (with_reducible exact At.here) | (with_reducible apply At.there))); done)); exact rfl)); (conv => whnf))))
 (apply VRet.mk)
 refine ret1 (by first | exact .inl rfl | exact .inr rfl) rfl (by exact rv_row tk rfl rfl rfl (by first | exact cells_blk_all (by (repeat (first | exact List.Mem.head _ | assumption | refine List.Mem.tail _ ?_))) | exact cells_row0 (by (repeat (first | exact List.Mem.head _ | assumption | refine List.Mem.tail _ ?_)))) rfl) ?_
 exact fun w hs => ⟨(Bx, cx), rfl, trivial, hs.sub (.cons_cons _ (List.nil_sublist _))⟩
end Go.Proofs.YtojeeindlijgkaaGreatDoor
