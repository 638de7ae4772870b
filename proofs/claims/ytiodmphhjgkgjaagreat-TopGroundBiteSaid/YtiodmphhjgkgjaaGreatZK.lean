/- maps.Clone: lemmas for the rows of this seat. No conditions. -/
import Derived.ChangeKeysEq
import Derived.Laws.StructEq
import Derived.Laws.Externs
import Derived.Test.YtiodmphhjgkgjaaGreatZJ
set_option linter.all false
namespace Go.Proofs.YtiodmphhjgkgjaaGreat
open Go.RowKit
/-! ## maps.Clone -/
section
variable {P : Program} {w0 : World} {n : Nat} {ds : List Deferred} {ops : List Oper} {o : Oper} {os : List Oper} {ks : List Kind} {ts : TS} {A A' : List Chunk} {K : TS → List Chunk → Prop} {d : Tmp} {x y : Operand} {t u : TypeId}
theorem eqIn_mapnil (w : World) (d : Nat) (t k e : TypeId) (p : Option Nat) (h : P.underlying t = some (.map k e)) : (Op.equalIn (d + 1) t (.map p) (.map none)).run P w = .ok p.isNone w := by
  cases p <;> simp [Op.equalIn, run_underlying h]
theorem run_eql_mapnil (w : World) (t k e : TypeId) (p : Option Nat) (h : P.underlying t = some (.map k e)) : (binOp .eql t (.map p) (.map none)).run P w = .ok (.bool p.isNone) w := by
  simp only [binOp]
  simp [show Op.equal t (.map p) (.map none) = Op.equalIn (9999 + 1) t (.map p) (.map none) from rfl, eqIn_mapnil w 9999 t k e p h]
theorem run_mapclone (w : World) {r : Nat} {es : Array MapEntry} {clock : Nat} (t : TypeId) (hb : w.heap[r]? = some (.map es clock)) : (Extern.MapsClone.clone #[.iface t (.map (some r))]).run P w = .ok (.iface t (.map (some w.heap.size))) (w.alloc (.map es clock)) := by
  have e : Extern.MapsClone.clone #[.iface t (.map (some r))] = (getObj r >>= fun o => match o with
      | .map entries clock => (newObj (.map entries clock) >>= fun n => pure (.iface t (.map (some n))))
      | _ => stuck "maps.clone: a map expected") := rfl
  rw [e]
  simp [MapKept.run_getObj_map hb, Result.andThen, go_sem]
theorem ot_mapnil {k e : TypeId} {p : Option Nat} (ht : P.underlying t = some (.map k e)) (hop : o.op = .binOp .eql t x y u) (hd : o.dst = some d) (hw : wantB ops ts o = some true) (hx : evT ts x = some (.map p)) (hy : evT ts y = some (.map none))
    (hk : OT P w0 n ds ops os ks.tail ((d, .bool p.isNone) :: ts) A K) : OT P w0 n ds ops (o :: os) ks ts A K :=
  ot_val _ hd hw (fun a w hh => by
    have h1 : (eqGuard .eql t x y (.map p) (.map none)).run P w = .ok () w := by
      simp [eqGuard, ht, run_underlying ht]
    simp [execOp, hop, hh.ev hx, hh.ev hy, run_eql_mapnil w t k e p ht, h1]) hk
theorem ot_mkIface {k e : TypeId} {v : Value} (ht : P.underlying t = some (.map k e)) (hop : o.op = .makeInterface t x) (hd : o.dst = some d) (hw : wantB ops ts o = some true) (hx : evT ts x = some v)
    (hk : OT P w0 n ds ops os ks.tail ((d, .iface t v) :: ts) A K) : OT P w0 n ds ops (o :: os) ks ts A K :=
  ot_val _ hd hw (fun a w hh => by
    have h1 : (Instr.makeInterface t v).run P w = .ok (.iface t v) w := by simp [Instr.makeInterface, run_underlying ht]
    simp [execOp, hop, hh.ev hx, h1]) hk
theorem ot_assertMap {k e : TypeId} {v : Value} (ht : P.underlying t = some (.map k e)) (hop : o.op = .typeAssert x u t false) (hd : o.dst = some d) (hw : wantB ops ts o = some true) (hx : evT ts x = some (.iface t v))
    (hk : OT P w0 n ds ops os ks.tail ((d, v) :: ts) A K) : OT P w0 n ds ops (o :: os) ks ts A K :=
  ot_val _ hd hw (fun a w hh => by
    have h1 : (Instr.typeAssert (.iface t v) u t false).run P w = .ok v w := by simp [Instr.typeAssert, run_underlying ht, go_sem, Result.andThen]
    simp [execOp, hop, hh.ev hx, h1]) hk
theorem ot_clone {f : FuncId} {fn : Func} {b : Nat} {arr : Array MapEntry} {clock : Nat} (hf : P.funcs[f]? = some fn) (hname : (fn.name == "runtime.NumGoroutine") = false) (hb : fn.body.isNone = true) (hn : Extern.findNext fn = none) (he : Extern.find fn = some Extern.MapsClone.clone)
    (hh : ks.headD .wr ≠ .rd) (hop : o.op = .call { callee := .value (.func f), args := #[x], argTypes := #[u] }) (hd : o.dst = some d) (hw : wantB ops ts o = some true) (hx : evT ts x = some (.iface t (.map (some b)))) (hm : ObjAt w0 A b (.map arr clock))
    (hk : ∀ g, w0.heap.size ≤ g → OT P w0 n ds ops os ks.tail ((d, .iface t (.map (some g))) :: ts) (.obj g (.map arr clock) :: A) K) : OT P w0 n ds ops (o :: os) ks ts A K := by
  refine ot_new (N := fun _ _ => True) (v := undef) hh hd hw fun a w hh => ?_
  refine ⟨_, w.alloc (.map arr clock), _, ?_, (Below.refl _ _).alloc (Nat.le_refl _) _, hh.st.alloc_obj _ (fun c e f h => by cases h), hk w.heap.size hh.st.base.size⟩
  have h1 := run_mapclone (P := P) w t (hm w hh.st)
  have h2 := run_callFunc_extern hf hname hb hn he #[.iface t (.map (some b))] w
  rw [h1] at h2
  simp only [Result.andThen] at h2
  simp only [execOp, hop, resolve, Act.eval, Deferred.ofValue]
  simp [invoke, hh.ev hx, h2]
end
theorem Tryz.fn290 : Tryz.prog.funcs[290]? = some Tryz.f290 := by kernel_rfl
theorem Tryz.fn290a : (Tryz.f290.name == "runtime.NumGoroutine") = false := by kernel_rfl
theorem Tryz.fn290b : Tryz.f290.body.isNone = true := rfl
theorem Tryz.fn290c : Extern.findNext Tryz.f290 = none := by kernel_rfl
theorem Tryz.fn290d : Extern.find Tryz.f290 = some Extern.MapsClone.clone := by kernel_rfl
set_option maxHeartbeats 4000000 in
set_option maxRecDepth 20000 in
theorem clone_any (b : Nat) (arr : Array MapEntry) (clock : Nat) (w : World) (hb : w.heap[b]? = some (.map arr clock)) :
    Calls Tryz.prog 276 #[.map (some b)] w fun e w' => ∃ g : Nat, e = .returned (.map (some g)) ∧ St w [.obj g (.map arr clock)] w' := by
  refine fn_v tk (n := 9) (A := []) Tryz.func276 rfl rfl (Nat.le_of_ble_eq_true rfl) (St.nil (Below.refl _ _)) ?_
  ((conv => whnf); apply VStop.mk)
  refine ot_mapnil Tryz.underlying335 rfl rfl rfl rfl rfl ?_
  apply ot_v tk
  ((conv => whnf); (repeat (apply VBr.f; (conv => whnf))); apply VStop.mk)
  refine ot_mkIface Tryz.underlying335 rfl rfl rfl rfl ?_
  refine ot_clone Tryz.fn290 Tryz.fn290a Tryz.fn290b Tryz.fn290c Tryz.fn290d (by decide) rfl rfl rfl rfl (objAt_base hb _) (fun g hg => ?_)
  refine ot_assertMap Tryz.underlying335 rfl rfl rfl rfl ?_
  apply ot_v tk
  ((conv => whnf))
  (apply VRet.mk)
  refine ret1 (by first | exact .inl rfl | exact .inr rfl) rfl (by exact rv_tmp rfl) ?_
  exact fun w hs => ⟨g, rfl, hs⟩
/-! ## excess: what flows into a node, less what flows out of it -/
def exC (node a b n : Int) : Int := (match zeq b node with
  | true => n
  | false => 0) - (match zeq a node with
  | true => n
  | false => 0)
/-- An entry's share; none if it is no such entry, or too great. -/
def exE (node : Int) (e : AV × AV) : Option Int := match e.1 with
  | .g l => match l with
    | [.i .i64 a, .i .i64 b] => match e.2 with
      | .i .i64 n => match zlt n 1000000000 && zlt (-1000000000) n with
        | true => some (exC node a b n)
        | false => none
      | _ => none
    | _ => none
  | _ => none
def exL (node : Int) (es : List (AV × AV)) : Option Int := match es with
  | [] => some 0
  | e :: l => match exE node e with
    | none => none
    | some x => match exL node l with
      | none => none
      | some y => some (x + y)
theorem exE_bd {node : Int} {e : AV × AV} {x : Int} (h : exE node e = some x) : ∃ a b n, e = (.g [.i .i64 a, .i .i64 b], .i .i64 n) ∧ x = (if b = node then n else 0) - (if a = node then n else 0) ∧ -1000000000 < n ∧ n < 1000000000 := by
  obtain ⟨k, v⟩ := e
  unfold exE at h
  dsimp only at h
  split at h
  · split at h
    · split at h
      · split at h
        · rename_i a b _ n _ hb
          injection h with h
          rw [Bool.and_eq_true, zlt_eq, zlt_eq, decide_eq_true_eq, decide_eq_true_eq] at hb
          refine ⟨a, b, n, rfl, ?_, hb.2, hb.1⟩
          rw [← h]
          unfold exC
          rw [zeq_eq, zeq_eq]
          by_cases h1 : b = node <;> by_cases h2 : a = node <;> simp [h1, h2]
        · cases h
      · cases h
    · cases h
  · cases h
def exH {kd : KD} (node : Int) (e : KK kd × AV) : Int := (exE node (e.1.1, e.2)).getD 0
def exS {kd : KD} (node : Int) (l : List (KK kd × AV)) : Int := (l.map (exH node)).sum
theorem exS_snoc {kd : KD} (node : Int) (l : List (KK kd × AV)) (e : KK kd × AV) : exS node (l ++ [e]) = exS node l + exH node e := by
  unfold exS; simp
theorem exL_ok {kd : KD} {node : Int} : ∀ {ks : List (KK kd × AV)} {z : Int}, exL node (esL ks) = some z → z = exS node ks ∧ ∀ e ∈ ks, ∃ x, exE node (e.1.1, e.2) = some x
  | [], z, h => by
    simp only [esL, List.map_nil, exL, Option.some.injEq] at h
    exact ⟨by rw [← h]; rfl, by simp⟩
  | e :: ks, z, h => by
    have h : (match exE node (e.1.1, e.2) with
      | none => none
      | some x => match exL node (esL ks) with
        | none => none
        | some y => some (x + y)) = some z := h
    cases h1 : exE node (e.1.1, e.2) with
    | none => rw [h1] at h; cases h
    | some x =>
      rw [h1] at h
      dsimp only at h
      cases h2 : exL node (esL ks) with
      | none => rw [h2] at h; cases h
      | some y =>
        rw [h2] at h
        injection h with h
        obtain ⟨h3, h4⟩ := exL_ok h2
        refine ⟨?_, fun e' he => ?_⟩
        · rw [← h, h3]; simp [exS, exH, h1]
        · rcases List.mem_cons.1 he with rfl | he
          · exact ⟨x, h1⟩
          · exact h4 e' he
theorem exS_perm {kd : KD} (node : Int) {l m : List (KK kd × AV)} (h : l.Perm m) : exS node l = exS node m := by
  induction h with
  | nil => rfl
  | cons x _ ih => simp only [exS, List.map_cons, List.sum_cons] at ih ⊢; rw [ih]
  | swap x y l => simp only [exS, List.map_cons, List.sum_cons]; omega
  | trans _ _ h1 h2 => exact h1.trans h2
theorem exS_bd {kd : KD} {node : Int} : ∀ {l : List (KK kd × AV)}, (∀ e ∈ l, ∃ x, exE node (e.1.1, e.2) = some x) → -(2000000000 * (l.length : Int)) ≤ exS node l ∧ exS node l ≤ 2000000000 * (l.length : Int)
  | [], _ => by simp [exS]
  | e :: l, h => by
    obtain ⟨x, hx⟩ := h e (.head _)
    have ih := exS_bd (l := l) (node := node) fun e he => h e (.tail _ he)
    obtain ⟨a, b, n, _, h2, h3, h4⟩ := exE_bd hx
    have e1 : exS node (e :: l) = x + exS node l := by simp [exS, exH, hx]
    rw [e1, List.length_cons]
    push_cast
    have : -2000000000 ≤ x ∧ x ≤ 2000000000 := by
      rw [h2]; split <;> split <;> omega
    omega
noncomputable def exOut (node : Int) (o : AO) : Option Int := match o with
  | .mp kd es _ _ => match kdEq kd kk2 && (keysNd es && Nat.ble es.length 1000) with
    | true => exL node es
    | false => none
  | _ => none
def exIn (v0 v1 v5 : AV) : Option (Nat × Int) := match v0 with
  | .p nm q => match v1 with
    | .i .i64 node => match v5 with
      | .i .i64 z => match Nat.beq q 0 && zeq z 0 with
        | true => some (nm, node)
        | false => none
      | _ => none
    | _ => none
  | _ => none
noncomputable def exM : ZM := fun ts ds => hO (ts.look 0) fun v0 => hO (ts.look 1) fun v1 => hO (ts.look 5) fun v5 => hO (exIn v0 v1 v5) fun p => hb (rdB p.1) fun o => hO (cellM o 4) fun fm => hb (rdB fm) fun o2 => hO (exOut p.2 o2) fun z => hp ⟨.nm, .cons 5 (.i .i64 z) .nil, ds⟩
theorem exIn_ok {v0 v1 v5 : AV} {p : Nat × Int} (h : exIn v0 v1 v5 = some p) : v0 = .p p.1 0 ∧ v1 = .i .i64 p.2 ∧ v5 = .i .i64 0 := by
  unfold exIn at h
  split at h
  · split at h
    · split at h
      · split at h
        · rename_i hb
          rw [Bool.and_eq_true, zeq_eq, decide_eq_true_eq] at hb
          have := Nat.eq_of_beq_eq_true hb.1
          injection h with h; subst h
          rw [this, hb.2]; exact ⟨rfl, rfl, rfl⟩
        · cases h
      · cases h
    · cases h
  · cases h
theorem ex_lm (ts : TL) (ds : List Nat) : LM (exM ts ds) := by unfold exM; (repeat (first | exact LM.pure _ | exact LM.fail | exact LM.read _ | exact LM.write _ _ | exact LM.new _ | assumption | refine LM.bind ?_ fun _ => ?_ | refine LM.opt fun _ => ?_ | refine LM.ite ?_ ?_ | split))
set_option maxHeartbeats 4000000 in
set_option maxRecDepth 20000 in
theorem ex_code {k : Nat} (hk : bitB k 5 = true) : CodeOK Tryz.prog none k 33 (codeAt [true, true, false] (bodyOf Tryz.f237)) exM where
  lm := ex_lm
  ok := fun {ts ds s o s'} h hba ρ r a w w0 mm hf hr hz => by
    unfold exM at h
    obtain ⟨v0, h0, h⟩ := hO_ok h
    obtain ⟨v1, h1, h⟩ := hO_ok h
    obtain ⟨v5, h5, h⟩ := hO_ok h
    obtain ⟨⟨nm, node⟩, hin, h⟩ := hO_ok h
    obtain ⟨rfl, rfl, rfl⟩ := exIn_ok hin
    dsimp only at h h0 h1
    obtain ⟨on, s1, g1, h⟩ := hb_ok h
    obtain ⟨fm, g2, h⟩ := hO_ok h
    obtain ⟨o2, s2, g3, h⟩ := hb_ok h
    obtain ⟨z, g4, h⟩ := hO_ok h
    obtain ⟨rfl, rfl⟩ := hp_ok h
    obtain ⟨e1, e2, e3⟩ := rdB_gt g1
    obtain ⟨e4, e5, e6⟩ := rdB_gt g3
    rw [e2] at e4 e5
    obtain ⟨tn, l, op, rfl, hl⟩ := cellM_ok g2
    unfold exOut at g4
    split at g4
    · rename_i kd es sts nxt
      split at g4
      · rename_i hb
        simp only [Bool.and_eq_true] at hb
        obtain ⟨hb1, hb2, hb3⟩ := hb
        obtain rfl := kdEq_eq hb1
        have hlen := Nat.le_of_ble_eq_true hb3
        obtain ⟨p, hp, hpb, hpo⟩ := hz.zs.at_ e1
        obtain ⟨q, hq, hqb, hqo⟩ := hz.zs.at_ e4
        obtain ⟨hq0, st, hmp, hkeys, _⟩ := id hqo
        obtain ⟨ks, rfl⟩ := esL_of fun e he => (hkeys e he).1
        have hnd := keysNd_ok hb2
        obtain ⟨hz1, hz2⟩ := exL_ok g4
        have hks : ks.length ≤ 1000 := by simpa [esL] using hlen
        have hne : nm ≠ fm := fun e => by subst e; rw [e1] at e4; cases e4
        have hcm : cv ρ (.m fm) = .map (some q.1) := by simp [cv, hq]
        have K : KeyEnc Tryz.prog 219 (enK ρ kk2) := kk2_key Tryz.pk219 ρ
        refine wpIn_mono (code_tr1 (r := r) hz (fun _ _ => gt32) e4 hq (S := [(0, .pointer (some ⟨p.1, p.2, none⟩)), (1, .int .i64 node), (5, .int .i64 0)]) (SlT.consE h0 (by simp [cv, Env.at_, hp]) (SlT.consE h1 (by simp [cv]) (SlT.consE h5 (by simp [cv]) SlT.nil))) (ts' := .cons 5 (.i .i64 z) .nil) (o' := .mp kk2 (esL ks) sts nxt) ?_ (fun F hF => ?_)) ?_
        · intro t u hu
          rw [TL.look_cons] at hu
          split at hu
          · rename_i ht; subst ht; injection hu with hu; subst hu; exact ⟨by simp [Dm], hk⟩
          · cases hu
        · have c1 : ∀ A, (∀ c ∈ F, c ∈ A) → CellAt w0 A p.1 (p.2 + 4) (.map (some q.1)) := fun A hA => by
            rw [← hcm]; exact cellAt_oh (hA _ (hF nm _ p hne e1 hp)) hl
          refine tr_mp_it (fun arr clock => .obj q.1 (.map arr clock) :: F) (fun _ _ => .here) (fun arr clock hob hI => ?_)
          (apply tr_v tk; (conv => whnf); (repeat ((apply VLd.mk; exact c1 _ (fun c hc => .tail _ hc)); (conv => whnf))); apply VStop.mk)
          refine ot_rangeB Tryz.underlying222 (by decide) rfl rfl rfl rfl (objAt_mem (.head _)) (fun gi hgi => ?_)
          apply ot_v tk
          ((conv => whnf); apply VStop.mk)
          refine v_loop (fun gm ds' ts A => ds' = dfL ρ ds ∧ ∃ (vs : List (KK kk2)) (k1 k2 : List (KK kk2 × AV)) (seen : Array Nat), seen.size + gm = clock ∧ ItOK (enK ρ kk2) (mpF ρ (esL ks) kk2) vs arr clock seen ∧ Gone ks vs k1 k2 ∧ A = .obj gi (.mapIter (some q.1) clock seen clock) :: .obj q.1 (.map arr clock) :: F ∧ ts = [(1, .int .i64 node), (5, .int .i64 (exS node k1)), (12, .pointer (some ⟨gi, 0, none⟩))]) clock
            (l := [(1, _), (5, _), (12, _)]) (B := _) ?_ (List.Sublist.refl _) ⟨rfl, [], [], ks, #[], by simp, hI, Gone.start ks, rfl, rfl⟩ ?_
          · exact ⟨rfl, rfl, rfl, trivial⟩
          clear hI
          rintro gm ds' ts' A ⟨rfl, vs, k1, k2, seen, hgm, hI, hgo, rfl, rfl⟩
          (apply tr_v tk; (conv => whnf); apply VStop.mk)
          refine ot_nextK K hI rfl rfl rfl rfl rfl (objAt_mem (.tail _ (.head _))) (A2 := fun s => .obj gi (.mapIter (some q.1) clock s clock) :: .obj q.1 (.map arr clock) :: F) (fun s => .here) (fun hall => ?_) (fun e k he hek hkv hkn hI2 => ?_)
          · have hfin : exS node k1 = z := by rw [hz1]; exact exS_perm node (hgo.done hnd hall)
            rw [hfin]
            apply ot_v tk
            ((conv => whnf); (repeat (apply VBr.f; (conv => whnf))))
            refine ⟨rfl, rfl, fun t u hu => ?_, fun w hs => st_obj .here hob (hs.sub (.cons _ (List.Sublist.refl _)))⟩
            rw [TL.look_cons] at hu
            split at hu
            · rename_i ht; subst ht; injection hu with hu; subst hu; rfl
            · cases hu
          obtain ⟨u, k2', rfl0, hmem, hgo2⟩ := hgo.next hnd hkv hkn
          obtain ⟨x, hx⟩ := hz2 _ hmem
          obtain ⟨ka, kb, n, hkey, hxe, hn1, hn2⟩ := exE_bd hx
          simp only [Prod.mk.injEq] at hkey
          obtain ⟨hkey, rfl⟩ := hkey
          have hek2 : enK ρ kk2 k = .agg #[.int .i64 ka, .int .i64 kb] := by unfold enK; rw [hkey]; simp [cv, cvL]
          have hval : e.val = .int .i64 n := by rw [rfl0]; simp [cv]
          rw [hval, hek2]
          have hs := hI2.size
          rw [Array.size_push] at hs
          have hbd := exS_bd (node := node) fun e he => hz2 e (hgo.sub he)
          have hl1 : k1.length ≤ 1000 := by
            have := hgo.perm.length_eq
            rw [List.length_append] at this
            omega
          have hst : exS node (k1 ++ [(k, .i .i64 n)]) = exS node k1 + ((if kb = node then n else 0) - (if ka = node then n else 0)) := by
            rw [exS_snoc]; unfold exH; rw [hx, ← hxe]; rfl
          generalize exS node k1 = S0 at *
          apply ot_v tk
          by_cases h1 : kb = node
          · by_cases h2 : ka = node
            · ((conv => whnf); (repeat ((first | (apply VStop.mk; (refine ot_entryK hI2 rfl rfl rfl rfl (objAt_mem (.tail _ (.head _))) (.head _) he hek ?_; rw [hval, hek2]); apply ot_v tk) | (apply VLd.mk; (focus ((repeat (first | ((with_reducible apply ld_blk); exact rfl) | (with_reducible apply ld_skip))); done))) | (apply VRng.mk; omega) | apply VBr.t | (apply v_t; omega) | (apply VNew.mk; intro g hg) | (apply VSt.mk; (focus ((repeat (first | (with_reducible exact At.here) | (with_reducible apply At.there))); done)); exact rfl)); (conv => whnf))))
              exact v_rnd (gm - 1) (by omega) (l := [(1, _), (5, _), (12, _)]) (B := _ :: _ :: F) ⟨rfl, rfl, rfl, trivial⟩ (.cons _ (List.Sublist.refl _)) ⟨rfl, vs ++ [k], k1 ++ [(k, .i .i64 n)], k2', seen.push e.born, by rw [Array.size_push]; omega, hI2, hgo2, rfl, by rw [hst, if_pos h1, if_pos h2, show S0 + (n - n) = S0 + n - n by omega]⟩
            · ((conv => whnf); (repeat ((first | (apply VStop.mk; (refine ot_entryK hI2 rfl rfl rfl rfl (objAt_mem (.tail _ (.head _))) (.head _) he hek ?_; rw [hval, hek2]); apply ot_v tk) | (apply VLd.mk; (focus ((repeat (first | ((with_reducible apply ld_blk); exact rfl) | (with_reducible apply ld_skip))); done))) | (apply VRng.mk; omega) | apply VBr.t | apply VBr.f | (apply v_t; omega) | (apply v_f; omega) | (apply VNew.mk; intro g hg) | (apply VSt.mk; (focus ((repeat (first | (with_reducible exact At.here) | (with_reducible apply At.there))); done)); exact rfl)); (conv => whnf))))
              exact v_rnd (gm - 1) (by omega) (l := [(1, _), (5, _), (12, _)]) (B := _ :: _ :: F) ⟨rfl, rfl, rfl, trivial⟩ (.cons _ (List.Sublist.refl _)) ⟨rfl, vs ++ [k], k1 ++ [(k, .i .i64 n)], k2', seen.push e.born, by rw [Array.size_push]; omega, hI2, hgo2, rfl, by rw [hst, if_pos h1, if_neg h2, show S0 + (n - 0) = S0 + n by omega]⟩
          · by_cases h2 : ka = node
            · ((conv => whnf); (repeat ((first | (apply VStop.mk; (refine ot_entryK hI2 rfl rfl rfl rfl (objAt_mem (.tail _ (.head _))) (.head _) he hek ?_; rw [hval, hek2]); apply ot_v tk) | (apply VLd.mk; (focus ((repeat (first | ((with_reducible apply ld_blk); exact rfl) | (with_reducible apply ld_skip))); done))) | (apply VRng.mk; omega) | apply VBr.t | apply VBr.f | (apply v_t; omega) | (apply v_f; omega) | (apply VNew.mk; intro g hg) | (apply VSt.mk; (focus ((repeat (first | (with_reducible exact At.here) | (with_reducible apply At.there))); done)); exact rfl)); (conv => whnf))))
              exact v_rnd (gm - 1) (by omega) (l := [(1, _), (5, _), (12, _)]) (B := _ :: _ :: F) ⟨rfl, rfl, rfl, trivial⟩ (.cons _ (List.Sublist.refl _)) ⟨rfl, vs ++ [k], k1 ++ [(k, .i .i64 n)], k2', seen.push e.born, by rw [Array.size_push]; omega, hI2, hgo2, rfl, by rw [hst, if_neg h1, if_pos h2, show S0 + (0 - n) = S0 - n by omega]⟩
            · ((conv => whnf); (repeat ((first | (apply VStop.mk; (refine ot_entryK hI2 rfl rfl rfl rfl (objAt_mem (.tail _ (.head _))) (.head _) he hek ?_; rw [hval, hek2]); apply ot_v tk) | (apply VLd.mk; (focus ((repeat (first | ((with_reducible apply ld_blk); exact rfl) | (with_reducible apply ld_skip))); done))) | apply VBr.t | apply VBr.f | (apply v_f; omega) | (apply VNew.mk; intro g hg) | (apply VSt.mk; (focus ((repeat (first | (with_reducible exact At.here) | (with_reducible apply At.there))); done)); exact rfl)); (conv => whnf))))
              exact v_rnd (gm - 1) (by omega) (l := [(1, _), (5, _), (12, _)]) (B := _ :: _ :: F) ⟨rfl, rfl, rfl, trivial⟩ (.cons _ (List.Sublist.refl _)) ⟨rfl, vs ++ [k], k1 ++ [(k, .i .i64 n)], k2', seen.push e.born, by rw [Array.size_push]; omega, hI2, hgo2, rfl, by rw [hst, if_neg h1, if_neg h2, show S0 + (0 - 0) = S0 by omega]⟩
        · rintro e a' w' ⟨he, hzf⟩
          have hG : setG s.gt fm (some (.mp kk2 (esL ks) sts nxt)) = s2.gt := by
            rw [e5]
            funext m
            unfold setG
            split
            · rename_i hm; subst hm; exact e4.symm
            · rfl
          rw [hG] at hzf
          exact ⟨he, ρ, Grw.refl _ _ _, hzf⟩
      · cases g4
    · cases g4
/-! ## le2: entries are deleted as a map is gone through -/
def le2B (e : AV × AV) : Bool := match e.2 with
  | .i k _ => Nat.beq (knd .i64) (knd k)
  | _ => false
def le2C (e : AV × AV) : Bool := match e.2 with
  | .i _ n => !(zlt 0 n)
  | _ => false
theorem le2B_ok {e : AV × AV} (h : le2B e = true) : ∃ n, e.2 = .i .i64 n := by
  obtain ⟨k, v⟩ := e
  unfold le2B at h
  cases v <;> first | (cases h; done) | skip
  rename_i k n
  have := knd_inj (show Nat.beq (knd .i64) (knd k) = true from h)
  subst this
  exact ⟨n, rfl⟩

noncomputable def le2O (o : AO) : Option AO := match o with
  | .mp kd es _ nxt => match kdEq kd kk2 && (keysNd es && (es.all le2B && Nat.ble es.length 1000)) with
    | true => some (.mp kk2 (es.filter fun e => !le2C e) [] nxt)
    | false => none
  | _ => none
noncomputable def le2M : ZM := fun ts ds => hO (ts.look 3) fun v => hO (mapN v) fun om => hb (rdB om) fun o => hO (le2O o) fun o' => hb (wrB om (some o')) fun _ => hp ⟨.nm, .cons 3 (.m om) .nil, ds⟩
theorem le2_lm (ts : TL) (ds : List Nat) : LM (le2M ts ds) := by unfold le2M; (repeat (first | exact LM.pure _ | exact LM.fail | exact LM.read _ | exact LM.write _ _ | exact LM.new _ | assumption | refine LM.bind ?_ fun _ => ?_ | refine LM.opt fun _ => ?_ | refine LM.ite ?_ ?_ | split))
set_option maxHeartbeats 4000000 in
set_option maxRecDepth 20000 in
theorem le2_code {k : Nat} (hk : bitB k 3 = true) : CodeOK Tryz.prog none k 57 (codeAt [true, true, true, false] (bodyOf Tryz.f265)) le2M where
  lm := le2_lm
  ok := fun {ts ds s o s'} h hba ρ r a w w0 mm hf hr hz => by
    unfold le2M at h
    obtain ⟨v, h0, h⟩ := hO_ok h
    obtain ⟨om, h1, h⟩ := hO_ok h
    obtain ⟨o1, s1, g1, h⟩ := hb_ok h
    obtain ⟨o', g2, h⟩ := hO_ok h
    obtain ⟨_, s2, g3, h⟩ := hb_ok h
    obtain ⟨rfl, rfl⟩ := hp_ok h
    obtain rfl := mapN_ok h1
    obtain ⟨e1, e2, e3⟩ := rdB_gt g1
    obtain ⟨_, e5, e6⟩ := wrB_gt g3
    rw [e2] at e5
    unfold le2O at g2
    split at g2
    · rename_i kd es sts nxt
      split at g2
      · rename_i hb
        injection g2 with g2
        subst g2
        simp only [Bool.and_eq_true] at hb
        obtain ⟨hb1, hb2, hb3, hb4⟩ := hb
        obtain rfl := kdEq_eq hb1
        obtain ⟨q, hq, hqb, hqo⟩ := hz.zs.at_ e1
        obtain ⟨hq0, st, hmp, hkeys, _⟩ := id hqo
        obtain ⟨ks, rfl⟩ := esL_of fun e he => (hkeys e he).1
        have hnd := keysNd_ok hb2
        have hall0 : ∀ e ∈ ks, le2B (e.1.1, e.2) = true := fun e he => List.all_eq_true.1 hb3 _ (List.mem_map.2 ⟨e, he, rfl⟩)
        have hcm : cv ρ (.m om) = .map (some q.1) := by simp [cv, hq]
        have K : KeyEnc Tryz.prog 219 (enK ρ kk2) := kk2_key Tryz.pk219 ρ
        refine wpIn_mono (code_tr1 (r := r) hz (fun _ _ => gt32) e1 hq (S := [(3, .map (some q.1))]) (SlT.consE h0 hcm.symm SlT.nil) (ts' := .cons 3 (.m om) .nil) (o' := .mp kk2 ((esL ks).filter fun e => !le2C e) [] nxt) ?_ (fun F hF => ?_)) ?_
        · intro t u hu
          rw [TL.look_cons] at hu
          split at hu
          · rename_i ht; subst ht; injection hu with hu; subst hu; exact ⟨by simp [Dm, hq], hk⟩
          · cases hu
        · have hfin : ∀ st y, MapP (enK ρ kk2) (mpF ρ (esL (ks.filter fun e => !le2C (e.1.1, e.2))) kk2) st y → OH ρ om q.2 (.mp kk2 ((esL ks).filter fun e => !le2C e) [] nxt) y := fun st y hy => by
            rw [esL_filter] at hy
            exact oh_new hqo (fun e he => hkeys e (List.mem_filter.1 he).1) hy
          refine tr_mp_it (fun arr clock => .obj q.1 (.map arr clock) :: F) (fun _ _ => .here) (fun arr clock hob hI => ?_)
          (apply tr_v tk; (conv => whnf); apply VStop.mk)
          refine ot_rangeB Tryz.underlying222 (by decide) rfl rfl rfl rfl (objAt_mem (.head _)) (fun gi hgi => ?_)
          apply ot_v tk
          ((conv => whnf); apply VStop.mk)
          refine v_loop (fun gm ds' ts A => ds' = dfL ρ ds ∧ ∃ (vs : List (KK kk2)) (k1 k2 : List (KK kk2 × AV)) (seen : Array Nat) (arr : Array MapEntry), seen.size + gm = clock ∧ ItOK (enK ρ kk2) (mpF ρ (esL (Lft (fun e => le2C (e.1.1, e.2)) k1 k2)) kk2) vs arr clock seen ∧ Gone ks vs k1 k2 ∧ A = .obj gi (.mapIter (some q.1) clock seen clock) :: .obj q.1 (.map arr clock) :: F ∧ ts = [(3, .map (some q.1)), (46, .pointer (some ⟨gi, 0, none⟩))]) clock
            (l := [(3, _), (46, _)]) (B := _) ?_ (List.Sublist.refl _) ⟨rfl, [], [], ks, #[], arr, by simp, hI, Gone.start ks, rfl, rfl⟩ ?_
          · exact ⟨rfl, rfl, trivial⟩
          clear hI hob
          rintro gm ds' ts A ⟨rfl, vs, k1, k2, seen, arr2, hgm, hI, hgo, rfl, rfl⟩
          (apply tr_v tk; (conv => whnf); apply VStop.mk)
          refine ot_nextK K hI rfl rfl rfl rfl rfl (objAt_mem (.tail _ (.head _))) (A2 := fun s => .obj gi (.mapIter (some q.1) clock s clock) :: .obj q.1 (.map arr2 clock) :: F) (fun s => .here) (fun hall => ?_) (fun e k he hek hkv hkn hI2 => ?_)
          · have hdn := Lft.done hnd hgo hall
            rw [hdn] at hI
            apply ot_v tk
            ((conv => whnf); (repeat (apply VBr.f; (conv => whnf))))
            refine ⟨rfl, rfl, fun t u hu => ?_, fun w hs => st_obj .here (hfin _ _ hI.map) (hs.sub (.cons _ (List.Sublist.refl _)))⟩
            rw [TL.look_cons] at hu
            split at hu
            · rename_i ht; subst ht; injection hu with hu; subst hu; rw [hcm]; rfl
            · cases hu
          obtain ⟨u, k2', hval, hmem, hgo2, hno, hyes⟩ := Lft.next hnd hgo hkv hkn
          obtain ⟨n, hu⟩ := le2B_ok (hall0 _ hmem)
          dsimp only at hu
          subst hu
          obtain ⟨ka, kb, hkey⟩ := kk2_form k
          have hek2 : enK ρ kk2 k = .agg #[.int .i64 ka, .int .i64 kb] := by unfold enK; rw [hkey]; simp [cv, cvL]
          have hval : e.val = .int .i64 n := by rw [hval]; simp [cv]
          rw [hval, hek2]
          have hs := hI2.size
          rw [Array.size_push] at hs
          apply ot_v tk
          by_cases hc : n ≤ 0
          · ((conv => whnf); (repeat ((first | (apply VStop.mk; (first | (refine ot_entryK hI2 rfl rfl rfl rfl (objAt_mem (by repeat (first | exact List.mem_cons_self | apply List.mem_cons_of_mem))) (by repeat (first | exact List.mem_cons_self | apply List.mem_cons_of_mem)) he hek ?_; rw [hval, hek2]) | (rw [← hek2]; refine ot_delK (k := k) (A'v := fun a => [_, _] ++ .obj q.1 (.map a clock) :: F) K Tryz.underlying222 hI2 rfl rfl rfl rfl rfl (by exact rfl) (fun a => .there (.there .here)) (fun arr4 hI4 => ?_))); apply ot_v tk) | (apply VLdN.mk; (focus ((repeat (first | (with_reducible apply ldn_blk) | (with_reducible apply ldn_skip))); done)); exact rfl) | apply VBr.t | (apply v_t; omega) | (apply VNew.mk; intro g hg) | (apply VSt.mk; (focus ((repeat (first | (with_reducible exact At.here) | (with_reducible apply At.there))); done)); exact rfl)); (conv => whnf))))
            rw [hyes (by unfold le2C; simp only; rw [zlt_eq]; simp; omega)] at hI4
            exact v_rnd (gm - 1) (by omega) (l := [(3, _), (46, _)]) (B := _ :: _ :: F) ⟨rfl, rfl, trivial⟩ (by exact .cons _ (List.Sublist.refl _)) ⟨rfl, vs ++ [k], k1 ++ [(k, _)], k2', seen.push e.born, arr4, by rw [Array.size_push]; omega, hI4, hgo2, rfl, rfl⟩
          · rw [hno (by unfold le2C; simp only; rw [zlt_eq]; simp; omega)] at hI2
            ((conv => whnf); (repeat ((first | (apply VStop.mk; (refine ot_entryK hI2 rfl rfl rfl rfl (objAt_mem (by repeat (first | exact List.mem_cons_self | apply List.mem_cons_of_mem))) (by repeat (first | exact List.mem_cons_self | apply List.mem_cons_of_mem)) he hek ?_; rw [hval, hek2]); apply ot_v tk) | apply VBr.t | apply VBr.f | (apply v_f; omega) | (apply VNew.mk; intro g hg) | (apply VSt.mk; (focus ((repeat (first | (with_reducible exact At.here) | (with_reducible apply At.there))); done)); exact rfl)); (conv => whnf))))
            exact v_rnd (gm - 1) (by omega) (l := [(3, _), (46, _)]) (B := _ :: _ :: F) ⟨rfl, rfl, trivial⟩ (by exact .cons _ (List.Sublist.refl _)) ⟨rfl, vs ++ [k], k1 ++ [(k, _)], k2', seen.push e.born, arr2, by rw [Array.size_push]; omega, hI2, hgo2, rfl, rfl⟩
        · rintro e a' w' ⟨he, hzf⟩
          rw [← e5] at hzf
          exact ⟨he, ρ, Grw.refl _ _ _, hzf⟩
      · cases g2
    · cases g2
/-! ## re: entries are deleted as a map is gone through -/
def reB (e : AV × AV) : Bool := match e.2 with
  | .i k _ => Nat.beq (knd .i64) (knd k)
  | _ => false
def reC (e : AV × AV) : Bool := match e.2 with
  | .i _ n => zlt n 0
  | _ => false
theorem reB_ok {e : AV × AV} (h : reB e = true) : ∃ n, e.2 = .i .i64 n := by
  obtain ⟨k, v⟩ := e
  unfold reB at h
  cases v <;> first | (cases h; done) | skip
  rename_i k n
  have := knd_inj (show Nat.beq (knd .i64) (knd k) = true from h)
  subst this
  exact ⟨n, rfl⟩

noncomputable def reO (o : AO) : Option AO := match o with
  | .mp kd es _ nxt => match kdEq kd kk2 && (keysNd es && (es.all reB && Nat.ble es.length 1000)) with
    | true => some (.mp kk2 (es.filter fun e => !reC e) [] nxt)
    | false => none
  | _ => none
noncomputable def reM : ZM := fun ts ds => hO (ts.look 7) fun v => hO (ptrN v) fun cm => hb (rdB cm) fun oc => hO (cellM oc 0) fun om => hb (rdB om) fun o => hO (reO o) fun o' => hb (wrB om (some o')) fun _ => hp ⟨.nm, .cons 7 (.p cm 0) .nil, ds⟩
theorem re_lm (ts : TL) (ds : List Nat) : LM (reM ts ds) := by unfold reM; (repeat (first | exact LM.pure _ | exact LM.fail | exact LM.read _ | exact LM.write _ _ | exact LM.new _ | assumption | refine LM.bind ?_ fun _ => ?_ | refine LM.opt fun _ => ?_ | refine LM.ite ?_ ?_ | split))
set_option maxHeartbeats 4000000 in
set_option maxRecDepth 20000 in
theorem re_code {k : Nat} (hk : bitB k 7 = true) : CodeOK Tryz.prog none k 64 (codeAt [true, true, true, false] (bodyOf Tryz.f259)) reM where
  lm := re_lm
  ok := fun {ts ds s o s'} h hba ρ r a w w0 mm hf hr hz => by
    unfold reM at h
    obtain ⟨v, h0, h⟩ := hO_ok h
    obtain ⟨cm, h1, h⟩ := hO_ok h
    obtain ⟨oc, s0, g0, h⟩ := hb_ok h
    obtain ⟨om, g01, h⟩ := hO_ok h
    obtain ⟨o1, s1, g1, h⟩ := hb_ok h
    obtain ⟨o', g2, h⟩ := hO_ok h
    obtain ⟨_, s2, g3, h⟩ := hb_ok h
    obtain ⟨rfl, rfl⟩ := hp_ok h
    obtain rfl := ptrN_ok h1
    obtain ⟨d1, d2, d3⟩ := rdB_gt g0
    obtain ⟨e1, e2, e3⟩ := rdB_gt g1
    rw [d2] at e1 e2
    obtain ⟨tn, l, op, rfl, hl⟩ := cellM_ok g01
    obtain ⟨_, e5, e6⟩ := wrB_gt g3
    rw [e2] at e5
    unfold reO at g2
    split at g2
    · rename_i kd es sts nxt
      split at g2
      · rename_i hb
        injection g2 with g2
        subst g2
        simp only [Bool.and_eq_true] at hb
        obtain ⟨hb1, hb2, hb3, hb4⟩ := hb
        obtain rfl := kdEq_eq hb1
        obtain ⟨q, hq, hqb, hqo⟩ := hz.zs.at_ e1
        obtain ⟨hq0, st, hmp, hkeys, _⟩ := id hqo
        obtain ⟨ks, rfl⟩ := esL_of fun e he => (hkeys e he).1
        have hnd := keysNd_ok hb2
        have hall0 : ∀ e ∈ ks, reB (e.1.1, e.2) = true := fun e he => List.all_eq_true.1 hb3 _ (List.mem_map.2 ⟨e, he, rfl⟩)
        have hcm : cv ρ (.m om) = .map (some q.1) := by simp [cv, hq]
        obtain ⟨pc, hpc, _, _⟩ := hz.zs.at_ d1
        have hcp : cv ρ (.p cm 0) = .pointer (some ⟨pc.1, pc.2, none⟩) := by simp [cv, Env.at_, hpc]
        have hne : cm ≠ om := fun e => by subst e; rw [d1] at e1; cases e1
        have K : KeyEnc Tryz.prog 291 (enK ρ kk2) := kk2_key Tryz.pk291 ρ
        refine wpIn_mono (code_tr1 (r := r) hz (fun _ _ => gt32) e1 hq (S := [(7, .pointer (some ⟨pc.1, pc.2, none⟩))]) (SlT.consE h0 hcp.symm SlT.nil) (ts' := .cons 7 (.p cm 0) .nil) (o' := .mp kk2 ((esL ks).filter fun e => !reC e) [] nxt) ?_ (fun F hF => ?_)) ?_
        · intro t u hu
          rw [TL.look_cons] at hu
          split at hu
          · rename_i ht; subst ht; injection hu with hu; subst hu; exact ⟨by simp [Dm, hpc], hk⟩
          · cases hu
        · have hfin : ∀ st y, MapP (enK ρ kk2) (mpF ρ (esL (ks.filter fun e => !reC (e.1.1, e.2))) kk2) st y → OH ρ om q.2 (.mp kk2 ((esL ks).filter fun e => !reC e) [] nxt) y := fun st y hy => by
            rw [esL_filter] at hy
            exact oh_new hqo (fun e he => hkeys e (List.mem_filter.1 he).1) hy
          have c1 : ∀ A, (∀ c ∈ F, c ∈ A) → CellAt w0 A pc.1 pc.2 (.map (some q.1)) := fun A hA => by
            have := cellAt_oh (w0 := w0) (hA _ (hF cm _ pc hne d1 hpc)) hl
            rw [hcm] at this
            simpa using this
          refine tr_mp_it (fun arr clock => .obj q.1 (.map arr clock) :: F) (fun _ _ => .here) (fun arr clock hob hI => ?_)
          (apply tr_v tk; (conv => whnf); (repeat ((apply VLd.mk; exact c1 _ (fun c hc => .tail _ hc)); (conv => whnf))); apply VCall.stop)
          refine ot_call_st (X := Nat) (fun g => .map (some g)) (fun g => [.obj g (.map arr clock)]) (fun g c hc => by simp at hc; subst hc; rfl) (by decide) rfl rfl rfl (by kernel_rfl) (evl_of rfl) (fun w1 hs => clone_any q.1 arr clock w1 (objAt_mem (.head _) w1 hs)) (fun gc => ?_)
          refine ot_rangeB Tryz.underlying335 (by decide) rfl rfl rfl rfl (objAt_mem (.head _)) (fun gi hgi => ?_)
          apply ot_v tk
          ((conv => whnf); apply VStop.mk)
          refine tr_map_done (A' := .obj gi (.mapIter (some gc) clock #[] clock) :: .obj gc (.map arr clock) :: .prd q.1 (MapP (enK ρ kk2) (mpF ρ (esL ks) kk2) []) :: F) hI (.there (.there .here)) ?_
          refine v_loop (fun gm ds' ts A => ds' = dfL ρ ds ∧ ∃ (vs : List (KK kk2)) (k1 k2 : List (KK kk2 × AV)) (seen : Array Nat), seen.size + gm = clock ∧ ItOK (enK ρ kk2) (mpF ρ (esL ks) kk2) vs arr clock seen ∧ Gone ks vs k1 k2 ∧ A = .obj gi (.mapIter (some gc) clock seen clock) :: .obj gc (.map arr clock) :: .prd q.1 (MapP (enK ρ kk2) (mpF ρ (esL (Lft (fun e => reC (e.1.1, e.2)) k1 k2)) kk2) []) :: F ∧ ts = [(7, .pointer (some ⟨pc.1, pc.2, none⟩)), (53, .pointer (some ⟨gi, 0, none⟩))]) clock
            (l := [(7, _), (53, _)]) (B := _) ?_ (List.Sublist.refl _) ⟨rfl, [], [], ks, #[], by simp, hI, Gone.start ks, rfl, rfl⟩ ?_
          · exact ⟨rfl, rfl, trivial⟩
          clear hI hob
          rintro gm ds' ts A ⟨rfl, vs, k1, k2, seen, hgm, hI, hgo, rfl, rfl⟩
          (apply tr_v tk; (conv => whnf); apply VStop.mk)
          refine ot_nextK K hI rfl rfl rfl rfl rfl (objAt_mem (.tail _ (.head _))) (A2 := fun s => .obj gi (.mapIter (some gc) clock s clock) :: .obj gc (.map arr clock) :: .prd q.1 (MapP (enK ρ kk2) (mpF ρ (esL (Lft (fun e => reC (e.1.1, e.2)) k1 k2)) kk2) []) :: F) (fun s => .here) (fun hall => ?_) (fun e k he hek hkv hkn hI2 => ?_)
          · rw [Lft.doneK hnd hgo hall]
            apply ot_v tk
            ((conv => whnf); (repeat (apply VBr.f; (conv => whnf))))
            refine ⟨rfl, rfl, fun t u hu => ?_, fun w hs => ?_⟩
            · rw [TL.look_cons] at hu
              split at hu
              · rename_i ht; subst ht; injection hu with hu; subst hu; rw [hcp]; rfl
              · cases hu
            · have hs2 := hs.sub (A' := .prd q.1 (MapP (enK ρ kk2) (mpF ρ (esL (ks.filter fun e => !reC (e.1.1, e.2))) kk2) []) :: F) (.cons _ (.cons _ (List.Sublist.refl _)))
              have h9 := hs2.all _ (.head _)
              exact hs2.swap .here rfl rfl ⟨h9.1, h9.2.1, hfin _ _ h9.2.2⟩
          obtain ⟨u, hval, hmem⟩ : ∃ u, e.val = cv ρ u ∧ (k, u) ∈ ks := by
            obtain ⟨u, h1, h2⟩ := (mpF_some hnd).1 hkv
            exact ⟨u, h2, h1⟩
          obtain ⟨k2', hgo2, hno, hyes⟩ := Lft.step (ρ := ρ) (c := fun e => reC (e.1.1, e.2)) hnd hgo hmem hkn
          obtain ⟨n, hu⟩ := reB_ok (hall0 _ hmem)
          dsimp only at hu
          subst hu
          obtain ⟨ka, kb, hkey⟩ := kk2_form k
          have hek2 : enK ρ kk2 k = .agg #[.int .i64 ka, .int .i64 kb] := by unfold enK; rw [hkey]; simp [cv, cvL]
          have hval : e.val = .int .i64 n := by rw [hval]; simp [cv]
          rw [hval, hek2]
          have hs := hI2.size
          rw [Array.size_push] at hs
          apply ot_v tk
          by_cases hc : n < 0
          · have hyes := hyes (by unfold reC; simp only; rw [zlt_eq]; simp [hc])
            ((conv => whnf); (repeat ((first | (apply VStop.mk; (first | (refine ot_entryK hI2 rfl rfl rfl rfl (objAt_mem (by repeat (first | exact List.mem_cons_self | apply List.mem_cons_of_mem))) (by repeat (first | exact List.mem_cons_self | apply List.mem_cons_of_mem)) he hek ?_; rw [hval, hek2]) | (rw [← hek2]; refine ot_delF (k := k) K Tryz.underlying335 rfl rfl rfl rfl rfl (by exact rfl) (.there (.there (.there .here))) ?_; rw [hyes])); apply ot_v tk) | (apply VLd.mk; exact c1 _ (fun c hc => by simp [hc])) | (apply VLdN.mk; (focus ((repeat (first | (with_reducible apply ldn_blk) | (with_reducible apply ldn_skip))); done)); exact rfl) | apply VBr.t | (apply v_t; omega) | (apply VNew.mk; intro g hg) | (apply VSt.mk; (focus ((repeat (first | (with_reducible exact At.here) | (with_reducible apply At.there))); done)); exact rfl)); (conv => whnf))))
            exact v_rnd (gm - 1) (by omega) (l := [(7, _), (53, _)]) (B := _ :: _ :: _ :: F) ⟨rfl, rfl, trivial⟩ (by exact .cons _ (List.Sublist.refl _)) ⟨rfl, vs ++ [k], k1 ++ [(k, _)], k2', seen.push e.born, by rw [Array.size_push]; omega, hI2, hgo2, rfl, rfl⟩
          · rw [hno (by unfold reC; simp only; rw [zlt_eq]; simp; omega)]
            ((conv => whnf); (repeat ((first | (apply VStop.mk; (refine ot_entryK hI2 rfl rfl rfl rfl (objAt_mem (by repeat (first | exact List.mem_cons_self | apply List.mem_cons_of_mem))) (by repeat (first | exact List.mem_cons_self | apply List.mem_cons_of_mem)) he hek ?_; rw [hval, hek2]); apply ot_v tk) | apply VBr.t | apply VBr.f | (apply v_f; omega) | (apply VNew.mk; intro g hg) | (apply VSt.mk; (focus ((repeat (first | (with_reducible exact At.here) | (with_reducible apply At.there))); done)); exact rfl)); (conv => whnf))))
            exact v_rnd (gm - 1) (by omega) (l := [(7, _), (53, _)]) (B := _ :: _ :: _ :: F) ⟨rfl, rfl, trivial⟩ (by exact .cons _ (List.Sublist.refl _)) ⟨rfl, vs ++ [k], k1 ++ [(k, _)], k2', seen.push e.born, by rw [Array.size_push]; omega, hI2, hgo2, rfl, rfl⟩
        · rintro e a' w' ⟨he, hzf⟩
          rw [← e5] at hzf
          exact ⟨he, ρ, Grw.refl _ _ _, hzf⟩
      · cases g2
    · cases g2
/-! ## fill: what flows at first -/
def rngAV (v : AV) : Bool := match v with
  | .g l => ckM [.i .i64, .i .i64] l
  | _ => false
def loAV (v : AV) : AV := match v with
  | .g l => match l with
    | x :: _ => x
    | [] => .ni
  | _ => .ni
theorem rngAV_ok {v : AV} (h : rngAV v = true) : ∃ lo hi, v = .g [.i .i64 lo, .i .i64 hi] := by
  obtain ⟨lo, hi, h1⟩ := kk2_form ⟨v, by
    unfold rngAV at h
    split at h
    · exact h
    · cases h⟩
  exact ⟨lo, hi, h1⟩
def loK {kd : KD} (e : KK kd × AV) : KK kd × AV := (e.1, loAV e.2)
theorem loK_keys {kd : KD} (l : List (KK kd × AV)) : (l.map loK).map Prod.fst = l.map Prod.fst := by simp [loK]
theorem loK_esL {kd : KD} (ks : List (KK kd × AV)) : esL (ks.map loK) = (esL ks).map fun e => (e.1, loAV e.2) := by
  unfold esL
  rw [List.map_map, List.map_map]; rfl
noncomputable def fiF (o : AO) : Option Nat := match o with
  | .mp kd es _ nxt => match kdEq kd kk2 && es.isEmpty with
    | true => some nxt
    | false => none
  | _ => none
noncomputable def fiO (o : AO) : Option (List (AV × AV)) := match o with
  | .mp kd es _ _ => match kdEq kd kk2 && (keysNd es && (es.all (fun e => rngAV e.2) && Nat.ble es.length 1000)) with
    | true => some (es.map fun e => (e.1, loAV e.2))
    | false => none
  | _ => none
noncomputable def fiM : ZM := fun ts ds => hO (ts.look 0) fun v0 => hO (ts.look 2) fun v2 => hO (ptrN v0) fun nm => hb (rdB nm) fun o => hO (cellM o 3) fun bm => hO (cellM o 4) fun fm => hg (!(Nat.beq fm bm)) (hb (rdB bm) fun ob => hO (fiO ob) fun es' => hb (rdB fm) fun of => hO (fiF of) fun nxt => hb (wrB fm (some (.mp kk2 es' [] nxt))) fun _ => hp ⟨.nm, .cons 0 v0 (.cons 2 v2 .nil), ds⟩)
theorem fi_lm (ts : TL) (ds : List Nat) : LM (fiM ts ds) := by unfold fiM hg; (repeat (first | exact LM.pure _ | exact LM.fail | exact LM.read _ | exact LM.write _ _ | exact LM.new _ | assumption | refine LM.bind ?_ fun _ => ?_ | refine LM.opt fun _ => ?_ | refine LM.ite ?_ ?_ | split))
set_option maxHeartbeats 4000000 in
set_option maxRecDepth 20000 in
theorem fi_code {k : Nat} (hk0 : bitB k 0 = true) (hk2 : bitB k 2 = true) : CodeOK Tryz.prog none k 98 (codeAt [true, true, false] (bodyOf Tryz.f168)) fiM where
  lm := fi_lm
  ok := fun {ts ds s o s'} h hba ρ r a w w0 mm hf hr hz => by
    unfold fiM at h
    obtain ⟨v0, h0, h⟩ := hO_ok h
    obtain ⟨v2, h2, h⟩ := hO_ok h
    obtain ⟨nm, h3, h⟩ := hO_ok h
    obtain ⟨on, s1, g1, h⟩ := hb_ok h
    obtain ⟨bm, g2, h⟩ := hO_ok h
    obtain ⟨fm, g3, h⟩ := hO_ok h
    obtain ⟨hne, h⟩ := hg_ok h
    obtain ⟨ob, s2, g4, h⟩ := hb_ok h
    obtain ⟨es', g5, h⟩ := hO_ok h
    obtain ⟨of, s3, g6, h⟩ := hb_ok h
    obtain ⟨nxt, g7, h⟩ := hO_ok h
    obtain ⟨_, s4, g8, h⟩ := hb_ok h
    obtain ⟨rfl, rfl⟩ := hp_ok h
    clear h
    obtain rfl := ptrN_ok h3
    have hfb : fm ≠ bm := fun e => by subst e; rw [Nat.beq_refl] at hne; cases hne
    obtain ⟨d1, d2, _⟩ := rdB_gt g1
    obtain ⟨e1, e2, _⟩ := rdB_gt g4
    obtain ⟨f1, f2, _⟩ := rdB_gt g6
    obtain ⟨_, e5, _⟩ := wrB_gt g8
    rw [d2] at e1 e2
    rw [e2] at f1 f2
    rw [f2] at e5
    obtain ⟨tn, l, op, rfl, hl3⟩ := cellM_ok g2
    obtain ⟨_, _, _, hh, hl4⟩ := cellM_ok g3
    cases hh
    unfold fiO at g5
    unfold fiF at g7
    split at g5
    · rename_i kd es sts nx0
      split at g5
      · rename_i hb
        injection g5 with g5
        subst g5
        simp only [Bool.and_eq_true] at hb
        obtain ⟨hb1, hb2, hb3, hb4⟩ := hb
        obtain rfl := kdEq_eq hb1
        split at g7
        · rename_i kd' es0 sts0 nx
          split at g7
          · rename_i hb'
            injection g7 with g7
            subst g7
            simp only [Bool.and_eq_true, List.isEmpty_iff] at hb'
            obtain ⟨hb1', rfl⟩ := hb'
            obtain rfl := kdEq_eq hb1'
            obtain ⟨p, hp, _, _⟩ := hz.zs.at_ d1
            obtain ⟨qb, hqb, _, hqbo⟩ := hz.zs.at_ e1
            obtain ⟨q, hq, _, hqo⟩ := hz.zs.at_ f1
            obtain ⟨hq0, st, hmp, hkeys, _⟩ := id hqbo
            obtain ⟨ks, rfl⟩ := esL_of fun e he => (hkeys e he).1
            have hnd := keysNd_ok hb2
            have hall0 : ∀ e ∈ ks, rngAV e.2 = true := fun e he => List.all_eq_true.1 hb3 (e.1.1, e.2) (List.mem_map.2 ⟨e, he, rfl⟩)
            have hcf : cv ρ (.m fm) = .map (some q.1) := by simp [cv, hq]
            have hcb : cv ρ (.m bm) = .map (some qb.1) := by simp [cv, hqb]
            have hcp : cv ρ (.p nm 0) = .pointer (some ⟨p.1, p.2, none⟩) := by simp [cv, Env.at_, hp]
            have hnf : nm ≠ fm := fun e => by subst e; rw [d1] at f1; cases f1
            have hnb : nm ≠ bm := fun e => by subst e; rw [d1] at e1; cases e1
            have K : KeyEnc Tryz.prog 219 (enK ρ kk2) := kk2_key Tryz.pk219 ρ
            have hd2 := (hz.sl 2 v2 h2).2
            refine wpIn_mono (code_tr2 (r := r) hz (fun _ _ => gt32) f1 hq e1 hqb hfb (S := [(0, .pointer (some ⟨p.1, p.2, none⟩)), (2, cv ρ v2)]) (SlT.consE h0 hcp.symm (SlT.consE h2 rfl SlT.nil)) (ts' := .cons 0 (.p nm 0) (.cons 2 v2 .nil)) (o' := .mp kk2 ((esL ks).map fun e => (e.1, loAV e.2)) [] nx) (tl2_ok (by simp [Dm, hp]) hk0 hd2 hk2) (fun F hF => ?_)) ?_
            · have hfin : ∀ st y, MapP (enK ρ kk2) (mpF ρ (esL (ks.map loK)) kk2) st y → OH ρ fm q.2 (.mp kk2 ((esL ks).map fun e => (e.1, loAV e.2)) [] nx) y := fun st y hy => by
                rw [loK_esL] at hy
                refine oh_new hqo (fun e he => ?_) hy
                obtain ⟨e', he', rfl⟩ := List.mem_map.1 he
                obtain ⟨e2, he2, rfl⟩ := List.mem_map.1 he'
                obtain ⟨lo, hi, h1⟩ := rngAV_ok (hall0 e2 he2)
                exact ⟨(hkeys _ he').1, by simp [h1, loAV, Dm]⟩
              have c3 : ∀ A, (∀ c ∈ F, c ∈ A) → CellAt w0 A p.1 (p.2 + 3) (.map (some qb.1)) := fun A hA => by
                rw [← hcb]; exact cellAt_oh (hA _ (hF nm _ p hnf hnb d1 hp)) hl3
              have c4 : ∀ A, (∀ c ∈ F, c ∈ A) → CellAt w0 A p.1 (p.2 + 4) (.map (some q.1)) := fun A hA => by
                rw [← hcf]; exact cellAt_oh (hA _ (hF nm _ p hnf hnb d1 hp)) hl4
              refine tr_oh_map .here ?_
              refine tr_mp_it (fun arr clock => .prd q.1 (MapP (enK ρ kk2) (mpF ρ [] kk2) []) :: .obj qb.1 (.map arr clock) :: F) (fun _ _ => .there .here) (fun arr clock hob hI => ?_)
              (apply tr_v tk; (conv => whnf); (repeat ((apply VLd.mk; exact c3 _ (fun c hc => by simp [hc])); (conv => whnf))); apply VStop.mk)
              refine ot_rangeB Tryz.underlying221 (by decide) rfl rfl rfl rfl (objAt_mem (.tail _ (.head _))) (fun gi hgi => ?_)
              apply ot_v tk
              ((conv => whnf); apply VStop.mk)
              generalize hV2 : cv ρ v2 = V2 at *
              refine v_loop (fun gm ds' ts A => ds' = dfL ρ ds ∧ ∃ (vs : List (KK kk2)) (k1 k2 : List (KK kk2 × AV)) (seen : Array Nat), seen.size + gm = clock ∧ ItOK (enK ρ kk2) (mpF ρ (esL ks) kk2) vs arr clock seen ∧ Gone ks vs k1 k2 ∧ A = .obj gi (.mapIter (some qb.1) clock seen clock) :: .prd q.1 (MapP (enK ρ kk2) (mpF ρ (esL (k1.map loK)) kk2) []) :: .obj qb.1 (.map arr clock) :: F ∧ ts = [(0, .pointer (some ⟨p.1, p.2, none⟩)), (2, V2), (17, .pointer (some ⟨gi, 0, none⟩))]) clock
                (l := [(0, _), (2, _), (17, _)]) (B := _) ?_ (List.Sublist.refl _) ⟨rfl, [], [], ks, #[], by simp, hI, Gone.start ks, rfl, rfl⟩ ?_
              · exact ⟨rfl, rfl, rfl, trivial⟩
              clear hI
              rintro gm ds' ts A ⟨rfl, vs, k1, k2, seen, hgm, hI, hgo, rfl, rfl⟩
              (apply tr_v tk; (conv => whnf); apply VStop.mk)
              refine ot_nextK K hI rfl rfl rfl rfl rfl (objAt_mem (.tail _ (.tail _ (.head _)))) (A2 := fun s => .obj gi (.mapIter (some qb.1) clock s clock) :: .prd q.1 (MapP (enK ρ kk2) (mpF ρ (esL (k1.map loK)) kk2) []) :: .obj qb.1 (.map arr clock) :: F) (fun s => .here) (fun hall => ?_) (fun e k he hek hkv hkn hI2 => ?_)
              · rw [mpF_perm ((hgo.done hnd hall).map loK) (by rw [loK_keys]; exact ((hgo.done hnd hall).map _).nodup_iff.2 hnd)]
                apply ot_v tk
                ((conv => whnf); (repeat (apply VBr.f; (conv => whnf))))
                refine ⟨rfl, rfl, tl2_lk (by rw [hcp]; rfl) (by rw [hV2]; rfl), fun w hs => ?_⟩
                exact st_obj (.there .here) hob (st_prd .here (hfin _) (hs.sub (A' := .prd q.1 (MapP (enK ρ kk2) (mpF ρ (esL (ks.map loK)) kk2) []) :: .obj qb.1 (.map arr clock) :: F) (.cons _ (List.Sublist.refl _))))
              obtain ⟨u, k2', hval, hmem, hgo2⟩ := hgo.next hnd hkv hkn
              obtain ⟨lo, hi, hu⟩ := rngAV_ok (hall0 _ hmem)
              dsimp only at hu
              subst hu
              obtain ⟨ka, kb, hkey⟩ := kk2_form k
              have hek2 : enK ρ kk2 k = .agg #[.int .i64 ka, .int .i64 kb] := by unfold enK; rw [hkey]; simp [cv, cvL]
              have hval : e.val = .agg #[.int .i64 lo, .int .i64 hi] := by rw [hval]; simp [cv, cvL]
              rw [hval, hek2]
              have hs := hI2.size
              rw [Array.size_push] at hs
              have hnd2 : (((k1.map loK) ++ [(k, AV.i .i64 lo)]).map Prod.fst).Nodup := by
                have h1 := hgo2.nd hnd
                rw [List.map_append] at h1
                have h2 := (List.nodup_append.1 h1).1
                rw [List.map_append] at h2
                rw [List.map_append, loK_keys]
                exact h2
              have hput := mpF_put (ρ := ρ) hnd2
              rw [show cv ρ (AV.i .i64 lo) = .int .i64 lo by simp [cv]] at hput
              apply ot_v tk
              ((conv => whnf); (repeat ((first | (apply VStop.mk; (first | (refine ot_entryK hI2 rfl rfl rfl rfl (objAt_mem (by repeat (first | exact List.mem_cons_self | apply List.mem_cons_of_mem))) (by repeat (first | exact List.mem_cons_self | apply List.mem_cons_of_mem)) he hek ?_; rw [hval, hek2]) | refine tr_region_lex (id := 4) (by kernel_rfl) [.rd, .rd, .rd, .rd, .rd, .rd, .rd, .wr] rfl (by kernel_rfl) ?_ | (rw [← hek2]; refine ot_updF (k := k) K Tryz.underlying222 rfl rfl rfl rfl rfl (by exact rfl) (by exact rfl) (.there (.there (.there .here))) ?_; rw [hput])); apply ot_v tk) | (apply VLd.mk; exact c4 _ (fun c hc => by simp [hc])) | (apply VLd.mk; (focus ((repeat (first | ((with_reducible apply ld_blk); exact rfl) | (with_reducible apply ld_skip))); done))) | (apply VLdN.mk; (focus ((repeat (first | (with_reducible apply ldn_blk) | (with_reducible apply ldn_skip))); done)); exact rfl) | apply VBr.t | (apply VNew.mk; intro g hg) | (apply VSt.mk; (focus ((repeat (first | (with_reducible exact At.here) | (with_reducible apply At.there))); done)); exact rfl)); (conv => whnf))))
              exact v_rnd (gm - 1) (by omega) (l := [(0, _), (2, _), (17, _)]) (B := _ :: _ :: _ :: F) ⟨rfl, rfl, rfl, trivial⟩ (by exact .cons _ (.cons _ (List.Sublist.refl _))) ⟨rfl, vs ++ [k], k1 ++ [(k, _)], k2', seen.push e.born, by rw [Array.size_push]; omega, hI2, hgo2, by rw [List.map_append]; rfl, rfl⟩
            · rintro e a' w' ⟨he, hzf⟩
              rw [← e5] at hzf
              exact ⟨he, ρ, Grw.refl _ _ _, hzf⟩
          · cases g7
        · cases g7
      · cases g5
    · cases g5
/-! ## left: what can still flow, first loop -/
def rvAV (v : AV) : AV := match v with
  | .g l => match l with
    | [x, y] => .g [y, x]
    | _ => .ni
  | _ => .ni
def hiAV (v : AV) : AV := match v with
  | .g l => match l with
    | [_, y] => y
    | _ => .ni
  | _ => .ni
def flI (esf : List (AV × AV)) (k : AV) : Int := match lkA esf k with
  | some v => intAV v
  | none => 0
def flB (esf : List (AV × AV)) (k : AV) : Bool := match lkA esf k with
  | some v => match v with
    | .i k _ => Nat.beq (knd .i64) (knd k)
    | _ => false
  | none => true
def smI (n : Int) : Bool := zlt n 1000000000000 && zlt (-1000000000000) n
theorem smI_ok {n : Int} (h : smI n = true) : -1000000000000 < n ∧ n < 1000000000000 := by
  unfold smI at h
  rw [Bool.and_eq_true, zlt_eq, zlt_eq, decide_eq_true_eq, decide_eq_true_eq] at h
  exact ⟨h.2, h.1⟩
def leB (esf : List (AV × AV)) (e : AV × AV) : Bool := rngAV e.2 && (flB esf e.1 && (smI (flI esf e.1) && (smI (intAV (loAV e.2)) && smI (intAV (hiAV e.2)))))
def leU (esf : List (AV × AV)) (e : AV × AV) : List (AV × AV) := [(e.1, .i .i64 (intAV (hiAV e.2) - flI esf e.1)), (rvAV e.1, .i .i64 (flI esf e.1 - intAV (loAV e.2)))]
theorem flB_ok {ρ : Env} {esf : List (AV × AV)} {k : KK kk2} (h : flB esf k.1 = true) : (mpF ρ esf kk2 k).getD (.int .i64 0) = .int .i64 (flI esf k.1) := by
  unfold flB at h
  unfold mpF flI
  cases hl : lkA esf k.1 with
  | none => rfl
  | some v =>
    rw [hl] at h
    cases v <;> first | (cases h; done) | skip
    rename_i kk n
    have := knd_inj (show Nat.beq (knd .i64) (knd kk) = true from h)
    subst this
    simp [cv, intAV]
theorem rv_key (k : KK kk2) : keyB kk2 (rvAV k.1) = true := by
  obtain ⟨a, b, h⟩ := kk2_form k
  rw [h]; rfl
def rvK (k : KK kk2) : KK kk2 := ⟨rvAV k.1, rv_key k⟩
def leK (esf : List (AV × AV)) (e : KK kk2 × AV) : List (KK kk2 × AV) := [(e.1, .i .i64 (intAV (hiAV e.2) - flI esf e.1.1)), (rvK e.1, .i .i64 (flI esf e.1.1 - intAV (loAV e.2)))]
theorem leK_esL (esf : List (AV × AV)) : ∀ ks : List (KK kk2 × AV), esL (ks.flatMap (leK esf)) = (esL ks).flatMap (leU esf)
  | [] => rfl
  | e :: ks => by
    have ih := leK_esL esf ks
    unfold esL at ih ⊢
    rw [List.flatMap_cons, List.map_append, ih, List.map_cons, List.flatMap_cons]; rfl
noncomputable def leO (esf : List (AV × AV)) (o : AO) : Option (List (AV × AV)) := match o with
  | .mp kd es _ _ => match kdEq kd kk2 && (keysNd es && (es.all (leB esf) && (keysNd (es.flatMap (leU esf)) && Nat.ble es.length 1000))) with
    | true => some (es.flatMap (leU esf))
    | false => none
  | _ => none
noncomputable def flO (o : AO) : Option (List (AV × AV)) := match o with
  | .mp kd es _ _ => match kdEq kd kk2 with
    | true => some es
    | false => none
  | _ => none
noncomputable def leM : ZM := fun ts ds => hO (ts.look 0) fun v0 => hO (ts.look 3) fun v3 => hO (ptrN v0) fun nm => hO (mapN v3) fun om => hb (rdB nm) fun o => hO (cellM o 3) fun bm => hO (cellM o 4) fun fm => hg (!(Nat.beq om bm)) (hg (!(Nat.beq om fm)) (hg (!(Nat.beq fm bm)) (hb (rdB fm) fun of => hO (flO of) fun esf => hb (rdB bm) fun ob => hO (leO esf ob) fun es' => hb (rdB om) fun oo => hO (fiF oo) fun nxt => hb (wrB om (some (.mp kk2 es' [] nxt))) fun _ => hp ⟨.nm, .cons 3 (.m om) .nil, ds⟩)))
theorem le_lm (ts : TL) (ds : List Nat) : LM (leM ts ds) := by unfold leM hg; (repeat (first | exact LM.pure _ | exact LM.fail | exact LM.read _ | exact LM.write _ _ | exact LM.new _ | assumption | refine LM.bind ?_ fun _ => ?_ | refine LM.opt fun _ => ?_ | refine LM.ite ?_ ?_ | split))
theorem nbeq {a b : Nat} (h : (!(Nat.beq a b)) = true) : a ≠ b := fun e => by subst e; rw [Nat.beq_refl] at h; cases h
set_option maxHeartbeats 4000000 in
set_option maxRecDepth 20000 in
theorem le_code {k : Nat} (hk3 : bitB k 3 = true) : CodeOK Tryz.prog none k 57 (codeAt [true, true, false] (bodyOf Tryz.f265)) leM where
  lm := le_lm
  ok := fun {ts ds s o s'} h hba ρ r a w w0 mm hf hr hz => by
    unfold leM at h
    obtain ⟨v0, h0, h⟩ := hO_ok h
    obtain ⟨v3, h3, h⟩ := hO_ok h
    obtain ⟨nm, i0, h⟩ := hO_ok h
    obtain ⟨om, i3, h⟩ := hO_ok h
    obtain ⟨on, s1, g1, h⟩ := hb_ok h
    obtain ⟨bm, g2, h⟩ := hO_ok h
    obtain ⟨fm, g3, h⟩ := hO_ok h
    obtain ⟨hob', h⟩ := hg_ok h
    obtain ⟨hof, h⟩ := hg_ok h
    obtain ⟨hfb, h⟩ := hg_ok h
    obtain ⟨of, s2, g4, h⟩ := hb_ok h
    obtain ⟨esf, g5, h⟩ := hO_ok h
    obtain ⟨ob, s3, g6, h⟩ := hb_ok h
    obtain ⟨es', g7, h⟩ := hO_ok h
    obtain ⟨oo, s4, g8, h⟩ := hb_ok h
    obtain ⟨nxt, g9, h⟩ := hO_ok h
    obtain ⟨_, s5, g10, h⟩ := hb_ok h
    obtain ⟨rfl, rfl⟩ := hp_ok h
    clear h
    obtain rfl := ptrN_ok i0
    obtain rfl := mapN_ok i3
    have hob' := nbeq hob'
    have hof := nbeq hof
    have hfb := nbeq hfb
    obtain ⟨d1, d2, _⟩ := rdB_gt g1
    obtain ⟨f1, f2, _⟩ := rdB_gt g4
    obtain ⟨e1, e2, _⟩ := rdB_gt g6
    obtain ⟨c1, c2, _⟩ := rdB_gt g8
    obtain ⟨_, e5, _⟩ := wrB_gt g10
    rw [d2] at f1 f2
    rw [f2] at e1 e2
    rw [e2] at c1 c2
    rw [c2] at e5
    obtain ⟨tn, l, op, rfl, hl3⟩ := cellM_ok g2
    obtain ⟨_, _, _, hh, hl4⟩ := cellM_ok g3
    cases hh
    unfold flO at g5
    unfold leO at g7
    unfold fiF at g9
    split at g5
    · rename_i kdf esf' stsf nxf
      split at g5
      · rename_i hbf
        injection g5 with g5
        subst g5
        obtain rfl := kdEq_eq hbf
        split at g7
        · rename_i kd es sts nx0
          split at g7
          · rename_i hb
            injection g7 with g7
            subst g7
            simp only [Bool.and_eq_true] at hb
            obtain ⟨hb1, hb2, hb3, hb5, hb4⟩ := hb
            obtain rfl := kdEq_eq hb1
            split at g9
            · rename_i kd' es0 sts0 nx
              split at g9
              · rename_i hb'
                injection g9 with g9
                subst g9
                simp only [Bool.and_eq_true, List.isEmpty_iff] at hb'
                obtain ⟨hb1', rfl⟩ := hb'
                obtain rfl := kdEq_eq hb1'
                obtain ⟨p, hp, _, _⟩ := hz.zs.at_ d1
                obtain ⟨qf, hqf, _, _⟩ := hz.zs.at_ f1
                obtain ⟨qb, hqb, _, hqbo⟩ := hz.zs.at_ e1
                obtain ⟨q, hq, _, hqo⟩ := hz.zs.at_ c1
                obtain ⟨hq0, st, hmp, hkeys, _⟩ := id hqbo
                obtain ⟨ks, rfl⟩ := esL_of fun e he => (hkeys e he).1
                have hnd := keysNd_ok hb2
                rw [← leK_esL] at hb5
                have hndU := keysNd_ok hb5
                have hall0 : ∀ e ∈ ks, leB esf' (e.1.1, e.2) = true := fun e he => List.all_eq_true.1 hb3 (e.1.1, e.2) (List.mem_map.2 ⟨e, he, rfl⟩)
                have hco : cv ρ (.m om) = .map (some q.1) := by simp [cv, hq]
                have hcf : cv ρ (.m fm) = .map (some qf.1) := by simp [cv, hqf]
                have hcb : cv ρ (.m bm) = .map (some qb.1) := by simp [cv, hqb]
                have hcp : cv ρ (.p nm 0) = .pointer (some ⟨p.1, p.2, none⟩) := by simp [cv, Env.at_, hp]
                have hno : nm ≠ om := fun e => by subst e; rw [d1] at c1; cases c1
                have hnb : nm ≠ bm := fun e => by subst e; rw [d1] at e1; cases e1
                have K : KeyEnc Tryz.prog 219 (enK ρ kk2) := kk2_key Tryz.pk219 ρ
                have zv2 : ∀ w, (zeroValue 2).run Tryz.prog w = .ok (.int .i64 0) w := fun w => by kernel_rfl
                refine wpIn_mono (code_tr2 (r := r) hz (fun _ _ => gt32) c1 hq e1 hqb hob' (S := [(0, .pointer (some ⟨p.1, p.2, none⟩)), (3, .map (some q.1))]) (SlT.consE h0 hcp.symm (SlT.consE h3 hco.symm SlT.nil)) (ts' := .cons 3 (.m om) .nil) (o' := .mp kk2 ((esL ks).flatMap (leU esf')) [] nx) (tl1_ok (by simp [Dm, hq]) hk3) (fun F hF => ?_)) ?_
                · have hfin : ∀ st y, MapP (enK ρ kk2) (mpF ρ (esL (ks.flatMap (leK esf'))) kk2) st y → OH ρ om q.2 (.mp kk2 ((esL ks).flatMap (leU esf')) [] nx) y := fun st y hy => by
                    rw [leK_esL] at hy
                    refine oh_new hqo (fun e he => ?_) hy
                    rw [← leK_esL] at he
                    obtain ⟨e', he', rfl⟩ := List.mem_map.1 he
                    refine ⟨e'.1.2, ?_⟩
                    obtain ⟨e2, _, he2⟩ := List.mem_flatMap.1 he'
                    simp only [leK, List.mem_cons, List.not_mem_nil, or_false] at he2
                    rcases he2 with rfl | rfl <;> simp [Dm]
                  have c3 : ∀ A, (∀ c ∈ F, c ∈ A) → CellAt w0 A p.1 (p.2 + 3) (.map (some qb.1)) := fun A hA => by
                    rw [← hcb]; exact cellAt_oh (hA _ (hF nm _ p hno hnb d1 hp)) hl3
                  have c4 : ∀ A, (∀ c ∈ F, c ∈ A) → CellAt w0 A p.1 (p.2 + 4) (.map (some qf.1)) := fun A hA => by
                    rw [← hcf]; exact cellAt_oh (hA _ (hF nm _ p hno hnb d1 hp)) hl4
                  have m1 : ∀ A, (∀ c ∈ F, c ∈ A) → MapAt w0 A qf.1 (enK ρ kk2) (mpF ρ esf' kk2) := fun A hA => mapAt_oh (hA _ (hF fm _ qf (fun e => hof e.symm) hfb f1 hqf))
                  refine tr_oh_map .here ?_
                  refine tr_mp_it (fun arr clock => .prd q.1 (MapP (enK ρ kk2) (mpF ρ [] kk2) []) :: .obj qb.1 (.map arr clock) :: F) (fun _ _ => .there .here) (fun arr clock hob hI => ?_)
                  (apply tr_v tk; (conv => whnf); (repeat ((apply VLd.mk; exact c3 _ (fun c hc => by simp [hc])); (conv => whnf))); apply VStop.mk)
                  refine ot_rangeB Tryz.underlying221 (by decide) rfl rfl rfl rfl (objAt_mem (.tail _ (.head _))) (fun gi hgi => ?_)
                  apply ot_v tk
                  ((conv => whnf); apply VStop.mk)
                  refine v_loop (fun gm ds' ts A => ds' = dfL ρ ds ∧ ∃ (vs : List (KK kk2)) (k1 k2 : List (KK kk2 × AV)) (seen : Array Nat), seen.size + gm = clock ∧ ItOK (enK ρ kk2) (mpF ρ (esL ks) kk2) vs arr clock seen ∧ Gone ks vs k1 k2 ∧ A = .obj gi (.mapIter (some qb.1) clock seen clock) :: .prd q.1 (MapP (enK ρ kk2) (mpF ρ (esL (k1.flatMap (leK esf'))) kk2) []) :: .obj qb.1 (.map arr clock) :: F ∧ ts = [(0, .pointer (some ⟨p.1, p.2, none⟩)), (3, .map (some q.1)), (13, .pointer (some ⟨gi, 0, none⟩))]) clock
                    (l := [(0, _), (3, _), (13, _)]) (B := _) ?_ (List.Sublist.refl _) ⟨rfl, [], [], ks, #[], by simp, hI, Gone.start ks, rfl, rfl⟩ ?_
                  · exact ⟨rfl, rfl, rfl, trivial⟩
                  clear hI
                  rintro gm ds' ts A ⟨rfl, vs, k1, k2, seen, hgm, hI, hgo, rfl, rfl⟩
                  (apply tr_v tk; (conv => whnf); apply VStop.mk)
                  refine ot_nextK K hI rfl rfl rfl rfl rfl (objAt_mem (.tail _ (.tail _ (.head _)))) (A2 := fun s => .obj gi (.mapIter (some qb.1) clock s clock) :: .prd q.1 (MapP (enK ρ kk2) (mpF ρ (esL (k1.flatMap (leK esf'))) kk2) []) :: .obj qb.1 (.map arr clock) :: F) (fun s => .here) (fun hall => ?_) (fun e k he hek hkv hkn hI2 => ?_)
                  · rw [mpF_perm ((hgo.done hnd hall).flatMap_right (leK esf')) ((((hgo.done hnd hall).flatMap_right (leK esf')).map _).nodup_iff.2 hndU)]
                    apply ot_v tk
                    ((conv => whnf); (repeat (apply VBr.f; (conv => whnf))))
                    refine ⟨rfl, rfl, tl1_lk (by rw [hco]; rfl), fun w hs => ?_⟩
                    exact st_obj (.there .here) hob (st_prd .here (hfin _) (hs.sub (A' := .prd q.1 (MapP (enK ρ kk2) (mpF ρ (esL (ks.flatMap (leK esf'))) kk2) []) :: .obj qb.1 (.map arr clock) :: F) (.cons _ (List.Sublist.refl _))))
                  obtain ⟨u, k2', hval, hmem, hgo2⟩ := hgo.next hnd hkv hkn
                  have hB := hall0 _ hmem
                  simp only [leB, Bool.and_eq_true] at hB
                  obtain ⟨hB1, hB2, hB3, hB4, hB5⟩ := hB
                  obtain ⟨lo, hi, hu⟩ := rngAV_ok hB1
                  subst hu
                  have hlk := flB_ok (ρ := ρ) hB2
                  have hB3 := smI_ok hB3
                  have hB4 : -1000000000000 < lo ∧ lo < 1000000000000 := smI_ok hB4
                  have hB5 : -1000000000000 < hi ∧ hi < 1000000000000 := smI_ok hB5
                  obtain ⟨ka, kb, hkey⟩ := kk2_form k
                  have hek2 : enK ρ kk2 k = .agg #[.int .i64 ka, .int .i64 kb] := by unfold enK; rw [hkey]; simp [cv, cvL]
                  have hek3 : enK ρ kk2 (rvK k) = .agg #[.int .i64 kb, .int .i64 ka] := by show cv ρ (rvAV k.1) = _; rw [hkey]; simp [cv, cvL, rvAV]
                  have hval : e.val = .agg #[.int .i64 lo, .int .i64 hi] := by rw [hval]; simp [cv, cvL]
                  rw [hval, hek2]
                  have hs := hI2.size
                  rw [Array.size_push] at hs
                  have hu2 : (k1 ++ [(k, AV.g [.i .i64 lo, .i .i64 hi])]).flatMap (leK esf') = ((k1.flatMap (leK esf')) ++ [(k, AV.i .i64 (hi - flI esf' k.1))]) ++ [(rvK k, AV.i .i64 (flI esf' k.1 - lo))] := by
                    rw [List.flatMap_append]; simp [leK, hiAV, loAV, intAV]
                  have hndL : ((((k1.flatMap (leK esf')) ++ [(k, AV.i .i64 (hi - flI esf' k.1))]) ++ [(rvK k, AV.i .i64 (flI esf' k.1 - lo))]).map Prod.fst).Nodup := by
                    rw [← hu2]
                    have h1 := (((hgo2.perm).flatMap_right (leK esf')).map Prod.fst).nodup_iff.2 hndU
                    rw [List.flatMap_append, List.map_append] at h1
                    exact (List.nodup_append.1 h1).1
                  have hndM : (((k1.flatMap (leK esf')) ++ [(k, AV.i .i64 (hi - flI esf' k.1))]).map Prod.fst).Nodup := by
                    rw [List.map_append] at hndL
                    exact (List.nodup_append.1 hndL).1
                  have hput1 := mpF_put (ρ := ρ) hndM
                  have hput2 := mpF_put (ρ := ρ) hndL
                  simp only [cv] at hput1 hput2
                  generalize hfl : flI esf' k.1 = fl at *
                  apply ot_v tk
                  ((conv => whnf); (repeat ((first | (apply VStop.mk; (first | (refine ot_entryK hI2 rfl rfl rfl rfl (objAt_mem (by repeat (first | exact List.mem_cons_self | apply List.mem_cons_of_mem))) (by repeat (first | exact List.mem_cons_self | apply List.mem_cons_of_mem)) he hek ?_; rw [hval, hek2]) | refine tr_region_lex (id := 5) (by kernel_rfl) [.rd, .rd, .rd, .rd, .rd, .rd, .rd, .rd, .rd, .rd, .rd, .wr] rfl (by kernel_rfl) ?_ | refine tr_region_lex (id := 6) (by kernel_rfl) [.rd, .rd, .rd, .rd, .rd, .rd, .rd, .rd, .rd, .rd, .rd, .rd, .rd, .rd, .rd, .wr] rfl (by kernel_rfl) ?_ | (rw [← hek2]; refine ot_lookF (k := k) K Tryz.underlying222 zv2 rfl rfl rfl rfl (by exact rfl) (m1 _ (fun c hc => by simp [hc])) ?_; rw [hlk, hek2]) | (rw [← hek2]; refine ot_updF (k := k) K Tryz.underlying222 rfl rfl rfl rfl rfl (by exact rfl) (by exact rfl) (.there (.there (.there .here))) ?_; rw [hput1, hek2]) | (rw [← hek3]; refine ot_updF (k := rvK k) K Tryz.underlying222 rfl rfl rfl rfl rfl (by exact rfl) (by exact rfl) (.there (.there (.there .here))) ?_; rw [hput2])); apply ot_v tk) | (apply VLd.mk; exact c4 _ (fun c hc => by simp [hc])) | (apply VLd.mk; (focus ((repeat (first | ((with_reducible apply ld_blk); exact rfl) | (with_reducible apply ld_skip))); done))) | (apply VLdN.mk; (focus ((repeat (first | (with_reducible apply ldn_blk) | (with_reducible apply ldn_skip))); done)); exact rfl) | (apply VRng.mk; omega) | apply VBr.t | (apply VNew.mk; intro g hg) | (apply VSt.mk; (focus ((repeat (first | (with_reducible exact At.here) | (with_reducible apply At.there))); done)); exact rfl)); (conv => whnf))))
                  exact v_rnd (gm - 1) (by omega) (l := [(0, _), (3, _), (13, _)]) (B := _ :: _ :: _ :: F) ⟨rfl, rfl, rfl, trivial⟩ (by exact .cons _ (.cons _ (List.Sublist.refl _))) ⟨rfl, vs ++ [k], k1 ++ [(k, _)], k2', seen.push e.born, by rw [Array.size_push]; omega, hI2, hgo2, by rw [hu2], rfl⟩
                · rintro e a' w' ⟨he, hzf⟩
                  rw [← e5] at hzf
                  exact ⟨he, ρ, Grw.refl _ _ _, hzf⟩
              · cases g9
            · cases g9
          · cases g7
        · cases g7
      · cases g5
    · cases g5
def smM (n : Int) : Bool := zlt n 1000000 && zlt (-1000000) n
theorem smM_ok {n : Int} (h : smM n = true) : -1000000 < n ∧ n < 1000000 := by
  unfold smM at h
  rw [Bool.and_eq_true, zlt_eq, zlt_eq, decide_eq_true_eq, decide_eq_true_eq] at h
  exact ⟨h.2, h.1⟩
theorem mul_sm {x y : Int} (hx : -1000000 < x ∧ x < 1000000) (hy : -1000000 < y ∧ y < 1000000) : -1000000000000 ≤ x * y ∧ x * y ≤ 1000000000000 := by
  have h1 : (x * y).natAbs ≤ 1000000 * 1000000 := by
    rw [Int.natAbs_mul]
    exact Nat.mul_le_mul (by omega) (by omega)
  omega
/-! ## us: entries are deleted as a map is gone through -/
def usP (e : AV × AV) : Int × Int × Int := (match e.2 with
  | .g l => match l with
    | [.i _ n, .i _ d] => (n, d, intAV (match e.1 with
      | .g l => match l with
        | [_, y] => y
        | _ => .ni
      | _ => .ni))
    | _ => (0, 0, 0)
  | _ => (0, 0, 0))
def usB (e : AV × AV) : Bool := rngAV e.2 && (smM (usP e).2.1 && smM (usP e).2.2)
def usC (e : AV × AV) : Bool := zlt (usP e).1 ((usP e).2.2 * (usP e).2.1)

noncomputable def usO (o : AO) : Option AO := match o with
  | .mp kd es _ nxt => match kdEq kd kk2 && (keysNd es && (es.all usB && Nat.ble es.length 1000)) with
    | true => some (.mp kk2 (es.filter fun e => !usC e) [] nxt)
    | false => none
  | _ => none
noncomputable def usM : ZM := fun ts ds => hO (ts.look 4) fun v => hO (mapN v) fun om => hb (rdB om) fun o => hO (usO o) fun o' => hb (wrB om (some o')) fun _ => hp ⟨.nm, .cons 4 (.m om) .nil, ds⟩
theorem us_lm (ts : TL) (ds : List Nat) : LM (usM ts ds) := by unfold usM; (repeat (first | exact LM.pure _ | exact LM.fail | exact LM.read _ | exact LM.write _ _ | exact LM.new _ | assumption | refine LM.bind ?_ fun _ => ?_ | refine LM.opt fun _ => ?_ | refine LM.ite ?_ ?_ | split))
set_option maxHeartbeats 4000000 in
set_option maxRecDepth 20000 in
theorem us_code {k : Nat} (hk : bitB k 4 = true) : CodeOK Tryz.prog none k 53 (codeAt [true, true, true, true, false] (bodyOf Tryz.f218)) usM where
  lm := us_lm
  ok := fun {ts ds s o s'} h hba ρ r a w w0 mm hf hr hz => by
    unfold usM at h
    obtain ⟨v, h0, h⟩ := hO_ok h
    obtain ⟨om, h1, h⟩ := hO_ok h
    obtain ⟨o1, s1, g1, h⟩ := hb_ok h
    obtain ⟨o', g2, h⟩ := hO_ok h
    obtain ⟨_, s2, g3, h⟩ := hb_ok h
    obtain ⟨rfl, rfl⟩ := hp_ok h
    obtain rfl := mapN_ok h1
    obtain ⟨e1, e2, e3⟩ := rdB_gt g1
    obtain ⟨_, e5, e6⟩ := wrB_gt g3
    rw [e2] at e5
    unfold usO at g2
    split at g2
    · rename_i kd es sts nxt
      split at g2
      · rename_i hb
        injection g2 with g2
        subst g2
        simp only [Bool.and_eq_true] at hb
        obtain ⟨hb1, hb2, hb3, hb4⟩ := hb
        obtain rfl := kdEq_eq hb1
        obtain ⟨q, hq, hqb, hqo⟩ := hz.zs.at_ e1
        obtain ⟨hq0, st, hmp, hkeys, _⟩ := id hqo
        obtain ⟨ks, rfl⟩ := esL_of fun e he => (hkeys e he).1
        have hnd := keysNd_ok hb2
        have hall0 : ∀ e ∈ ks, usB (e.1.1, e.2) = true := fun e he => List.all_eq_true.1 hb3 _ (List.mem_map.2 ⟨e, he, rfl⟩)
        have hcm : cv ρ (.m om) = .map (some q.1) := by simp [cv, hq]
        have K : KeyEnc Tryz.prog 69 (enK ρ kk2) := kk2_key Tryz.pk69 ρ
        refine wpIn_mono (code_tr1 (r := r) hz (fun _ _ => gt32) e1 hq (S := [(4, .map (some q.1))]) (SlT.consE h0 hcm.symm SlT.nil) (ts' := .cons 4 (.m om) .nil) (o' := .mp kk2 ((esL ks).filter fun e => !usC e) [] nxt) ?_ (fun F hF => ?_)) ?_
        · intro t u hu
          rw [TL.look_cons] at hu
          split at hu
          · rename_i ht; subst ht; injection hu with hu; subst hu; exact ⟨by simp [Dm, hq], hk⟩
          · cases hu
        · have hfin : ∀ st y, MapP (enK ρ kk2) (mpF ρ (esL (ks.filter fun e => !usC (e.1.1, e.2))) kk2) st y → OH ρ om q.2 (.mp kk2 ((esL ks).filter fun e => !usC e) [] nxt) y := fun st y hy => by
            rw [esL_filter] at hy
            exact oh_new hqo (fun e he => hkeys e (List.mem_filter.1 he).1) hy
          refine tr_mp_it (fun arr clock => .obj q.1 (.map arr clock) :: F) (fun _ _ => .here) (fun arr clock hob hI => ?_)
          (apply tr_v tk; (conv => whnf); apply VStop.mk)
          refine ot_rangeB Tryz.underlying298 (by decide) rfl rfl rfl rfl (objAt_mem (.head _)) (fun gi hgi => ?_)
          apply ot_v tk
          ((conv => whnf); apply VStop.mk)
          refine v_loop (fun gm ds' ts A => ds' = dfL ρ ds ∧ ∃ (vs : List (KK kk2)) (k1 k2 : List (KK kk2 × AV)) (seen : Array Nat) (arr : Array MapEntry), seen.size + gm = clock ∧ ItOK (enK ρ kk2) (mpF ρ (esL (Lft (fun e => usC (e.1.1, e.2)) k1 k2)) kk2) vs arr clock seen ∧ Gone ks vs k1 k2 ∧ A = .obj gi (.mapIter (some q.1) clock seen clock) :: .obj q.1 (.map arr clock) :: F ∧ ts = [(4, .map (some q.1)), (36, .pointer (some ⟨gi, 0, none⟩))]) clock
            (l := [(4, _), (36, _)]) (B := _) ?_ (List.Sublist.refl _) ⟨rfl, [], [], ks, #[], arr, by simp, hI, Gone.start ks, rfl, rfl⟩ ?_
          · exact ⟨rfl, rfl, trivial⟩
          clear hI hob
          rintro gm ds' ts A ⟨rfl, vs, k1, k2, seen, arr2, hgm, hI, hgo, rfl, rfl⟩
          (apply tr_v tk; (conv => whnf); apply VStop.mk)
          refine ot_nextK K hI rfl rfl rfl rfl rfl (objAt_mem (.tail _ (.head _))) (A2 := fun s => .obj gi (.mapIter (some q.1) clock s clock) :: .obj q.1 (.map arr2 clock) :: F) (fun s => .here) (fun hall => ?_) (fun e k he hek hkv hkn hI2 => ?_)
          · have hdn := Lft.done hnd hgo hall
            rw [hdn] at hI
            apply ot_v tk
            ((conv => whnf); (repeat (apply VBr.f; (conv => whnf))))
            refine ⟨rfl, rfl, fun t u hu => ?_, fun w hs => st_obj .here (hfin _ _ hI.map) (hs.sub (.cons _ (List.Sublist.refl _)))⟩
            rw [TL.look_cons] at hu
            split at hu
            · rename_i ht; subst ht; injection hu with hu; subst hu; rw [hcm]; rfl
            · cases hu
          obtain ⟨u, k2', hval, hmem, hgo2, hno, hyes⟩ := Lft.next hnd hgo hkv hkn
          have hB := hall0 _ hmem
          simp only [usB, Bool.and_eq_true] at hB
          obtain ⟨hB1, hB2, hB3⟩ := hB
          obtain ⟨num, den, hu⟩ := rngAV_ok hB1
          subst hu
          obtain ⟨ka, kb, hkey⟩ := kk2_form k
          have hP : usP (k.1, AV.g [.i .i64 num, .i .i64 den]) = (num, den, kb) := by rw [hkey]; rfl
          rw [hP] at hB2 hB3
          have hB2 : -1000000 < den ∧ den < 1000000 := smM_ok hB2
          have hB3 : -1000000 < kb ∧ kb < 1000000 := smM_ok hB3
          have hmul := mul_sm hB3 hB2
          have hek2 : enK ρ kk2 k = .agg #[.int .i64 ka, .int .i64 kb] := by unfold enK; rw [hkey]; simp [cv, cvL]
          have hval : e.val = .agg #[.int .i64 num, .int .i64 den] := by rw [hval]; simp [cv, cvL]
          have hcc : usC (k.1, AV.g [.i .i64 num, .i .i64 den]) = decide (num < kb * den) := by unfold usC; rw [hP, zlt_eq]
          rw [hval, hek2]
          have hs := hI2.size
          rw [Array.size_push] at hs
          apply ot_v tk
          by_cases hc : num < kb * den
          · ((conv => whnf); (repeat ((first | (apply VStop.mk; (first | (refine ot_entryK hI2 rfl rfl rfl rfl (objAt_mem (by repeat (first | exact List.mem_cons_self | apply List.mem_cons_of_mem))) (by repeat (first | exact List.mem_cons_self | apply List.mem_cons_of_mem)) he hek ?_; rw [hval, hek2]) | (rw [← hek2]; refine ot_delK (k := k) (A'v := fun a => [_, _, _] ++ .obj q.1 (.map a clock) :: F) K Tryz.underlying298 hI2 rfl rfl rfl rfl rfl (by exact rfl) (fun a => .there (.there (.there .here))) (fun arr4 hI4 => ?_))); apply ot_v tk) | (apply VLd.mk; (focus ((repeat (first | ((with_reducible apply ld_blk); exact rfl) | (with_reducible apply ld_skip))); done))) | (apply VLdN.mk; (focus ((repeat (first | (with_reducible apply ldn_blk) | (with_reducible apply ldn_skip))); done)); exact rfl) | (apply VRng.mk; omega) | apply VBr.t | (apply v_t; omega) | (apply VNew.mk; intro g hg) | (apply VSt.mk; (focus ((repeat (first | (with_reducible exact At.here) | (with_reducible apply At.there))); done)); exact rfl)); (conv => whnf))))
            rw [hyes (by rw [hcc]; simp [hc])] at hI4
            exact v_rnd (gm - 1) (by omega) (l := [(4, _), (36, _)]) (B := _ :: _ :: F) ⟨rfl, rfl, trivial⟩ (by exact .cons _ (.cons _ (List.Sublist.refl _))) ⟨rfl, vs ++ [k], k1 ++ [(k, _)], k2', seen.push e.born, arr4, by rw [Array.size_push]; omega, hI4, hgo2, rfl, rfl⟩
          · rw [hno (by rw [hcc]; simp [hc])] at hI2
            ((conv => whnf); (repeat ((first | (apply VStop.mk; (refine ot_entryK hI2 rfl rfl rfl rfl (objAt_mem (by repeat (first | exact List.mem_cons_self | apply List.mem_cons_of_mem))) (by repeat (first | exact List.mem_cons_self | apply List.mem_cons_of_mem)) he hek ?_; rw [hval, hek2]); apply ot_v tk) | (apply VLd.mk; (focus ((repeat (first | ((with_reducible apply ld_blk); exact rfl) | (with_reducible apply ld_skip))); done))) | (apply VRng.mk; omega) | apply VBr.t | apply VBr.f | (apply v_f; omega) | (apply VNew.mk; intro g hg) | (apply VSt.mk; (focus ((repeat (first | (with_reducible exact At.here) | (with_reducible apply At.there))); done)); exact rfl)); (conv => whnf))))
            exact v_rnd (gm - 1) (by omega) (l := [(4, _), (36, _)]) (B := _ :: _ :: F) ⟨rfl, rfl, trivial⟩ (by exact .cons _ (.cons _ (List.Sublist.refl _))) ⟨rfl, vs ++ [k], k1 ++ [(k, _)], k2', seen.push e.born, arr2, by rw [Array.size_push]; omega, hI2, hgo2, rfl, rfl⟩
        · rintro e a' w' ⟨he, hzf⟩
          rw [← e5] at hzf
          exact ⟨he, ρ, Grw.refl _ _ _, hzf⟩
      · cases g2
    · cases g2
/-! ## table: what is known of the hours behind -/
noncomputable def Tryz.X0 : Cx := ⟨Tryz.prog, Tryz.tab, fun t => lkN t Tryz.fkL, fun t => lkN t Tryz.kfL, Tryz.ft.get, fun _ => none⟩
theorem Tryz.hX0 : CxOK Tryz.X0 where
  tab := tk
  fk := Tryz.fkOk
  kf := Tryz.kfOk
  ft := fun f fn k h => FTr.go_ok Tryz.ft Tryz.ftOk f f fn k h
  mixed := by kernel_rfl
section
variable {X : Cx} {cl yl : Nat → List AV → HM AV} {ops : List Oper}
theorem zregL_pre (hX : CxOK X) (hc : CallOK X.P cl) (hy : YieldOK X.P yl) {n : Nat} {r : Option Nat} {m : Nat} {Q : Exit → Act → World → Prop} {w0 : World} (l2 : List Oper) : ∀ (l : List Oper), (∀ o ∈ l, (∀ d, o.dst = some d → d < n) ∧ ∀ c, o.op ≠ .defer c) → ∀ (ts : TL) (s : Hp) (ts1 : TL) (s' : Hp), zregL X cl yl ops l ts s = .ok ts1 s' →
    ∀ (ρ : Env) (a : Act) (w : World), s.nx ≤ s'.nx → (∀ n, s.nx ≤ n → n < s'.nx → ρ.blk n = none) → a.tmps.size = n → Sl ρ ts a → ZS w0 ρ s.gt w → s.ba ≤ s.nx →
    (∀ ρ' a' w', ρ.le ρ' → (∀ n, n < s.nx ∨ s'.nx ≤ n → ρ'.blk n = ρ.blk n) → a'.tmps.size = n → a'.defers = a.defers → Sl ρ' ts1 a' → ZS w0 ρ' s'.gt w' → wpListIn (fw r) m X.P ops.toArray Q l2 a' w') → wpListIn (fw r) m X.P ops.toArray Q (l ++ l2) a w := by
  intro l
  induction l with
  | nil =>
    intro _ ts s ts1 s' h ρ a w _ hf hn hs hz _ hQ
    obtain ⟨rfl, rfl⟩ := hp_ok h
    exact hQ ρ a w (Env.le.refl ρ) (fun _ _ => rfl) hn rfl hs hz
  | cons o os ih =>
    intro hl ts s ts1 s' h ρ a w hnx hf hn hs hz hba hQ
    obtain ⟨v, s1, h1, h2⟩ := hb_ok h
    obtain ⟨_, _, d1⟩ := zOne_lm hX hc hy o ts s v s1 h1 hba
    have hba1 : s1.ba ≤ s1.nx := by rw [d1.ba]; exact Nat.le_trans hba d1.nx
    obtain ⟨_, _, d2⟩ := zregL_lm hX hc hy os _ s1 ts1 s' h2 hba1
    have n1 := d1.nx
    have n2 := d2.nx
    obtain ⟨l1, l2'⟩ := hl o (.head _)
    refine wpV_list l2' (zOne_ok hX hc hy h1 (fun n a b => hf n a (by omega)) hs hz) fun v' w' ⟨ρ', q1, q2, q3, q4, q5⟩ => ?_
    subst q3
    refine ih (fun o ho => hl o (.tail _ ho)) _ s1 ts1 s' h2 ρ' _ w' n2 (fun n a b => by rw [q2 n (.inr a)]; exact hf n (by omega) b) (by cases o.dst <;> simp [Act.put, hn]) ((hs.mono q1).put (fun t ht => by rw [hn]; exact l1 t ht) q4) q5 hba1 ?_
    intro ρ2 a2 w2 e1 e2 e3 e4 e5 e6
    refine hQ ρ2 a2 w2 (q1.trans e1) (fun n hn => ?_) e3 (e4.trans (by cases o.dst <;> rfl)) e5 e6
    rw [e2 n (by omega), q2 n (by omega)]
end
theorem setMany_set : ∀ (cs : List Value) (i : Nat) (v : Value), i < cs.length → setMany cs i [v] = cs.set i v
  | [], i, v, h => by simp at h
  | c :: cs, 0, v, h => by cases cs <;> simp [setMany]
  | c :: cs, i + 1, v, h => by
    have := setMany_set cs i v (by simpa using h)
    simp [setMany, this]
section
variable {α β : Type}
theorem setR_perm {f : α → Nat} {g : α → β} {l m : List α} (h : l.Perm m) (hn : (l.map f).Nodup) (cs : List β) : l.foldr (fun e cs => cs.set (f e) (g e)) cs = m.foldr (fun e cs => cs.set (f e) (g e)) cs := by
  refine h.foldr_eq' (fun x hx y hy z => ?_) cs
  by_cases hxy : f x = f y
  · have hinj : ∀ (l : List α), (l.map f).Nodup → x ∈ l → y ∈ l → x = y := by
      intro l
      induction l with
      | nil => intro _ h; cases h
      | cons a l ih =>
        intro hn h1 h2
        rw [List.map_cons, List.nodup_cons] at hn
        rcases List.mem_cons.1 h1 with h3 | h3
        · rcases List.mem_cons.1 h2 with h4 | h4
          · rw [h3, h4]
          · exact absurd (List.mem_map.2 ⟨y, h4, by rw [← hxy, h3]⟩) hn.1
        · rcases List.mem_cons.1 h2 with h4 | h4
          · exact absurd (List.mem_map.2 ⟨x, h3, by rw [hxy, h4]⟩) hn.1
          · exact ih hn.2 h3 h4
    rw [hinj l hn hx hy]
  · exact List.set_comm _ _ hxy
theorem setR_len {f : α → Nat} {g : α → β} (cs : List β) : ∀ l : List α, (l.foldr (fun e cs => cs.set (f e) (g e)) cs).length = cs.length
  | [] => rfl
  | a :: l => by rw [List.foldr_cons, List.length_set]; exact setR_len cs l
end
noncomputable def opsOf (c : Code) : List Oper := match c with
  | .seq x _ => match x with
    | .region _ ops _ => ops.toList
    | _ => []
  | _ => []
noncomputable def sndOf (c : Code) : Code := match c with
  | .seq _ y => y
  | _ => .skip
noncomputable def taCode : Code := codeAt [true, true, true, false, true, false, false, true, true, false, false, true, true] (bodyOf Tryz.f211)
noncomputable def taL : List Oper := opsOf taCode
theorem ta_code : taCode = .seq (.region 7 taL.toArray false) (sndOf taCode) := by kernel_rfl
theorem ta_dst : dstOk 66 taL = true := by kernel_rfl
theorem ta_cut : taL = taL.take 8 ++ taL.drop 8 := (List.take_append_drop 8 taL).symm
def htAV (v : AV) : Nat := match v with
  | .g l => match l with
    | [_, y] => (intAV y).toNat
    | _ => 0
  | _ => 0
def taI (b : Nat) (e : AV × AV) : Nat := b + htAV e.1
def taB (e : AV × AV) : Bool := (match e.1 with
  | .g l => match l with
    | [_, y] => zlt (-1) (intAV y) && zlt (intAV y) 42
    | _ => false
  | _ => false) && (match e.2 with
  | .i k _ => Nat.beq (knd .i64) (knd k)
  | _ => false)
theorem taB_ok {k : KK kk2} {u : AV} (h : taB (k.1, u) = true) : ∃ a n : Int, ∃ ht : Nat, k.1 = .g [.i .i64 a, .i .i64 (ht : Int)] ∧ ht < 42 ∧ htAV k.1 = ht ∧ u = .i .i64 n := by
  obtain ⟨a, b, hk⟩ := kk2_form k
  unfold taB at h
  rw [hk] at h
  dsimp only [intAV] at h
  rw [Bool.and_eq_true, Bool.and_eq_true, zlt_eq, zlt_eq, decide_eq_true_eq, decide_eq_true_eq] at h
  obtain ⟨⟨h1, h2⟩, h3⟩ := h
  cases u <;> first | (cases h3; done) | skip
  rename_i kk n
  have := knd_inj (show Nat.beq (knd .i64) (knd kk) = true from h3)
  subst this
  refine ⟨a, n, b.toNat, ?_, by omega, by rw [hk]; rfl, rfl⟩
  rw [hk, show ((b.toNat : Nat) : Int) = b by omega]
noncomputable def taO (o : AO) : Option (List (AV × AV)) := match o with
  | .mp kd es _ _ => match kdEq kd kk2 && (keysNd es && (es.all taB && (ndB (es.map fun e => htAV e.1) && Nat.ble es.length 1000))) with
    | true => some es
    | false => none
  | _ => none
noncomputable def taC (b : Nat) (es : List (AV × AV)) (o : AO) : Option AO := match o with
  | .cs t l op => match op with
    | none => match Nat.ble (b + 42) l.length with
      | true => some (.cs t (es.foldr (fun e l => l.set (taI b e) e.2) l) none)
      | false => none
    | some _ => none
  | _ => none
def taP (v3 v5 : AV) : Option (Nat × Nat × Nat × Nat) := match v3 with
  | .l on off len _ _ => match v5 with
    | .i .i64 n => match n with
      | .ofNat i => match Nat.blt i len with
        | true => some (on, off, len, i)
        | false => none
      | _ => none
    | _ => none
  | _ => none
theorem taP_ok {v3 v5 : AV} {on off len i : Nat} (h : taP v3 v5 = some (on, off, len, i)) : (∃ c sk, v3 = .l on off len c sk) ∧ v5 = .i .i64 (i : Int) ∧ i < len := by
  unfold taP at h
  split at h
  · split at h
    · split at h
      · split at h
        · rename_i hb
          injection h with h
          simp only [Prod.mk.injEq] at h
          obtain ⟨rfl, rfl, rfl, rfl⟩ := h
          exact ⟨⟨_, _, rfl⟩, rfl, blt_iff.1 hb⟩
        · cases h
      · cases h
    · cases h
  · cases h
noncomputable def taM (cl yl : Nat → List AV → HM AV) : ZM := fun ts ds => hb (zregL Tryz.X0 cl yl taL (taL.take 8) ts) fun ts1 => hO (ts1.look 0) fun v0 => hO (ts1.look 3) fun v3 => hO (ts1.look 5) fun v5 => hO (ts1.look 30) fun v30 => hO (ts1.look 31) fun v31 => hO (ts1.look 50) fun vm => hO (mapN vm) fun im => hO (taP v3 v5) fun p => hg (!(Nat.beq p.1 im)) (hb (rdB im) fun o => hO (taO o) fun es => hb (rdB p.1) fun o2 => hO (taC (p.2.1 + p.2.2.2 * 42) es o2) fun o3 => hb (wrB p.1 (some o3)) fun _ => hp ⟨.nm, .cons 0 v0 (.cons 3 v3 (.cons 30 v30 (.cons 31 v31 .nil))), ds⟩)
theorem ta_lm (cl yl : Nat → List AV → HM AV) (hc : CallOK Tryz.prog cl) (hy : YieldOK Tryz.prog yl) (ts : TL) (ds : List Nat) : LM (taM cl yl ts ds) := by
  unfold taM hg
  refine LM.bind (zregL_lm Tryz.hX0 hc hy _ _) fun _ => ?_
  (repeat (first | exact LM.pure _ | exact LM.fail | exact LM.read _ | exact LM.write _ _ | exact LM.new _ | assumption | refine LM.bind ?_ fun _ => ?_ | refine LM.opt fun _ => ?_ | refine LM.ite ?_ ?_ | split))
theorem setR_app {α β : Type} {f : α → Nat} {g : α → β} (pre cs : List β) : ∀ l : List α, l.foldr (fun e cs => cs.set (pre.length + f e) (g e)) (pre ++ cs) = pre ++ l.foldr (fun e cs => cs.set (f e) (g e)) cs
  | [] => rfl
  | a :: l => by rw [List.foldr_cons, setR_app pre cs l, List.foldr_cons, List.set_append_right _ _ (by omega), show pre.length + f a - pre.length = f a by omega]
theorem setR_cv {α : Type} {f : α → Nat} {g : α → AV} (ρ : Env) (cs : List AV) : ∀ l : List α, cvL ρ (l.foldr (fun e cs => cs.set (f e) (g e)) cs) = l.foldr (fun e cs => cs.set (f e) (cv ρ (g e))) (cvL ρ cs)
  | [] => rfl
  | a :: l => by rw [List.foldr_cons, List.foldr_cons, ← setR_cv ρ cs l, cvL_eq, cvL_eq, List.map_set]
theorem TL.look_or {t u : Nat} {v x : AV} {r : TL} (h : (TL.cons t v r).look u = some x) : (t = u ∧ v = x) ∨ r.look u = some x := by
  rw [TL.look_cons] at h
  split at h
  · rename_i he; injection h with h; exact .inl ⟨he, h⟩
  · exact .inr h
noncomputable def taR : Oper := match taL.drop 8 with
  | o :: _ => o
  | [] => default
theorem ta_drop : taL.drop 8 = [taR] := by kernel_rfl
theorem ta_rop : taR.op = .range 335 (.tmp 50) := by kernel_rfl
theorem ta_rdst : taR.dst = some 51 := by kernel_rfl
theorem ta_rg : taR.guard = none := by kernel_rfl
theorem foldr_len {α : Type} {f : α → Nat} {g : α → Value} (cs : List Value) (l : List α) : (l.foldr (fun e cs => cs.set (f e) (g e)) cs).length = cs.length := setR_len cs l
theorem ndB_nodup {l : List Nat} (h : ndB l = true) : l.Nodup := by
  rw [List.nodup_iff_pairwise_ne, List.pairwise_iff_getElem]
  intro i j hi hj hij e
  have := ndB_ok h i j l[i] (by simp [hi]) (by rw [e]; simp [hj])
  omega
theorem nodup_shift (f : Nat → Nat) {l : List Nat} (h : l.Nodup) (hf : ∀ a b, f a = f b → a = b) : (l.map f).Nodup := by
  rw [List.nodup_iff_pairwise_ne, List.pairwise_map]
  exact (List.nodup_iff_pairwise_ne.1 h).imp fun hne e => hne (hf _ _ e)
theorem setR_mem {α β : Type} {f : α → Nat} {g : α → β} {cs : List β} {v : β} : ∀ (l : List α), v ∈ l.foldr (fun e cs => cs.set (f e) (g e)) cs → v ∈ cs ∨ ∃ e, e ∈ l ∧ v = g e
  | [], h => .inl h
  | a :: l, h => by
    rw [List.foldr_cons] at h
    rcases List.mem_or_eq_of_mem_set h with h | h
    · rcases setR_mem l h with h | ⟨e, h1, h2⟩
      · exact .inl h
      · exact .inr ⟨e, .tail _ h1, h2⟩
    · exact .inr ⟨a, .head _, h⟩
set_option maxHeartbeats 4000000 in
set_option maxRecDepth 100000 in
theorem ta_okc {k : Nat} (hk0 : bitB k 0 = true) (hk3 : bitB k 3 = true) (hk30 : bitB k 30 = true) (hk31 : bitB k 31 = true) (cl yl : Nat → List AV → HM AV) (hc : CallOK Tryz.prog cl) (hy : YieldOK Tryz.prog yl) : CodeOK Tryz.prog none k 66 taCode (taM cl yl) where
  lm := ta_lm cl yl hc hy
  ok := fun {ts ds s o s'} h hba ρ r a w w0 mm hf hr hz => by
    unfold taM at h
    obtain ⟨ts1, s1, g0, h⟩ := hb_ok h
    obtain ⟨n1, b1⟩ := (zregL_lm Tryz.hX0 hc hy _ _).nx g0 hba
    obtain ⟨v0, l0, h⟩ := hO_ok h
    obtain ⟨v3, l3, h⟩ := hO_ok h
    obtain ⟨v5, l5, h⟩ := hO_ok h
    obtain ⟨v30, l30, h⟩ := hO_ok h
    obtain ⟨v31, l31, h⟩ := hO_ok h
    obtain ⟨vm, lm, h⟩ := hO_ok h
    obtain ⟨im, i0, h⟩ := hO_ok h
    obtain ⟨⟨on, off, len, i⟩, i3, h⟩ := hO_ok h
    obtain ⟨hne, h⟩ := hg_ok h
    obtain ⟨om, s2, g1, h⟩ := hb_ok h
    obtain ⟨es, g2, h⟩ := hO_ok h
    obtain ⟨oo, s3, g3, h⟩ := hb_ok h
    obtain ⟨o3, g4, h⟩ := hO_ok h
    obtain ⟨_, s4, g5, h⟩ := hb_ok h
    obtain ⟨rfl, rfl⟩ := hp_ok h
    clear h
    obtain rfl := mapN_ok i0
    obtain ⟨⟨c, sk, rfl⟩, rfl, hil⟩ := taP_ok i3
    have hne : on ≠ im := fun e => by subst e; rw [Nat.beq_refl] at hne; cases hne
    dsimp only at g3 g4 g5
    obtain ⟨e1, e2, q1⟩ := rdB_gt g1
    obtain ⟨f1, f2, q2⟩ := rdB_gt g3
    obtain ⟨_, e5, q3⟩ := wrB_gt g5
    rw [e2] at f1 f2
    rw [f2] at e5
    have hnx : s1.nx = s4.nx := by rw [q3, q2, q1]
    unfold taO at g2
    unfold taC at g4
    split at g2
    · rename_i kd es0 sts nx0
      split at g2
      · rename_i hb
        injection g2 with g2
        subst g2
        simp only [Bool.and_eq_true] at hb
        obtain ⟨hb1, hb2, hb3, hb5, hb4⟩ := hb
        obtain rfl := kdEq_eq hb1
        split at g4
        · rename_i t l op
          split at g4
          · split at g4
            · rename_i hle
              injection g4 with g4
              subst g4
              have hle := Nat.le_of_ble_eq_true hle
              rw [ta_code]
              refine wpIn_seq (wpIn_region_lit ?_)
              rw [ta_cut]
              have hdst := fun o (ho : o ∈ taL) => dstOk_spec ta_dst ho
              have hpre := zregL_pre (n := 66) (r := r) (m := mm) (w0 := w0) (Q := Exit.then ((sndOf taCode).wpIn (fw r) mm Tryz.prog (QZ k 66 w0 ρ s ⟨.nm, .cons 0 v0 (.cons 3 (.l on off len c sk) (.cons 30 v30 (.cons 31 v31 .nil))), ds⟩ s4)) (QZ k 66 w0 ρ s ⟨.nm, .cons 0 v0 (.cons 3 (.l on off len c sk) (.cons 30 v30 (.cons 31 v31 .nil))), ds⟩ s4)) Tryz.hX0 hc hy (taL.drop 8) (taL.take 8) (fun o ho => hdst o (List.mem_of_mem_take ho)) ts s ts1 s1 g0 ρ a w n1 (fun n a b => hf n a (by omega)) hz.size hz.sl hz.zs hba
              rw [← ta_cut] at hpre ⊢
              refine hpre fun ρ1 a1 w1 r1 r2 r3 r4 r5 r6 => ?_
              clear hpre
              obtain ⟨dd1, dd2⟩ := dfL_le r1 hz.dsd
              obtain ⟨qm, hqm, _, hqmo⟩ := r6.at_ e1
              obtain ⟨q, hq, _, hqo⟩ := r6.at_ f1
              obtain ⟨hq0, st, hmp, hkeys, _⟩ := id hqmo
              obtain ⟨ks, rfl⟩ := esL_of fun e he => (hkeys e he).1
              have hnd := keysNd_ok hb2
              have hall0 : ∀ e ∈ ks, taB (e.1.1, e.2) = true := fun e he => List.all_eq_true.1 hb3 (e.1.1, e.2) (List.mem_map.2 ⟨e, he, rfl⟩)
              obtain ⟨arr, clock, harr, hI⟩ := hmp.it
              obtain ⟨pre, rest, p1, p2, p3, p4⟩ := id hqo
              obtain rfl : rest = [] := p4
              rw [List.append_nil] at p2
              have hs0 := zs_st2 r6 f1 hq e1 hqm hne
              have hs1 := hs0.swap (c' := .obj qm.1 (.map arr clock)) (.there .here) rfl rfl ⟨(hs0.all _ (.tail _ (.head _))).1, harr⟩
              have hs2 := hs1.swap (c' := .blk q.1 t (pre ++ cvL ρ1 l)) .here rfl rfl ⟨(hs0.all _ (.head _)).1, p2⟩
              generalize hF : frC ρ1 s1.gt [on, im] = F at *
              have hcm : cv ρ1 (.m im) = .map (some qm.1) := by simp [cv, hqm]
              obtain ⟨cap, hcap⟩ : ∃ cap, cv ρ1 (.l on off len c sk) = .slice (some ⟨q.1, q.2 + off, none⟩) len cap := ⟨_, by simp [cv, Env.at_, hq]; rfl⟩
              have hc5 : cv ρ1 (.i .i64 (i : Int)) = .int .i64 (i : Int) := by simp [cv]
              have hd : Hd w0 66 (dfL ρ1 ds) [(0, cv ρ1 v0), (3, .slice (some ⟨q.1, q.2 + off, none⟩) len cap), (5, .int .i64 (i : Int)), (30, cv ρ1 v30), (31, cv ρ1 v31), (50, .map (some qm.1))] (.blk q.1 t (pre ++ cvL ρ1 l) :: .obj qm.1 (.map arr clock) :: F) a1 w1 := {
                size := r3
                slots := fun t v hv => by
                  obtain ⟨u, g1, g2⟩ := (SlT.cons l0 (SlT.consE l3 hcap.symm (SlT.consE l5 hc5.symm (SlT.cons l30 (SlT.cons l31 (SlT.consE lm hcm.symm SlT.nil)))))) t v hv
                  rw [g2]; exact (r5 t u g1).1
                ds := by rw [r4, hz.ds, dd1]
                st := hs2 }
              have K : KeyEnc Tryz.prog 291 (enK ρ1 kk2) := kk2_key Tryz.pk291 ρ1
              have hlenC : ∀ l1 : List (KK kk2 × AV), (l1.foldr (fun e cs => cs.set (q.2 + taI (off + i * 42) (e.1.1, e.2)) (cv ρ1 e.2)) (pre ++ cvL ρ1 l)).length = q.2 + l.length := fun l1 => by
                rw [foldr_len, List.length_append, p1, cvL_len]
              have hinj : (ks.map fun e => q.2 + taI (off + i * 42) (e.1.1, e.2)).Nodup := by
                have h1 := ndB_nodup hb5
                have h2 : (ks.map fun e => htAV e.1.1).Nodup := by
                  have : (esL ks).map (fun e => htAV e.1) = ks.map fun e => htAV e.1.1 := by unfold esL; rw [List.map_map]; rfl
                  rw [← this]; exact h1
                have h3 : (ks.map fun e => q.2 + taI (off + i * 42) (e.1.1, e.2)) = (ks.map fun e => htAV e.1.1).map (fun h => q.2 + (off + i * 42 + h)) := by rw [List.map_map]; rfl
                rw [h3]
                exact nodup_shift _ h2 fun a b h => by omega
              have hfinC : ks.foldr (fun e cs => cs.set (q.2 + taI (off + i * 42) (e.1.1, e.2)) (cv ρ1 e.2)) (pre ++ cvL ρ1 l) = pre ++ cvL ρ1 ((esL ks).foldr (fun e l => l.set (taI (off + i * 42) e) e.2) l) := by
                rw [← p1, setR_app (f := fun e : KK kk2 × AV => taI (off + i * 42) (e.1.1, e.2)) (g := fun e => cv ρ1 e.2), ← setR_cv (f := fun e : KK kk2 × AV => taI (off + i * 42) (e.1.1, e.2)) (g := fun e => e.2)]
                unfold esL
                rw [List.foldr_map]
              have hDm : DmL ρ1 ((esL ks).foldr (fun e l => l.set (taI (off + i * 42) e) e.2) l) := by
                rw [DmL_iff]
                intro v hv
                rcases setR_mem _ hv with h1 | ⟨e, h1, rfl⟩
                · exact (DmL_iff ρ1 l).1 p3 v h1
                · obtain ⟨e', h2, rfl⟩ := List.mem_map.1 h1
                  obtain ⟨_, n, _, _, _, _, h3⟩ := taB_ok (hall0 e' h2)
                  dsimp only
                  rw [h3]; simp [Dm]
              have hlenL : ((esL ks).foldr (fun e l => l.set (taI (off + i * 42) e) e.2) l).length = l.length := setR_len l (esL ks)
              refine ot_seq (n := 66) (ds := dfL ρ1 ds) (K := fun S A => Tr Tryz.prog r w0 66 (sndOf taCode) (dfL ρ1 ds) S A (OvQ w0 ρ1 (.cons 0 v0 (.cons 3 (.l on off len c sk) (.cons 30 v30 (.cons 31 v31 .nil)))) (dfL ρ1 ds) (.prd q.1 (fun x => OH ρ1 on q.2 (.cs t ((esL ks).foldr (fun e l => l.set (taI (off + i * 42) e) e.2) l) none) x) :: .prd qm.1 (fun x => OH ρ1 im qm.2 (.mp kk2 (esL ks) sts nx0) x) :: F))) (taL.drop 8) (fun o ho => hdst o (List.mem_of_mem_drop ho)) [] _ _ a1 w1 hd ?_ ?_
              · rw [ta_drop]
                refine ot_rangeB Tryz.underlying335 (by decide) ta_rop ta_rdst (by unfold wantB; rw [ta_rg]) rfl (objAt_mem (.tail _ (.head _))) (fun gi hgi => ?_)
                show Tr _ _ _ _ _ _ _ _ _
                generalize hV0 : cv ρ1 v0 = V0 at *
                generalize hV30 : cv ρ1 v30 = V30 at *
                generalize hV31 : cv ρ1 v31 = V31 at *
                (apply tr_v tk; (conv => whnf); apply VStop.mk)
                refine v_loop (fun gm ds' ts A => ds' = dfL ρ1 ds ∧ ∃ (vs : List (KK kk2)) (k1 k2 : List (KK kk2 × AV)) (seen : Array Nat), seen.size + gm = clock ∧ ItOK (enK ρ1 kk2) (mpF ρ1 (esL ks) kk2) vs arr clock seen ∧ Gone ks vs k1 k2 ∧ A = .obj gi (.mapIter (some qm.1) clock seen clock) :: .blk q.1 t (k1.foldr (fun e cs => cs.set (q.2 + taI (off + i * 42) (e.1.1, e.2)) (cv ρ1 e.2)) (pre ++ cvL ρ1 l)) :: .obj qm.1 (.map arr clock) :: F ∧ ts = [(0, V0), (3, .slice (some ⟨q.1, q.2 + off, none⟩) len cap), (5, .int .i64 (i : Int)), (30, V30), (31, V31), (51, .pointer (some ⟨gi, 0, none⟩))]) clock
                  (l := [(0, _), (3, _), (5, _), (30, _), (31, _), (51, _)]) (B := _) ?_ (List.Sublist.refl _) ⟨rfl, [], [], ks, #[], by simp, hI, Gone.start ks, rfl, rfl⟩ ?_
                · exact ⟨rfl, rfl, rfl, rfl, rfl, rfl, trivial⟩
                clear hI hd
                rintro gm ds' ts A ⟨rfl, vs, k1, k2, seen, hgm, hI, hgo, rfl, rfl⟩
                (apply tr_v tk; (conv => whnf); apply VStop.mk)
                refine ot_nextK K hI rfl rfl rfl rfl rfl (objAt_mem (.tail _ (.tail _ (.head _)))) (A2 := fun s => .obj gi (.mapIter (some qm.1) clock s clock) :: .blk q.1 t (k1.foldr (fun e cs => cs.set (q.2 + taI (off + i * 42) (e.1.1, e.2)) (cv ρ1 e.2)) (pre ++ cvL ρ1 l)) :: .obj qm.1 (.map arr clock) :: F) (fun s => .here) (fun hall => ?_) (fun e k he hek hkv hkn hI2 => ?_)
                · have hp := hgo.done hnd hall
                  rw [setR_perm (f := fun e : KK kk2 × AV => q.2 + taI (off + i * 42) (e.1.1, e.2)) (g := fun e => cv ρ1 e.2) hp ((hp.map _).nodup_iff.2 hinj), hfinC]
                  apply ot_v tk
                  ((conv => whnf); (repeat (apply VBr.f; (conv => whnf))))
                  refine ⟨rfl, rfl, fun t u hu => ?_, fun w hs => ?_⟩
                  · rcases TL.look_or hu with ⟨rfl, rfl⟩ | hu
                    · rw [hV0]; rfl
                    · rcases TL.look_or hu with ⟨rfl, rfl⟩ | hu
                      · rw [hcap]; rfl
                      · rcases TL.look_or hu with ⟨rfl, rfl⟩ | hu
                        · rw [hV30]; rfl
                        · rcases TL.look_or hu with ⟨rfl, rfl⟩ | hu
                          · rw [hV31]; rfl
                          · cases hu
                  · have hs3 := hs.sub (A' := .blk q.1 t (pre ++ cvL ρ1 ((esL ks).foldr (fun e l => l.set (taI (off + i * 42) e) e.2) l)) :: .obj qm.1 (.map arr clock) :: F) (.cons _ (List.Sublist.refl _))
                    have hs4 := st_obj (p := fun x => OH ρ1 im qm.2 (.mp kk2 (esL ks) sts nx0) x) (.there .here) (by rw [← harr]; exact hqmo) hs3
                    have h9 := hs4.all _ (.head _)
                    exact hs4.swap .here rfl rfl ⟨h9.1, h9.2.lt, pre, [], p1, by rw [List.append_nil]; exact h9.2, hDm, rfl⟩
                obtain ⟨u, k2', hval, hmem, hgo2⟩ := hgo.next hnd hkv hkn
                obtain ⟨ka, n, ht, hkey, hht, hhe, rfl⟩ := taB_ok (hall0 _ hmem)
                have hek2 : enK ρ1 kk2 k = .agg #[.int .i64 ka, .int .i64 (ht : Int)] := by unfold enK; rw [hkey]; simp [cv, cvL]
                have hval : e.val = .int .i64 n := by rw [hval]; simp [cv]
                rw [hval, hek2]
                have hs := hI2.size
                rw [Array.size_push] at hs
                have hsn : (k1 ++ [(k, AV.i .i64 n)]).foldr (fun e cs => cs.set (q.2 + taI (off + i * 42) (e.1.1, e.2)) (cv ρ1 e.2)) (pre ++ cvL ρ1 l) = (k1.foldr (fun e cs => cs.set (q.2 + taI (off + i * 42) (e.1.1, e.2)) (cv ρ1 e.2)) (pre ++ cvL ρ1 l)).set (q.2 + off + i * 42 + ht * 1) (.int .i64 n) := by
                  have hp2 : (k1 ++ [(k, AV.i .i64 n)]).Perm ((k, AV.i .i64 n) :: k1) := List.perm_append_comm
                  have hn2 : ((k1 ++ [(k, AV.i .i64 n)]).map fun e => q.2 + taI (off + i * 42) (e.1.1, e.2)).Nodup := by
                    have h1 := (hgo2.perm.map (fun e : KK kk2 × AV => q.2 + taI (off + i * 42) (e.1.1, e.2))).nodup_iff.2 hinj
                    rw [List.map_append] at h1
                    exact (List.nodup_append.1 h1).1
                  rw [setR_perm (f := fun e : KK kk2 × AV => q.2 + taI (off + i * 42) (e.1.1, e.2)) (g := fun e => cv ρ1 e.2) hp2 hn2, List.foldr_cons]
                  show List.set _ (q.2 + (off + i * 42 + htAV k.1)) (cv ρ1 (AV.i .i64 n)) = _
                  rw [hhe, show q.2 + (off + i * 42 + ht) = q.2 + off + i * 42 + ht * 1 by omega]
                  simp only [cv]
                have hCl := hlenC k1
                generalize k1.foldr (fun e cs => cs.set (q.2 + taI (off + i * 42) (e.1.1, e.2)) (cv ρ1 e.2)) (pre ++ cvL ρ1 l) = C1 at *
                apply ot_v tk
                ((conv => whnf); (repeat ((first | (apply VStop.mk; (first | (refine ot_entryK hI2 rfl rfl rfl rfl (objAt_mem (by repeat (first | exact List.mem_cons_self | apply List.mem_cons_of_mem))) (by repeat (first | exact List.mem_cons_self | apply List.mem_cons_of_mem)) he hek ?_; rw [hval, hek2]) | refine tr_region_lex (id := 10) (by kernel_rfl) [.rd, .rd, .rd, .rd, .rd, .rd, .rd, .wr] rfl (by kernel_rfl) ?_); apply ot_v tk) | (apply VIx.mk (j := i); exact rfl; omega) | (apply VIx.mk (j := ht); exact rfl; omega) | (refine VSt.old _ _ (C1.set (q.2 + off + i * 42 + ht * 1) (.int .i64 n)) _ (.there (.there .here)) (Nat.ble_eq_true_of_le (by rw [hCl]; simp only [List.length_singleton]; omega)) (setMany_set _ _ _ (by rw [hCl]; omega)) ?_) | (apply VLd.mk; (focus ((repeat (first | ((with_reducible apply ld_blk); exact rfl) | (with_reducible apply ld_skip))); done))) | apply VBr.t | (apply VNew.mk; intro g hg) | (apply VSt.mk; (focus ((repeat (first | (with_reducible exact At.here) | (with_reducible apply At.there))); done)); exact rfl)); (conv => whnf))))
                exact v_rnd (gm - 1) (by omega) (l := [(0, _), (3, _), (5, _), (30, _), (31, _), (51, _)]) (B := _ :: _ :: _ :: F) ⟨rfl, rfl, rfl, rfl, rfl, rfl, trivial⟩ (by exact .cons _ (List.Sublist.refl _)) ⟨rfl, vs ++ [k], k1 ++ [(k, _)], k2', seen.push e.born, by rw [Array.size_push]; omega, hI2, hgo2, by rw [hsn], rfl⟩
              · intro S A a2 w2 hk hh
                refine wpIn_mono (hk mm a2 w2 hh) ?_
                rintro e a3 w3 ⟨ds', S', A', ⟨he, hds, hsl, hA⟩, hh3⟩
                refine ⟨he, ρ1, ⟨r1, fun n hn => r2 n (by omega)⟩, hh3.size, fun t v hv => ⟨hh3.slots t _ (hsl t v hv), ?_⟩, fun t v hv => ?_, by rw [hh3.ds, hds], dd2, ?_⟩
                · rcases TL.look_or hv with ⟨_, rfl⟩ | hv
                  · exact (r5 0 _ l0).2
                  · rcases TL.look_or hv with ⟨_, rfl⟩ | hv
                    · exact (r5 3 _ l3).2
                    · rcases TL.look_or hv with ⟨_, rfl⟩ | hv
                      · exact (r5 30 _ l30).2
                      · rcases TL.look_or hv with ⟨_, rfl⟩ | hv
                        · exact (r5 31 _ l31).2
                        · cases hv
                · rcases TL.look_or hv with ⟨rfl, _⟩ | hv
                  · exact hk0
                  · rcases TL.look_or hv with ⟨rfl, _⟩ | hv
                    · exact hk3
                    · rcases TL.look_or hv with ⟨rfl, _⟩ | hv
                      · exact hk30
                      · rcases TL.look_or hv with ⟨rfl, _⟩ | hv
                        · exact hk31
                        · cases hv
                · rw [e5]
                  exact st_zs2 (fun _ _ => gt32) r6 f1 hq e1 hqm (by rw [hF]; exact hA w3 hh3.st)
            · cases g4
          · cases g4
        · cases g4
      · cases g2
    · cases g2
/-! ## Numbers of a map that are added to -/
noncomputable def tsV (ρ : Env) (ts : TL) : TS := TL.rec (motive := fun _ => TS) [] (fun t v _ ih => (t, cv ρ v) :: ih) ts
theorem look_hd (t : Nat) (v : Value) (S : TS) (u : Nat) : look ((t, v) :: S) u = if t = u then some v else look S u := by
  simp only [look]
  by_cases h : t = u
  · subst h; simp
  · rw [beq_ff h, if_neg h]
theorem tsV_look (ρ : Env) : ∀ (ts : TL) (t : Nat), look (tsV ρ ts) t = (ts.look t).map (cv ρ)
  | .nil, t => rfl
  | .cons u v r, t => by
    show look ((u, cv ρ v) :: tsV ρ r) t = _
    rw [look_hd, TL.look_cons, tsV_look ρ r t]
    split <;> rfl
theorem tsV_sl (ρ : Env) (ts : TL) : SlT ρ ts (tsV ρ ts) := fun t v h => by
  rw [tsV_look] at h
  obtain ⟨u, h1, h2⟩ := Option.map_eq_some_iff.1 h
  exact ⟨u, h1, h2.symm⟩
/-- Slots laid ahead of a frame, that leave the frame's own as they are. -/
inductive PreT (ρ : Env) (ts : TL) (tm : List Nat) : TS → Prop
  | base : PreT ρ ts tm (tsV ρ ts)
  | tmp {t : Nat} {v : Value} {S : TS} (h : t ∈ tm) (h2 : PreT ρ ts tm S) : PreT ρ ts tm ((t, v) :: S)
  | old {t : Nat} {v : Value} {u : AV} {S : TS} (h : ts.look t = some u) (e : v = cv ρ u) (h2 : PreT ρ ts tm S) : PreT ρ ts tm ((t, v) :: S)
theorem PreT.ok {ρ : Env} {ts : TL} {tm : List Nat} (hn : ∀ t u, ts.look t = some u → t ∉ tm) {S : TS} (h : PreT ρ ts tm S) : ∀ t u, ts.look t = some u → look S t = some (cv ρ u) := by
  induction h with
  | base => intro t u hu; rw [tsV_look, hu]; rfl
  | tmp ht _ ih =>
    intro t u hu
    rw [look_hd, if_neg (fun e => hn t u hu (by rw [← e]; exact ht))]
    exact ih t u hu
  | old h1 e _ ih =>
    intro t u hu
    rw [look_hd]
    split
    · rename_i he
      subst he
      rw [h1] at hu
      injection hu with hu
      rw [e, hu]
    · exact ih t u hu
theorem kin_not {k : Nat} {ts : TL} (hk : Kin (bitB k) ts) {tm : List Nat} (h : tm.all (fun t => !(bitB k t)) = true) : ∀ t u, ts.look t = some u → t ∉ tm := fun t u hu hm => by
  have h1 := hk t u hu
  have h2 := List.all_eq_true.1 h t hm
  rw [h1] at h2; cases h2
theorem cellsAt_oh {w0 : World} {A : List Chunk} {ρ : Env} {b n q : Nat} {t : TypeId} {l : List AV} {op : Option Nat} (hm : Chunk.prd b (fun y => OH ρ n q (.cs t l op) y) ∈ A) : CellsAt w0 A b q (cvL ρ l) := fun w hs j u hu => by
  have h1 : l[j]? = (some (l[j]?.getD .ni)) := by
    rw [cvL_eq, List.getElem?_map] at hu
    cases hl : l[j]? with
    | none => rw [hl] at hu; cases hu
    | some v => rfl
  have h2 := cellAt_oh (w0 := w0) hm h1 w hs
  rw [h2]
  rw [cvL_eq, List.getElem?_map, h1] at hu
  exact hu
def keyM2 (o : AO) : Option AV := match o with
  | .cs _ l _ => match ckM [.i .i64, .i .i64] l with
    | true => some (.g l)
    | false => none
  | _ => none
theorem keyM2_ok {o : AO} {v : AV} (h : keyM2 o = some v) : ∃ t a b op, o = .cs t [.i .i64 a, .i .i64 b] op ∧ v = .g [.i .i64 a, .i .i64 b] := by
  unfold keyM2 at h
  split at h
  · rename_i t l op
    split at h
    · rename_i hb
      injection h with h
      obtain ⟨l2, h1, h2⟩ := ck_ints 2 l hb
      rcases l2 with _ | ⟨a, _ | ⟨b, _ | ⟨c, l2⟩⟩⟩ <;> simp at h1
      subst h2
      exact ⟨t, a, b, op, rfl, h.symm⟩
    · cases h
  · cases h
def intN (v : AV) : Option Int := match v with
  | .i .i64 n => match smI n with
    | true => some n
    | false => none
  | _ => none
theorem intN_ok {v : AV} {n : Int} (h : intN v = some n) : v = .i .i64 n ∧ -1000000000000 < n ∧ n < 1000000000000 := by
  unfold intN at h
  split at h
  · split at h
    · rename_i hb
      injection h with h
      subst h
      exact ⟨rfl, smI_ok hb⟩
    · cases h
  · cases h
noncomputable def adO (key : AV) (d : Int) (o : AO) : Option AO := match o with
  | .mp kd es _ nxt => match kdEq kd kk2 with
    | true => match lkA es key with
      | some v => match intN v with
        | some f => some (.mp kk2 (updA es key (.i .i64 (f + d))) [] nxt)
        | none => none
      | none => none
    | false => none
  | _ => none
theorem adO_ok {key : AV} {d : Int} {o o' : AO} (h : adO key d o = some o') : ∃ es sts nxt f, o = .mp kk2 es sts nxt ∧ lkA es key = some (.i .i64 f) ∧ -1000000000000 < f ∧ f < 1000000000000 ∧ o' = .mp kk2 (updA es key (.i .i64 (f + d))) [] nxt := by
  unfold adO at h
  split at h
  · rename_i kd es sts nxt
    split at h
    · rename_i hb
      obtain rfl := kdEq_eq hb
      split at h
      · rename_i v hv
        split at h
        · rename_i f hf
          injection h with h
          obtain ⟨rfl, h1, h2⟩ := intN_ok hf
          exact ⟨es, sts, nxt, f, rfl, hv, h1, h2, h.symm⟩
        · cases h
      · cases h
    · cases h
  · cases h
noncomputable def adM (neg : Bool) (sx sm : Nat) : ZM := fun ts ds => hO (ts.look 0) fun v0 => hO (ts.look sx) fun vx => hO (ts.look sm) fun vm => hO (ptrN v0) fun nm => hO (ptrN vx) fun xm => hO (intN vm) fun mo => hb (rdB nm) fun o => hO (cellM o 4) fun fm => hb (rdB xm) fun ox => hO (keyM2 ox) fun key => hb (rdB fm) fun of => hO (adO (match neg with
  | true => rvAV key
  | false => key) (match neg with
  | true => -mo
  | false => mo) of) fun o' => hb (wrB fm (some o')) fun _ => hp ⟨.nm, ts, ds⟩
theorem ad_lm (neg : Bool) (sx sm : Nat) (ts : TL) (ds : List Nat) : LM (adM neg sx sm ts ds) := by unfold adM; (repeat (first | exact LM.pure _ | exact LM.fail | exact LM.read _ | exact LM.write _ _ | exact LM.new _ | assumption | refine LM.bind ?_ fun _ => ?_ | refine LM.opt fun _ => ?_ | refine LM.ite ?_ ?_ | split))
set_option maxHeartbeats 4000000 in
set_option maxRecDepth 20000 in
theorem ad1_code {k : Nat} (hkk : [70, 71, 72, 73, 74, 75, 76, 77, 78, 79].all (fun t => !(bitB k t)) = true) : CodeOK Tryz.prog none k 96 (codeAt [true, true, true, true, true, true, false, true, false, false, true, true, false, false, true, true, true, false] (bodyOf Tryz.f232)) (adM false 16 3) where
  lm := ad_lm _ _ _
  ok := fun {ts ds s o s'} h hba ρ r a w w0 mm hf hr hz => by
    unfold adM at h
    obtain ⟨v0, l0, h⟩ := hO_ok h
    obtain ⟨vx, lx, h⟩ := hO_ok h
    obtain ⟨vm, lm, h⟩ := hO_ok h
    obtain ⟨nm, i0, h⟩ := hO_ok h
    obtain ⟨xm, ix, h⟩ := hO_ok h
    obtain ⟨mo, im, h⟩ := hO_ok h
    obtain ⟨on, s1, g1, h⟩ := hb_ok h
    obtain ⟨fm, g2, h⟩ := hO_ok h
    obtain ⟨ox, s2, g3, h⟩ := hb_ok h
    obtain ⟨key, g4, h⟩ := hO_ok h
    obtain ⟨of, s3, g5, h⟩ := hb_ok h
    obtain ⟨o', g6, h⟩ := hO_ok h
    obtain ⟨_, s4, g7, h⟩ := hb_ok h
    obtain ⟨rfl, rfl⟩ := hp_ok h
    clear h
    obtain rfl := ptrN_ok i0
    obtain rfl := ptrN_ok ix
    obtain ⟨rfl, hm1, hm2⟩ := intN_ok im
    obtain ⟨d1, d2, _⟩ := rdB_gt g1
    obtain ⟨c1, c2, _⟩ := rdB_gt g3
    obtain ⟨f1, f2, _⟩ := rdB_gt g5
    obtain ⟨_, e5, _⟩ := wrB_gt g7
    rw [d2] at c1 c2
    rw [c2] at f1 f2
    rw [f2] at e5
    obtain ⟨tn, l, op, rfl, hl4⟩ := cellM_ok g2
    obtain ⟨tx, ka, kb, opx, rfl, rfl⟩ := keyM2_ok g4
    obtain ⟨es, sts, nxt, f, rfl, hlk, hf1, hf2, rfl⟩ := adO_ok g6
    dsimp only at hlk e5
    obtain ⟨p, hp, _, _⟩ := hz.zs.at_ d1
    obtain ⟨px, hpx, _, _⟩ := hz.zs.at_ c1
    obtain ⟨q, hq, _, hqo⟩ := hz.zs.at_ f1
    obtain ⟨hq0, st, hmp, hkeys, _⟩ := id hqo
    have hnf : nm ≠ fm := fun e => by subst e; rw [d1] at f1; cases f1
    have hxf : xm ≠ fm := fun e => by subst e; rw [c1] at f1; cases f1
    have hcf : cv ρ (.m fm) = .map (some q.1) := by simp [cv, hq]
    have hcp : cv ρ (.p nm 0) = .pointer (some ⟨p.1, p.2, none⟩) := by simp [cv, Env.at_, hp]
    have hcx : cv ρ (.p xm 0) = .pointer (some ⟨px.1, px.2, none⟩) := by simp [cv, Env.at_, hpx]
    have hcm : cv ρ (.i .i64 mo) = .int .i64 mo := by simp [cv]
    have K : KeyEnc Tryz.prog 219 (enK ρ kk2) := kk2_key Tryz.pk219 ρ
    have zv2 : ∀ w, (zeroValue 2).run Tryz.prog w = .ok (.int .i64 0) w := fun w => by kernel_rfl
    obtain ⟨kk, hkk2⟩ : ∃ kk : KK kk2, kk.1 = .g [.i .i64 ka, .i .i64 kb] := ⟨⟨.g [.i .i64 ka, .i .i64 kb], rfl⟩, rfl⟩
    have hek2 : enK ρ kk2 kk = .agg #[.int .i64 ka, .int .i64 kb] := by unfold enK; rw [hkk2]; simp [cv, cvL]
    have hlk2 : mpF ρ es kk2 kk = some (.int .i64 f) := by unfold mpF; rw [hkk2, hlk]; simp [cv]
    have hup := mpF_upd (ρ := ρ) (fun e he => (hkeys e he).1) kk (.i .i64 (f + mo))
    rw [hkk2, show cv ρ (.i .i64 (f + mo)) = .int .i64 (f + mo) by simp [cv]] at hup
    refine wpIn_mono (code_tr1 (r := r) hz (fun _ _ => gt32) f1 hq (S := (0, .pointer (some ⟨p.1, p.2, none⟩)) :: (16, .pointer (some ⟨px.1, px.2, none⟩)) :: (3, .int .i64 mo) :: tsV ρ ts) (SlT.consE l0 hcp.symm (SlT.consE lx hcx.symm (SlT.consE lm hcm.symm (tsV_sl ρ ts)))) (ts' := ts) (o' := .mp kk2 (updA es (.g [.i .i64 ka, .i .i64 kb]) (.i .i64 (f + mo))) [] nxt) (fun t u hu => ⟨(hz.sl t u hu).2, hz.kin t u hu⟩) (fun F hF => ?_)) ?_
    · have hfin : ∀ st y, MapP (enK ρ kk2) (updM (mpF ρ es kk2) kk (.int .i64 (f + mo))) st y → OH ρ fm q.2 (.mp kk2 (updA es (.g [.i .i64 ka, .i .i64 kb]) (.i .i64 (f + mo))) [] nxt) y := fun st y hy => by
        rw [← hup] at hy
        refine oh_new hqo (fun e he => ?_) hy
        exact upd_keys (kd := kk2) (k := .g [.i .i64 ka, .i .i64 kb]) (v := .i .i64 (f + mo)) rfl (Q := Dm ρ) hkeys (by simp [Dm]) e he
      have c4 : ∀ A, (∀ c ∈ F, c ∈ A) → CellAt w0 A p.1 (p.2 + 4) (.map (some q.1)) := fun A hA => by
        rw [← hcf]; exact cellAt_oh (hA _ (hF nm _ p hnf d1 hp)) hl4
      have cx : ∀ A, (∀ c ∈ F, c ∈ A) → CellsAt w0 A px.1 px.2 [.int .i64 ka, .int .i64 kb] := fun A hA => by
        have := cellsAt_oh (w0 := w0) (hA _ (hF xm _ px hxf c1 hpx))
        simpa [cvL, cv] using this
      refine tr_oh_map .here ?_
      (apply tr_v tk; (conv => whnf); apply VStop.mk)
      (apply tr_v tk; (conv => whnf); (repeat ((first | (apply VStop.mk; refine tr_region_treeV (id := 18) (by kernel_rfl) F (by (repeat (first | exact sl0 _ | exact sl1 _ | refine sl2 _ ?_ | refine sl3 _ ?_))) [0, 1, 2, 3, 4, 6] [5, 7, 8, 9, 10] [.rd, .rd, .rd, .rd, .rd, .rd] (fun i => [.wr, .wr, .wr, .wr, .wr, .wr, .wr, .wr, .wr, .wr, .wr].getD i .wr) _ rfl rfl (by kernel_rfl) ?_; apply ot_v tk) | (apply VLd.mk; exact c4 _ (fun c hc => hc)) | (apply VLdN.mk; exact cx _ (fun c hc => hc); exact rfl)); (conv => whnf))))
      refine VT.mk (otx_twoV 5 8 (by kernel_rfl) (by kernel_rfl) (by decide) (by kernel_rfl) (by decide) ?_ ?_)
      · ((rw [← hek2]; refine ot_look_v (k := kk) hlk2 K Tryz.underlying222 zv2 rfl rfl rfl rfl (by exact rfl) (mapAt_mem (.head _)) ?_; rw [hek2]); refine ot_nil ?_; refine slist_and (by (repeat (first | exact sl0 _ | exact sl1 _ | refine sl2 _ ?_ | refine sl3 _ ?_))) ?_)
        refine VT.mk (otx_twoV 7 8 (by kernel_rfl) (by kernel_rfl) (by decide) (by kernel_rfl) (by decide) ?_ ?_)
        · (apply ot_v tk; (conv => whnf); (apply VRng.mk; omega; (conv => whnf)); refine slist_and (by (repeat (first | exact sl0 _ | exact sl1 _ | refine sl2 _ ?_ | refine sl3 _ ?_))) ?_)
          refine VT.mk (otx_oneV 8 (by kernel_rfl) (by kernel_rfl) (by decide) ?_)
          ((rw [← hek2]; refine ot_entryS (k := kk) (A'v := fun s => .prd q.1 (MapP (enK ρ kk2) (mpF ρ es kk2) [(s, kk)]) :: F) hlk2 K Tryz.underlying222 zv2 rfl rfl rfl rfl rfl (by exact rfl) (fun s => .here) (fun v1 s1 => ?_); rw [hek2]); refine ot_nil ?_; refine slist_and (by (repeat (first | exact sl0 _ | exact sl1 _ | refine sl2 _ ?_ | refine sl3 _ ?_))) ?_)
          refine VT.mk (otx_oneV 9 (by kernel_rfl) (by kernel_rfl) (by decide) ?_)
          (apply ot_v tk; (conv => whnf); refine slist_and (by (repeat (first | exact sl0 _ | exact sl1 _ | refine sl2 _ ?_ | refine sl3 _ ?_))) ?_)
          refine VT.mk (otx_oneV 10 (by kernel_rfl) (by kernel_rfl) (by decide) ?_)
          (refine ot_estoreF (k := kk) (A' := .prd q.1 (MapP (enK ρ kk2) (updM (mpF ρ es kk2) kk (.int .i64 (f + mo))) [(s1, kk)]) :: F) K rfl rfl rfl rfl rfl (by exact rfl) (by exact rfl) (.head _) .here ?_; refine ot_nil ?_; refine slist_and (by (repeat (first | exact sl0 _ | exact sl1 _ | refine sl2 _ ?_ | refine sl3 _ ?_))) ?_)
          refine VT.mk (otx_end ?_)
          exact ⟨rfl, rfl, PreT.ok (kin_not hz.kin hkk) (by repeat (first | exact PreT.base | refine PreT.old l0 hcp.symm ?_ | refine PreT.old lx hcx.symm ?_ | refine PreT.old lm hcm.symm ?_ | refine PreT.tmp (by decide) ?_)), fun w hs => st_prd .here (hfin _) hs⟩
        · ((rw [← hek2]; refine ot_entryS (k := kk) (A'v := fun s => .prd q.1 (MapP (enK ρ kk2) (mpF ρ es kk2) [(s, kk)]) :: F) hlk2 K Tryz.underlying222 zv2 rfl rfl rfl rfl rfl (by exact rfl) (fun s => .here) (fun v1 s1 => ?_); rw [hek2]); refine ot_nil ?_; refine slist_and (by (repeat (first | exact sl0 _ | exact sl1 _ | refine sl2 _ ?_ | refine sl3 _ ?_))) ?_)
          refine VT.mk (otx_twoV 7 9 (by kernel_rfl) (by kernel_rfl) (by decide) (by kernel_rfl) (by decide) ?_ ?_)
          · (apply ot_v tk; (conv => whnf); (apply VRng.mk; omega; (conv => whnf)); refine slist_and (by (repeat (first | exact sl0 _ | exact sl1 _ | refine sl2 _ ?_ | refine sl3 _ ?_))) ?_)
            refine VT.mk (otx_oneV 9 (by kernel_rfl) (by kernel_rfl) (by decide) ?_)
            (apply ot_v tk; (conv => whnf); refine slist_and (by (repeat (first | exact sl0 _ | exact sl1 _ | refine sl2 _ ?_ | refine sl3 _ ?_))) ?_)
            refine VT.mk (otx_oneV 10 (by kernel_rfl) (by kernel_rfl) (by decide) ?_)
            (refine ot_estoreF (k := kk) (A' := .prd q.1 (MapP (enK ρ kk2) (updM (mpF ρ es kk2) kk (.int .i64 (f + mo))) [(s1, kk)]) :: F) K rfl rfl rfl rfl rfl (by exact rfl) (by exact rfl) (.head _) .here ?_; refine ot_nil ?_; refine slist_and (by (repeat (first | exact sl0 _ | exact sl1 _ | refine sl2 _ ?_ | refine sl3 _ ?_))) ?_)
            refine VT.mk (otx_end ?_)
            exact ⟨rfl, rfl, PreT.ok (kin_not hz.kin hkk) (by repeat (first | exact PreT.base | refine PreT.old l0 hcp.symm ?_ | refine PreT.old lx hcx.symm ?_ | refine PreT.old lm hcm.symm ?_ | refine PreT.tmp (by decide) ?_)), fun w hs => st_prd .here (hfin _) hs⟩
          · (apply ot_v tk; (conv => whnf); refine slist_and (by (repeat (first | exact sl0 _ | exact sl1 _ | refine sl2 _ ?_ | refine sl3 _ ?_))) ?_)
            refine VT.mk (otx_oneV 7 (by kernel_rfl) (by kernel_rfl) (by decide) ?_)
            (apply ot_v tk; (conv => whnf); (apply VRng.mk; omega; (conv => whnf)); refine slist_and (by (repeat (first | exact sl0 _ | exact sl1 _ | refine sl2 _ ?_ | refine sl3 _ ?_))) ?_)
            refine VT.mk (otx_oneV 10 (by kernel_rfl) (by kernel_rfl) (by decide) ?_)
            (refine ot_estoreF (k := kk) (A' := .prd q.1 (MapP (enK ρ kk2) (updM (mpF ρ es kk2) kk (.int .i64 (f + mo))) [(s1, kk)]) :: F) K rfl rfl rfl rfl rfl (by exact rfl) (by exact rfl) (.head _) .here ?_; refine ot_nil ?_; refine slist_and (by (repeat (first | exact sl0 _ | exact sl1 _ | refine sl2 _ ?_ | refine sl3 _ ?_))) ?_)
            refine VT.mk (otx_end ?_)
            exact ⟨rfl, rfl, PreT.ok (kin_not hz.kin hkk) (by repeat (first | exact PreT.base | refine PreT.old l0 hcp.symm ?_ | refine PreT.old lx hcx.symm ?_ | refine PreT.old lm hcm.symm ?_ | refine PreT.tmp (by decide) ?_)), fun w hs => st_prd .here (hfin _) hs⟩
      · ((rw [← hek2]; refine ot_entryS (k := kk) (A'v := fun s => .prd q.1 (MapP (enK ρ kk2) (mpF ρ es kk2) [(s, kk)]) :: F) hlk2 K Tryz.underlying222 zv2 rfl rfl rfl rfl rfl (by exact rfl) (fun s => .here) (fun v1 s1 => ?_); rw [hek2]); refine ot_nil ?_; refine slist_and (by (repeat (first | exact sl0 _ | exact sl1 _ | refine sl2 _ ?_ | refine sl3 _ ?_))) ?_)
        refine VT.mk (otx_twoV 5 9 (by kernel_rfl) (by kernel_rfl) (by decide) (by kernel_rfl) (by decide) ?_ ?_)
        · ((rw [← hek2]; refine ot_look_v (k := kk) hlk2 K Tryz.underlying222 zv2 rfl rfl rfl rfl (by exact rfl) (mapAt_mem (.head _)) ?_; rw [hek2]); refine ot_nil ?_; refine slist_and (by (repeat (first | exact sl0 _ | exact sl1 _ | refine sl2 _ ?_ | refine sl3 _ ?_))) ?_)
          refine VT.mk (otx_twoV 7 9 (by kernel_rfl) (by kernel_rfl) (by decide) (by kernel_rfl) (by decide) ?_ ?_)
          · (apply ot_v tk; (conv => whnf); (apply VRng.mk; omega; (conv => whnf)); refine slist_and (by (repeat (first | exact sl0 _ | exact sl1 _ | refine sl2 _ ?_ | refine sl3 _ ?_))) ?_)
            refine VT.mk (otx_oneV 9 (by kernel_rfl) (by kernel_rfl) (by decide) ?_)
            (apply ot_v tk; (conv => whnf); refine slist_and (by (repeat (first | exact sl0 _ | exact sl1 _ | refine sl2 _ ?_ | refine sl3 _ ?_))) ?_)
            refine VT.mk (otx_oneV 10 (by kernel_rfl) (by kernel_rfl) (by decide) ?_)
            (refine ot_estoreF (k := kk) (A' := .prd q.1 (MapP (enK ρ kk2) (updM (mpF ρ es kk2) kk (.int .i64 (f + mo))) [(s1, kk)]) :: F) K rfl rfl rfl rfl rfl (by exact rfl) (by exact rfl) (.head _) .here ?_; refine ot_nil ?_; refine slist_and (by (repeat (first | exact sl0 _ | exact sl1 _ | refine sl2 _ ?_ | refine sl3 _ ?_))) ?_)
            refine VT.mk (otx_end ?_)
            exact ⟨rfl, rfl, PreT.ok (kin_not hz.kin hkk) (by repeat (first | exact PreT.base | refine PreT.old l0 hcp.symm ?_ | refine PreT.old lx hcx.symm ?_ | refine PreT.old lm hcm.symm ?_ | refine PreT.tmp (by decide) ?_)), fun w hs => st_prd .here (hfin _) hs⟩
          · (apply ot_v tk; (conv => whnf); refine slist_and (by (repeat (first | exact sl0 _ | exact sl1 _ | refine sl2 _ ?_ | refine sl3 _ ?_))) ?_)
            refine VT.mk (otx_oneV 7 (by kernel_rfl) (by kernel_rfl) (by decide) ?_)
            (apply ot_v tk; (conv => whnf); (apply VRng.mk; omega; (conv => whnf)); refine slist_and (by (repeat (first | exact sl0 _ | exact sl1 _ | refine sl2 _ ?_ | refine sl3 _ ?_))) ?_)
            refine VT.mk (otx_oneV 10 (by kernel_rfl) (by kernel_rfl) (by decide) ?_)
            (refine ot_estoreF (k := kk) (A' := .prd q.1 (MapP (enK ρ kk2) (updM (mpF ρ es kk2) kk (.int .i64 (f + mo))) [(s1, kk)]) :: F) K rfl rfl rfl rfl rfl (by exact rfl) (by exact rfl) (.head _) .here ?_; refine ot_nil ?_; refine slist_and (by (repeat (first | exact sl0 _ | exact sl1 _ | refine sl2 _ ?_ | refine sl3 _ ?_))) ?_)
            refine VT.mk (otx_end ?_)
            exact ⟨rfl, rfl, PreT.ok (kin_not hz.kin hkk) (by repeat (first | exact PreT.base | refine PreT.old l0 hcp.symm ?_ | refine PreT.old lx hcx.symm ?_ | refine PreT.old lm hcm.symm ?_ | refine PreT.tmp (by decide) ?_)), fun w hs => st_prd .here (hfin _) hs⟩
        · (apply ot_v tk; (conv => whnf); refine slist_and (by (repeat (first | exact sl0 _ | exact sl1 _ | refine sl2 _ ?_ | refine sl3 _ ?_))) ?_)
          refine VT.mk (otx_oneV 5 (by kernel_rfl) (by kernel_rfl) (by decide) ?_)
          ((rw [← hek2]; refine ot_look_v (k := kk) hlk2 K Tryz.underlying222 zv2 rfl rfl rfl rfl (by exact rfl) (mapAt_mem (.head _)) ?_; rw [hek2]); refine ot_nil ?_; refine slist_and (by (repeat (first | exact sl0 _ | exact sl1 _ | refine sl2 _ ?_ | refine sl3 _ ?_))) ?_)
          refine VT.mk (otx_oneV 7 (by kernel_rfl) (by kernel_rfl) (by decide) ?_)
          (apply ot_v tk; (conv => whnf); (apply VRng.mk; omega; (conv => whnf)); refine slist_and (by (repeat (first | exact sl0 _ | exact sl1 _ | refine sl2 _ ?_ | refine sl3 _ ?_))) ?_)
          refine VT.mk (otx_oneV 10 (by kernel_rfl) (by kernel_rfl) (by decide) ?_)
          (refine ot_estoreF (k := kk) (A' := .prd q.1 (MapP (enK ρ kk2) (updM (mpF ρ es kk2) kk (.int .i64 (f + mo))) [(s1, kk)]) :: F) K rfl rfl rfl rfl rfl (by exact rfl) (by exact rfl) (.head _) .here ?_; refine ot_nil ?_; refine slist_and (by (repeat (first | exact sl0 _ | exact sl1 _ | refine sl2 _ ?_ | refine sl3 _ ?_))) ?_)
          refine VT.mk (otx_end ?_)
          exact ⟨rfl, rfl, PreT.ok (kin_not hz.kin hkk) (by repeat (first | exact PreT.base | refine PreT.old l0 hcp.symm ?_ | refine PreT.old lx hcx.symm ?_ | refine PreT.old lm hcm.symm ?_ | refine PreT.tmp (by decide) ?_)), fun w hs => st_prd .here (hfin _) hs⟩
    · rintro e a' w' ⟨he, hzf⟩
      rw [← e5] at hzf
      exact ⟨he, ρ, Grw.refl _ _ _, hzf⟩
set_option maxHeartbeats 4000000 in
set_option maxRecDepth 20000 in
theorem ad2_code {k : Nat} (hkk : [80, 81, 82, 83, 84, 85, 86, 87, 88, 89, 90, 91, 92, 93].all (fun t => !(bitB k t)) = true) : CodeOK Tryz.prog none k 96 (codeAt [true, true, true, true, true, true, false, true, false, false, true, true, false, false, true, true, true, true] (bodyOf Tryz.f232)) (adM true 16 3) where
  lm := ad_lm _ _ _
  ok := fun {ts ds s o s'} h hba ρ r a w w0 mm hf hr hz => by
    unfold adM at h
    obtain ⟨v0, l0, h⟩ := hO_ok h
    obtain ⟨vx, lx, h⟩ := hO_ok h
    obtain ⟨vm, lm, h⟩ := hO_ok h
    obtain ⟨nm, i0, h⟩ := hO_ok h
    obtain ⟨xm, ix, h⟩ := hO_ok h
    obtain ⟨mo, im, h⟩ := hO_ok h
    obtain ⟨on, s1, g1, h⟩ := hb_ok h
    obtain ⟨fm, g2, h⟩ := hO_ok h
    obtain ⟨ox, s2, g3, h⟩ := hb_ok h
    obtain ⟨key, g4, h⟩ := hO_ok h
    obtain ⟨of, s3, g5, h⟩ := hb_ok h
    obtain ⟨o', g6, h⟩ := hO_ok h
    obtain ⟨_, s4, g7, h⟩ := hb_ok h
    obtain ⟨rfl, rfl⟩ := hp_ok h
    clear h
    obtain rfl := ptrN_ok i0
    obtain rfl := ptrN_ok ix
    obtain ⟨rfl, hm1, hm2⟩ := intN_ok im
    obtain ⟨d1, d2, _⟩ := rdB_gt g1
    obtain ⟨c1, c2, _⟩ := rdB_gt g3
    obtain ⟨f1, f2, _⟩ := rdB_gt g5
    obtain ⟨_, e5, _⟩ := wrB_gt g7
    rw [d2] at c1 c2
    rw [c2] at f1 f2
    rw [f2] at e5
    obtain ⟨tn, l, op, rfl, hl4⟩ := cellM_ok g2
    obtain ⟨tx, ka, kb, opx, rfl, rfl⟩ := keyM2_ok g4
    obtain ⟨es, sts, nxt, f, rfl, hlk, hf1, hf2, rfl⟩ := adO_ok g6
    dsimp only [rvAV] at hlk e5
    obtain ⟨p, hp, _, _⟩ := hz.zs.at_ d1
    obtain ⟨px, hpx, _, _⟩ := hz.zs.at_ c1
    obtain ⟨q, hq, _, hqo⟩ := hz.zs.at_ f1
    obtain ⟨hq0, st, hmp, hkeys, _⟩ := id hqo
    have hnf : nm ≠ fm := fun e => by subst e; rw [d1] at f1; cases f1
    have hxf : xm ≠ fm := fun e => by subst e; rw [c1] at f1; cases f1
    have hcf : cv ρ (.m fm) = .map (some q.1) := by simp [cv, hq]
    have hcp : cv ρ (.p nm 0) = .pointer (some ⟨p.1, p.2, none⟩) := by simp [cv, Env.at_, hp]
    have hcx : cv ρ (.p xm 0) = .pointer (some ⟨px.1, px.2, none⟩) := by simp [cv, Env.at_, hpx]
    have hcm : cv ρ (.i .i64 mo) = .int .i64 mo := by simp [cv]
    have K : KeyEnc Tryz.prog 219 (enK ρ kk2) := kk2_key Tryz.pk219 ρ
    have zv2 : ∀ w, (zeroValue 2).run Tryz.prog w = .ok (.int .i64 0) w := fun w => by kernel_rfl
    obtain ⟨kk, hkk2⟩ : ∃ kk : KK kk2, kk.1 = .g [.i .i64 kb, .i .i64 ka] := ⟨⟨.g [.i .i64 kb, .i .i64 ka], rfl⟩, rfl⟩
    have hek2 : enK ρ kk2 kk = .agg #[.int .i64 kb, .int .i64 ka] := by unfold enK; rw [hkk2]; simp [cv, cvL]
    have hlk2 : mpF ρ es kk2 kk = some (.int .i64 f) := by unfold mpF; rw [hkk2, hlk]; simp [cv]
    have hup := mpF_upd (ρ := ρ) (fun e he => (hkeys e he).1) kk (.i .i64 (f + -mo))
    rw [hkk2, show cv ρ (.i .i64 (f + -mo)) = .int .i64 (f + -mo) by simp [cv]] at hup
    refine wpIn_mono (code_tr1 (r := r) hz (fun _ _ => gt32) f1 hq (S := (0, .pointer (some ⟨p.1, p.2, none⟩)) :: (16, .pointer (some ⟨px.1, px.2, none⟩)) :: (3, .int .i64 mo) :: tsV ρ ts) (SlT.consE l0 hcp.symm (SlT.consE lx hcx.symm (SlT.consE lm hcm.symm (tsV_sl ρ ts)))) (ts' := ts) (o' := .mp kk2 (updA es (.g [.i .i64 kb, .i .i64 ka]) (.i .i64 (f + -mo))) [] nxt) (fun t u hu => ⟨(hz.sl t u hu).2, hz.kin t u hu⟩) (fun F hF => ?_)) ?_
    · have hfin : ∀ st y, MapP (enK ρ kk2) (updM (mpF ρ es kk2) kk (.int .i64 (f + -mo))) st y → OH ρ fm q.2 (.mp kk2 (updA es (.g [.i .i64 kb, .i .i64 ka]) (.i .i64 (f + -mo))) [] nxt) y := fun st y hy => by
        rw [← hup] at hy
        refine oh_new hqo (fun e he => ?_) hy
        exact upd_keys (kd := kk2) (k := .g [.i .i64 kb, .i .i64 ka]) (v := .i .i64 (f + -mo)) rfl (Q := Dm ρ) hkeys (by simp [Dm]) e he
      have c4 : ∀ A, (∀ c ∈ F, c ∈ A) → CellAt w0 A p.1 (p.2 + 4) (.map (some q.1)) := fun A hA => by
        rw [← hcf]; exact cellAt_oh (hA _ (hF nm _ p hnf d1 hp)) hl4
      have cx : ∀ A, (∀ c ∈ F, c ∈ A) → CellsAt w0 A px.1 px.2 [.int .i64 ka, .int .i64 kb] := fun A hA => by
        have := cellsAt_oh (w0 := w0) (hA _ (hF xm _ px hxf c1 hpx))
        simpa [cvL, cv] using this
      have x0 : ∀ A, (∀ c ∈ F, c ∈ A) → CellAt w0 A px.1 px.2 (.int .i64 ka) := fun A hA w hs => by
        have := cx A hA w hs 0 (.int .i64 ka) rfl
        simpa using this
      have x1 : ∀ A, (∀ c ∈ F, c ∈ A) → CellAt w0 A px.1 (px.2 + 1) (.int .i64 kb) := fun A hA w hs => cx A hA w hs 1 (.int .i64 kb) rfl
      have hfm : f + -mo = f - mo := by omega
      rw [hfm] at hfin hup
      refine tr_oh_map .here ?_
      (apply tr_v tk; (conv => whnf); apply VStop.mk)
      (apply tr_v tk; (conv => whnf); (repeat ((first | (apply VStop.mk; refine tr_region_treeV (id := 19) (by kernel_rfl) F (by (repeat (first | exact sl0 _ | exact sl1 _ | refine sl2 _ ?_ | refine sl3 _ ?_))) [0, 1, 2, 3, 4, 5, 6, 7, 8, 10] [9, 11, 12, 13, 14] [.rd, .rd, .rd, .rd, .rd, .rd, .rd, .rd, .rd, .rd] (fun i => [.wr, .wr, .wr, .wr, .wr, .wr, .wr, .wr, .wr, .wr, .wr, .wr, .wr, .wr, .wr].getD i .wr) _ rfl rfl (by kernel_rfl) ?_; apply ot_v tk) | (apply VLd.mk; first | exact c4 _ (fun c hc => hc) | exact x1 _ (fun c hc => hc) | exact x0 _ (fun c hc => hc))); (conv => whnf))))
      refine VT.mk (otx_twoV 9 12 (by kernel_rfl) (by kernel_rfl) (by decide) (by kernel_rfl) (by decide) ?_ ?_)
      · ((rw [← hek2]; refine ot_look_v (k := kk) hlk2 K Tryz.underlying222 zv2 rfl rfl rfl rfl (by exact rfl) (mapAt_mem (.head _)) ?_; rw [hek2]); refine ot_nil ?_; refine slist_and (by (repeat (first | exact sl0 _ | exact sl1 _ | refine sl2 _ ?_ | refine sl3 _ ?_))) ?_)
        refine VT.mk (otx_twoV 11 12 (by kernel_rfl) (by kernel_rfl) (by decide) (by kernel_rfl) (by decide) ?_ ?_)
        · (apply ot_v tk; (conv => whnf); (apply VRng.mk; omega; (conv => whnf)); refine slist_and (by (repeat (first | exact sl0 _ | exact sl1 _ | refine sl2 _ ?_ | refine sl3 _ ?_))) ?_)
          refine VT.mk (otx_oneV 12 (by kernel_rfl) (by kernel_rfl) (by decide) ?_)
          ((rw [← hek2]; refine ot_entryS (k := kk) (A'v := fun s => .prd q.1 (MapP (enK ρ kk2) (mpF ρ es kk2) [(s, kk)]) :: F) hlk2 K Tryz.underlying222 zv2 rfl rfl rfl rfl rfl (by exact rfl) (fun s => .here) (fun v1 s1 => ?_); rw [hek2]); refine ot_nil ?_; refine slist_and (by (repeat (first | exact sl0 _ | exact sl1 _ | refine sl2 _ ?_ | refine sl3 _ ?_))) ?_)
          refine VT.mk (otx_oneV 13 (by kernel_rfl) (by kernel_rfl) (by decide) ?_)
          (apply ot_v tk; (conv => whnf); refine slist_and (by (repeat (first | exact sl0 _ | exact sl1 _ | refine sl2 _ ?_ | refine sl3 _ ?_))) ?_)
          refine VT.mk (otx_oneV 14 (by kernel_rfl) (by kernel_rfl) (by decide) ?_)
          (refine ot_estoreF (k := kk) (A' := .prd q.1 (MapP (enK ρ kk2) (updM (mpF ρ es kk2) kk (.int .i64 (f - mo))) [(s1, kk)]) :: F) K rfl rfl rfl rfl rfl (by exact rfl) (by exact rfl) (.head _) .here ?_; refine ot_nil ?_; refine slist_and (by (repeat (first | exact sl0 _ | exact sl1 _ | refine sl2 _ ?_ | refine sl3 _ ?_))) ?_)
          refine VT.mk (otx_end ?_)
          exact ⟨rfl, rfl, PreT.ok (kin_not hz.kin hkk) (by repeat (first | exact PreT.base | refine PreT.old l0 hcp.symm ?_ | refine PreT.old lx hcx.symm ?_ | refine PreT.old lm hcm.symm ?_ | refine PreT.tmp (by decide) ?_)), fun w hs => st_prd .here (hfin _) hs⟩
        · ((rw [← hek2]; refine ot_entryS (k := kk) (A'v := fun s => .prd q.1 (MapP (enK ρ kk2) (mpF ρ es kk2) [(s, kk)]) :: F) hlk2 K Tryz.underlying222 zv2 rfl rfl rfl rfl rfl (by exact rfl) (fun s => .here) (fun v1 s1 => ?_); rw [hek2]); refine ot_nil ?_; refine slist_and (by (repeat (first | exact sl0 _ | exact sl1 _ | refine sl2 _ ?_ | refine sl3 _ ?_))) ?_)
          refine VT.mk (otx_twoV 11 13 (by kernel_rfl) (by kernel_rfl) (by decide) (by kernel_rfl) (by decide) ?_ ?_)
          · (apply ot_v tk; (conv => whnf); (apply VRng.mk; omega; (conv => whnf)); refine slist_and (by (repeat (first | exact sl0 _ | exact sl1 _ | refine sl2 _ ?_ | refine sl3 _ ?_))) ?_)
            refine VT.mk (otx_oneV 13 (by kernel_rfl) (by kernel_rfl) (by decide) ?_)
            (apply ot_v tk; (conv => whnf); refine slist_and (by (repeat (first | exact sl0 _ | exact sl1 _ | refine sl2 _ ?_ | refine sl3 _ ?_))) ?_)
            refine VT.mk (otx_oneV 14 (by kernel_rfl) (by kernel_rfl) (by decide) ?_)
            (refine ot_estoreF (k := kk) (A' := .prd q.1 (MapP (enK ρ kk2) (updM (mpF ρ es kk2) kk (.int .i64 (f - mo))) [(s1, kk)]) :: F) K rfl rfl rfl rfl rfl (by exact rfl) (by exact rfl) (.head _) .here ?_; refine ot_nil ?_; refine slist_and (by (repeat (first | exact sl0 _ | exact sl1 _ | refine sl2 _ ?_ | refine sl3 _ ?_))) ?_)
            refine VT.mk (otx_end ?_)
            exact ⟨rfl, rfl, PreT.ok (kin_not hz.kin hkk) (by repeat (first | exact PreT.base | refine PreT.old l0 hcp.symm ?_ | refine PreT.old lx hcx.symm ?_ | refine PreT.old lm hcm.symm ?_ | refine PreT.tmp (by decide) ?_)), fun w hs => st_prd .here (hfin _) hs⟩
          · (apply ot_v tk; (conv => whnf); refine slist_and (by (repeat (first | exact sl0 _ | exact sl1 _ | refine sl2 _ ?_ | refine sl3 _ ?_))) ?_)
            refine VT.mk (otx_oneV 11 (by kernel_rfl) (by kernel_rfl) (by decide) ?_)
            (apply ot_v tk; (conv => whnf); (apply VRng.mk; omega; (conv => whnf)); refine slist_and (by (repeat (first | exact sl0 _ | exact sl1 _ | refine sl2 _ ?_ | refine sl3 _ ?_))) ?_)
            refine VT.mk (otx_oneV 14 (by kernel_rfl) (by kernel_rfl) (by decide) ?_)
            (refine ot_estoreF (k := kk) (A' := .prd q.1 (MapP (enK ρ kk2) (updM (mpF ρ es kk2) kk (.int .i64 (f - mo))) [(s1, kk)]) :: F) K rfl rfl rfl rfl rfl (by exact rfl) (by exact rfl) (.head _) .here ?_; refine ot_nil ?_; refine slist_and (by (repeat (first | exact sl0 _ | exact sl1 _ | refine sl2 _ ?_ | refine sl3 _ ?_))) ?_)
            refine VT.mk (otx_end ?_)
            exact ⟨rfl, rfl, PreT.ok (kin_not hz.kin hkk) (by repeat (first | exact PreT.base | refine PreT.old l0 hcp.symm ?_ | refine PreT.old lx hcx.symm ?_ | refine PreT.old lm hcm.symm ?_ | refine PreT.tmp (by decide) ?_)), fun w hs => st_prd .here (hfin _) hs⟩
      · ((rw [← hek2]; refine ot_entryS (k := kk) (A'v := fun s => .prd q.1 (MapP (enK ρ kk2) (mpF ρ es kk2) [(s, kk)]) :: F) hlk2 K Tryz.underlying222 zv2 rfl rfl rfl rfl rfl (by exact rfl) (fun s => .here) (fun v1 s1 => ?_); rw [hek2]); refine ot_nil ?_; refine slist_and (by (repeat (first | exact sl0 _ | exact sl1 _ | refine sl2 _ ?_ | refine sl3 _ ?_))) ?_)
        refine VT.mk (otx_twoV 9 13 (by kernel_rfl) (by kernel_rfl) (by decide) (by kernel_rfl) (by decide) ?_ ?_)
        · ((rw [← hek2]; refine ot_look_v (k := kk) hlk2 K Tryz.underlying222 zv2 rfl rfl rfl rfl (by exact rfl) (mapAt_mem (.head _)) ?_; rw [hek2]); refine ot_nil ?_; refine slist_and (by (repeat (first | exact sl0 _ | exact sl1 _ | refine sl2 _ ?_ | refine sl3 _ ?_))) ?_)
          refine VT.mk (otx_twoV 11 13 (by kernel_rfl) (by kernel_rfl) (by decide) (by kernel_rfl) (by decide) ?_ ?_)
          · (apply ot_v tk; (conv => whnf); (apply VRng.mk; omega; (conv => whnf)); refine slist_and (by (repeat (first | exact sl0 _ | exact sl1 _ | refine sl2 _ ?_ | refine sl3 _ ?_))) ?_)
            refine VT.mk (otx_oneV 13 (by kernel_rfl) (by kernel_rfl) (by decide) ?_)
            (apply ot_v tk; (conv => whnf); refine slist_and (by (repeat (first | exact sl0 _ | exact sl1 _ | refine sl2 _ ?_ | refine sl3 _ ?_))) ?_)
            refine VT.mk (otx_oneV 14 (by kernel_rfl) (by kernel_rfl) (by decide) ?_)
            (refine ot_estoreF (k := kk) (A' := .prd q.1 (MapP (enK ρ kk2) (updM (mpF ρ es kk2) kk (.int .i64 (f - mo))) [(s1, kk)]) :: F) K rfl rfl rfl rfl rfl (by exact rfl) (by exact rfl) (.head _) .here ?_; refine ot_nil ?_; refine slist_and (by (repeat (first | exact sl0 _ | exact sl1 _ | refine sl2 _ ?_ | refine sl3 _ ?_))) ?_)
            refine VT.mk (otx_end ?_)
            exact ⟨rfl, rfl, PreT.ok (kin_not hz.kin hkk) (by repeat (first | exact PreT.base | refine PreT.old l0 hcp.symm ?_ | refine PreT.old lx hcx.symm ?_ | refine PreT.old lm hcm.symm ?_ | refine PreT.tmp (by decide) ?_)), fun w hs => st_prd .here (hfin _) hs⟩
          · (apply ot_v tk; (conv => whnf); refine slist_and (by (repeat (first | exact sl0 _ | exact sl1 _ | refine sl2 _ ?_ | refine sl3 _ ?_))) ?_)
            refine VT.mk (otx_oneV 11 (by kernel_rfl) (by kernel_rfl) (by decide) ?_)
            (apply ot_v tk; (conv => whnf); (apply VRng.mk; omega; (conv => whnf)); refine slist_and (by (repeat (first | exact sl0 _ | exact sl1 _ | refine sl2 _ ?_ | refine sl3 _ ?_))) ?_)
            refine VT.mk (otx_oneV 14 (by kernel_rfl) (by kernel_rfl) (by decide) ?_)
            (refine ot_estoreF (k := kk) (A' := .prd q.1 (MapP (enK ρ kk2) (updM (mpF ρ es kk2) kk (.int .i64 (f - mo))) [(s1, kk)]) :: F) K rfl rfl rfl rfl rfl (by exact rfl) (by exact rfl) (.head _) .here ?_; refine ot_nil ?_; refine slist_and (by (repeat (first | exact sl0 _ | exact sl1 _ | refine sl2 _ ?_ | refine sl3 _ ?_))) ?_)
            refine VT.mk (otx_end ?_)
            exact ⟨rfl, rfl, PreT.ok (kin_not hz.kin hkk) (by repeat (first | exact PreT.base | refine PreT.old l0 hcp.symm ?_ | refine PreT.old lx hcx.symm ?_ | refine PreT.old lm hcm.symm ?_ | refine PreT.tmp (by decide) ?_)), fun w hs => st_prd .here (hfin _) hs⟩
        · (apply ot_v tk; (conv => whnf); refine slist_and (by (repeat (first | exact sl0 _ | exact sl1 _ | refine sl2 _ ?_ | refine sl3 _ ?_))) ?_)
          refine VT.mk (otx_oneV 9 (by kernel_rfl) (by kernel_rfl) (by decide) ?_)
          ((rw [← hek2]; refine ot_look_v (k := kk) hlk2 K Tryz.underlying222 zv2 rfl rfl rfl rfl (by exact rfl) (mapAt_mem (.head _)) ?_; rw [hek2]); refine ot_nil ?_; refine slist_and (by (repeat (first | exact sl0 _ | exact sl1 _ | refine sl2 _ ?_ | refine sl3 _ ?_))) ?_)
          refine VT.mk (otx_oneV 11 (by kernel_rfl) (by kernel_rfl) (by decide) ?_)
          (apply ot_v tk; (conv => whnf); (apply VRng.mk; omega; (conv => whnf)); refine slist_and (by (repeat (first | exact sl0 _ | exact sl1 _ | refine sl2 _ ?_ | refine sl3 _ ?_))) ?_)
          refine VT.mk (otx_oneV 14 (by kernel_rfl) (by kernel_rfl) (by decide) ?_)
          (refine ot_estoreF (k := kk) (A' := .prd q.1 (MapP (enK ρ kk2) (updM (mpF ρ es kk2) kk (.int .i64 (f - mo))) [(s1, kk)]) :: F) K rfl rfl rfl rfl rfl (by exact rfl) (by exact rfl) (.head _) .here ?_; refine ot_nil ?_; refine slist_and (by (repeat (first | exact sl0 _ | exact sl1 _ | refine sl2 _ ?_ | refine sl3 _ ?_))) ?_)
          refine VT.mk (otx_end ?_)
          exact ⟨rfl, rfl, PreT.ok (kin_not hz.kin hkk) (by repeat (first | exact PreT.base | refine PreT.old l0 hcp.symm ?_ | refine PreT.old lx hcx.symm ?_ | refine PreT.old lm hcm.symm ?_ | refine PreT.tmp (by decide) ?_)), fun w hs => st_prd .here (hfin _) hs⟩
    · rintro e a' w' ⟨he, hzf⟩
      rw [← e5] at hzf
      exact ⟨he, ρ, Grw.refl _ _ _, hzf⟩
noncomputable def ptrM (o : AO) (j : Nat) : Option Nat := match o with
  | .cs _ l _ => match nthL l j with
    | some v => ptrN v
    | none => none
  | _ => none
theorem ptrM_ok {o : AO} {j n : Nat} (h : ptrM o j = some n) : ∃ t l op, o = .cs t l op ∧ l[j]? = some (.p n 0) := by
  unfold ptrM at h
  cases o <;> first | (cases h; done) | skip
  rename_i t l op
  dsimp only at h
  rw [nthL_eq] at h
  cases hl : l[j]? with
  | none => rw [hl] at h; cases h
  | some v =>
    rw [hl] at h
    obtain rfl := ptrN_ok h
    exact ⟨t, l, op, rfl, hl⟩
noncomputable def adI : ZM := fun ts ds => hO (ts.look 2) fun v0 => hO (ts.look 3) fun vx => hO (ts.look 7) fun vm => hO (ptrN v0) fun cm => hO (ptrN vx) fun xm => hO (intN vm) fun mo => hb (rdB cm) fun oc => hO (ptrM oc 0) fun nm => hb (rdB nm) fun o => hO (cellM o 4) fun fm => hb (rdB xm) fun ox => hO (keyM2 ox) fun key => hb (rdB fm) fun of => hO (adO key mo of) fun o' => hb (wrB fm (some o')) fun _ => hp ⟨.nm, ts, ds⟩
theorem adI_lm (ts : TL) (ds : List Nat) : LM (adI ts ds) := by unfold adI; (repeat (first | exact LM.pure _ | exact LM.fail | exact LM.read _ | exact LM.write _ _ | exact LM.new _ | assumption | refine LM.bind ?_ fun _ => ?_ | refine LM.opt fun _ => ?_ | refine LM.ite ?_ ?_ | split))
set_option maxHeartbeats 4000000 in
set_option maxRecDepth 20000 in
theorem ad3_code {k : Nat} (hkk : [62, 63, 64, 65, 66, 67, 68, 69, 70, 71].all (fun t => !(bitB k t)) = true) : CodeOK Tryz.prog none k 72 (codeAt [false, false, false, true, true, true, true, true, true, true] (bodyOf Tryz.f230)) adI where
  lm := adI_lm
  ok := fun {ts ds s o s'} h hba ρ r a w w0 mm hf hr hz => by
    unfold adI at h
    obtain ⟨v0, l0, h⟩ := hO_ok h
    obtain ⟨vx, lx, h⟩ := hO_ok h
    obtain ⟨vm, lm, h⟩ := hO_ok h
    obtain ⟨cm, i0, h⟩ := hO_ok h
    obtain ⟨xm, ix, h⟩ := hO_ok h
    obtain ⟨mo, im, h⟩ := hO_ok h
    obtain ⟨oc, s0, g0, h⟩ := hb_ok h
    obtain ⟨nm, g01, h⟩ := hO_ok h
    obtain ⟨on, s1, g1, h⟩ := hb_ok h
    obtain ⟨fm, g2, h⟩ := hO_ok h
    obtain ⟨ox, s2, g3, h⟩ := hb_ok h
    obtain ⟨key, g4, h⟩ := hO_ok h
    obtain ⟨of, s3, g5, h⟩ := hb_ok h
    obtain ⟨o', g6, h⟩ := hO_ok h
    obtain ⟨_, s4, g7, h⟩ := hb_ok h
    obtain ⟨rfl, rfl⟩ := hp_ok h
    clear h
    obtain rfl := ptrN_ok i0
    obtain rfl := ptrN_ok ix
    obtain ⟨rfl, hm1, hm2⟩ := intN_ok im
    obtain ⟨b1, b2, _⟩ := rdB_gt g0
    obtain ⟨d1, d2, _⟩ := rdB_gt g1
    rw [b2] at d1 d2
    obtain ⟨tc, lc, opc, rfl, hlc⟩ := ptrM_ok g01
    obtain ⟨c1, c2, _⟩ := rdB_gt g3
    obtain ⟨f1, f2, _⟩ := rdB_gt g5
    obtain ⟨_, e5, _⟩ := wrB_gt g7
    rw [d2] at c1 c2
    rw [c2] at f1 f2
    rw [f2] at e5
    obtain ⟨tn, l, op, rfl, hl4⟩ := cellM_ok g2
    obtain ⟨tx, ka, kb, opx, rfl, rfl⟩ := keyM2_ok g4
    obtain ⟨es, sts, nxt, f, rfl, hlk, hf1, hf2, rfl⟩ := adO_ok g6
    obtain ⟨p, hp, _, _⟩ := hz.zs.at_ d1
    obtain ⟨pc, hpc, _, _⟩ := hz.zs.at_ b1
    have hcc : cv ρ (.p cm 0) = .pointer (some ⟨pc.1, pc.2, none⟩) := by simp [cv, Env.at_, hpc]
    have hcn : cm ≠ fm := fun e => by subst e; rw [b1] at f1; cases f1
    obtain ⟨px, hpx, _, _⟩ := hz.zs.at_ c1
    obtain ⟨q, hq, _, hqo⟩ := hz.zs.at_ f1
    obtain ⟨hq0, st, hmp, hkeys, _⟩ := id hqo
    have hnf : nm ≠ fm := fun e => by subst e; rw [d1] at f1; cases f1
    have hxf : xm ≠ fm := fun e => by subst e; rw [c1] at f1; cases f1
    have hcf : cv ρ (.m fm) = .map (some q.1) := by simp [cv, hq]
    have hcp : cv ρ (.p nm 0) = .pointer (some ⟨p.1, p.2, none⟩) := by simp [cv, Env.at_, hp]
    have hcx : cv ρ (.p xm 0) = .pointer (some ⟨px.1, px.2, none⟩) := by simp [cv, Env.at_, hpx]
    have hcm : cv ρ (.i .i64 mo) = .int .i64 mo := by simp [cv]
    have K : KeyEnc Tryz.prog 219 (enK ρ kk2) := kk2_key Tryz.pk219 ρ
    have zv2 : ∀ w, (zeroValue 2).run Tryz.prog w = .ok (.int .i64 0) w := fun w => by kernel_rfl
    obtain ⟨kk, hkk2⟩ : ∃ kk : KK kk2, kk.1 = .g [.i .i64 ka, .i .i64 kb] := ⟨⟨.g [.i .i64 ka, .i .i64 kb], rfl⟩, rfl⟩
    have hek2 : enK ρ kk2 kk = .agg #[.int .i64 ka, .int .i64 kb] := by unfold enK; rw [hkk2]; simp [cv, cvL]
    have hlk2 : mpF ρ es kk2 kk = some (.int .i64 f) := by unfold mpF; rw [hkk2, hlk]; simp [cv]
    have hup := mpF_upd (ρ := ρ) (fun e he => (hkeys e he).1) kk (.i .i64 (f + mo))
    rw [hkk2, show cv ρ (.i .i64 (f + mo)) = .int .i64 (f + mo) by simp [cv]] at hup
    refine wpIn_mono (code_tr1 (r := r) hz (fun _ _ => gt32) f1 hq (S := (2, .pointer (some ⟨pc.1, pc.2, none⟩)) :: (3, .pointer (some ⟨px.1, px.2, none⟩)) :: (7, .int .i64 mo) :: tsV ρ ts) (SlT.consE l0 hcc.symm (SlT.consE lx hcx.symm (SlT.consE lm hcm.symm (tsV_sl ρ ts)))) (ts' := ts) (o' := .mp kk2 (updA es (.g [.i .i64 ka, .i .i64 kb]) (.i .i64 (f + mo))) [] nxt) (fun t u hu => ⟨(hz.sl t u hu).2, hz.kin t u hu⟩) (fun F hF => ?_)) ?_
    · have hfin : ∀ st y, MapP (enK ρ kk2) (updM (mpF ρ es kk2) kk (.int .i64 (f + mo))) st y → OH ρ fm q.2 (.mp kk2 (updA es (.g [.i .i64 ka, .i .i64 kb]) (.i .i64 (f + mo))) [] nxt) y := fun st y hy => by
        rw [← hup] at hy
        refine oh_new hqo (fun e he => ?_) hy
        exact upd_keys (kd := kk2) (k := .g [.i .i64 ka, .i .i64 kb]) (v := .i .i64 (f + mo)) rfl (Q := Dm ρ) hkeys (by simp [Dm]) e he
      have c4 : ∀ A, (∀ c ∈ F, c ∈ A) → CellAt w0 A p.1 (p.2 + 4) (.map (some q.1)) := fun A hA => by
        rw [← hcf]; exact cellAt_oh (hA _ (hF nm _ p hnf d1 hp)) hl4
      have cx : ∀ A, (∀ c ∈ F, c ∈ A) → CellsAt w0 A px.1 px.2 [.int .i64 ka, .int .i64 kb] := fun A hA => by
        have := cellsAt_oh (w0 := w0) (hA _ (hF xm _ px hxf c1 hpx))
        simpa [cvL, cv] using this
      have c0 : ∀ A, (∀ c ∈ F, c ∈ A) → CellAt w0 A pc.1 pc.2 (.pointer (some ⟨p.1, p.2, none⟩)) := fun A hA => by
        have := cellAt_oh (w0 := w0) (hA _ (hF cm _ pc hcn b1 hpc)) hlc
        rw [hcp] at this
        simpa using this
      refine tr_oh_map .here ?_
      (apply tr_v tk; (conv => whnf); apply VStop.mk)
      (apply tr_v tk; (conv => whnf); (repeat ((first | (apply VStop.mk; refine tr_region_treeV (id := 9) (by kernel_rfl) F (by (repeat (first | exact sl0 _ | exact sl1 _ | refine sl2 _ ?_ | refine sl3 _ ?_))) [0, 1, 2, 3, 4, 6] [5, 7, 8, 9, 10] [.rd, .rd, .rd, .rd, .rd, .rd] (fun i => [.wr, .wr, .wr, .wr, .wr, .wr, .wr, .wr, .wr, .wr, .wr].getD i .wr) _ rfl rfl (by kernel_rfl) ?_; apply ot_v tk) | (apply VLd.mk; first | exact c4 _ (fun c hc => hc) | exact c0 _ (fun c hc => hc)) | (apply VLdN.mk; exact cx _ (fun c hc => hc); exact rfl)); (conv => whnf))))
      refine VT.mk (otx_twoV 5 8 (by kernel_rfl) (by kernel_rfl) (by decide) (by kernel_rfl) (by decide) ?_ ?_)
      · ((rw [← hek2]; refine ot_look_v (k := kk) hlk2 K Tryz.underlying222 zv2 rfl rfl rfl rfl (by exact rfl) (mapAt_mem (.head _)) ?_; rw [hek2]); refine ot_nil ?_; refine slist_and (by (repeat (first | exact sl0 _ | exact sl1 _ | refine sl2 _ ?_ | refine sl3 _ ?_))) ?_)
        refine VT.mk (otx_twoV 7 8 (by kernel_rfl) (by kernel_rfl) (by decide) (by kernel_rfl) (by decide) ?_ ?_)
        · (apply ot_v tk; (conv => whnf); (apply VRng.mk; omega; (conv => whnf)); refine slist_and (by (repeat (first | exact sl0 _ | exact sl1 _ | refine sl2 _ ?_ | refine sl3 _ ?_))) ?_)
          refine VT.mk (otx_oneV 8 (by kernel_rfl) (by kernel_rfl) (by decide) ?_)
          ((rw [← hek2]; refine ot_entryS (k := kk) (A'v := fun s => .prd q.1 (MapP (enK ρ kk2) (mpF ρ es kk2) [(s, kk)]) :: F) hlk2 K Tryz.underlying222 zv2 rfl rfl rfl rfl rfl (by exact rfl) (fun s => .here) (fun v1 s1 => ?_); rw [hek2]); refine ot_nil ?_; refine slist_and (by (repeat (first | exact sl0 _ | exact sl1 _ | refine sl2 _ ?_ | refine sl3 _ ?_))) ?_)
          refine VT.mk (otx_oneV 9 (by kernel_rfl) (by kernel_rfl) (by decide) ?_)
          (apply ot_v tk; (conv => whnf); refine slist_and (by (repeat (first | exact sl0 _ | exact sl1 _ | refine sl2 _ ?_ | refine sl3 _ ?_))) ?_)
          refine VT.mk (otx_oneV 10 (by kernel_rfl) (by kernel_rfl) (by decide) ?_)
          (refine ot_estoreF (k := kk) (A' := .prd q.1 (MapP (enK ρ kk2) (updM (mpF ρ es kk2) kk (.int .i64 (f + mo))) [(s1, kk)]) :: F) K rfl rfl rfl rfl rfl (by exact rfl) (by exact rfl) (.head _) .here ?_; refine ot_nil ?_; refine slist_and (by (repeat (first | exact sl0 _ | exact sl1 _ | refine sl2 _ ?_ | refine sl3 _ ?_))) ?_)
          refine VT.mk (otx_end ?_)
          exact ⟨rfl, rfl, PreT.ok (kin_not hz.kin hkk) (by repeat (first | exact PreT.base | refine PreT.old l0 hcc.symm ?_ | refine PreT.old lx hcx.symm ?_ | refine PreT.old lm hcm.symm ?_ | refine PreT.tmp (by decide) ?_)), fun w hs => st_prd .here (hfin _) hs⟩
        · ((rw [← hek2]; refine ot_entryS (k := kk) (A'v := fun s => .prd q.1 (MapP (enK ρ kk2) (mpF ρ es kk2) [(s, kk)]) :: F) hlk2 K Tryz.underlying222 zv2 rfl rfl rfl rfl rfl (by exact rfl) (fun s => .here) (fun v1 s1 => ?_); rw [hek2]); refine ot_nil ?_; refine slist_and (by (repeat (first | exact sl0 _ | exact sl1 _ | refine sl2 _ ?_ | refine sl3 _ ?_))) ?_)
          refine VT.mk (otx_twoV 7 9 (by kernel_rfl) (by kernel_rfl) (by decide) (by kernel_rfl) (by decide) ?_ ?_)
          · (apply ot_v tk; (conv => whnf); (apply VRng.mk; omega; (conv => whnf)); refine slist_and (by (repeat (first | exact sl0 _ | exact sl1 _ | refine sl2 _ ?_ | refine sl3 _ ?_))) ?_)
            refine VT.mk (otx_oneV 9 (by kernel_rfl) (by kernel_rfl) (by decide) ?_)
            (apply ot_v tk; (conv => whnf); refine slist_and (by (repeat (first | exact sl0 _ | exact sl1 _ | refine sl2 _ ?_ | refine sl3 _ ?_))) ?_)
            refine VT.mk (otx_oneV 10 (by kernel_rfl) (by kernel_rfl) (by decide) ?_)
            (refine ot_estoreF (k := kk) (A' := .prd q.1 (MapP (enK ρ kk2) (updM (mpF ρ es kk2) kk (.int .i64 (f + mo))) [(s1, kk)]) :: F) K rfl rfl rfl rfl rfl (by exact rfl) (by exact rfl) (.head _) .here ?_; refine ot_nil ?_; refine slist_and (by (repeat (first | exact sl0 _ | exact sl1 _ | refine sl2 _ ?_ | refine sl3 _ ?_))) ?_)
            refine VT.mk (otx_end ?_)
            exact ⟨rfl, rfl, PreT.ok (kin_not hz.kin hkk) (by repeat (first | exact PreT.base | refine PreT.old l0 hcc.symm ?_ | refine PreT.old lx hcx.symm ?_ | refine PreT.old lm hcm.symm ?_ | refine PreT.tmp (by decide) ?_)), fun w hs => st_prd .here (hfin _) hs⟩
          · (apply ot_v tk; (conv => whnf); refine slist_and (by (repeat (first | exact sl0 _ | exact sl1 _ | refine sl2 _ ?_ | refine sl3 _ ?_))) ?_)
            refine VT.mk (otx_oneV 7 (by kernel_rfl) (by kernel_rfl) (by decide) ?_)
            (apply ot_v tk; (conv => whnf); (apply VRng.mk; omega; (conv => whnf)); refine slist_and (by (repeat (first | exact sl0 _ | exact sl1 _ | refine sl2 _ ?_ | refine sl3 _ ?_))) ?_)
            refine VT.mk (otx_oneV 10 (by kernel_rfl) (by kernel_rfl) (by decide) ?_)
            (refine ot_estoreF (k := kk) (A' := .prd q.1 (MapP (enK ρ kk2) (updM (mpF ρ es kk2) kk (.int .i64 (f + mo))) [(s1, kk)]) :: F) K rfl rfl rfl rfl rfl (by exact rfl) (by exact rfl) (.head _) .here ?_; refine ot_nil ?_; refine slist_and (by (repeat (first | exact sl0 _ | exact sl1 _ | refine sl2 _ ?_ | refine sl3 _ ?_))) ?_)
            refine VT.mk (otx_end ?_)
            exact ⟨rfl, rfl, PreT.ok (kin_not hz.kin hkk) (by repeat (first | exact PreT.base | refine PreT.old l0 hcc.symm ?_ | refine PreT.old lx hcx.symm ?_ | refine PreT.old lm hcm.symm ?_ | refine PreT.tmp (by decide) ?_)), fun w hs => st_prd .here (hfin _) hs⟩
      · ((rw [← hek2]; refine ot_entryS (k := kk) (A'v := fun s => .prd q.1 (MapP (enK ρ kk2) (mpF ρ es kk2) [(s, kk)]) :: F) hlk2 K Tryz.underlying222 zv2 rfl rfl rfl rfl rfl (by exact rfl) (fun s => .here) (fun v1 s1 => ?_); rw [hek2]); refine ot_nil ?_; refine slist_and (by (repeat (first | exact sl0 _ | exact sl1 _ | refine sl2 _ ?_ | refine sl3 _ ?_))) ?_)
        refine VT.mk (otx_twoV 5 9 (by kernel_rfl) (by kernel_rfl) (by decide) (by kernel_rfl) (by decide) ?_ ?_)
        · ((rw [← hek2]; refine ot_look_v (k := kk) hlk2 K Tryz.underlying222 zv2 rfl rfl rfl rfl (by exact rfl) (mapAt_mem (.head _)) ?_; rw [hek2]); refine ot_nil ?_; refine slist_and (by (repeat (first | exact sl0 _ | exact sl1 _ | refine sl2 _ ?_ | refine sl3 _ ?_))) ?_)
          refine VT.mk (otx_twoV 7 9 (by kernel_rfl) (by kernel_rfl) (by decide) (by kernel_rfl) (by decide) ?_ ?_)
          · (apply ot_v tk; (conv => whnf); (apply VRng.mk; omega; (conv => whnf)); refine slist_and (by (repeat (first | exact sl0 _ | exact sl1 _ | refine sl2 _ ?_ | refine sl3 _ ?_))) ?_)
            refine VT.mk (otx_oneV 9 (by kernel_rfl) (by kernel_rfl) (by decide) ?_)
            (apply ot_v tk; (conv => whnf); refine slist_and (by (repeat (first | exact sl0 _ | exact sl1 _ | refine sl2 _ ?_ | refine sl3 _ ?_))) ?_)
            refine VT.mk (otx_oneV 10 (by kernel_rfl) (by kernel_rfl) (by decide) ?_)
            (refine ot_estoreF (k := kk) (A' := .prd q.1 (MapP (enK ρ kk2) (updM (mpF ρ es kk2) kk (.int .i64 (f + mo))) [(s1, kk)]) :: F) K rfl rfl rfl rfl rfl (by exact rfl) (by exact rfl) (.head _) .here ?_; refine ot_nil ?_; refine slist_and (by (repeat (first | exact sl0 _ | exact sl1 _ | refine sl2 _ ?_ | refine sl3 _ ?_))) ?_)
            refine VT.mk (otx_end ?_)
            exact ⟨rfl, rfl, PreT.ok (kin_not hz.kin hkk) (by repeat (first | exact PreT.base | refine PreT.old l0 hcc.symm ?_ | refine PreT.old lx hcx.symm ?_ | refine PreT.old lm hcm.symm ?_ | refine PreT.tmp (by decide) ?_)), fun w hs => st_prd .here (hfin _) hs⟩
          · (apply ot_v tk; (conv => whnf); refine slist_and (by (repeat (first | exact sl0 _ | exact sl1 _ | refine sl2 _ ?_ | refine sl3 _ ?_))) ?_)
            refine VT.mk (otx_oneV 7 (by kernel_rfl) (by kernel_rfl) (by decide) ?_)
            (apply ot_v tk; (conv => whnf); (apply VRng.mk; omega; (conv => whnf)); refine slist_and (by (repeat (first | exact sl0 _ | exact sl1 _ | refine sl2 _ ?_ | refine sl3 _ ?_))) ?_)
            refine VT.mk (otx_oneV 10 (by kernel_rfl) (by kernel_rfl) (by decide) ?_)
            (refine ot_estoreF (k := kk) (A' := .prd q.1 (MapP (enK ρ kk2) (updM (mpF ρ es kk2) kk (.int .i64 (f + mo))) [(s1, kk)]) :: F) K rfl rfl rfl rfl rfl (by exact rfl) (by exact rfl) (.head _) .here ?_; refine ot_nil ?_; refine slist_and (by (repeat (first | exact sl0 _ | exact sl1 _ | refine sl2 _ ?_ | refine sl3 _ ?_))) ?_)
            refine VT.mk (otx_end ?_)
            exact ⟨rfl, rfl, PreT.ok (kin_not hz.kin hkk) (by repeat (first | exact PreT.base | refine PreT.old l0 hcc.symm ?_ | refine PreT.old lx hcx.symm ?_ | refine PreT.old lm hcm.symm ?_ | refine PreT.tmp (by decide) ?_)), fun w hs => st_prd .here (hfin _) hs⟩
        · (apply ot_v tk; (conv => whnf); refine slist_and (by (repeat (first | exact sl0 _ | exact sl1 _ | refine sl2 _ ?_ | refine sl3 _ ?_))) ?_)
          refine VT.mk (otx_oneV 5 (by kernel_rfl) (by kernel_rfl) (by decide) ?_)
          ((rw [← hek2]; refine ot_look_v (k := kk) hlk2 K Tryz.underlying222 zv2 rfl rfl rfl rfl (by exact rfl) (mapAt_mem (.head _)) ?_; rw [hek2]); refine ot_nil ?_; refine slist_and (by (repeat (first | exact sl0 _ | exact sl1 _ | refine sl2 _ ?_ | refine sl3 _ ?_))) ?_)
          refine VT.mk (otx_oneV 7 (by kernel_rfl) (by kernel_rfl) (by decide) ?_)
          (apply ot_v tk; (conv => whnf); (apply VRng.mk; omega; (conv => whnf)); refine slist_and (by (repeat (first | exact sl0 _ | exact sl1 _ | refine sl2 _ ?_ | refine sl3 _ ?_))) ?_)
          refine VT.mk (otx_oneV 10 (by kernel_rfl) (by kernel_rfl) (by decide) ?_)
          (refine ot_estoreF (k := kk) (A' := .prd q.1 (MapP (enK ρ kk2) (updM (mpF ρ es kk2) kk (.int .i64 (f + mo))) [(s1, kk)]) :: F) K rfl rfl rfl rfl rfl (by exact rfl) (by exact rfl) (.head _) .here ?_; refine ot_nil ?_; refine slist_and (by (repeat (first | exact sl0 _ | exact sl1 _ | refine sl2 _ ?_ | refine sl3 _ ?_))) ?_)
          refine VT.mk (otx_end ?_)
          exact ⟨rfl, rfl, PreT.ok (kin_not hz.kin hkk) (by repeat (first | exact PreT.base | refine PreT.old l0 hcc.symm ?_ | refine PreT.old lx hcx.symm ?_ | refine PreT.old lm hcm.symm ?_ | refine PreT.tmp (by decide) ?_)), fun w hs => st_prd .here (hfin _) hs⟩
    · rintro e a' w' ⟨he, hzf⟩
      rw [← e5] at hzf
      exact ⟨he, ρ, Grw.refl _ _ _, hzf⟩
/-! ## The context -/
noncomputable def Tryz.ovL : List (Nat × OV) := [
  (237, .two .no (.two .no (.two (.here fun _ _ => exM) .no))),
  (265, .two .no (.two .no (.two (.here fun _ _ => leM) (.two (.here fun _ _ => le2M) .no)))),
  (168, .two .no (.one (.two (.here fun _ _ => fiM) .no))),
  (218, .two .no (.two .no (.two .no (.two .no (.two (.here fun _ _ => usM) .no))))),
  (259, .two .no (.two .no (.two .no (.two (.here fun _ _ => reM) .no)))),
  (211, .two .no (.two .no (.two .no (.two (.two .no (.one (.one (.two .no (.two .no (.two (.one (.two .no (.two .no (.here taM)))) .no)))))) .no)))),
  (232, .two .no (.two .no (.two .no (.two .no (.two .no (.two .no (.two (.two .no (.one (.one (.two .no (.two .no (.two (.one (.two .no (.two .no (.two .no (.cn (.here fun _ _ => adM false 16 3) (.here fun _ _ => adM true 16 3)))))) .no)))))) .no))))))),
  (230, .one (.one (.one (.two .no (.two .no (.two .no (.two .no (.two .no (.two .no (.two .no (.here fun _ _ => adI)))))))))))]
noncomputable def Tryz.X : Cx := ⟨Tryz.prog, Tryz.tab, fun t => lkN t Tryz.fkL, fun t => lkN t Tryz.kfL, Tryz.ft.get, fun f => lkN f Tryz.ovL⟩
theorem Tryz.hX : CxOK Tryz.X := ⟨Tryz.hX0.tab, Tryz.hX0.fk, Tryz.hX0.kf, Tryz.hX0.ft, Tryz.hX0.mixed⟩
/-- What is said of one of them. -/
def OvAt (f : Nat) (t : OV) : Prop := ∃ fn k c, Tryz.ft.get f = some (fn, k) ∧ fn.body = some c ∧ OvOK Tryz.prog k fn.ntmps t c
theorem codeOK_at {P : Program} {r : Option Nat} {k n n' : Nat} {c c' : Code} {m : ZM} (h : CodeOK P r k n c m) (e : c = c') (en : n = n') : CodeOK P r k n' c' m := by subst e; subst en; exact h
theorem Tryz.hV : CxOV Tryz.X := fun f fn k t c h1 h2 h3 => by
  have key := lkN_all (Q := OvAt) (l := Tryz.ovL) (fun p hp => by
    simp only [Tryz.ovL, List.mem_cons, List.not_mem_nil, or_false] at hp
    rcases hp with rfl | rfl | rfl | rfl | rfl | rfl | rfl | rfl
    · exact ⟨Tryz.f237, 0x102050f3, bodyOf Tryz.f237, by kernel_rfl, by kernel_rfl, trivial, trivial, fun _ _ _ _ => ex_code (by kernel_rfl), trivial⟩
    · exact ⟨Tryz.f265, 0x2140000000a0fd, bodyOf Tryz.f265, by kernel_rfl, by kernel_rfl, trivial, trivial, fun _ _ _ _ => le_code (by kernel_rfl), fun _ _ _ _ => le2_code (by kernel_rfl), trivial⟩
    · exact ⟨Tryz.f168, 0x204007020010e000a1ffd, bodyOf Tryz.f168, by kernel_rfl, by kernel_rfl, trivial, fun _ _ _ _ => fi_code (by kernel_rfl) (by kernel_rfl), trivial⟩
    · exact ⟨Tryz.f218, 0x20050001e06dd, bodyOf Tryz.f218, by kernel_rfl, by kernel_rfl, trivial, trivial, trivial, trivial, fun _ _ _ _ => us_code (by kernel_rfl), trivial⟩
    · exact ⟨Tryz.f259, 0x10a0001800381fe7, bodyOf Tryz.f259, by kernel_rfl, by kernel_rfl, trivial, trivial, trivial, fun _ _ _ _ => re_code (by kernel_rfl), trivial⟩
    · exact ⟨Tryz.f211, 0x280001c00000fd, bodyOf Tryz.f211, by kernel_rfl, by kernel_rfl, trivial, trivial, trivial, ⟨trivial, trivial, trivial, ⟨trivial, trivial, fun cl yl hc hy => ta_okc (by kernel_rfl) (by kernel_rfl) (by kernel_rfl) (by kernel_rfl) cl yl hc hy⟩, trivial⟩, trivial⟩
    · exact ⟨Tryz.f232, 0x2003c03c0008055f2f, bodyOf Tryz.f232, by kernel_rfl, by kernel_rfl, trivial, trivial, trivial, trivial, trivial, trivial, ⟨trivial, trivial, trivial, ⟨trivial, trivial, trivial, fun _ _ _ _ => codeOK_at (ad1_code (k := 0x2003c03c0008055f2f) (by kernel_rfl)) (by kernel_rfl) (by kernel_rfl), fun _ _ _ _ => codeOK_at (ad2_code (k := 0x2003c03c0008055f2f) (by kernel_rfl)) (by kernel_rfl) (by kernel_rfl)⟩, trivial⟩, trivial⟩
    · exact ⟨Tryz.f230, 0x8040004000100cf, bodyOf Tryz.f230, by kernel_rfl, by kernel_rfl, trivial, trivial, trivial, trivial, trivial, trivial, trivial, fun _ _ _ _ => ad3_code (by kernel_rfl)⟩) (show lkN f Tryz.ovL = some t from h2)
  obtain ⟨fn', k', c', e1, e2, e3⟩ := key
  have h1 : Tryz.ft.get f = some (fn, k) := h1
  rw [h1] at e1
  injection e1 with e1
  injection e1 with e1 e4
  subst e1; subst e4
  rw [h3] at e2
  injection e2 with e2
  subst e2
  exact e3
end Go.Proofs.YtiodmphhjgkgjaaGreat
