/- far: lemmas for the rows of this seat. No conditions. -/
import Derived.Test.YtkbcogaodnmdoaaProg
import Derived.WalkKit
import Derived.WalkSpells
import Derived.WalkLawsBesides
import Derived.Lib.Hide
import Derived.Deep.AppendLies
import Derived.Deep.Draws
import Derived.Maps.AppendAt
import Derived.RegionTactic
import Derived.OwnWalk
import Derived.Deep.QuietTactic
import Derived.BigQuiet
import Derived.Deep.DeepFit
import Derived.Deep.LoopGhost
import Derived.Deep.DeepMust
import Derived.Deep.DeepCutAuto
import Derived.StillTail
import Derived.Deep.Quiet
import Derived.Deep.RegionHeld3
import Derived.Deep.RegionWith
import Derived.Deep.RegionLaw
import Derived.Maps.OwnOps
import Derived.Maps.OwnSet
import Derived.Maps.OwnRows
import Derived.Maps.RangeWalk
import Derived.Carry
import Derived.Test.YtkbcogaodnmdoaaBase
import Derived.Test.YtkbcogaodnmdoaaMaps
import Derived.Test.YtkbcogaodnmdoaaKeys
import Derived.Test.YtkbcogaodnmdoaaS1
import Derived.Test.YtkbcogaodnmdoaaS5
import Derived.Test.YtkbcogaodnmdoaaS12
import Derived.Test.YtkbcogaodnmdoaaS14
import Derived.Test.YtkbcogaodnmdoaaV
import Derived.Test.YtkbcogaodnmdoaaV2
import Derived.Test.YtkbcogaodnmdoaaV3
import Derived.Test.YtkbcogaodnmdoaaTab
import Derived.Test.YtkbcogaodnmdoaaE1
import Derived.Test.YtkbcogaodnmdoaaE2
import Derived.Test.YtkbcogaodnmdoaaE3
import Derived.Test.YtkbcogaodnmdoaaE4
import Derived.Test.YtkbcogaodnmdoaaE5
import Derived.Test.YtkbcogaodnmdoaaE6
import Derived.Test.YtkbcogaodnmdoaaE7
import Derived.Test.YtkbcogaodnmdoaaE8
import Derived.Test.YtkbcogaodnmdoaaE9
import Derived.Test.YtkbcogaodnmdoaaE10
import Derived.Test.YtkbcogaodnmdoaaE11
import Derived.Test.YtkbcogaodnmdoaaE12
import Derived.Test.YtkbcogaodnmdoaaE13
import Derived.Test.YtkbcogaodnmdoaaE14
import Derived.Test.YtkbcogaodnmdoaaE15
import Derived.Test.YtkbcogaodnmdoaaE16
import Derived.Test.YtkbcogaodnmdoaaE17
import Derived.Test.YtkbcogaodnmdoaaE18
set_option linter.all false
namespace Go.Proofs.Ytkbcogaodnmdoaa
open Go.RowKit
/-! ## far -/
/-- The least of several, the first of those that are equal. -/
def bestP : List Int → Int
  | [] => 0
  | a :: l => l.foldl (fun o x => if x < o then x else o) a
theorem bestP_one (a : Int) : bestP [a] = a := rfl
theorem bestP_two (a b : Int) : bestP [a, b] = if b < a then b else a := rfl
set_option maxRecDepth 20000 in
theorem less_any (a b : Int) (w : World) : Calls Try.prog 89 #[.int .i64 a, .int .i64 b] w fun e w' => e = .returned (.bool (decide (a < b))) ∧ Below w.heap.size w w' := by
  refine fn_v Try.tabOk (n := 8) (A := []) Try.func89 rfl rfl (Nat.le_of_ble_eq_true rfl) (St.nil (Below.refl _ _)) ?_
  ((try first | apply tr_v Try.tabOk | apply ot_v Try.tabOk); (conv => whnf); (repeat ((first | apply v_d); (conv => whnf))); try (first | apply VStop.mk | apply VCall.stop))
  ((apply VRet.mk); refine ret1 (by first | exact .inl rfl | exact .inr rfl) rfl (by exact rv_tmp rfl) ?_; exact fun w h => ⟨rfl, h.base⟩)
set_option maxRecDepth 20000 in
theorem best_any (b o cap : Nat) (l : List Int) (w : World) (h : Reads w w.heap.size 1 (some ⟨b, o, none⟩) l.length (i64s l)) (hl : 1 ≤ l.length) (hm : l.length ≤ 1000) (hc : l.length ≤ cap) :
    Calls Try.prog 90 #[.slice (some ⟨b, o, none⟩) l.length cap, .func (.func 89) #[] #[]] w fun e w' => e = .returned (.int .i64 (bestP l)) ∧ Below w.heap.size w w' := by
  have hcell := fun {k} (hk : k < l.length) A => iAt_cell h hk A
  have h0 := hcell hl
  rw [Nat.zero_mul, Nat.add_zero] at h0
  refine fn_v Try.tabOk (n := 25) (A := []) Try.func90 rfl rfl (Nat.le_of_ble_eq_true rfl) (St.nil (Below.refl _ _)) ?_
  ((try first | apply tr_v Try.tabOk | apply ot_v Try.tabOk); (conv => whnf); (repeat ((first | (apply VLd.mk; exact h0 _) | (apply VIx.mk (j := 0); exact rfl; omega)); (conv => whnf))); try (first | apply VStop.mk | apply VCall.stop))
  refine ot_slice_lo Try.tabOk rfl rfl rfl rfl rfl rfl rfl rfl (lo := 1) rfl hl ?_
  obtain ⟨AD, hAD, hAD2⟩ : ∃ AD : Addr, AD = (if cap = 1 then ⟨b, o, none⟩ else ⟨b, o + 1 * Try.t2.size, none⟩) ∧ (2 ≤ l.length → AD = ⟨b, o + 1, none⟩) := ⟨_, rfl, fun h => by rw [if_neg (by omega)]; rfl⟩
  rw [← hAD]
  clear hAD
  have hb0 : iAt l 0 = bestP (l.take (0 + 1)) := by
    cases l with
    | nil => simp at hl
    | cons a l => rfl
  rw [hb0]
  apply ot_v Try.tabOk
  ((try first | apply tr_v Try.tabOk | apply ot_v Try.tabOk); (conv => whnf); try (first | apply VStop.mk | apply VCall.stop))
  refine v_loop (fun gm ds ts A => ds = [] ∧ A = [] ∧ ∃ j, j + gm = l.length - 1 ∧ ts = [(1, .func (.func 89) #[] #[]), (5, .int .i64 (bestP (l.take (j + 1)))), (12, .slice (some AD) (l.length - 1) (cap - 1)), (13, .int .i64 ((l.length - 1 : Nat) : Int)), (14, .int .i64 (j : Int))]) (l.length - 1) (l := [(1, _), (5, _), (12, _), (13, _), (14, _)]) (B := _) ?_ (List.Sublist.refl _) ⟨rfl, rfl, 0, by omega, rfl⟩ ?_
  · exact ⟨rfl, rfl, rfl, rfl, rfl, trivial⟩
  rintro gm ds ts A ⟨rfl, rfl, j, hj, rfl⟩
  by_cases hlt : j + 1 < l.length
  · obtain rfl := hAD2 (by omega)
    have hx := hcell hlt
    have e1 : (o + 1) + j * 1 = o + (j + 1) * 1 := by omega
    have hst : bestP (l.take (j + 1 + 1)) = if iAt l (j + 1) < bestP (l.take (j + 1)) then iAt l (j + 1) else bestP (l.take (j + 1)) := by
      have h1 : l.take (j + 1 + 1) = l.take (j + 1) ++ [iAt l (j + 1)] := by
        rw [List.take_add_one, List.getElem?_eq_getElem hlt]
        unfold iAt
        rw [List.getElem?_eq_getElem hlt]; rfl
      rw [h1]
      cases l with
      | nil => simp at hl
      | cons a l => 
        rw [List.take_succ_cons, List.cons_append]
        show List.foldl _ _ (_ ++ _) = _
        rw [List.foldl_append]
        rfl
    have hf := fun w1 => less_any (iAt l (j + 1)) (bestP (l.take (j + 1))) w1
    generalize iAt l (j + 1) = x at *
    generalize bestP (l.take (j + 1)) = y at *
    by_cases hxy : x < y
    · rw [if_pos hxy] at hst
      rw [decide_eq_true hxy] at hf
      ((try first | apply tr_v Try.tabOk | apply ot_v Try.tabOk); (conv => whnf); (repeat ((first | (apply VIx.mk (j := j); exact rfl; omega) | (apply VLd.mk; rw [e1]; exact hx _) | (apply VCall.q; kernel_rfl; (focus (intro w1 hs; first | with_reducible apply hf w1))) | (apply VRng.mk; omega) | apply VBr.t | (apply v_t; omega)); (conv => whnf))); try (first | apply VStop.mk | apply VCall.stop))
      exact v_rnd (gm - 1) (by omega) (l := [(1, _), (5, _), (12, _), (13, _), (14, _)]) (B := []) ⟨rfl, rfl, rfl, rfl, rfl, trivial⟩ (List.nil_sublist _) ⟨rfl, rfl, j + 1, by omega, by rw [hst]; rfl⟩
    · rw [if_neg hxy] at hst
      rw [decide_eq_false hxy] at hf
      ((try first | apply tr_v Try.tabOk | apply ot_v Try.tabOk); (conv => whnf); (repeat ((first | (apply VIx.mk (j := j); exact rfl; omega) | (apply VLd.mk; rw [e1]; exact hx _) | (apply VCall.q; kernel_rfl; (focus (intro w1 hs; first | with_reducible apply hf w1))) | (apply VRng.mk; omega) | apply VBr.t | apply VBr.f | (apply v_t; omega)); (conv => whnf))); try (first | apply VStop.mk | apply VCall.stop))
      exact v_rnd (gm - 1) (by omega) (l := [(1, _), (5, _), (12, _), (13, _), (14, _)]) (B := []) ⟨rfl, rfl, rfl, rfl, rfl, trivial⟩ (List.nil_sublist _) ⟨rfl, rfl, j + 1, by omega, by rw [hst]; rfl⟩
  · rw [List.take_of_length_le (show l.length ≤ j + 1 by omega)]
    ((try first | apply tr_v Try.tabOk | apply ot_v Try.tabOk); (conv => whnf); (repeat ((first | apply VBr.f | (apply v_f; omega)); (conv => whnf))); try (first | apply VStop.mk | apply VCall.stop))
    ((apply VRet.mk); refine ret1 (by first | exact .inl rfl | exact .inr rfl) rfl (by exact rv_tmp rfl) ?_; exact fun w h => ⟨rfl, h.base⟩)
def intE (k : Int) : Value := .int .i64 k
theorem intKeys {P : Program} {t : TypeId} (h : P.underlying t = some (.int .i64)) : KeyEnc P t intE where
  eq := fun x y w => by
    have := run_equalIn_int (P := P) w 9999 t .i64 .i64 x y h
    simp only [Op.equal, Op.maxDepth, intE]
    rw [this]
    rw [Bool.beq_eq_decide_eq]
  now := fun kd x y hk => by
    rw [h] at hk
    cases hk
    unfold intE
    right
    simp only [Instr.sameNow, if_true]
    rw [Bool.beq_eq_decide_eq]
  check := fun e x w => run_checkKey_int h e 9999 _ w
  stays := fun x => by simp [Instr.sameBits, intE]
  has := ⟨_, h⟩
theorem mapI : Try.prog.underlying 120 = some (.map 3 2) := Try.underlying120
theorem intK : KeyEnc Try.prog 3 intE := intKeys Try.underlying3
/-- The sums seen, as a map. -/
def seenM (m : Nat → Option Int) (N : Nat) : Int → Option Value := fun p => if 0 ≤ p ∧ p < N then vO' (m p.toNat) else none
theorem seenM_nat {m : Nat → Option Int} {N k : Nat} (hk : k < N) : seenM m N (k : Int) = vO' (m k) := by
  unfold seenM
  rw [if_pos (by omega), Int.toNat_natCast]
theorem seenM_upd {m : Nat → Option Int} {N k : Nat} (hk : k < N) (v : Int) : updM (seenM m N) (k : Int) (.int .i64 v) = seenM (fun y => if y = k then some v else m y) N := by
  funext x
  unfold updM seenM
  by_cases hx : x = (k : Int)
  · subst hx
    rw [if_pos rfl, if_pos (by omega), Int.toNat_natCast]
    dsimp only
    rw [if_pos rfl]; rfl
  · rw [if_neg hx]
    by_cases hr : 0 ≤ x ∧ x < N
    · rw [if_pos hr, if_pos hr]
      dsimp only
      rw [if_neg (by omega)]
    · rw [if_neg hr, if_neg hr]
theorem seenM_start {E : List E3} {N i : Nat} (hi : i < N) : updM (fun _ => none) (i : Int) (.int .i64 0) = seenM (farM E i 0) N := by
  have h := seenM_upd (m := fun _ => none) hi 0
  have e : seenM (fun _ => none) N = fun _ => none := by
    funext x
    unfold seenM
    split <;> rfl
  rw [e] at h
  rw [h, farM]
section
variable {P : Program} {κ : Type} [DecidableEq κ] {enc : κ → Value} {kt et t : TypeId} {m : κ → Option Value} {st : List (Nat × κ)} {b : Nat}
variable {w0 : World} {n : Nat} {ds : List Deferred} {ops : List Oper} {o : Oper} {os : List Oper} {ks : List Kind} {ts : TS} {A A' : List Chunk} {K : TS → List Chunk → Prop} {d : Tmp} {x y z : Operand}
/-- An entry of a map that is written out. -/
theorem ot_insF {v : Value} {k : κ} (Ke : KeyEnc P kt enc) (ht : P.underlying t = some (.map kt et)) (hh : ks.headD .wr = .wr) (hop : o.op = .insert t x y z) (hd : o.dst = none) (hw : wantB ops ts o = some true) (hx : evT ts x = some (.map (some b))) (hy : evT ts y = some (enc k)) (hz : evT ts z = some v)
    (hu : Upd (.prd b (MapP enc m st)) (.prd b (MapP enc (updM m k v) st)) A A') (hk : OT P w0 n ds ops os ks.tail ts A' K) : OT P w0 n ds ops (o :: os) ks ts A K := by
  refine ot_wrote hh hd hw (fun a w hh => ?_) hk
  obtain ⟨ob, h1, h2⟩ := (hh.st.all _ hu.mem).2.2.upd (w := w) Ke ht k v
  exact ⟨_, by simp [execOp, hop, hh.ev hx, hh.ev hy, hh.ev hz, h1], hh.st.set_prd hu h2⟩
end
theorem own_cap {w0 w : World} {A : List Chunk} {a : Addr} {t sz n cap : Nat} {xs : List Value} (hs : St w0 A w) (h : .own (.slice (some a) n cap) t sz n xs ∈ A) : n ≤ cap := by
  obtain ⟨_, h2⟩ := hs.all _ h
  rcases h2 with ⟨h2, _⟩ | ⟨g', cap', cur, h3, _, _, h6, _⟩
  · cases h2
  · cases h3; exact h6
/-- The sums are small. -/
def FarBd (M : Nat) (m : Nat → Option Int) : Prop := ∀ v x, m v = some x → -(1000 * (M : Int)) ≤ x ∧ x ≤ 1000 * (M : Int)
theorem FarBd.step {M : Nat} {m : Nat → Option Int} (h : FarBd M m) {e : E3} (he : -1000 ≤ e.2.2 ∧ e.2.2 ≤ 1000) : FarBd (M + 1) (far1 m e) := by
  intro v x hv
  unfold far1 at hv
  push_cast
  cases hm : m e.1 with
  | none => rw [hm] at hv; have := h v x hv; omega
  | some a =>
    rw [hm] at hv
    dsimp only at hv
    have := h _ _ hm
    split at hv
    · cases hm2 : m e.2.1 with
      | none => rw [hm2] at hv; simp only [Option.some.injEq] at hv; omega
      | some b =>
        have := h _ _ hm2
        rw [hm2] at hv
        simp only [Option.some.injEq] at hv
        split at hv <;> omega
    · have := h v x hv; omega
theorem FarBd.fold : ∀ {E : List E3} {M : Nat} {m : Nat → Option Int}, FarBd M m → (∀ e ∈ E, -1000 ≤ e.2.2 ∧ e.2.2 ≤ 1000) → FarBd (M + E.length) (E.foldl far1 m)
  | [], M, m, h, _ => h
  | e :: E, M, m, h, hE => by
    have := FarBd.fold (E := E) (h.step (hE e (.head _))) fun x hx => hE x (.tail _ hx)
    rw [List.length_cons, show M + (E.length + 1) = M + 1 + E.length by omega]
    exact this
theorem farM_bd {E : List E3} (i : Nat) (hE : ∀ e ∈ E, -1000 ≤ e.2.2 ∧ e.2.2 ≤ 1000) : ∀ k, FarBd (k * E.length) (farM E i k)
  | 0 => fun v x hv => by
    rw [farM] at hv
    dsimp only at hv
    split at hv
    · cases hv; simp
    · cases hv
  | k + 1 => by
    have := (farM_bd i hE k).fold hE
    rw [Nat.add_mul, Nat.one_mul]
    exact this
theorem ret2_many {P : Program} {w0 : World} {n : Nat} {ts : TS} {Ds : List Nat} {P1 : List Chunk} {fn : Func} {R : Ending → World → Prop} {e : Exit} {r1 r2 : ResultVar} {v1 v2 : Value} (he : e = .normal ∨ e = .ret) (hr : fn.results = #[r1, r2]) (g1 : RV P w0 ts (P1 ++ Ds.map objN) r1 v1) (g2 : RV P w0 ts (P1 ++ Ds.map objN) r2 v2) (hR : ∀ w, St w0 (P1 ++ Ds.map objN) w → R (.returned (.tuple #[v1, v2])) w) :
    RetOK P w0 n fn R e (Ds.map colD) ts (P1 ++ Ds.map objD) := by
  have := (ret2 (P := P) (n := n) he hr g1 g2 hR).2
  have h2 := leave_many (P := P) (w0 := w0) (n := n) (fn := fn) (R := R) (ts := ts) Ds P1 [] (by rw [List.append_nil]; exact this)
  rw [List.append_nil] at h2
  exact ⟨he, h2⟩
/-- far, plainly. -/
def farP (bf : Nat → Nat → Option Int) (N i k : Nat) : Option Int := if (roundP N (allE bf N N)).length = 0 then farM (allE bf N N) i N k else none
section
variable (rlo rhi : Int) (L : Nat) (Al : Option Addr) (c : Nat) (S : List (List T3)) (bf : Nat → Nat → Option Int) (N : Nat) (gt gm : Nat) (B : Option Addr) (cap : Nat) (w : World) (hT : TongueAt rlo rhi L Al c S (resM bf N) gt gm B cap w)
include hT
set_option maxHeartbeats 4000000 in
set_option maxRecDepth 20000 in
theorem far_any (hN : N = 1 + L + S.flatten.length) (hb : BOk bf N) (i0 k0 : Nat) (hi0 : i0 < N) (hk0 : k0 < N) :
    Calls Try.prog 66 #[.pointer (some ⟨gt, 0, none⟩), .int .i64 i0, .int .i64 k0] w fun e w' => e = .returned (sumV (farP bf N i0 k0)) ∧ Below w.heap.size w w' := by
  have hN2 : N ≤ 19 := hb.n1
  have hnm : ∀ w1, Below w.heap.size w w1 → Calls Try.prog 72 #[.pointer (some ⟨gt, 0, none⟩)] w1 fun e w' => e = .returned (.int .i64 (N : Int)) ∧ Below w1.heap.size w1 w' := fun w1 h => by
    rw [hN]
    exact namesP_any rlo rhi L Al c S _ gt gm B cap w1 (hT.grow h) (by omega) (by omega)
  have hbd := fun w1 => bounds_any gt w1
  have hro := fun w1 (h : Below w.heap.size w w1) => round_any rlo rhi L Al c S bf N gt gm B cap w1 (hT.grow h) hN hb
  have hrl : (roundP N (allE bf N N)).length ≤ 19 := by
    by_cases hp : HasPot bf N
    · rw [hb.round_none hp]; simp
    · have := hb.round_len hp; omega
  unfold farP
  refine fn_v Try.tabOk (n := 74) (A := []) Try.func66 rfl rfl (Nat.le_of_ble_eq_true rfl) (St.nil (Below.refl _ _)) ?_
  ((try first | apply tr_v Try.tabOk | apply ot_v Try.tabOk); (conv => whnf); try (first | apply VStop.mk | apply VCall.stop))
  refine ot_call_ownS (by decide) rfl rfl rfl (by kernel_rfl) (evl_of rfl) (fun w1 hs => hro w1 hs.base) (fun Br cr _ => ?_)
  generalize roundP N (allE bf N N) = rd at *
  by_cases hz : rd.length = 0
  rotate_left
  · rw [if_neg hz]
    ((try first | apply tr_v Try.tabOk | apply ot_v Try.tabOk); (conv => whnf); (repeat ((first | apply VBr.t | (apply v_t; omega)); (conv => whnf))); try (first | apply VStop.mk | apply VCall.stop))
    (apply VRet.mk)
    refine ret2 (by first | exact .inl rfl | exact .inr rfl) rfl (by exact rv_tmp rfl) (by exact rv_tmp rfl) ?_
    exact fun w h => ⟨rfl, h.base⟩
  rw [if_pos hz]
  ((try first | apply tr_v Try.tabOk | apply ot_v Try.tabOk); (conv => whnf); (repeat ((first | apply VBr.f | (apply v_f; omega)); (conv => whnf))); try (first | apply VStop.mk | apply VCall.stop))
  refine ot_makeMapF intE (by decide) rfl rfl rfl (fun gm2 hgm2 => ?_)
  apply ot_v Try.tabOk
  ((try first | apply tr_v Try.tabOk | apply ot_v Try.tabOk); (conv => whnf); (repeat ((first | ((first | apply VStop.mk | apply VCall.stop); (first | (refine ot_insF (k := (i0 : Int)) (v := .int .i64 0) intK mapI rfl rfl rfl rfl rfl (by exact rfl) (by exact rfl) .here ?_)); try first | apply ot_v Try.tabOk | apply tr_v Try.tabOk) | (apply VCall.q; kernel_rfl; (focus (intro w1 hs; first | with_reducible apply hnm w1 hs.base))) | (apply VNew.mk; intro g hg) | (apply VSt.mk; (focus ((repeat (first | (with_reducible exact At.here) | (with_reducible apply At.there))); done)); exact rfl)); (conv => whnf))); try (first | apply VStop.mk | apply VCall.stop))
  rename_i g8 hg8
  revert g
  intro g9 hg9
  rw [seenM_start (E := allE bf N N) hi0]
  have hEE2 : ∀ e ∈ allE bf N N, e.1 < N ∧ e.2.1 < N ∧ -1000 ≤ e.2.2 ∧ e.2.2 ≤ 1000 := fun e he => ⟨(hb.hE2 e he).1, (hb.hE2 e he).2, (hb.hE3 e he).1, (hb.hE3 e he).2⟩
  have hbd0 := farM_bd (E := allE bf N N) i0 hb.hE3
  have hElen : (allE bf N N).length ≤ 361 := by
    have h1 := hb.allE_len N
    have h2 : N * N ≤ 19 * 19 := Nat.mul_le_mul hN2 hN2
    omega
  clear hro hrl hz
  generalize hEE : allE bf N N = EE at *
  refine v_loop (fun gm' ds ts A => ∃ (k : Nat) (Ds : List Nat), k + gm' = N ∧ ds = Ds.map colD ∧ A.Perm (.blk g9 121 [.func (.func 89) #[] #[]] :: .blk g8 120 [.map (some gm2)] :: .prd gm2 (MapP intE (seenM (farM EE i0 k) N) []) :: Ds.map objD) ∧ ts = [(0, .pointer (some ⟨gt, 0, none⟩)), (2, .int .i64 (k0 : Int)), (8, .pointer (some ⟨g8, 0, none⟩)), (9, .pointer (some ⟨g9, 0, none⟩)), (27, .int .i64 (N : Int)), (28, .int .i64 (k : Int))]) N
    (l := [(0, _), (2, _), (8, _), (9, _), (27, _), (28, _)]) (B := [_, _, _]) ?_ (.cons_cons _ (.cons_cons _ (.cons_cons _ (List.nil_sublist _)))) ⟨0, [], by omega, rfl, .refl _, rfl⟩ ?_
  · exact ⟨rfl, rfl, rfl, rfl, rfl, rfl, trivial⟩
  rintro gm' ds ts A ⟨k, Ds, hk, rfl, hA, rfl⟩
  refine tr_perm hA ?_
  clear hA A
  by_cases hlt : k < N
  · ((try first | apply tr_v Try.tabOk | apply ot_v Try.tabOk); (conv => whnf); (repeat ((first | apply VBr.t | (apply v_t; omega)); (conv => whnf))); try (first | apply VStop.mk | apply VCall.stop))
    refine ot_call_st (X := Nat) (fun Bs => .func (.func 86) #[] #[.pointer (some ⟨Bs, 0, none⟩)]) (fun Bs => [.blk Bs 81 [.pointer (some ⟨gt, 0, none⟩)]]) (fun Bs c hc => by simp at hc; subst hc; rfl) (by decide) rfl rfl rfl (by kernel_rfl) (evl_of rfl) (fun w1 hs => hbd w1) (fun Bs => ?_)
    ((try first | apply tr_v Try.tabOk | apply ot_v Try.tabOk); (conv => whnf); try (first | apply VStop.mk | apply VCall.stop))
    refine tr_rangeFunc rfl (by kernel_rfl) (hEE ▸ bounds_it rlo rhi L Al c S bf N gt gm B cap Bs hN (by omega)) (fun _ => rfl) (by decide)
      (fun pre R => R = .blk Bs 81 [.pointer (some ⟨gt, 0, none⟩)] :: .blk g9 121 [.func (.func 89) #[] #[]] :: .blk g8 120 [.map (some gm2)] :: .prd gm2 (MapP intE (seenM (pre.foldl far1 (farM EE i0 k)) N) []) :: Ds.map objD)
      (fun _ _ _ => False) ?_ rfl ?_ ?_ ?_
    · rintro pre R rfl F W hS
      exact ⟨by rw [(hS.all _ (.head _)).2.cell]; rfl, hT.grow hS.base⟩
    · rintro l pre ⟨x1, x2, x3⟩ R Fr ⟨rest, hpre⟩ rfl
      have hx := hEE2 (x1, x2, x3) (by rw [← hpre]; simp)
      have hfo : (pre ++ [(x1, x2, x3)]).foldl far1 (farM EE i0 k) = far1 (pre.foldl far1 (farM EE i0 k)) (x1, x2, x3) := by rw [List.foldl_append]; rfl
      have hs : FarBd (k * EE.length + pre.length) (pre.foldl far1 (farM EE i0 k)) := FarBd.fold (hbd0 k) (fun e he => by
        have := hEE2 e (by rw [← hpre]; simp [he])
        omega)
      have hm : k * EE.length + pre.length ≤ 7220 := by
        have h1 : k * EE.length ≤ 19 * 361 := Nat.mul_le_mul (by omega) hElen
        have h2 : pre.length ≤ EE.length := by rw [← hpre, List.length_append, List.length_append]; omega
        omega
      generalize pre.foldl far1 (farM EE i0 k) = s at *
      generalize k * EE.length + pre.length = M at hm hs
      change Tr _ _ _ _ _ _ _ (_ :: _ :: _ :: _ :: (Ds.map objD ++ Fr)) _
      obtain ⟨hx1, hx2, hx3, hx4⟩ := hx
      dsimp only at hx1 hx2 hx3 hx4
      ((try first | apply tr_v Try.tabOk | apply ot_v Try.tabOk); (conv => whnf); (repeat ((first | (apply VNew.mk; intro g hg) | (apply VSt.mk; (focus ((repeat (first | (with_reducible exact At.here) | (with_reducible apply At.there))); done)); exact rfl)); (conv => whnf))); try (first | apply VStop.mk | apply VCall.stop))
      refine ⟨rfl, rfl, .blk g 92 [.int .i64 (x1 : Int), .int .i64 (x2 : Int)] :: .blk Bs 81 [.pointer (some ⟨gt, 0, none⟩)] :: .blk g9 121 [.func (.func 89) #[] #[]] :: .blk g8 120 [.map (some gm2)] :: .prd gm2 (MapP intE (seenM s N) []) :: Ds.map objD, List.Sublist.refl _, fun Fr' => ?_⟩
      change Tr _ _ _ _ _ _ _ (_ :: _ :: _ :: _ :: _ :: (Ds.map objD ++ Fr')) _
      dsimp only
      have hl1 := seenM_nat (m := s) hx1
      have hl2 := seenM_nat (m := s) hx2
      have hfe : far1 s (x1, x2, x3) = match s x1 with
        | none => s
        | some x => fun y => if y = x2 then some (match s x2 with
          | some y => if y < x + x3 then y else x + x3
          | none => x + x3) else s y := rfl
      have hup := fun v => seenM_upd (m := s) hx2 v
      cases h1 : s x1 with
      | none =>
        rw [h1] at hl1 hfe
        dsimp only at hfe
        ((try first | apply tr_v Try.tabOk | apply ot_v Try.tabOk); (conv => whnf); (repeat ((first | ((first | apply VStop.mk | apply VCall.stop); (first | (refine ot_look_no (k := (x1 : Int)) hl1 intK mapI zv2 rfl rfl rfl rfl rfl (mapAt_mem (by (repeat (first | with_unfolding_all exact List.Mem.head _ | assumption | with_unfolding_all refine List.Mem.tail _ ?_)))) ?_)); try first | apply ot_v Try.tabOk | apply tr_v Try.tabOk) | (apply VLd.mk; (focus ((repeat (first | ((with_reducible apply ld_blk); exact rfl) | ((with_reducible apply ld_row); exact rfl) | ((with_reducible apply ld_row0); exact rfl) | (with_reducible assumption) | (with_reducible exact CellAt.base (by assumption)) | (with_reducible apply ld_skip))); done))) | apply VBr.t); (conv => whnf))); try (first | apply VStop.mk | apply VCall.stop))
        exact ⟨rfl, .blk Bs 81 [.pointer (some ⟨gt, 0, none⟩)] :: .blk g9 121 [.func (.func 89) #[] #[]] :: .blk g8 120 [.map (some gm2)] :: .prd gm2 (MapP intE (seenM s N) []) :: Ds.map objD, List.sublist_cons_self _ _, by dsimp only; rw [hfo, hfe]⟩
      | some x =>
        rw [h1] at hl1 hfe
        dsimp only at hfe
        have hxb := hs x1 x h1
        cases h2 : s x2 with
        | none =>
          rw [h2] at hl2 hfe
          dsimp only at hfe
          have hb1 : ∀ (g : Nat) (w1 : World) (A' : List Chunk), St w (.blk g 2 [.int .i64 (x + x3)] :: A') w1 → Calls Try.prog 90 #[.slice (some ⟨g, 0, none⟩) 1 1, .func (.func 89) #[] #[]] w1 fun e w' => e = .returned (.int .i64 (x + x3)) ∧ Below w1.heap.size w1 w' := fun g w1 A' hs => best_any g 0 1 [x + x3] w1 (hs.blk_reads (.head _) rfl) (by simp) (by simp) (by simp)
          ((try first | apply tr_v Try.tabOk | apply ot_v Try.tabOk); (conv => whnf); (repeat ((first | ((first | apply VStop.mk | apply VCall.stop); (first | (refine ot_look_yes (k := (x1 : Int)) hl1 intK mapI zv2 rfl rfl rfl rfl rfl (mapAt_mem (by (repeat (first | with_unfolding_all exact List.Mem.head _ | assumption | with_unfolding_all refine List.Mem.tail _ ?_)))) ?_) | (refine ot_look_no (k := (x2 : Int)) hl2 intK mapI zv2 rfl rfl rfl rfl rfl (mapAt_mem (by (repeat (first | with_unfolding_all exact List.Mem.head _ | assumption | with_unfolding_all refine List.Mem.tail _ ?_)))) ?_) | refine tr_region_lex (id := 16) (by kernel_rfl) [.rd, .rd, .rd, .rd, .rd, .cr, .wr] rfl (by kernel_rfl) ?_ | (refine ot_updF (k := (x2 : Int)) intK mapI rfl rfl rfl rfl rfl rfl (by exact rfl) (by (repeat (first | exact Upd.here | apply Upd.there))) ?_)); try first | apply ot_v Try.tabOk | apply tr_v Try.tabOk) | (apply VCall.q; kernel_rfl; (focus (intro w1 hs; first | with_reducible apply hb1 _ w1 _ hs))) | (apply VLd.mk; (focus ((repeat (first | ((with_reducible apply ld_blk); exact rfl) | ((with_reducible apply ld_row); exact rfl) | ((with_reducible apply ld_row0); exact rfl) | (with_reducible assumption) | (with_reducible exact CellAt.base (by assumption)) | (with_reducible apply ld_skip))); done))) | (apply VRng.mk; omega) | apply VBr.f | (apply VNew.mk; intro g hg)); (conv => whnf))); try (first | apply VStop.mk | apply VCall.stop))
          rw [hup (x + x3)]
          exact ⟨rfl, .blk Bs 81 [.pointer (some ⟨gt, 0, none⟩)] :: .blk g9 121 [.func (.func 89) #[] #[]] :: .blk g8 120 [.map (some gm2)] :: .prd gm2 (MapP intE (seenM _ N) []) :: Ds.map objD, .cons _ (.cons _ (List.Sublist.refl _)), by dsimp only; rw [hfo, hfe]⟩
        | some y =>
          rw [h2] at hl2 hfe
          dsimp only at hfe
          have hb2 : ∀ (g cap : Nat) (w1 : World) (A' : List Chunk), St w (.own (.slice (some ⟨g, 0, none⟩) (1 + 1) cap) 2 1 (1 + 1) (i64s [x + x3] ++ [.int .i64 y]) :: A') w1 → Calls Try.prog 90 #[.slice (some ⟨g, 0, none⟩) (1 + 1) cap, .func (.func 89) #[] #[]] w1 fun e w' => e = .returned (.int .i64 (if y < x + x3 then y else x + x3)) ∧ Below w1.heap.size w1 w' := fun g cap w1 A' hs => best_any g 0 cap [x + x3, y] w1 (hs.own_rd (.head _)) (by simp) (by simp) (own_cap hs (.head _))
          ((try first | apply tr_v Try.tabOk | apply ot_v Try.tabOk); (conv => whnf); (repeat ((first | ((first | apply VStop.mk | apply VCall.stop); (first | (refine ot_look_yes (k := (x1 : Int)) hl1 intK mapI zv2 rfl rfl rfl rfl rfl (mapAt_mem (by (repeat (first | with_unfolding_all exact List.Mem.head _ | assumption | with_unfolding_all refine List.Mem.tail _ ?_)))) ?_) | (refine ot_look_yes (k := (x2 : Int)) hl2 intK mapI zv2 rfl rfl rfl rfl rfl (mapAt_mem (by (repeat (first | with_unfolding_all exact List.Mem.head _ | assumption | with_unfolding_all refine List.Mem.tail _ ?_)))) ?_) | (refine ot_append_fullO (sz := 1) (xs := i64s [x + x3]) Try.tabOk (by decide) rfl rfl rfl rfl rfl rfl rfl rfl rfl rfl (by decide) (by omega) (fun w' hs => hs.blk_reads (.tail _ (.head _)) rfl) (cells_blk_all (.head _)) rfl (by omega) (by decide) (fun gx capx hgx => ?_)) | refine tr_region_lex (id := 16) (by kernel_rfl) [.rd, .rd, .rd, .rd, .rd, .cr, .wr] rfl (by kernel_rfl) ?_ | (refine ot_updF (k := (x2 : Int)) intK mapI rfl rfl rfl rfl rfl rfl (by exact rfl) (by (repeat (first | exact Upd.here | apply Upd.there))) ?_)); try first | apply ot_v Try.tabOk | apply tr_v Try.tabOk) | (apply VCall.q; kernel_rfl; (focus (intro w1 hs; first | with_reducible apply hb2 _ _ w1 _ hs))) | (apply VLd.mk; (focus ((repeat (first | ((with_reducible apply ld_blk); exact rfl) | ((with_reducible apply ld_row); exact rfl) | ((with_reducible apply ld_row0); exact rfl) | (with_reducible assumption) | (with_reducible exact CellAt.base (by assumption)) | (with_reducible apply ld_skip))); done))) | (apply VRng.mk; omega) | apply VBr.t | apply VBr.f | (apply VNew.mk; intro g hg)); (conv => whnf))); try (first | apply VStop.mk | apply VCall.stop))
          rw [hup (if y < x + x3 then y else x + x3)]
          exact ⟨rfl, .blk Bs 81 [.pointer (some ⟨gt, 0, none⟩)] :: .blk g9 121 [.func (.func 89) #[] #[]] :: .blk g8 120 [.map (some gm2)] :: .prd gm2 (MapP intE (seenM _ N) []) :: Ds.map objD, .cons _ (.cons _ (.cons _ (.cons _ (List.Sublist.refl _)))), by dsimp only; rw [hfo, hfe]⟩
    · rintro D R rfl
      have hnext : EE.foldl far1 (farM EE i0 k) = farM EE i0 (k + 1) := rfl
      rw [hnext]
      ((try first | apply tr_v Try.tabOk | apply ot_v Try.tabOk); (conv => whnf); (repeat ((first | (apply VRng.mk; omega)); (conv => whnf))); try (first | apply VStop.mk | apply VCall.stop))
      exact v_rnd (gm' - 1) (by omega) (l := [(0, _), (2, _), (8, _), (9, _), (27, _), (28, _)]) (B := .obj D (.deferred (some [])) :: _) ⟨rfl, rfl, rfl, rfl, rfl, rfl, trivial⟩ (.cons_cons _ (.cons _ (List.Sublist.refl _))) ⟨k + 1, D :: Ds, by omega, rfl, (List.perm_middle (l₁ := [_, _, _])).symm, rfl⟩
    · exact fun _ _ _ _ h => h.elim
  · obtain rfl : N = k := by omega
    have hl := seenM_nat (m := farM EE i0 N) hk0
    cases hv : farM EE i0 N k0 with
    | none =>
      rw [hv] at hl
      ((try first | apply tr_v Try.tabOk | apply ot_v Try.tabOk); (conv => whnf); (repeat ((first | ((first | apply VStop.mk | apply VCall.stop); (first | (refine ot_look_no (k := (k0 : Int)) hl intK mapI zv2 rfl rfl rfl rfl rfl (mapAt_mem (by (repeat (first | with_unfolding_all exact List.Mem.head _ | assumption | with_unfolding_all refine List.Mem.tail _ ?_)))) ?_)); try first | apply ot_v Try.tabOk | apply tr_v Try.tabOk) | (apply VLd.mk; (focus ((repeat (first | ((with_reducible apply ld_blk); exact rfl) | ((with_reducible apply ld_row); exact rfl) | ((with_reducible apply ld_row0); exact rfl) | (with_reducible assumption) | (with_reducible exact CellAt.base (by assumption)) | (with_reducible apply ld_skip))); done))) | apply VBr.f | (apply v_f; omega)); (conv => whnf))); try (first | apply VStop.mk | apply VCall.stop))
      (apply VRet.mk)
      exact ret2_many (P1 := [_, _, _]) (.inr rfl) rfl (by exact rv_tmp rfl) (by exact rv_tmp rfl) fun w' h => ⟨rfl, h.base⟩
    | some x =>
      rw [hv] at hl
      ((try first | apply tr_v Try.tabOk | apply ot_v Try.tabOk); (conv => whnf); (repeat ((first | ((first | apply VStop.mk | apply VCall.stop); (first | (refine ot_look_yes (k := (k0 : Int)) hl intK mapI zv2 rfl rfl rfl rfl rfl (mapAt_mem (by (repeat (first | with_unfolding_all exact List.Mem.head _ | assumption | with_unfolding_all refine List.Mem.tail _ ?_)))) ?_)); try first | apply ot_v Try.tabOk | apply tr_v Try.tabOk) | (apply VLd.mk; (focus ((repeat (first | ((with_reducible apply ld_blk); exact rfl) | ((with_reducible apply ld_row); exact rfl) | ((with_reducible apply ld_row0); exact rfl) | (with_reducible assumption) | (with_reducible exact CellAt.base (by assumption)) | (with_reducible apply ld_skip))); done))) | apply VBr.f | (apply v_f; omega)); (conv => whnf))); try (first | apply VStop.mk | apply VCall.stop))
      (apply VRet.mk)
      exact ret2_many (P1 := [_, _, _]) (.inr rfl) rfl (by exact rv_tmp rfl) (by exact rv_tmp rfl) fun w' h => ⟨rfl, h.base⟩
end
end Go.Proofs.Ytkbcogaodnmdoaa
