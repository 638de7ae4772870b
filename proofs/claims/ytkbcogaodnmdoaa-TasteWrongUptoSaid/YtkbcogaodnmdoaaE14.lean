/- All bounds, one behind the other: lemmas for the rows of this seat. No conditions. -/
import Derived.Test.YtkbcogaodnmdoaaProg
import Derived.WalkKit
import Derived.WalkSpells
import Derived.WalkLawsBesides
import Derived.Lib.Hide
import Derived.Deep.AppendLies
import Derived.Deep.Draws
import Derived.Maps.AppendAt
import Derived.RegionTactic
import Derived.OwnWalk
import Derived.Deep.QuietTactic
import Derived.BigQuiet
import Derived.Deep.DeepFit
import Derived.Deep.LoopGhost
import Derived.Deep.DeepMust
import Derived.Deep.DeepCutAuto
import Derived.StillTail
import Derived.Deep.Quiet
import Derived.Deep.RegionHeld3
import Derived.Deep.RegionWith
import Derived.Deep.RegionLaw
import Derived.Maps.OwnOps
import Derived.Maps.OwnSet
import Derived.Maps.OwnRows
import Derived.Maps.RangeWalk
import Derived.Carry
import Derived.Test.YtkbcogaodnmdoaaBase
import Derived.Test.YtkbcogaodnmdoaaMaps
import Derived.Test.YtkbcogaodnmdoaaKeys
import Derived.Test.YtkbcogaodnmdoaaS1
import Derived.Test.YtkbcogaodnmdoaaS5
import Derived.Test.YtkbcogaodnmdoaaS12
import Derived.Test.YtkbcogaodnmdoaaS14
import Derived.Test.YtkbcogaodnmdoaaV
import Derived.Test.YtkbcogaodnmdoaaV2
import Derived.Test.YtkbcogaodnmdoaaTab
import Derived.Test.YtkbcogaodnmdoaaE1
import Derived.Test.YtkbcogaodnmdoaaE2
import Derived.Test.YtkbcogaodnmdoaaE3
import Derived.Test.YtkbcogaodnmdoaaE4
import Derived.Test.YtkbcogaodnmdoaaE5
import Derived.Test.YtkbcogaodnmdoaaE6
import Derived.Test.YtkbcogaodnmdoaaE7
import Derived.Test.YtkbcogaodnmdoaaE8
import Derived.Test.YtkbcogaodnmdoaaE9
import Derived.Test.YtkbcogaodnmdoaaE10
import Derived.Test.YtkbcogaodnmdoaaE11
import Derived.Test.YtkbcogaodnmdoaaE12
import Derived.Test.YtkbcogaodnmdoaaE13
set_option linter.all false
namespace Go.Proofs.Ytkbcogaodnmdoaa
open Go.RowKit
/-! ## All bounds, one behind the other -/
abbrev E3 := Nat × Nat × Int
def rowE (bf : Nat → Nat → Option Int) (i : Nat) : Nat → List E3
  | 0 => []
  | k + 1 => match bf i k with
    | some n => rowE bf i k ++ [(i, k, n)]
    | none => rowE bf i k
def allE (bf : Nat → Nat → Option Int) (N : Nat) : Nat → List E3
  | 0 => []
  | i + 1 => allE bf N i ++ rowE bf i N
theorem rowE_pre (bf : Nat → Nat → Option Int) (i : Nat) {k : Nat} : ∀ n, k ≤ n → rowE bf i k <+: rowE bf i n
  | 0, h => by obtain rfl : k = 0 := by omega
               exact List.prefix_refl _
  | n + 1, h => by
    rcases Nat.lt_or_ge k (n + 1) with h1 | h1
    · refine (rowE_pre bf i n (by omega)).trans ?_
      rw [rowE]
      cases bf i n with
      | none => exact List.prefix_refl _
      | some x => exact List.prefix_append _ _
    · obtain rfl : k = n + 1 := by omega
      exact List.prefix_refl _
theorem allE_pre (bf : Nat → Nat → Option Int) (N : Nat) {i : Nat} : ∀ n, i ≤ n → allE bf N i <+: allE bf N n
  | 0, h => by obtain rfl : i = 0 := by omega
               exact List.prefix_refl _
  | n + 1, h => by
    rcases Nat.lt_or_ge i (n + 1) with h1 | h1
    · exact (allE_pre bf N n (by omega)).trans (List.prefix_append _ _)
    · obtain rfl : i = n + 1 := by omega
      exact List.prefix_refl _
theorem edge_pre (bf : Nat → Nat → Option Int) (N : Nat) {i k : Nat} {n : Int} (hi : i < N) (hk : k < N) (h : bf i k = some n) : (allE bf N i ++ rowE bf i k) ++ [(i, k, n)] <+: allE bf N N := by
  have h1 : (allE bf N i ++ rowE bf i k) ++ [(i, k, n)] = allE bf N i ++ rowE bf i (k + 1) := by rw [rowE, h, List.append_assoc]
  rw [h1]
  refine List.IsPrefix.trans ?_ (allE_pre bf N N (show i + 1 ≤ N by omega))
  rw [allE]
  exact (List.prefix_append_right_inj _).2 (rowE_pre bf i N (by omega))
def encE (x : E3) : List Value := [pairE ((x.1 : Int), (x.2.1 : Int)), .int .i64 x.2.2]
section
variable {P : Program} {κ : Type} [DecidableEq κ] {enc : κ → Value} {kt t et : TypeId} {w0 : World} {n : Nat} {ds : List Deferred} {ops : List Oper} {o : Oper} {os : List Oper} {ks : List Kind} {ts : TS} {A : List Chunk} {K : TS → List Chunk → Prop} {d : Tmp} {x y : Operand} {b : Nat} {m : κ → Option Value}
theorem ot_look_no {zv : Value} {k : κ} (hn : m k = none) (Ke : KeyEnc P kt enc) (ht : P.underlying t = some (.map kt et)) (hzv : ∀ w, (zeroValue et).run P w = .ok zv w) (hop : o.op = .lookup t x y true) (hd : o.dst = some d) (hw : wantB ops ts o = some true) (hx : evT ts x = some (.map (some b))) (hy : evT ts y = some (enc k))
    (hm : MapAt w0 A b enc m) (hk : OT P w0 n ds ops os ks.tail ((d, .tuple #[zv, .bool false]) :: ts) A K) : OT P w0 n ds ops (o :: os) ks ts A K :=
  ot_lookF_ok (k := k) Ke ht hzv hop hd hw hx hy hm (by rw [hn]; exact hk)
theorem ot_look_yes {zv v : Value} {k : κ} (hn : m k = some v) (Ke : KeyEnc P kt enc) (ht : P.underlying t = some (.map kt et)) (hzv : ∀ w, (zeroValue et).run P w = .ok zv w) (hop : o.op = .lookup t x y true) (hd : o.dst = some d) (hw : wantB ops ts o = some true) (hx : evT ts x = some (.map (some b))) (hy : evT ts y = some (enc k))
    (hm : MapAt w0 A b enc m) (hk : OT P w0 n ds ops os ks.tail ((d, .tuple #[v, .bool true]) :: ts) A K) : OT P w0 n ds ops (o :: os) ks ts A K :=
  ot_lookF_ok (k := k) Ke ht hzv hop hd hw hx hy hm (by rw [hn]; exact hk)
end
section
variable (rlo rhi : Int) (L : Nat) (Al : Option Addr) (c : Nat) (S : List (List T3)) (bf : Nat → Nat → Option Int) (N : Nat) (gt gm : Nat) (B : Option Addr) (cap : Nat)
def NeedT (Bs : Nat) (w0 : World) (R : List Chunk) : Prop := ∀ W, St w0 R W → W.cell? ⟨Bs, 0, none⟩ = some (.pointer (some ⟨gt, 0, none⟩)) ∧ TongueAt rlo rhi L Al c S (resM bf N) gt gm B cap W
set_option maxHeartbeats 1000000 in
set_option maxRecDepth 20000 in
theorem bounds_it (Bs : Nat) (hN : N = 1 + L + S.flatten.length) (hN2 : N ≤ 1000) : ItT Try.prog 86 [] [.pointer (some ⟨Bs, 0, none⟩)] encE (NeedT rlo rhi L Al c S bf N gt gm B cap Bs) (allE bf N N) := by
  intro w0 l Jc Jx R W hNd hY h0 hS
  generalize hP : (fun (e : Ending) (W' : World) => (∃ v, e = .returned v) ∧ ((∃ R', Jc (allE bf N N) R' ∧ St w0 R' W') ∨ ∃ pre R', Jx pre R' ∧ St w0 R' W')) = POST
  have hdone : ∀ R' v W', Jc (allE bf N N) R' → St w0 R' W' → POST (.returned v) W' := fun R' v W' hJ hS => by
    rw [← hP]; exact ⟨⟨v, rfl⟩, .inl ⟨R', hJ, hS⟩⟩
  have hstop : ∀ pre R' v W', Jx pre R' → St w0 R' W' → POST (.returned v) W' := fun pre R' v W' hJ hS => by
    rw [← hP]; exact ⟨⟨v, rfl⟩, .inr ⟨pre, R', hJ, hS⟩⟩
  clear hP
  have hBs : ∀ pre R', Jc pre R' → CellAt w0 R' Bs 0 (.pointer (some ⟨gt, 0, none⟩)) := fun pre R' hJ w hs => (hNd _ _ hJ w hs).1
  have hnm : ∀ pre R', Jc pre R' → ∀ w1, St w0 R' w1 → Calls Try.prog 72 #[.pointer (some ⟨gt, 0, none⟩)] w1 fun e w' => e = .returned (.int .i64 (N : Int)) ∧ Below w1.heap.size w1 w' := fun pre R' hJ w1 hs => by
    rw [hN]
    exact namesP_any rlo rhi L Al c S _ gt gm B cap w1 (hNd _ _ hJ w1 hs).2 (by omega) (by omega)
  have hcl : ∀ pre R', Jc pre R' → ∀ {j u}, (tongueC rlo rhi L Al S.length c (.slice B S.flatten.length cap) gm)[j]? = some u → CellAt w0 R' gt j u := fun pre R' hJ j u hu w hs => (hNd _ _ hJ w hs).2.cell j u hu
  have hmp : ∀ pre R', Jc pre R' → MapAt w0 R' gm pairE (resM bf N) := fun pre R' hJ w hs => (hNd _ _ hJ w hs).2.map
  have b0 := hBs _ _ h0
  have n0 := hnm _ _ h0
  refine fn_v Try.tabOk (n := 40) (A := R) Try.func86 rfl rfl (Nat.le_of_ble_eq_true rfl) hS ?_
  ((try first | apply tr_v Try.tabOk | apply ot_v Try.tabOk); (conv => whnf); (repeat ((first | (apply VCall.q; kernel_rfl; (focus (intro w1 hs; first | with_reducible apply n0 w1 hs))) | (apply VLd.mk; (focus ((repeat (first | ((with_reducible apply ld_blk); exact rfl) | ((with_reducible apply ld_row); exact rfl) | ((with_reducible apply ld_row0); exact rfl) | (with_reducible assumption) | (with_reducible exact CellAt.base (by assumption)) | (with_reducible apply ld_skip))); done)))); (conv => whnf))); try (first | apply VStop.mk | apply VCall.stop))
  refine v_loop (fun gm' ds ts A => ds = [] ∧ ∃ i, i + gm' = N ∧ Jc (allE bf N i) A ∧ ts = [(0, .func (.yield l) #[] #[]), (1, .pointer (some ⟨Bs, 0, none⟩)), (8, .int .i64 (N : Int)), (9, .int .i64 (i : Int))]) N
    (l := [(0, _), (1, _), (8, _), (9, _)]) (B := _) ?_ (List.Sublist.refl _) ⟨rfl, 0, by omega, h0, rfl⟩ ?_
  · exact ⟨rfl, rfl, rfl, rfl, trivial⟩
  rintro gm' ds ts A ⟨rfl, i, hi, hJ, rfl⟩
  by_cases hlti : i < N
  rotate_left
  · obtain rfl : i = N := by omega
    ((try first | apply tr_v Try.tabOk | apply ot_v Try.tabOk); (conv => whnf); (repeat ((first | apply VBr.f | (apply v_f; omega)); (conv => whnf))); try (first | apply VStop.mk | apply VCall.stop))
    (apply VRet.mk)
    exact ret0 (by first | exact .inl rfl | exact .inr rfl) rfl fun w hs => hdone _ _ _ hJ hs
  have b1 := hBs _ _ hJ
  have n1 := hnm _ _ hJ
  ((try first | apply tr_v Try.tabOk | apply ot_v Try.tabOk); (conv => whnf); (repeat ((first | (apply VCall.q; kernel_rfl; (focus (intro w1 hs; first | with_reducible apply n1 w1 hs))) | (apply VLd.mk; (focus ((repeat (first | ((with_reducible apply ld_blk); exact rfl) | ((with_reducible apply ld_row); exact rfl) | ((with_reducible apply ld_row0); exact rfl) | (with_reducible assumption) | (with_reducible exact CellAt.base (by assumption)) | (with_reducible apply ld_skip))); done))) | apply VBr.t | (apply v_t; omega)); (conv => whnf))); try (first | apply VStop.mk | apply VCall.stop))
  refine v_loop (fun gm'' ds ts A => ds = [] ∧ ∃ k, k + gm'' = N ∧ Jc (allE bf N i ++ rowE bf i k) A ∧ ts = [(0, .func (.yield l) #[] #[]), (1, .pointer (some ⟨Bs, 0, none⟩)), (3, .int .i64 (i : Int)), (8, .int .i64 (N : Int)), (9, .int .i64 (i : Int)), (13, .int .i64 (N : Int)), (14, .int .i64 (k : Int))]) N
    (l := [(0, _), (1, _), (3, _), (8, _), (9, _), (13, _), (14, _)]) (B := _) ?_ (List.Sublist.refl _) ⟨rfl, 0, by omega, by rw [rowE, List.append_nil]; exact hJ, rfl⟩ ?_
  · exact ⟨rfl, rfl, rfl, rfl, rfl, rfl, rfl, trivial⟩
  clear hJ b1 n1 b0 n0
  rintro gm'' ds ts A ⟨rfl, k, hk, hJ, rfl⟩
  by_cases hltk : k < N
  rotate_left
  · obtain rfl : k = N := by omega
    ((try first | apply tr_v Try.tabOk | apply ot_v Try.tabOk); (conv => whnf); (repeat ((first | (apply VRng.mk; omega) | apply VBr.f | (apply v_f; omega)); (conv => whnf))); try (first | apply VStop.mk | apply VCall.stop))
    exact v_rnd (gm' - 1) (by omega) (l := [(0, _), (1, _), (8, _), (9, _)]) (B := _) ⟨rfl, rfl, rfl, rfl, trivial⟩ (List.Sublist.refl _) ⟨rfl, i + 1, by omega, hJ, rfl⟩
  have b1 := hBs _ _ hJ
  have c1 : ∀ {j u}, (tongueC rlo rhi L Al S.length c (.slice B S.flatten.length cap) gm)[j]? = some u → CellAt w0 A gt j u := hcl _ _ hJ
  have m1 := hmp _ _ hJ
  have hlook := resM_nat bf N i k
  rw [if_pos ⟨hlti, hltk⟩] at hlook
  cases hv : bf i k with
  | none =>
    rw [hv] at hlook
    ((try first | apply tr_v Try.tabOk | apply ot_v Try.tabOk); (conv => whnf); (repeat ((first | ((first | apply VStop.mk | apply VCall.stop); (first | (refine ot_look_no (k := ((i : Int), (k : Int))) hlook pairK mapT zv2 rfl rfl rfl rfl rfl m1 ?_)); try first | apply ot_v Try.tabOk | apply tr_v Try.tabOk) | (apply VLd.mk; exact c1 rfl) | (apply VLd.mk; (focus ((repeat (first | ((with_reducible apply ld_blk); exact rfl) | ((with_reducible apply ld_row); exact rfl) | ((with_reducible apply ld_row0); exact rfl) | (with_reducible assumption) | (with_reducible exact CellAt.base (by assumption)) | (with_reducible apply ld_skip))); done))) | (apply VRng.mk; omega) | apply VBr.t | apply VBr.f | (apply v_t; omega)); (conv => whnf))); try (first | apply VStop.mk | apply VCall.stop))
    exact v_rnd (gm'' - 1) (by omega) (l := [(0, _), (1, _), (3, _), (8, _), (9, _), (13, _), (14, _)]) (B := _) ⟨rfl, rfl, rfl, rfl, rfl, rfl, rfl, trivial⟩ (List.Sublist.refl _) ⟨rfl, k + 1, by omega, by rw [rowE, hv]; exact hJ, rfl⟩
  | some x =>
    rw [hv] at hlook
    have hpre := edge_pre bf N hlti hltk hv
    ((try first | apply tr_v Try.tabOk | apply ot_v Try.tabOk); (conv => whnf); (repeat ((first | ((first | apply VStop.mk | apply VCall.stop); (first | (refine ot_look_yes (k := ((i : Int), (k : Int))) hlook pairK mapT zv2 rfl rfl rfl rfl rfl m1 ?_)); try first | apply ot_v Try.tabOk | apply tr_v Try.tabOk) | (apply VLd.mk; exact c1 rfl) | (apply VLd.mk; (focus ((repeat (first | ((with_reducible apply ld_blk); exact rfl) | ((with_reducible apply ld_row); exact rfl) | ((with_reducible apply ld_row0); exact rfl) | (with_reducible assumption) | (with_reducible exact CellAt.base (by assumption)) | (with_reducible apply ld_skip))); done))) | apply VBr.t | (apply v_t; omega)); (conv => whnf))); try (first | apply VStop.mk | apply VCall.stop))
    refine ot_yield (B := []) hY rfl rfl rfl rfl rfl (.cons rfl (.cons rfl .nil)) hpre hJ rfl ?_ ?_
    · intro R' hJ'
      dsimp only [List.nil_append]
      ((try first | apply tr_v Try.tabOk | apply ot_v Try.tabOk); (conv => whnf); (repeat ((first | (apply VRng.mk; omega) | apply VBr.t | apply VBr.f); (conv => whnf))); try (first | apply VStop.mk | apply VCall.stop))
      exact v_rnd (gm'' - 1) (by omega) (l := [(0, _), (1, _), (3, _), (8, _), (9, _), (13, _), (14, _)]) (B := _) ⟨rfl, rfl, rfl, rfl, rfl, rfl, rfl, trivial⟩ (List.Sublist.refl _) ⟨rfl, k + 1, by omega, by rw [rowE, hv, ← List.append_assoc]; exact hJ', rfl⟩
    · intro R' hJ'
      dsimp only [List.nil_append]
      ((try first | apply tr_v Try.tabOk | apply ot_v Try.tabOk); (conv => whnf); (repeat ((first | apply VBr.t); (conv => whnf))); try (first | apply VStop.mk | apply VCall.stop))
      (apply VRet.mk)
      exact ret0 (by first | exact .inl rfl | exact .inr rfl) rfl fun w hs => hstop _ _ _ _ hJ' hs
theorem bounds_any (w : World) : Calls Try.prog 62 #[.pointer (some ⟨gt, 0, none⟩)] w fun e w' => ∃ Bs : Nat, e = .returned (.func (.func 86) #[] #[.pointer (some ⟨Bs, 0, none⟩)]) ∧ St w [.blk Bs 81 [.pointer (some ⟨gt, 0, none⟩)]] w' := by
  refine fn_v Try.tabOk (n := 4) (A := []) Try.func62 rfl rfl (Nat.le_of_ble_eq_true rfl) (St.nil (Below.refl _ _)) ?_
  ((try first | apply tr_v Try.tabOk | apply ot_v Try.tabOk); (conv => whnf); (repeat ((first | (apply VNew.mk; intro g hg)); (conv => whnf))); try (first | apply VStop.mk | apply VCall.stop))
  (apply VRet.mk)
  refine ret1 (by first | exact .inl rfl | exact .inr rfl) rfl (by exact rv_tmp rfl) ?_
  exact fun w hs => ⟨g, rfl, hs⟩
end
/-! ## The sum of a round; a tongue without a taste -/
/-- The bounds of a round, from the last name on. -/
def edgeBack (bd : Nat → Nat → Option Int) (l : List Int) : Nat → Option Int
  | 0 => bd (iAt l (l.length - 1)).toNat (iAt l 0).toNat
  | k + 1 => bd (iAt l k).toNat (iAt l (k + 1)).toNat
theorem sumUpto_rot {f g : Nat → Option Int} {n : Nat} (h0 : g 0 = f n) (h1 : ∀ k, k < n → g (k + 1) = f k) : ∀ j, j ≤ n → sumUpto g (j + 1) = match f n, sumUpto f j with
    | some a, some b => some (a + b)
    | _, _ => none
  | 0, _ => by
    rw [sumUpto, sumUpto, sumUpto, h0]
    cases f n with
    | none => rfl
    | some a => simp
  | j + 1, hj => by
    rw [sumUpto, sumUpto_rot h0 h1 j (by omega), h1 j (by omega), sumUpto]
    cases f n with
    | none => rfl
    | some a =>
      cases sumUpto f j with
      | none => rfl
      | some b =>
        cases f j with
        | none => rfl
        | some c => simp only [Option.some.injEq]; omega
theorem sum_back (bd : Nat → Nat → Option Int) (l : List Int) (hl : l.length ≠ 0) : sumUpto (edgeBack bd l) l.length = sumUpto (edgeAt bd l) l.length := by
  obtain ⟨n, hn⟩ : ∃ n, l.length = n + 1 := ⟨l.length - 1, by omega⟩
  have h := sumUpto_rot (f := edgeAt bd l) (g := edgeBack bd l) (n := n) (by unfold edgeAt edgeBack; rw [hn, Nat.mod_self]; rfl) (fun k hk => by unfold edgeAt edgeBack; rw [hn, Nat.mod_eq_of_lt (by omega)]) n (Nat.le_refl n)
  rw [hn, h, sumUpto]
  cases edgeAt bd l n <;> cases sumUpto (edgeAt bd l) n <;> first | rfl | (simp only [Option.some.injEq]; omega)
def sumV (o : Option Int) : Value := .tuple #[.int .i64 (o.getD 0), .bool o.isSome]
section
variable (rlo rhi : Int) (L : Nat) (Al : Option Addr) (c : Nat) (S : List (List T3)) (bf : Nat → Nat → Option Int) (N : Nat) (gt gm : Nat) (B : Option Addr) (cap : Nat) (w : World) (hT : TongueAt rlo rhi L Al c S (resM bf N) gt gm B cap w)
include hT
set_option maxHeartbeats 1000000 in
set_option maxRecDepth 20000 in
theorem sum_any (hbf : ∀ i k x, i < N → k < N → bf i k = some x → -1000 ≤ x ∧ x ≤ 1000) (Bs : Option Addr) (cs : Nat) (l : List Int) (hs0 : Reads w w.heap.size 1 Bs l.length (i64s l)) (hl1 : 1 ≤ l.length) (hl2 : l.length ≤ 30) (hin : ∀ k, k < l.length → 0 ≤ iAt l k ∧ iAt l k < N) :
    Calls Try.prog 73 #[.pointer (some ⟨gt, 0, none⟩), .slice Bs l.length cs] w fun e w' => e = .returned (sumV (sumUpto (edgeBack bf l) l.length)) ∧ Below w.heap.size w w' := by
  have c1 : ∀ {j u}, (tongueC rlo rhi L Al S.length c (.slice B S.flatten.length cap) gm)[j]? = some u → ∀ A, CellAt w A gt j u := fun hu A => CellAt.base (hT.cell _ _ hu)
  obtain ⟨st, hst⟩ := hT.map
  have m1 : ∀ A, MapAt w A gm pairE (resM bf N) := mapAt_base hst hT.mlt
  obtain ⟨bs, os, rfl, _⟩ := hs0.2 (by omega)
  have hsc := fun k (h : k < l.length) => iAt_cell hs0 h
  have hlast := hsc (l.length - 1) (by omega)
  refine fn_v Try.tabOk (n := 43) (A := []) Try.func73 rfl rfl (Nat.le_of_ble_eq_true rfl) (St.nil (Below.refl _ _)) ?_
  ((try first | apply tr_v Try.tabOk | apply ot_v Try.tabOk); (conv => whnf); (repeat ((first | (apply VIx.mk (j := l.length - 1); omega; omega) | (apply VLd.mk; exact hlast _) | (apply VRng.mk; omega)); (conv => whnf))); try (first | apply VStop.mk | apply VCall.stop))
  refine v_loop (fun gm' ds ts A => ds = [] ∧ ∃ (k : Nat) (s : Int), k + gm' = l.length ∧ sumUpto (edgeBack bf l) k = some s ∧ -(1000 * (k : Int)) ≤ s ∧ s ≤ 1000 * (k : Int) ∧ A = [] ∧ ts = [(0, .pointer (some ⟨gt, 0, none⟩)), (6, .int .i64 s), (7, .int .i64 (if k = 0 then iAt l (l.length - 1) else iAt l (k - 1))), (18, .slice (some ⟨bs, os, none⟩) l.length cs), (19, .int .i64 (l.length : Int)), (20, .int .i64 (k : Int))]) l.length
    (l := [(0, _), (6, _), (7, _), (18, _), (19, _), (20, _)]) (B := _) ?_ (List.Sublist.refl _) ⟨rfl, 0, 0, by omega, rfl, by omega, by omega, rfl, rfl⟩ ?_
  · exact ⟨rfl, rfl, rfl, rfl, rfl, rfl, trivial⟩
  rintro gm' ds ts A ⟨rfl, k, s, hk, hsum, hs1, hs2, rfl, rfl⟩
  by_cases hltk : k < l.length
  rotate_left
  · obtain rfl : k = l.length := by omega
    rw [hsum]
    ((try first | apply tr_v Try.tabOk | apply ot_v Try.tabOk); (conv => whnf); (repeat ((first | apply VBr.f | (apply v_f; omega)); (conv => whnf))); try (first | apply VStop.mk | apply VCall.stop))
    (apply VRet.mk)
    refine ret2 (by first | exact .inl rfl | exact .inr rfl) rfl (by exact rv_tmp rfl) (by exact rv_tmp rfl) ?_
    exact fun w h => ⟨rfl, h.base⟩
  have hck := hsc k hltk
  have hik := hin k hltk
  have hil := hin (if k = 0 then l.length - 1 else k - 1) (by split <;> omega)
  have hed : edgeBack bf l k = bf (iAt l (if k = 0 then l.length - 1 else k - 1)).toNat (iAt l k).toNat := by
    cases k with
    | zero => rfl
    | succ k => rfl
  rw [show (if k = 0 then iAt l (l.length - 1) else iAt l (k - 1)) = iAt l (if k = 0 then l.length - 1 else k - 1) by split <;> rfl]
  generalize (if k = 0 then l.length - 1 else k - 1) = p at *
  obtain ⟨x1, hx1⟩ : ∃ x1 : Nat, iAt l p = x1 := ⟨(iAt l p).toNat, by omega⟩
  obtain ⟨x2, hx2⟩ : ∃ x2 : Nat, iAt l k = x2 := ⟨(iAt l k).toNat, by omega⟩
  rw [hx1, hx2, Int.toNat_natCast, Int.toNat_natCast] at hed
  rw [hx1] at hil ⊢
  rw [hx2] at hck hik
  have hlook := resM_nat bf N x1 x2
  rw [if_pos ⟨by omega, by omega⟩] at hlook
  cases hv : bf x1 x2 with
  | none =>
    rw [hv] at hed hlook
    rw [sumUpto_none hed _ hltk]
    ((try first | apply tr_v Try.tabOk | apply ot_v Try.tabOk); (conv => whnf); (repeat ((first | ((first | apply VStop.mk | apply VCall.stop); (first | (refine ot_look_no (k := ((x1 : Int), (x2 : Int))) hlook pairK mapT zv2 rfl rfl rfl rfl rfl (m1 _) ?_)); try first | apply ot_v Try.tabOk | apply tr_v Try.tabOk) | (apply VLd.mk; first | exact hck _ | exact c1 rfl _) | apply VBr.t | (apply v_t; omega) | (apply VIx.mk; exact rfl; omega)); (conv => whnf))); try (first | apply VStop.mk | apply VCall.stop))
    (apply VRet.mk)
    refine ret2 (by first | exact .inl rfl | exact .inr rfl) rfl (by exact rv_tmp rfl) (by exact rv_tmp rfl) ?_
    exact fun w h => ⟨rfl, h.base⟩
  | some x =>
    have hx := hbf x1 x2 x (by omega) (by omega) hv
    rw [hv] at hed hlook
    ((try first | apply tr_v Try.tabOk | apply ot_v Try.tabOk); (conv => whnf); (repeat ((first | ((first | apply VStop.mk | apply VCall.stop); (first | (refine ot_look_yes (k := ((x1 : Int), (x2 : Int))) hlook pairK mapT zv2 rfl rfl rfl rfl rfl (m1 _) ?_)); try first | apply ot_v Try.tabOk | apply tr_v Try.tabOk) | (apply VLd.mk; first | exact hck _ | exact c1 rfl _) | (apply VRng.mk; omega) | apply VBr.t | apply VBr.f | (apply v_t; omega) | (apply VIx.mk; exact rfl; omega)); (conv => whnf))); try (first | apply VStop.mk | apply VCall.stop))
    exact v_rnd (gm' - 1) (by omega) (l := [(0, _), (6, _), (7, _), (18, _), (19, _), (20, _)]) (B := _) ⟨rfl, rfl, rfl, rfl, rfl, rfl, trivial⟩ (List.Sublist.refl _) ⟨rfl, k + 1, s + x, by omega, sumUpto_some hsum hed, by omega, by omega, rfl, by rw [if_neg (by omega), Nat.add_sub_cancel, hx2]; rfl⟩
end
section
variable (rlo rhi : Int) (L : Nat) (Al : Option Addr) (c : Nat) (S : List (List T3)) {m : Int × Int → Option Value} {w0 w : World} {A A1 A2 : List Chunk}
set_option maxHeartbeats 1000000 in
set_option maxRecDepth 20000 in
theorem without_any (x : TongueX) (hs : St w0 A w) (hl : L ≤ 1000) (ht : S.flatten.length ≤ 1000) (k q : Nat) (hk : k < S.flatten.length) (hq : (tasteAt S k).1 = q) (hq2 : q ≤ 1000)
    (h1 : .blk x.gt 86 (tongueC rlo rhi L Al S.length c (.slice x.B S.flatten.length x.cap) x.gm) ∈ A) (h1' : .blk x.gt 86 (tongueC rlo rhi L Al S.length c (.slice x.B S.flatten.length x.cap) x.gm) ∈ A1) (h2 : .own (.slice x.B S.flatten.length x.cap) 67 3 S.flatten.length (saidCells S.flatten) ∈ A)
    (hu1 : Upd (.prd x.gm (MapP pairE m x.st)) (.prd x.gm (MapP pairE (delM m (((k + L + 1 : Nat) : Int), (q : Int) + 1)) [])) A A1)
    (hu2 : Upd (.prd x.gm (MapP pairE (delM m (((k + L + 1 : Nat) : Int), (q : Int) + 1)) [])) (.prd x.gm (MapP pairE (delM (delM m (((k + L + 1 : Nat) : Int), (q : Int) + 1)) ((q : Int) + 1, ((k + L + 1 : Nat) : Int))) [])) A1 A2) :
    Calls Try.prog 78 #[.pointer (some ⟨x.gt, 0, none⟩), .int .i64 (k : Int)] w fun e w' => e = .returned (.tuple #[]) ∧ St w0 A2 w' := by
  have c1 : ∀ {j u}, (tongueC rlo rhi L Al S.length c (.slice x.B S.flatten.length x.cap) x.gm)[j]? = some u → CellAt w0 A x.gt j u := fun hu => cell_blk h1 hu
  have c1' : ∀ {j u}, (tongueC rlo rhi L Al S.length c (.slice x.B S.flatten.length x.cap) x.gm)[j]? = some u → CellAt w0 A1 x.gt j u := fun hu => cell_blk h1' hu
  obtain ⟨gt, gm, B, cap, st⟩ := x
  dsimp only at *
  obtain ⟨B', c', he, hr⟩ := hs.own_reads h2
  cases he
  have hB : ∃ b, B = some ⟨b, 0, none⟩ := by
    obtain ⟨B2, c2, e2, h3⟩ := own_form (hs.all _ h2)
    cases e2
    exact h3 (by omega)
  obtain ⟨b, rfl⟩ := hB
  have hx0 : CellAt w0 A b (0 + k * 3 + 0) (.int .i64 (q : Int)) := by
    rw [← hq]
    exact (own_said hk h2).cell rfl
  have ek : ((k + L + 1 : Nat) : Int) = (L : Int) + 1 + k := by omega
  rw [ek] at hu1 hu2
  refine fn_v Try.tabOk (n := 37) (A := A) Try.func78 rfl rfl (Nat.le_of_ble_eq_true rfl) hs ?_
  ((try first | apply tr_v Try.tabOk | apply ot_v Try.tabOk); (conv => whnf); (repeat ((first | ((first | apply VStop.mk | apply VCall.stop); (first | refine tr_region_lex (id := 0) (by kernel_rfl) [.rd, .rd, .rd, .rd, .rd, .rd, .rd, .rd, .rd, .rd, .rd, .rd, .rd, .rd, .rd, .rd, .rd, .rd, .rd] rfl (by kernel_rfl) ?_ | (refine ot_delF (k := ((L : Int) + 1 + k, (q : Int) + 1)) pairK mapT rfl rfl rfl rfl rfl rfl hu1 ?_) | (refine ot_delF (k := ((q : Int) + 1, (L : Int) + 1 + k)) pairK mapT rfl rfl rfl rfl rfl rfl hu2 ?_)); try first | apply ot_v Try.tabOk | apply tr_v Try.tabOk) | (apply VIx.mk (j := k); omega; omega) | (apply VLd.mk; first | exact c1 rfl | exact c1' rfl | exact hx0) | (apply VRng.mk; omega)); (conv => whnf))); try (first | apply VStop.mk | apply VCall.stop))
  (apply VRet.mk)
  exact ret0 (by first | exact .inl rfl | exact .inr rfl) rfl fun w hs => ⟨rfl, hs⟩
end
theorem res_del (rlo rhi : Int) (L : Nat) (S : List (List T3)) (N k q : Nat) (hN : N = S.flatten.length + L + 1) (hk : k < S.flatten.length) (hq : (tasteAt S k).1 = q) (hqL : q < L) :
    delM (delM (resM (bnd rlo rhi L S (-1)) N) (((k + L + 1 : Nat) : Int), (q : Int) + 1)) ((q : Int) + 1, ((k + L + 1 : Nat) : Int)) = resM (bnd rlo rhi L S k) N := by
  funext ⟨a, b⟩
  simp only [delM, Prod.mk.injEq]
  by_cases hab : 0 ≤ a ∧ 0 ≤ b
  rotate_left
  · rw [if_neg (by omega), if_neg (by omega)]
    unfold resM
    rw [if_neg (by dsimp only; omega), if_neg (by dsimp only; omega)]
  obtain ⟨x, rfl⟩ : ∃ x : Nat, a = x := ⟨a.toNat, by omega⟩
  obtain ⟨y, rfl⟩ : ∃ y : Nat, b = y := ⟨b.toNat, by omega⟩
  rw [resM_nat, resM_nat]
  by_cases hxy : x < N ∧ y < N
  rotate_left
  · rw [if_neg (by omega), if_neg (by omega), if_neg hxy, if_neg hxy]
  rw [if_pos hxy, if_pos hxy]
  by_cases h1 : x = q + 1 ∧ y = k + L + 1
  · rw [if_pos (by omega)]
    obtain ⟨rfl, rfl⟩ := h1
    unfold bnd
    rw [if_neg (by omega), if_pos (by omega), if_neg (by omega), if_neg (by omega), show k + L + 1 - L - 1 = k by omega, if_neg (by omega)]; rfl
  rw [if_neg (by omega)]
  by_cases h2 : x = k + L + 1 ∧ y = q + 1
  · rw [if_pos (by omega)]
    obtain ⟨rfl, rfl⟩ := h2
    unfold bnd
    rw [if_neg (by omega), if_neg (by omega), if_neg (by omega), if_pos (by omega), show k + L + 1 - L - 1 = k by omega, if_neg (by omega)]; rfl
  rw [if_neg (by omega)]
  congr 1
  unfold bnd
  by_cases hx0 : x = 0
  · rw [if_pos hx0, if_pos hx0]
  rw [if_neg hx0, if_neg hx0]
  by_cases hxL : x ≤ L
  · rw [if_pos hxL, if_pos hxL]
    by_cases hy0 : y = 0
    · rw [if_pos hy0, if_pos hy0]
    rw [if_neg hy0, if_neg hy0]
    by_cases hyL : y ≤ L
    · rw [if_pos hyL, if_pos hyL]
    rw [if_neg hyL, if_neg hyL]
    by_cases hyk : y - L - 1 = k
    · rw [hyk, if_neg (by omega), if_neg (by omega)]
    · by_cases hc : (tasteAt S (y - L - 1)).1 = (x : Int) - 1
      · rw [if_pos ⟨by omega, hc⟩, if_pos ⟨by omega, hc⟩]
      · rw [if_neg (fun h => hc h.2), if_neg (fun h => hc h.2)]
  rw [if_neg hxL, if_neg hxL]
  by_cases hy0 : y = 0
  · rw [if_pos hy0, if_pos hy0]
  rw [if_neg hy0, if_neg hy0]
  by_cases hyL : y ≤ L
  · rw [if_pos hyL, if_pos hyL]
    by_cases hxk : x - L - 1 = k
    · rw [hxk, if_neg (by omega), if_neg (by omega)]
    · by_cases hc : (tasteAt S (x - L - 1)).1 = (y : Int) - 1
      · rw [if_pos ⟨by omega, hc⟩, if_pos ⟨by omega, hc⟩]
      · rw [if_neg (fun h => hc h.2), if_neg (fun h => hc h.2)]
  · rw [if_neg hyL, if_neg hyL]
end Go.Proofs.Ytkbcogaodnmdoaa
