/- between, split: lemmas for the rows of this seat. No conditions. -/
import Derived.Test.YtkbcogaodnmdoaaProg
import Derived.WalkKit
import Derived.WalkSpells
import Derived.WalkLawsBesides
import Derived.Lib.Hide
import Derived.Deep.AppendLies
import Derived.Deep.Draws
import Derived.Maps.AppendAt
import Derived.RegionTactic
import Derived.OwnWalk
import Derived.Deep.QuietTactic
import Derived.BigQuiet
import Derived.Deep.DeepFit
import Derived.Deep.LoopGhost
import Derived.Deep.DeepMust
import Derived.Deep.DeepCutAuto
import Derived.StillTail
import Derived.Deep.Quiet
import Derived.Deep.RegionHeld3
import Derived.Deep.RegionWith
import Derived.Deep.RegionLaw
import Derived.Maps.OwnOps
import Derived.Maps.OwnSet
import Derived.Maps.OwnRows
import Derived.Maps.RangeWalk
import Derived.Carry
import Derived.Test.YtkbcogaodnmdoaaBase
import Derived.Test.YtkbcogaodnmdoaaMaps
import Derived.Test.YtkbcogaodnmdoaaKeys
import Derived.Test.YtkbcogaodnmdoaaS1
import Derived.Test.YtkbcogaodnmdoaaS5
import Derived.Test.YtkbcogaodnmdoaaS12
import Derived.Test.YtkbcogaodnmdoaaS14
import Derived.Test.YtkbcogaodnmdoaaV
import Derived.Test.YtkbcogaodnmdoaaV2
import Derived.Test.YtkbcogaodnmdoaaV3
import Derived.Test.YtkbcogaodnmdoaaTab
import Derived.Test.YtkbcogaodnmdoaaE1
import Derived.Test.YtkbcogaodnmdoaaE2
import Derived.Test.YtkbcogaodnmdoaaE3
import Derived.Test.YtkbcogaodnmdoaaE4
import Derived.Test.YtkbcogaodnmdoaaE5
import Derived.Test.YtkbcogaodnmdoaaE6
import Derived.Test.YtkbcogaodnmdoaaE7
import Derived.Test.YtkbcogaodnmdoaaE8
import Derived.Test.YtkbcogaodnmdoaaE9
import Derived.Test.YtkbcogaodnmdoaaE10
import Derived.Test.YtkbcogaodnmdoaaE11
import Derived.Test.YtkbcogaodnmdoaaE12
import Derived.Test.YtkbcogaodnmdoaaE13
import Derived.Test.YtkbcogaodnmdoaaE14
import Derived.Test.YtkbcogaodnmdoaaE15
import Derived.Test.YtkbcogaodnmdoaaE16
import Derived.Test.YtkbcogaodnmdoaaE17
import Derived.Test.YtkbcogaodnmdoaaE18
import Derived.Test.YtkbcogaodnmdoaaE19
import Derived.Laws.Cover3
set_option linter.all false
namespace Go.Proofs.Ytkbcogaodnmdoaa
open Go.RowKit
/-! ## between, split -/
/-- between, plainly. -/
def betweenP (bf : Nat → Nat → Option Int) (N i k : Nat) : Int × Int × Int :=
  match farP bf N i k, farP bf N k i with
  | some hi, some lo => (-lo, hi, 0)
  | _, _ => (0, 0, 17)
theorem farP_bd {bf : Nat → Nat → Option Int} {N : Nat} (hb : BOk bf N) {i k : Nat} {x : Int} (h : farP bf N i k = some x) : -10000000 ≤ x ∧ x ≤ 10000000 := by
  unfold farP at h
  split at h
  · have := farM_bd (E := allE bf N N) i hb.hE3 N k x h
    have h1 := hb.allE_len N
    have h3 := hb.n1
    have h4 : N * N ≤ 19 * 19 := Nat.mul_le_mul h3 h3
    have h5 : N * (allE bf N N).length ≤ 19 * 361 := Nat.mul_le_mul h3 (by omega)
    omega
  · cases h
section
variable (rlo rhi : Int) (L : Nat) (Al : Option Addr) (c : Nat) (S : List (List T3)) (bf : Nat → Nat → Option Int) (N : Nat) (gt gm : Nat) (B : Option Addr) (cap : Nat) (w : World) (hT : TongueAt rlo rhi L Al c S (resM bf N) gt gm B cap w)
include hT
set_option maxHeartbeats 1000000 in
set_option maxRecDepth 20000 in
theorem between_any (hN : N = 1 + L + S.flatten.length) (hb : BOk bf N) (i k : Nat) (hi : i < N) (hk : k < N) :
    Calls Try.prog 69 #[.pointer (some ⟨gt, 0, none⟩), .int .i64 i, .int .i64 k] w fun e w' => e = .returned (rangeV (betweenP bf N i k).1 (betweenP bf N i k).2.1 (betweenP bf N i k).2.2) ∧ Below w.heap.size w w' := by
  have f1 := fun w1 (h : Below w.heap.size w w1) => far_any rlo rhi L Al c S bf N gt gm B cap w1 (hT.grow h) hN hb i k hi hk
  have f2 := fun w1 (h : Below w.heap.size w w1) => far_any rlo rhi L Al c S bf N gt gm B cap w1 (hT.grow h) hN hb k i hk hi
  unfold betweenP sumV at *
  have b1 := fun x => farP_bd hb (i := i) (k := k) (x := x)
  have b2 := fun x => farP_bd hb (i := k) (k := i) (x := x)
  generalize farP bf N i k = x1 at *
  generalize farP bf N k i = x2 at *
  refine fn_v Try.tabOk (n := 40) (A := []) Try.func69 rfl rfl (Nat.le_of_ble_eq_true rfl) (St.nil (Below.refl _ _)) ?_
  cases x1 with
  | none =>
    dsimp only [Option.getD, Option.isSome] at f1 f2
    ((try first | apply tr_v Try.tabOk | apply ot_v Try.tabOk); (conv => whnf); (repeat ((first | (apply VCall.q; kernel_rfl; (focus (intro w1 hs; first | with_reducible apply f1 w1 hs.base | with_reducible apply f2 w1 hs.base))) | apply VBr.t | (apply VNew.mk; intro g hg) | (apply VSt.mk; (focus ((repeat (first | (with_reducible exact At.here) | (with_reducible apply At.there))); done)); exact rfl)); (conv => whnf))); try (first | apply VStop.mk | apply VCall.stop))
    (apply VRet.mk)
    refine ret2 (by first | exact .inl rfl | exact .inr rfl) rfl (by exact rv_row Try.tabOk rfl rfl rfl (by first | exact cells_blk_all (by (repeat (first | exact List.Mem.head _ | assumption | refine List.Mem.tail _ ?_))) | exact cells_row0 (by (repeat (first | exact List.Mem.head _ | assumption | refine List.Mem.tail _ ?_)))) rfl) (by exact rv_tmp rfl) ?_
    exact fun w h => ⟨rfl, h.base⟩
  | some x =>
    have := b1 x rfl
    cases x2 with
    | none =>
      dsimp only [Option.getD, Option.isSome] at f1 f2
      ((try first | apply tr_v Try.tabOk | apply ot_v Try.tabOk); (conv => whnf); (repeat ((first | (apply VCall.q; kernel_rfl; (focus (intro w1 hs; first | with_reducible apply f1 w1 hs.base | with_reducible apply f2 w1 hs.base))) | apply VBr.t | apply VBr.f | (apply VNew.mk; intro g hg) | (apply VSt.mk; (focus ((repeat (first | (with_reducible exact At.here) | (with_reducible apply At.there))); done)); exact rfl)); (conv => whnf))); try (first | apply VStop.mk | apply VCall.stop))
      (apply VRet.mk)
      refine ret2 (by first | exact .inl rfl | exact .inr rfl) rfl (by exact rv_row Try.tabOk rfl rfl rfl (by first | exact cells_blk_all (by (repeat (first | exact List.Mem.head _ | assumption | refine List.Mem.tail _ ?_))) | exact cells_row0 (by (repeat (first | exact List.Mem.head _ | assumption | refine List.Mem.tail _ ?_)))) rfl) (by exact rv_tmp rfl) ?_
      exact fun w h => ⟨rfl, h.base⟩
    | some y =>
      have := b2 y rfl
      dsimp only [Option.getD, Option.isSome] at f1 f2
      ((try first | apply tr_v Try.tabOk | apply ot_v Try.tabOk); (conv => whnf); (repeat ((first | (apply VCall.q; kernel_rfl; (focus (intro w1 hs; first | with_reducible apply f1 w1 hs.base | with_reducible apply f2 w1 hs.base))) | (apply VRng.mk; omega) | apply VBr.f | (apply VNew.mk; intro g hg) | (apply VSt.mk; (focus ((repeat (first | (with_reducible exact At.here) | (with_reducible apply At.there))); done)); exact rfl)); (conv => whnf))); try (first | apply VStop.mk | apply VCall.stop))
      (apply VRet.mk)
      refine ret2 (by first | exact .inl rfl | exact .inr rfl) rfl (by exact rv_row Try.tabOk rfl rfl rfl (by first | exact cells_blk_all (by (repeat (first | exact List.Mem.head _ | assumption | refine List.Mem.tail _ ?_))) | exact cells_row0 (by (repeat (first | exact List.Mem.head _ | assumption | refine List.Mem.tail _ ?_)))) rfl) (by exact rv_tmp rfl) ?_
      exact fun w h => ⟨rfl, h.base⟩
end
section
variable {P : Program} {tab : TT} {w0 w : World} {n : Nat} {r : Option Nat} {ds : List Deferred} {ops : List Oper} {o : Oper} {os : List Oper} {ks : List Kind} {ts : TS} {A : List Chunk} {K : TS → List Chunk → Prop} {Q : PostT} {d : Tmp} {x y : Operand} {t u : TypeId} {i i' : TI}
/-- A slice is compared with nil. -/
theorem ot_eqnil {B : Option Addr} {l c e : Nat} (hT : TabOk P tab) (hi : lookI tab t = some i) (hdd : i.d = .sl e) (hop : o.op = .binOp .eql t x y u) (hd : o.dst = some d) (hw : wantB ops ts o = some true) (hx : evT ts x = some (.slice B l c)) (hy : evT ts y = some (.slice none 0 0))
    (hk : OT P w0 n ds ops os ks.tail ((d, .bool B.isNone) :: ts) A K) : OT P w0 n ds ops (o :: os) ks ts A K :=
  ot_val _ hd hw (fun a w hd' => by
    have h1 := (hT t i hi).sl hdd
    have e0 := run_equal_slice_nil w t e B l c h1
    have e1 : (eqGuard .eql t x y (.slice B l c) (.slice none 0 0)).run P w = .ok () w := by simp [eqGuard, Sem.run_bind]
    have e2 : (binOp .eql t (.slice B l c) (.slice none 0 0)).run P w = .ok (.bool B.isNone) w := by simp [binOp, e0]
    simp only [execOp, hop, hd'.ev hx, hd'.ev hy, Sem.run_bind, e1, e2, Result.andThen_ok, Sem.run_pure]) hk
theorem ot_st {B : List Chunk} (hh : ks.headD .wr = .wr) (hp : ∀ w, St w0 A w → St w0 B w) (h : OT P w0 n ds ops (o :: os) ks ts B K) : OT P w0 n ds ops (o :: os) ks ts A K := by
  unfold OT at h ⊢
  rw [hh] at h ⊢
  exact fun a w hd => h a w ⟨hd.size, hd.slots, hd.ds, hp w hd.st⟩
end
set_option maxRecDepth 20000 in
theorem clone_any (a : Addr) (c : Nat) (l : List Int) (w : World) (h : Reads w w.heap.size 1 (some a) l.length (i64s l)) (hl : l.length ≤ 1000) :
    Calls Try.prog 88 #[.slice (some a) l.length c] w (OwnRet 2 1 l.length (i64s l) w) := by
  refine fn_v Try.tabOk (n := 8) (A := []) Try.func88 rfl rfl (Nat.le_of_ble_eq_true rfl) (St.nil (Below.refl _ _)) ?_
  ((try first | apply tr_v Try.tabOk | apply ot_v Try.tabOk); (conv => whnf); (repeat ((first | ((first | apply VStop.mk | apply VCall.stop); (first | (refine ot_eqnil Try.tabOk rfl rfl rfl rfl rfl rfl rfl ?_)); try first | apply ot_v Try.tabOk | apply tr_v Try.tabOk) | apply VBr.f | (apply VNew.mk; intro g hg)); (conv => whnf))); try (first | apply VStop.mk | apply VCall.stop))
  refine ot_st (B := [.own (.slice (some ⟨g, 0, none⟩) 0 0) 2 1 0 []]) rfl (fun w hs => hs.blk_own (sz := 1) rfl (Nat.zero_le _)) ?_
  refine ot_appendR (sz := 1) (A'v := fun v' => [.own v' 2 1 _ _]) Try.tabOk rfl rfl rfl rfl rfl rfl rfl rfl rfl rfl (by decide) rfl (fun w1 hs => hs.reads h) (fun u hu => ?_) (fun v' => by (repeat (first | exact Upd.here | apply Upd.there))) (by omega) (by decide) (fun v' => ?_)
  · unfold i64s at hu
    obtain ⟨x, _, rfl⟩ := List.mem_map.1 hu
    rfl
  apply ot_v Try.tabOk
  ((try first | apply tr_v Try.tabOk | apply ot_v Try.tabOk); (conv => whnf); try (first | apply VStop.mk | apply VCall.stop))
  (apply VRet.mk)
  refine ret1 (.inr rfl) rfl (by exact rv_tmp rfl) fun w' hs => ?_
  rw [Nat.zero_add, List.nil_append] at hs
  exact own_ret hs (.head _)
theorem range_get (F : Nat → Int) (n j : Nat) : (i64s ((List.range n).map F))[j]? = if j < n then some (.int .i64 (F j)) else none := by
  unfold i64s
  rw [List.getElem?_map, List.getElem?_map]
  split
  · rename_i h; rw [List.getElem?_range h]; rfl
  · rename_i h; rw [List.getElem?_eq_none (by simpa using h)]; rfl
theorem range_reads {w : World} {base b o m : Nat} {F : Nat → Int} (h : Reads w base 1 (some ⟨b, o, none⟩) m (i64s ((List.range m).map F))) {lo n : Nat} (hn : lo + n ≤ m) {ad : Addr} (had : 0 < n → ad = ⟨b, o + lo, none⟩) : Reads w base 1 (some ad) n (i64s ((List.range n).map fun j => F (lo + j))) := by
  refine ⟨by simp [i64s], fun h0 => ?_⟩
  obtain ⟨b', o', he, hlt, hc⟩ := h.2 (by omega)
  cases he
  refine ⟨b, o + lo, by rw [had h0], hlt, fun j u hu => ?_⟩
  rw [range_get] at hu
  split at hu
  · rename_i hj
    have := hc (lo + j) u (by rw [range_get, if_pos (by omega)]; exact hu)
    rwa [Nat.add_assoc]
  · cases hu
/-- split, plainly. -/
def splitR (f : Nat → Option Int) (N L : Nat) : List Int × List Int × Int :=
  if (List.range (N - 1)).all (fun j => (f (j + 1)).isSome) = true then ((List.range L).map fun j => (f (j + 1)).getD 0, (List.range (N - 1 - L)).map fun j => (f (L + j + 1)).getD 0, 0) else ([], [], 17)
theorem splitR_no {f : Nat → Option Int} {N L j : Nat} (hj : j + 1 < N) (h : f (j + 1) = none) : splitR f N L = ([], [], 17) := by
  unfold splitR
  rw [if_neg]
  intro hh
  have := List.all_eq_true.1 hh j (List.mem_range.2 (by omega))
  rw [h] at this
  cases this
theorem splitR_yes {f : Nat → Option Int} {N L : Nat} (h : ∀ j, j + 1 < N → (f (j + 1)).isSome = true) : splitR f N L = ((List.range L).map fun j => (f (j + 1)).getD 0, (List.range (N - 1 - L)).map fun j => (f (L + j + 1)).getD 0, 0) := by
  unfold splitR
  rw [if_pos]
  exact List.all_eq_true.2 fun j hj => h j (by rw [List.mem_range] at hj; omega)
section
variable (rlo rhi : Int) (L : Nat) (Al : Option Addr) (c : Nat) (S : List (List T3)) (bf : Nat → Nat → Option Int) (N : Nat) (gt gm : Nat) (B : Option Addr) (cap : Nat) (w : World) (hT : TongueAt rlo rhi L Al c S (resM bf N) gt gm B cap w)
include hT
set_option maxHeartbeats 1000000 in
set_option maxRecDepth 20000 in
theorem split_any (hN : N = 1 + L + S.flatten.length) (hN2 : N ≤ 19) (hL : 1 ≤ L) (fid gc : Nat) (hbf : hasBody Try.prog fid = true) (f : Nat → Option Int)
    (hf : ∀ w1, Below w.heap.size w w1 → ∀ i, 1 ≤ i → i < N → Calls Try.prog fid #[.int .i64 i, .pointer (some ⟨gc, 0, none⟩)] w1 fun e w' => e = .returned (sumV (f i)) ∧ Below w1.heap.size w1 w') :
    Calls Try.prog 64 #[.pointer (some ⟨gt, 0, none⟩), .func (.func fid) #[] #[.pointer (some ⟨gc, 0, none⟩)]] w (TwoRet (splitR f N L) w) := by
  have hnm : ∀ w1, Below w.heap.size w w1 → Calls Try.prog 72 #[.pointer (some ⟨gt, 0, none⟩)] w1 fun e w' => e = .returned (.int .i64 (N : Int)) ∧ Below w1.heap.size w1 w' := fun w1 h => by
    rw [hN]
    exact namesP_any rlo rhi L Al c S _ gt gm B cap w1 (hT.grow h) (by omega) (by omega)
  have c1 : ∀ {j u}, (tongueC rlo rhi L Al S.length c (.slice B S.flatten.length cap) gm)[j]? = some u → ∀ A, CellAt w A gt j u := fun hu A => CellAt.base (hT.cell _ _ hu)
  refine fn_v Try.tabOk (n := 45) (A := []) Try.func64 rfl rfl (Nat.le_of_ble_eq_true rfl) (St.nil (Below.refl _ _)) ?_
  ((try first | apply tr_v Try.tabOk | apply ot_v Try.tabOk); (conv => whnf); try (first | apply VStop.mk | apply VCall.stop))
  refine tr_own_nil 2 1 ?_
  refine v_loop (fun gm' ds ts A => ds = [] ∧ ∃ (k : Nat) (v : Value), k + gm' = N - 1 ∧ (∀ j, j < k → (f (j + 1)).isSome = true) ∧ A = [.own v 2 1 k (i64s ((List.range k).map fun j => (f (j + 1)).getD 0))] ∧ ts = [(0, .pointer (some ⟨gt, 0, none⟩)), (1, .func (.func fid) #[] #[.pointer (some ⟨gc, 0, none⟩)]), (7, v), (8, .int .i64 ((k : Int) + 1))]) (N - 1)
    (l := [(0, _), (1, _), (7, _), (8, _)]) (B := _) ?_ (List.Sublist.refl _) ⟨rfl, 0, _, by omega, fun j hj => by omega, rfl, rfl⟩ ?_
  · exact ⟨rfl, rfl, rfl, rfl, trivial⟩
  rintro gm' ds ts A ⟨rfl, k, v, hk, hall, rfl, rfl⟩
  by_cases hlt : k + 1 < N
  · have hff := fun w1 h => hf w1 h (k + 1) (by omega) hlt
    have hno := splitR_no (f := f) (L := L) hlt
    have hsn : ∀ x, f (k + 1) = some x → i64s ((List.range k).map fun j => (f (j + 1)).getD 0) ++ [.int .i64 x] = i64s ((List.range (k + 1)).map fun j => (f (j + 1)).getD 0) := fun x hx => by
      rw [rng_snoc _ k, i64s_append, hx]; rfl
    have hall2 : ∀ x, f (k + 1) = some x → ∀ j, j < k + 1 → (f (j + 1)).isSome = true := fun x hx j hj => by
      rcases Nat.lt_or_ge j k with h | h
      · exact hall j h
      · obtain rfl : j = k := by omega
        rw [hx]; rfl
    unfold sumV at *
    push_cast at hff
    cases hv : f (k + 1) with
    | none =>
      rw [hv] at hff
      dsimp only [Option.getD, Option.isSome] at hff
      rw [hno hv]
      ((try first | apply tr_v Try.tabOk | apply ot_v Try.tabOk); (conv => whnf); (repeat ((first | (apply VCall.q; exact hbf; intro w1 hs; exact hff w1 hs.base) | (apply VCall.q; kernel_rfl; (focus (intro w1 hs; first | with_reducible apply hnm w1 hs.base))) | apply VBr.t | (apply v_t; omega)); (conv => whnf))); try (first | apply VStop.mk | apply VCall.stop))
      (apply VRet.mk)
      refine ret3 (by first | exact .inl rfl | exact .inr rfl) rfl (by exact rv_tmp rfl) (by exact rv_tmp rfl) (by exact rv_tmp rfl) ?_
      exact fun w h => two_nil _ h
    | some x =>
      rw [hv] at hff
      dsimp only [Option.getD, Option.isSome] at hff
      ((try first | apply tr_v Try.tabOk | apply ot_v Try.tabOk); (conv => whnf); (repeat ((first | ((first | apply VStop.mk | apply VCall.stop); (first | (refine ot_append (sz := 1) (sl := k) (xs := i64s ((List.range k).map fun j => (f (j + 1)).getD 0)) (A'v := fun v' => _ :: .own v' 2 1 (k + 1) _ :: _) Try.tabOk rfl rfl rfl rfl rfl rfl rfl rfl rfl rfl (by decide) rfl (cells_blk_all (.head _)) rfl rfl (fun v' => .there .here) (by omega) (by decide) (fun v' => ?_))); try first | apply ot_v Try.tabOk | apply tr_v Try.tabOk) | (apply VCall.q; exact hbf; intro w1 hs; exact hff w1 hs.base) | (apply VCall.q; kernel_rfl; (focus (intro w1 hs; first | with_reducible apply hnm w1 hs.base))) | (apply VRng.mk; omega) | apply VBr.t | apply VBr.f | (apply v_t; omega) | (apply VNew.mk; intro g hg)); (conv => whnf))); try (first | apply VStop.mk | apply VCall.stop))
      rw [hsn x hv]
      exact v_rnd (gm' - 1) (by omega) (l := [(0, _), (1, _), (7, _), (8, _)]) (B := [_]) ⟨rfl, rfl, rfl, rfl, trivial⟩ (.cons _ (List.Sublist.refl _)) ⟨rfl, k + 1, v', by omega, hall2 x hv, rfl, rfl⟩
  · obtain rfl : k = N - 1 := by omega
    rw [splitR_yes (fun j hj => hall j (by omega))]
    refine tr_fact (p := ∃ b cp, v = .slice (some ⟨b, 0, none⟩) (N - 1) cp ∧ N - 1 ≤ cp) (fun w' hs => ?_) fun hv => ?_
    · obtain ⟨_, h2⟩ := hs.all _ (.head _)
      rcases h2 with ⟨h2, h3⟩ | ⟨g', cap', cur, h3, _, _, h6, _⟩
      · omega
      · exact ⟨g', cap', h3, h6⟩
    obtain ⟨b, cp, rfl, hcp⟩ := hv
    generalize hF : (fun j => (f (j + 1)).getD 0) = F at *
    have hF2 : ((List.range (N - 1 - L)).map fun j => (f (L + j + 1)).getD 0) = (List.range (N - 1 - L)).map fun j => F (L + j) := by rw [← hF]
    rw [hF2]
    obtain ⟨AD, hAD, hAD2⟩ : ∃ AD : Addr, AD = (if cp = L then ⟨b, 0, none⟩ else ⟨b, 0 + L * Try.t2.size, none⟩) ∧ (0 < N - 1 - L → AD = ⟨b, 0 + L, none⟩) := ⟨_, rfl, fun h => by rw [if_neg (by omega), show L * Try.t2.size = L from Nat.mul_one L]⟩
    have hq1 : ∀ A', Chunk.own (.slice (some ⟨b, 0, none⟩) (N - 1) cp) 2 1 (N - 1) (i64s ((List.range (N - 1)).map F)) ∈ A' → ∀ w1, St w A' w1 → Calls Try.prog 88 #[.slice (some ⟨b, 0, none⟩) L cp] w1 (OwnRet 2 1 L (i64s ((List.range L).map F)) w1) := fun A' hm w1 hs => by
      have h1 := range_reads (hs.own_rd hm) (lo := 0) (n := L) (by omega) (ad := ⟨b, 0, none⟩) (fun _ => rfl)
      have h2 := clone_any ⟨b, 0, none⟩ cp ((List.range L).map fun j => F (0 + j)) w1 (by rw [List.length_map, List.length_range]; exact h1) (by rw [List.length_map, List.length_range]; omega)
      rw [List.length_map, List.length_range] at h2
      simpa only [Nat.zero_add] using h2
    have hq2 : ∀ A', Chunk.own (.slice (some ⟨b, 0, none⟩) (N - 1) cp) 2 1 (N - 1) (i64s ((List.range (N - 1)).map F)) ∈ A' → ∀ w1, St w A' w1 → Calls Try.prog 88 #[.slice (some AD) (N - 1 - L) (cp - L)] w1 (OwnRet 2 1 (N - 1 - L) (i64s ((List.range (N - 1 - L)).map fun j => F (L + j))) w1) := fun A' hm w1 hs => by
      have h1 := range_reads (hs.own_rd hm) (lo := L) (n := N - 1 - L) (by omega) (ad := AD) hAD2
      have h2 := clone_any AD (cp - L) ((List.range (N - 1 - L)).map fun j => F (L + j)) w1 (by rw [List.length_map, List.length_range]; exact h1) (by rw [List.length_map, List.length_range]; omega)
      rw [List.length_map, List.length_range] at h2
      exact h2
    ((try first | apply tr_v Try.tabOk | apply ot_v Try.tabOk); (conv => whnf); (repeat ((first | ((first | apply VStop.mk | apply VCall.stop); (first | refine tr_region_draw (id := 9) (by kernel_rfl) [0, 1, 2, 3, 4, 5, 6, 8, 9, 10, 11, 12, 13, 14, 7, 15, 16, 17, 18] [.rd, .rd, .rd, .rd, .rd, .rd, .rd, .rd, .rd, .rd, .rd, .rd, .rd, .rd, .cr, .cr, .rd, .rd, .rd] rfl (by kernel_rfl) ?_ | (refine ot_slice_hi Try.tabOk rfl rfl rfl rfl rfl rfl rfl rfl (hi := L) rfl (by omega) ?_)); try first | apply ot_v Try.tabOk | apply tr_v Try.tabOk) | (apply VLd.mk; exact c1 rfl _) | (apply VCall.q; kernel_rfl; (focus (intro w1 hs; first | with_reducible apply hnm w1 hs.base))) | apply VBr.f | (apply v_f; omega)); (conv => whnf))); try (first | apply VStop.mk | apply VCall.stop))
    refine ot_slice_lo Try.tabOk rfl rfl rfl rfl rfl rfl rfl rfl (lo := L) rfl (by omega) ?_
    rw [← hAD]
    clear hAD
    refine ot_call_own (by decide) rfl rfl rfl (by kernel_rfl) (evl_of rfl) (fun w1 hs => hq1 _ (.head _) w1 hs) (fun v1 => ?_)
    refine ot_call_own (by decide) rfl rfl rfl (by kernel_rfl) (evl_of rfl) (fun w1 hs => hq2 _ (.tail _ (.head _)) w1 hs) (fun v2 => ?_)
    apply ot_v Try.tabOk
    ((try first | apply tr_v Try.tabOk | apply ot_v Try.tabOk); (conv => whnf); try (first | apply VStop.mk | apply VCall.stop))
    (apply VRet.mk)
    refine ret3 (by first | exact .inl rfl | exact .inr rfl) rfl (by exact rv_tmp rfl) (by exact rv_tmp rfl) (by exact rv_tmp rfl) ?_
    refine fun w' hs => ⟨(v1, v2), rfl, ?_⟩
    have h1 := hs.sub (A' := [_, _]) (.cons_cons _ (.cons_cons _ (List.nil_sublist _)))
    have h2 := h1.perm (List.Perm.swap _ _ _)
    dsimp only
    rw [List.length_map, List.length_range, List.length_map, List.length_range]
    exact h2
end
set_option maxRecDepth 20000 in
theorem least1_any (rlo rhi : Int) (L : Nat) (Al : Option Addr) (c : Nat) (S : List (List T3)) (bf : Nat → Nat → Option Int) (N : Nat) (gt gm gc : Nat) (B : Option Addr) (cap : Nat) (w : World) (hT : TongueAt rlo rhi L Al c S (resM bf N) gt gm B cap w) (hN : N = 1 + L + S.flatten.length) (hb : BOk bf N) (hc : w.cell? ⟨gc, 0, none⟩ = some (.pointer (some ⟨gt, 0, none⟩))) (i : Nat) (hi : i < N) :
    Calls Try.prog 65 #[.int .i64 i, .pointer (some ⟨gc, 0, none⟩)] w fun e w' => e = .returned (sumV ((farP bf N i 0).map fun x => -x)) ∧ Below w.heap.size w w' := by
  have f1 := fun w1 (h : Below w.heap.size w w1) => far_any rlo rhi L Al c S bf N gt gm B cap w1 (hT.grow h) hN hb i 0 hi hb.n0
  rw [show ((0 : Nat) : Int) = 0 from rfl] at f1
  have c1 : ∀ A, CellAt w A gc 0 _ := fun A => CellAt.base hc
  have b1 := fun x => farP_bd hb (i := i) (k := 0) (x := x)
  unfold sumV at *
  generalize farP bf N i 0 = x1 at *
  refine fn_v Try.tabOk (n := 16) (A := []) Try.func65 rfl rfl (Nat.le_of_ble_eq_true rfl) (St.nil (Below.refl _ _)) ?_
  cases x1 with
  | none =>
    dsimp only [Option.getD, Option.isSome, Option.map] at f1 ⊢
    ((try first | apply tr_v Try.tabOk | apply ot_v Try.tabOk); (conv => whnf); (repeat ((first | (apply VLd.mk; exact c1 _) | (apply VCall.q; kernel_rfl; (focus (intro w1 hs; first | with_reducible apply f1 w1 hs.base))) | (apply VRng.mk; omega)); (conv => whnf))); try (first | apply VStop.mk | apply VCall.stop))
    (apply VRet.mk)
    refine ret2 (by first | exact .inl rfl | exact .inr rfl) rfl (by exact rv_tmp rfl) (by exact rv_tmp rfl) ?_
    exact fun w h => ⟨rfl, h.base⟩
  | some x =>
    have := b1 x rfl
    dsimp only [Option.getD, Option.isSome, Option.map] at f1 ⊢
    ((try first | apply tr_v Try.tabOk | apply ot_v Try.tabOk); (conv => whnf); (repeat ((first | (apply VLd.mk; exact c1 _) | (apply VCall.q; kernel_rfl; (focus (intro w1 hs; first | with_reducible apply f1 w1 hs.base))) | (apply VRng.mk; omega)); (conv => whnf))); try (first | apply VStop.mk | apply VCall.stop))
    (apply VRet.mk)
    refine ret2 (by first | exact .inl rfl | exact .inr rfl) rfl (by exact rv_tmp rfl) (by exact rv_tmp rfl) ?_
    exact fun w h => ⟨rfl, h.base⟩
set_option maxRecDepth 20000 in
theorem greatest1_any (rlo rhi : Int) (L : Nat) (Al : Option Addr) (c : Nat) (S : List (List T3)) (bf : Nat → Nat → Option Int) (N : Nat) (gt gm gc : Nat) (B : Option Addr) (cap : Nat) (w : World) (hT : TongueAt rlo rhi L Al c S (resM bf N) gt gm B cap w) (hN : N = 1 + L + S.flatten.length) (hb : BOk bf N) (hc : w.cell? ⟨gc, 0, none⟩ = some (.pointer (some ⟨gt, 0, none⟩))) (i : Nat) (hi : i < N) :
    Calls Try.prog 68 #[.int .i64 i, .pointer (some ⟨gc, 0, none⟩)] w fun e w' => e = .returned (sumV (farP bf N 0 i)) ∧ Below w.heap.size w w' := by
  have f1 := fun w1 (h : Below w.heap.size w w1) => far_any rlo rhi L Al c S bf N gt gm B cap w1 (hT.grow h) hN hb 0 i hb.n0 hi
  rw [show ((0 : Nat) : Int) = 0 from rfl] at f1
  have c1 : ∀ A, CellAt w A gc 0 _ := fun A => CellAt.base hc
  unfold sumV at *
  generalize farP bf N 0 i = x1 at *
  refine fn_v Try.tabOk (n := 10) (A := []) Try.func68 rfl rfl (Nat.le_of_ble_eq_true rfl) (St.nil (Below.refl _ _)) ?_
  ((try first | apply tr_v Try.tabOk | apply ot_v Try.tabOk); (conv => whnf); (repeat ((first | (apply VLd.mk; exact c1 _) | (apply VCall.q; kernel_rfl; (focus (intro w1 hs; first | with_reducible apply f1 w1 hs.base)))); (conv => whnf))); try (first | apply VStop.mk | apply VCall.stop))
  (apply VRet.mk)
  refine ret2 (by first | exact .inl rfl | exact .inr rfl) rfl (by exact rv_tmp rfl) (by exact rv_tmp rfl) ?_
  exact fun w h => ⟨rfl, h.base⟩
end Go.Proofs.Ytkbcogaodnmdoaa
