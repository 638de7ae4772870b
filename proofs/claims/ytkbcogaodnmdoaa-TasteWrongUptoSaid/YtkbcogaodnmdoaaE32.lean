/- Books of the calls own: lemmas for the rows of this seat. No conditions. -/
import Derived.Test.YtkbcogaodnmdoaaProg
import Derived.WalkKit
import Derived.WalkSpells
import Derived.WalkLawsBesides
import Derived.Lib.Hide
import Derived.Deep.AppendLies
import Derived.Deep.Draws
import Derived.Maps.AppendAt
import Derived.RegionTactic
import Derived.OwnWalk
import Derived.Deep.QuietTactic
import Derived.BigQuiet
import Derived.Deep.DeepFit
import Derived.Deep.LoopGhost
import Derived.Deep.DeepMust
import Derived.Deep.DeepCutAuto
import Derived.StillTail
import Derived.Deep.Quiet
import Derived.Deep.RegionHeld3
import Derived.Deep.RegionWith
import Derived.Deep.RegionLaw
import Derived.Maps.OwnOps
import Derived.Maps.OwnSet
import Derived.Maps.OwnRows
import Derived.Maps.RangeWalk
import Derived.Carry
import Derived.Test.YtkbcogaodnmdoaaBase
import Derived.Test.YtkbcogaodnmdoaaMaps
import Derived.Test.YtkbcogaodnmdoaaKeys
import Derived.Test.YtkbcogaodnmdoaaS1
import Derived.Test.YtkbcogaodnmdoaaS5
import Derived.Test.YtkbcogaodnmdoaaS12
import Derived.Test.YtkbcogaodnmdoaaS14
import Derived.Test.YtkbcogaodnmdoaaV
import Derived.Test.YtkbcogaodnmdoaaV2
import Derived.Test.YtkbcogaodnmdoaaV3
import Derived.Test.YtkbcogaodnmdoaaV4
import Derived.Test.YtkbcogaodnmdoaaV5
import Derived.Test.YtkbcogaodnmdoaaTab
import Derived.Test.YtkbcogaodnmdoaaE1
import Derived.Test.YtkbcogaodnmdoaaE2
import Derived.Test.YtkbcogaodnmdoaaE3
import Derived.Test.YtkbcogaodnmdoaaE4
import Derived.Test.YtkbcogaodnmdoaaE5
import Derived.Test.YtkbcogaodnmdoaaE6
import Derived.Test.YtkbcogaodnmdoaaE7
import Derived.Test.YtkbcogaodnmdoaaE8
import Derived.Test.YtkbcogaodnmdoaaE9
import Derived.Test.YtkbcogaodnmdoaaE10
import Derived.Test.YtkbcogaodnmdoaaE11
import Derived.Test.YtkbcogaodnmdoaaE12
import Derived.Test.YtkbcogaodnmdoaaE13
import Derived.Test.YtkbcogaodnmdoaaE14
import Derived.Test.YtkbcogaodnmdoaaE15
import Derived.Test.YtkbcogaodnmdoaaE16
import Derived.Test.YtkbcogaodnmdoaaE17
import Derived.Test.YtkbcogaodnmdoaaE18
import Derived.Test.YtkbcogaodnmdoaaE19
import Derived.Test.YtkbcogaodnmdoaaE20
import Derived.Test.YtkbcogaodnmdoaaE21
import Derived.Test.YtkbcogaodnmdoaaE22
import Derived.Test.YtkbcogaodnmdoaaE23
import Derived.Test.YtkbcogaodnmdoaaE24
import Derived.Test.YtkbcogaodnmdoaaE25
import Derived.Test.YtkbcogaodnmdoaaE26
import Derived.Test.YtkbcogaodnmdoaaE27
import Derived.Test.YtkbcogaodnmdoaaE28
import Derived.Test.YtkbcogaodnmdoaaE29
import Derived.Test.YtkbcogaodnmdoaaE30
import Derived.Test.YtkbcogaodnmdoaaE31
set_option linter.all false
namespace Go.Proofs.Ytkbcogaodnmdoaa
open Go.RowKit
/-! ## Books of the call's own -/
/-- What a sitting of a copied book lies in. -/
abbrev SitX := Option Addr × Nat
def sitV (x : SitX) (s : List T3) : Value := .slice x.1 s.length x.2
def sitC (x : SitX) (s : List T3) : Chunk := .own (.slice x.1 s.length x.2) 67 3 s.length (saidCells s)
def sitVs : List SitX → List (List T3) → List Value
  | x :: xs, s :: S => sitV x s :: sitVs xs S
  | _, _ => []
def sitCh : List SitX → List (List T3) → List Chunk
  | x :: xs, s :: S => sitC x s :: sitCh xs S
  | _, _ => []
theorem sitVs_length : ∀ {xs : List SitX} {S : List (List T3)}, xs.length = S.length → (sitVs xs S).length = S.length
  | [], [], _ => rfl
  | x :: xs, s :: S, h => by rw [sitVs, List.length_cons, List.length_cons, sitVs_length (by simpa using h)]
theorem sitVs_snoc : ∀ {xs : List SitX} {S : List (List T3)} {x : SitX} {s : List T3}, xs.length = S.length → sitVs (xs ++ [x]) (S ++ [s]) = sitVs xs S ++ [sitV x s]
  | [], [], _, _, _ => rfl
  | y :: xs, u :: S, x, s, h => by rw [List.cons_append, List.cons_append, sitVs, sitVs_snoc (by simpa using h), sitVs]; rfl
theorem sitCh_snoc : ∀ {xs : List SitX} {S : List (List T3)} {x : SitX} {s : List T3}, xs.length = S.length → sitCh (xs ++ [x]) (S ++ [s]) = sitCh xs S ++ [sitC x s]
  | [], [], _, _, _ => rfl
  | y :: xs, u :: S, x, s, h => by rw [List.cons_append, List.cons_append, sitCh, sitCh_snoc (by simpa using h), sitCh]; rfl
theorem sitVs_get : ∀ {xs : List SitX} {S : List (List T3)} {i : Nat} (h : xs.length = S.length) (hi : i < S.length), (sitVs xs S)[i]? = some (sitV (xs[i]'(by omega)) S[i])
  | [], S, i, h, hi => absurd hi (by rw [← h]; exact Nat.not_lt_zero _)
  | x :: xs, s :: S, 0, _, _ => rfl
  | x :: xs, s :: S, i + 1, h, hi => by
    have := sitVs_get (xs := xs) (S := S) (i := i) (by simpa using h) (by simpa using hi)
    simpa [sitVs] using this
theorem sitCh_mem : ∀ {xs : List SitX} {S : List (List T3)} {i : Nat} (h : xs.length = S.length) (hi : i < S.length), sitC (xs[i]'(by omega)) S[i] ∈ sitCh xs S
  | [], S, i, h, hi => absurd hi (by rw [← h]; exact Nat.not_lt_zero _)
  | x :: xs, s :: S, 0, _, _ => .head _
  | x :: xs, s :: S, i + 1, h, hi => by
    have := sitCh_mem (xs := xs) (S := S) (i := i) (by simpa using h) (by simpa using hi)
    exact .tail _ this
theorem sitCh_upd {R : List Chunk} : ∀ {xs : List SitX} {S : List (List T3)} {i : Nat} {s' : List T3} (h : xs.length = S.length) (hi : i < S.length), s'.length = S[i].length → Upd (sitC (xs[i]'(by omega)) S[i]) (sitC (xs[i]'(by omega)) s') (sitCh xs S ++ R) (sitCh xs (S.set i s') ++ R)
  | [], S, i, _, h, hi, _ => absurd hi (by rw [← h]; exact Nat.not_lt_zero _)
  | x :: xs, s :: S, 0, s', _, _, _ => .here
  | x :: xs, s :: S, i + 1, s', h, hi, hs => by
    have := sitCh_upd (R := R) (xs := xs) (S := S) (i := i) (s' := s') (by simpa using h) (by simpa using hi) hs
    exact .there this
theorem sitVs_set : ∀ {xs : List SitX} {S : List (List T3)} {i : Nat} {s' : List T3} (hi : i < S.length), s'.length = S[i].length → sitVs xs (S.set i s') = sitVs xs S
  | [], _, _, _, _, _ => rfl
  | x :: xs, s :: S, 0, s', _, hs => by
    simp only [List.set_cons_zero, sitVs, sitV]
    rw [show s'.length = s.length from hs]
  | x :: xs, s :: S, i + 1, s', hi, hs => by
    simp only [List.set_cons_succ, sitVs]
    have h1 : i < S.length := by simpa using hi
    exact congrArg _ (sitVs_set h1 hs)
theorem sitCh_mut : ∀ {xs : List SitX} {S : List (List T3)}, ∀ c ∈ sitCh xs S, c.mut = true
  | [], _, c, h => by cases h
  | _ :: _, [], c, h => by cases h
  | x :: xs, s :: S, c, h => by
    rcases List.mem_cons.1 h with rfl | h
    · rfl
    · exact sitCh_mut c h
section
variable {w0 w : World} {A : List Chunk}
/-- A book of the call's own is read. -/
theorem St.nestO (hs : St w0 A w) {B : Option Addr} {c : Nat} {xs : List SitX} {S : List (List T3)} (hl : xs.length = S.length) (h : .own (.slice B S.length c) 55 1 S.length (sitVs xs S) ∈ A) (hc : ∀ d ∈ sitCh xs S, d ∈ A) : NestR w 3 B (nestOf S) := by
  refine ⟨sitVs xs S, by rw [nestOf_length]; exact hs.own_rd h, fun i hi => ?_⟩
  have hi' : i < S.length := by rw [nestOf_length] at hi; exact hi
  have e2 : (nestOf S)[i]'hi = (S[i].length, saidCells S[i]) := by simp [nestOf]
  rw [e2]
  exact ⟨_, _, sitVs_get hl hi', hs.own_rd (hc _ (sitCh_mem hl hi'))⟩
end
theorem choose_to {α : Type} (d : α) {n : Nat} {p : Nat → α → Prop} (h : ∀ i, i < n → ∃ x, p i x) : ∃ f : Nat → α, ∀ i, i < n → p i (f i) :=
  ⟨fun i => if h' : i < n then (h i h').choose else d, fun i hi => by dsimp only; rw [dif_pos hi]; exact (h i hi).choose_spec⟩
/-- What the sittings of a book lie in. -/
theorem nest_vs {w : World} {A : Option Addr} {S : List (List T3)} (h : NestR w 3 A (nestOf S)) : ∃ ys : List SitX, ∃ hy : ys.length = S.length, Reads w w.heap.size 1 A S.length (sitVs ys S) ∧ ∀ i (hi : i < S.length), Reads w w.heap.size 3 (ys[i]'(by omega)).1 S[i].length (saidCells S[i]) := by
  obtain ⟨vs, hv, hi⟩ := h
  rw [nestOf_length] at hv
  have each : ∀ i, i < S.length → ∃ y : SitX, vs[i]? = some (sitV y (S[i]?.getD [])) ∧ Reads w w.heap.size 3 y.1 (S[i]?.getD []).length (saidCells (S[i]?.getD [])) := fun i h => by
    obtain ⟨B, c, e1, hr⟩ := hi i (by rw [nestOf_length]; exact h)
    have e2 : (nestOf S)[i]'(by rw [nestOf_length]; exact h) = (S[i].length, saidCells S[i]) := by simp [nestOf]
    rw [e2] at e1 hr
    rw [List.getElem?_eq_getElem h]
    exact ⟨(B, c), e1, hr⟩
  obtain ⟨y, hy⟩ := choose_to (none, 0) each
  have hl : ((List.range S.length).map y).length = S.length := by simp
  have hg : ∀ i (hi : i < S.length), ((List.range S.length).map y)[i]'(by omega) = y i := fun i hi => by simp
  refine ⟨(List.range S.length).map y, hl, ?_, fun i hi => ?_⟩
  · have e : vs = sitVs ((List.range S.length).map y) S := by
      refine List.ext_getElem? fun i => ?_
      by_cases h : i < S.length
      · rw [sitVs_get hl h, hg i h, (hy i h).1, List.getElem?_eq_getElem h]; rfl
      · have := hv.1
        rw [List.getElem?_eq_none (by omega), List.getElem?_eq_none (by rw [sitVs_length hl]; omega)]
    rw [← e]; exact hv
  · have := (hy i hi).2
    rw [List.getElem?_eq_getElem hi] at this
    rw [hg i hi]; exact this
theorem St.nestB {w0 w : World} {A : List Chunk} (hs : St w0 A w) {B : Option Addr} {c : Nat} {xs : List SitX} {S : List (List T3)} (hl : xs.length = S.length) (h : .own (.slice B S.length c) 55 1 S.length (sitVs xs S) ∈ A) (hc : ∀ i (hi : i < S.length), Reads w w.heap.size 3 (xs[i]'(by omega)).1 S[i].length (saidCells S[i])) : NestR w 3 B (nestOf S) := by
  refine ⟨sitVs xs S, by rw [nestOf_length]; exact hs.own_rd h, fun i hi => ?_⟩
  have hi' : i < S.length := by rw [nestOf_length] at hi; exact hi
  have e2 : (nestOf S)[i]'hi = (S[i].length, saidCells S[i]) := by simp [nestOf]
  rw [e2]
  exact ⟨_, _, sitVs_get hl hi', hc i hi'⟩
/-- What a copied book lies in. -/
abbrev NestX (n : Nat) := (Option Addr × Nat) × { xs : List SitX // xs.length = n }
def nestCh (S : List (List T3)) (x : NestX S.length) : List Chunk := .own (.slice x.1.1 S.length x.1.2) 55 1 S.length (sitVs x.2.1 S) :: sitCh x.2.1 S
theorem nestCh_mut (S : List (List T3)) (x : NestX S.length) : ∀ c ∈ nestCh S x, c.mut = true := fun c hc => by
  rcases List.mem_cons.1 hc with rfl | hc
  · rfl
  · exact sitCh_mut c hc
theorem St.nestX {w0 w : World} {A : List Chunk} (hs : St w0 A w) {S : List (List T3)} (x : NestX S.length) (h : ∀ d ∈ nestCh S x, d ∈ A) : NestR w 3 x.1.1 (nestOf S) :=
  hs.nestO x.2.2 (h _ (.head _)) fun d hd => h d (.tail _ hd)
section
variable (rlo rhi lots : Int) (Al : Option Addr) (c : Nat) (S : List (List T3)) (w : World) (hN : NestR w 3 Al (nestOf S))
include hN
set_option maxHeartbeats 2000000 in
set_option maxRecDepth 20000 in
theorem same_any (hF : Fit S) : Calls Try.prog 46 #[bookV rlo rhi lots Al S.length c] w fun e w' => ∃ x : NestX S.length, e = .returned (bookV rlo rhi lots x.1.1 S.length x.1.2) ∧ St w (nestCh S x) w' := by
  have hn := hF.len
  have ha := fun j (hj : j < S.length) => hF.at_ hj
  unfold bookV
  refine fn_v Try.tabOk (n := 30) (A := []) Try.func46 rfl rfl (Nat.le_of_ble_eq_true rfl) (St.nil (Below.refl _ _)) ?_
  ((try first | apply tr_v Try.tabOk | apply ot_v Try.tabOk); (conv => whnf); (repeat ((first | (apply VLd.mk; (focus ((repeat (first | ((with_reducible apply ld_blk); exact rfl) | ((with_reducible apply ld_row); exact rfl) | ((with_reducible apply ld_row0); exact rfl) | (with_reducible assumption) | (with_reducible exact CellAt.base (by assumption)) | (with_reducible apply ld_skip))); done))) | (apply VNew.mk; intro g hg) | (apply VLdN.sub; (focus ((repeat (first | (with_reducible apply ldn_blk) | (with_reducible apply ldn_row) | (with_reducible assumption) | (with_reducible apply ldn_skip))); done)); exact rfl) | (apply VSt.mk; (focus ((repeat (first | (with_reducible exact At.here) | (with_reducible apply At.there))); done)); exact rfl) | (refine slist_and (by (repeat (first | exact List.nil_sublist _ | exact List.Sublist.refl _ | refine List.Sublist.cons_cons _ ?_ | refine List.Sublist.cons _ ?_))) ?_; first | refine otl_nil ?_ | (refine otl_cons ?_; apply ot_v Try.tabOk) | skip) | (apply VK.mk; first | (refine otl_cons ?_; apply ot_v Try.tabOk) | apply ot_v Try.tabOk)); (conv => whnf))); try (first | apply VStop.mk | apply VCall.stop))
  rename_i g1 h1 g2 h2
  refine tr_own_nil 55 1 ?_
  refine v_loop (fun gm ds ts A => ds = [] ∧ ∃ (j : Nat) (Bo : Option Addr) (co : Nat) (xs : List SitX), j + gm = S.length ∧ xs.length = j ∧ A.Perm (.own (.slice Bo j co) 55 1 j (sitVs xs (S.take j)) :: .blk g 26 [.int .i64 rlo, .int .i64 rhi, .int .i64 lots, .slice Bo j co] :: .blk g2 26 [.int .i64 0, .int .i64 0, .int .i64 0, .slice none 0 0] :: .blk g1 26 [.int .i64 rlo, .int .i64 rhi, .int .i64 lots, .slice Al S.length c] :: sitCh xs (S.take j)) ∧ ts = [(1, .pointer (some ⟨g1, 0, none⟩)), (2, .pointer (some ⟨g2, 0, none⟩)), (3, .pointer (some ⟨g, 0, none⟩)), (4, .int .i64 (j : Int))]) S.length
    (l := [(1, _), (2, _), (3, _), (4, _)]) (B := _) ?_ (List.Sublist.refl _) ⟨rfl, 0, none, 0, [], by omega, rfl, .refl _, rfl⟩ ?_
  · exact ⟨rfl, rfl, rfl, rfl, trivial⟩
  rintro gm ds ts A ⟨rfl, j, Bo, co, xs, hj, hxs, hA, rfl⟩
  refine tr_perm hA ?_
  clear hA A
  by_cases hlt : j < S.length
  · obtain ⟨b, o, rfl, B', c', hce, hrd⟩ := nest_at hN hlt
    have hx : xs.length = (S.take j).length := by rw [List.length_take]; omega
    have haj := ha j hlt
    ((try first | apply tr_v Try.tabOk | apply ot_v Try.tabOk); (conv => whnf); (repeat ((first | ((first | apply VStop.mk | apply VCall.stop); (first | refine tr_region_late3 (id := 5) (by kernel_rfl) [.blk g 26 _, .blk g1 26 _] (by (repeat (first | exact List.nil_sublist _ | exact List.Sublist.refl _ | refine List.Sublist.cons_cons _ ?_ | refine List.Sublist.cons _ ?_))) [0, 1, 3, 4, 5, 6, 7] [2, 8, 9] 10 [11, 12] [.rd, .rd, .rd, .rd, .rd, .rd, .rd] rfl (by kernel_rfl) ?_); try first | apply ot_v Try.tabOk | apply tr_v Try.tabOk) | (apply VLd.mk; exact hce _) | (apply VIx.mk (j := j); exact rfl; omega) | (apply VLd.mk; (focus ((repeat (first | ((with_reducible apply ld_blk); exact rfl) | ((with_reducible apply ld_row); exact rfl) | ((with_reducible apply ld_row0); exact rfl) | (with_reducible assumption) | (with_reducible exact CellAt.base (by assumption)) | (with_reducible apply ld_skip))); done))) | apply VBr.t | (apply v_t; omega) | (apply VNew.mk; intro g hg) | (refine slist_and (by (repeat (first | exact List.nil_sublist _ | exact List.Sublist.refl _ | refine List.Sublist.cons_cons _ ?_ | refine List.Sublist.cons _ ?_))) ?_; first | refine otl_nil ?_ | (refine otl_cons ?_; apply ot_v Try.tabOk) | skip) | (apply VK.mk; first | (refine otl_cons ?_; apply ot_v Try.tabOk) | apply ot_v Try.tabOk)); (conv => whnf))); try (first | apply VStop.mk | apply VCall.stop))
    refine ot_st (B := .own (.slice (some ⟨_, 0, none⟩) 0 0) 67 3 0 [] :: _) rfl (fun w hs => hs.blk_own (sz := 3) rfl (Nat.zero_le _)) ?_
    refine ot_appendR (sz := 3) (A'v := fun v' => .own v' 67 3 S[j].length (saidCells S[j]) :: _) Try.tabOk rfl rfl rfl rfl rfl rfl rfl rfl rfl rfl (by decide) rfl (fun w1 hs => hs.reads hrd) (saidCells_one _) (fun v' => by rw [Nat.zero_add, List.nil_append]; exact .here) (by omega) (by decide) (fun v' => ?_)
    refine ot_nil ?_
    refine slist_and (by (repeat (first | exact List.nil_sublist _ | exact List.Sublist.refl _ | refine List.Sublist.cons_cons _ ?_ | refine List.Sublist.cons _ ?_))) ?_
    refine otl_cons ?_
    refine ot_fact (p := ∃ B cp, v' = .slice B S[j].length cp) rfl (fun w' hs => ?_) fun hv => ?_
    · obtain ⟨B, cp, e, _⟩ := own_form (hs.all _ (.head _))
      exact ⟨B, cp, e⟩
    obtain ⟨B2, cp, rfl⟩ := hv
    apply ot_v Try.tabOk
    ((try first | apply tr_v Try.tabOk | apply ot_v Try.tabOk); (conv => whnf); (repeat ((first | (apply VNew.mk; intro g hg) | (refine slist_and (by (repeat (first | exact List.nil_sublist _ | exact List.Sublist.refl _ | refine List.Sublist.cons_cons _ ?_ | refine List.Sublist.cons _ ?_))) ?_; first | refine otl_nil ?_ | (refine otl_cons ?_; apply ot_v Try.tabOk) | skip) | (apply VK.mk; first | (refine otl_cons ?_; apply ot_v Try.tabOk) | apply ot_v Try.tabOk)); (conv => whnf))); try (first | apply VStop.mk | apply VCall.stop))
    refine ot_append (sz := 1) (sl := j) (xs := sitVs xs (S.take j)) (A'v := fun v' => _ :: _ :: .own v' 55 1 (j + 1) _ :: _) Try.tabOk rfl rfl rfl rfl rfl rfl rfl rfl rfl rfl (by decide) rfl (cells_blk_all (.head _)) rfl rfl (fun v' => .there (.there .here)) (by omega) (by decide) (fun v' => ?_)
    refine ot_nil ?_
    refine slist_and (by (repeat (first | exact List.nil_sublist _ | exact List.Sublist.refl _ | refine List.Sublist.cons_cons _ ?_ | refine List.Sublist.cons _ ?_))) ?_
    refine otl_cons ?_
    refine ot_fact (p := ∃ B cp, v' = .slice B (j + 1) cp) rfl (fun w' hs => ?_) fun hv => ?_
    · obtain ⟨B, cp, e, _⟩ := own_form (hs.all _ (.tail _ (.tail _ (.head _))))
      exact ⟨B, cp, e⟩
    obtain ⟨B3, cp3, rfl⟩ := hv
    apply ot_v Try.tabOk
    ((try first | apply tr_v Try.tabOk | apply ot_v Try.tabOk); (conv => whnf); (repeat ((first | (apply VRng.mk; omega) | (apply VSt.mk; (focus ((repeat (first | (with_reducible exact At.here) | (with_reducible apply At.there))); done)); exact rfl) | (refine slist_and (by (repeat (first | exact List.nil_sublist _ | exact List.Sublist.refl _ | refine List.Sublist.cons_cons _ ?_ | refine List.Sublist.cons _ ?_))) ?_; first | refine otl_nil ?_ | (refine otl_cons ?_; apply ot_v Try.tabOk) | skip) | (apply VK.mk; first | (refine otl_cons ?_; apply ot_v Try.tabOk) | apply ot_v Try.tabOk)); (conv => whnf))); try (first | apply VStop.mk | apply VCall.stop))
    have e1 : sitVs xs (S.take j) ++ [Value.slice B2 S[j].length cp] = sitVs (xs ++ [(B2, cp)]) (S.take (j + 1)) := by
      rw [take_snoc S j hlt, sitVs_snoc hx]; rfl
    have e2 : sitCh (xs ++ [(B2, cp)]) (S.take (j + 1)) = sitCh xs (S.take j) ++ [sitC (B2, cp) S[j]] := by
      rw [take_snoc S j hlt, sitCh_snoc hx]
    exact v_rnd (gm - 1) (by omega) (l := [(1, _), (2, _), (3, _), (4, _)]) (B := _) ⟨rfl, rfl, rfl, rfl, trivial⟩ (.cons _ (List.Sublist.refl _)) ⟨rfl, j + 1, B3, cp3, xs ++ [(B2, cp)], by omega, by rw [List.length_append, hxs]; rfl, by rw [e2, ← e1]; exact (List.perm_append_singleton _ (_ :: _ :: _ :: _ :: _)).symm, rfl⟩
  · obtain rfl : j = S.length := by omega
    ((try first | apply tr_v Try.tabOk | apply ot_v Try.tabOk); (conv => whnf); (repeat ((first | (apply VLd.mk; (focus ((repeat (first | ((with_reducible apply ld_blk); exact rfl) | ((with_reducible apply ld_row); exact rfl) | ((with_reducible apply ld_row0); exact rfl) | (with_reducible assumption) | (with_reducible exact CellAt.base (by assumption)) | (with_reducible apply ld_skip))); done))) | apply VBr.f | (apply v_f; omega) | (apply VLdN.mk; (focus ((repeat (first | (with_reducible apply ldn_blk) | (with_reducible apply ldn_row) | (with_reducible assumption) | (with_reducible apply ldn_skip))); done)); exact rfl) | (apply VSt.mk; (focus ((repeat (first | (with_reducible exact At.here) | (with_reducible apply At.there))); done)); exact rfl) | (refine slist_and (by (repeat (first | exact List.nil_sublist _ | exact List.Sublist.refl _ | refine List.Sublist.cons_cons _ ?_ | refine List.Sublist.cons _ ?_))) ?_; first | refine otl_nil ?_ | (refine otl_cons ?_; apply ot_v Try.tabOk) | skip) | (apply VK.mk; first | (refine otl_cons ?_; apply ot_v Try.tabOk) | apply ot_v Try.tabOk)); (conv => whnf))); try (first | apply VStop.mk | apply VCall.stop))
    (apply VRet.mk)
    refine ret1 (by first | exact .inl rfl | exact .inr rfl) rfl (by exact rv_row Try.tabOk rfl rfl rfl (by first | exact cells_blk_all (by (repeat (first | exact List.Mem.head _ | assumption | refine List.Mem.tail _ ?_))) | exact cells_row0 (by (repeat (first | exact List.Mem.head _ | assumption | refine List.Mem.tail _ ?_)))) rfl) ?_
    rw [List.take_length]
    exact fun w' hs => ⟨((Bo, co), ⟨xs, hxs⟩), rfl, hs.sub (.cons_cons _ (.cons _ (.cons _ (.cons _ (List.Sublist.refl _)))))⟩
end
end Go.Proofs.Ytkbcogaodnmdoaa
