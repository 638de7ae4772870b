/- Joined bounds: tables of numbers: lemmas for the rows of this seat. No conditions. -/
import Derived.Test.YtkbcogaodnmdoaaProg
import Derived.WalkKit
import Derived.WalkSpells
import Derived.WalkLawsBesides
import Derived.Lib.Hide
import Derived.Deep.AppendLies
import Derived.Deep.Draws
import Derived.Maps.AppendAt
import Derived.RegionTactic
import Derived.OwnWalk
import Derived.Deep.QuietTactic
import Derived.BigQuiet
import Derived.Deep.DeepFit
import Derived.Deep.LoopGhost
import Derived.Deep.DeepMust
import Derived.Deep.DeepCutAuto
import Derived.StillTail
import Derived.Deep.Quiet
import Derived.Deep.RegionHeld3
import Derived.Deep.RegionWith
import Derived.Deep.RegionLaw
import Derived.Maps.OwnOps
import Derived.Maps.OwnSet
import Derived.Maps.OwnRows
import Derived.Maps.RangeWalk
import Derived.Carry
import Derived.Test.YtkbcogaodnmdoaaBase
import Derived.Test.YtkbcogaodnmdoaaMaps
import Derived.Test.YtkbcogaodnmdoaaKeys
import Derived.Test.YtkbcogaodnmdoaaS1
import Derived.Test.YtkbcogaodnmdoaaS5
import Derived.Test.YtkbcogaodnmdoaaS14
import Derived.Test.YtkbcogaodnmdoaaV
import Derived.Test.YtkbcogaodnmdoaaTab
import Derived.Test.YtkbcogaodnmdoaaE1
import Derived.Test.YtkbcogaodnmdoaaE2
import Derived.Test.YtkbcogaodnmdoaaE3
import Derived.Test.YtkbcogaodnmdoaaE4
import Derived.Test.YtkbcogaodnmdoaaE5
set_option linter.all false
namespace Go.Proofs.Ytkbcogaodnmdoaa
open Go.RowKit
/-! ## Joined bounds: tables of numbers -/
def FarC : Int := 1099511627776
abbrev Mx := Nat → Nat → Int
/-- Layer 1: a row of a table. -/
def rowF (N : Nat) (f : Nat → Int) : List Value := i64s ((List.range N).map f)
theorem rowF_length (N : Nat) (f : Nat → Int) : (rowF N f).length = N := by simp [rowF, i64s]
theorem rowF_get (N : Nat) (f : Nat → Int) (k : Nat) (hk : k < N) : (rowF N f)[k]? = some (.int .i64 (f k)) := by
  simp [rowF, i64s, hk]
def updF (f : Nat → Int) (k : Nat) (v : Int) : Nat → Int := fun x => if x = k then v else f x
theorem rowF_set (N : Nat) (f : Nat → Int) (k : Nat) (v : Int) : (rowF N f).set k (.int .i64 v) = rowF N (updF f k v) := by
  apply List.ext_getElem?
  intro i
  rw [List.getElem?_set]
  by_cases hi : i < N
  · rw [rowF_get N (updF f k v) i hi, rowF_get N f i hi]
    unfold updF
    by_cases e : k = i
    · subst e; simp [rowF_length, hi]
    · rw [if_neg e, if_neg (Ne.symm e)]
  · have h1 : (rowF N (updF f k v))[i]? = none := List.getElem?_eq_none (by rw [rowF_length]; omega)
    have h2 : (rowF N f)[i]? = none := List.getElem?_eq_none (by rw [rowF_length]; omega)
    rw [h1, h2]
    split
    · rw [if_neg (by rw [rowF_length]; omega)]
    · rfl
def updR (m : Mx) (i : Nat) (f : Nat → Int) : Mx := fun x => if x = i then f else m x
def rowsCh (N : Nat) (m : Mx) : List Nat → List Chunk
  | [] => []
  | g :: gs => .blk g 2 (rowF N (m gs.length)) :: rowsCh N m gs
def outV (N : Nat) (gs : List Nat) : List Value := gs.reverse.map fun g => Value.slice (some ⟨g, 0, none⟩) N N
theorem rowsCh_mut (N : Nat) (m : Mx) (gs : List Nat) : ∀ c ∈ rowsCh N m gs, c.mut = true := by
  induction gs with
  | nil => intro c hc; cases hc
  | cons g gs ih =>
    intro c hc
    rcases List.mem_cons.1 hc with rfl | hc
    · rfl
    · exact ih c hc
theorem rowsCh_ge (N : Nat) (m : Mx) (gs : List Nat) (i : Nat) (f : Nat → Int) (h : gs.length ≤ i) : rowsCh N (updR m i f) gs = rowsCh N m gs := by
  induction gs with
  | nil => rfl
  | cons g gs ih =>
    simp only [List.length_cons] at h
    simp only [rowsCh]
    rw [ih (by omega)]
    unfold updR
    rw [if_neg (by omega)]
def gAt (gs : List Nat) (i : Nat) : Nat := gs.reverse[i]?.getD 0
theorem gAt_lt (g : Nat) (gs : List Nat) (i : Nat) (h : i < gs.length) : gAt (g :: gs) i = gAt gs i := by
  unfold gAt
  rw [List.reverse_cons, List.getElem?_append_left (by simpa using h)]
theorem gAt_eq (g : Nat) (gs : List Nat) : gAt (g :: gs) gs.length = g := by
  unfold gAt
  rw [List.reverse_cons, List.getElem?_append_right (by simp)]
  simp
theorem rows_mem (N : Nat) (m : Mx) : ∀ (gs : List Nat) (i : Nat), i < gs.length → .blk (gAt gs i) 2 (rowF N (m i)) ∈ rowsCh N m gs := by
  intro gs
  induction gs with
  | nil => intro i h; simp at h
  | cons g gs ih =>
    intro i h
    by_cases e : i = gs.length
    · subst e; rw [gAt_eq]; exact .head _
    · have h' : i < gs.length := by simp at h; omega
      rw [gAt_lt g gs i h']; exact .tail _ (ih i h')
theorem rows_upd (N : Nat) (m : Mx) (f : Nat → Int) (R : List Chunk) : ∀ (gs : List Nat) (i : Nat), i < gs.length → Upd (.blk (gAt gs i) 2 (rowF N (m i))) (.blk (gAt gs i) 2 (rowF N f)) (rowsCh N m gs ++ R) (rowsCh N (updR m i f) gs ++ R) := by
  intro gs
  induction gs with
  | nil => intro i h; simp at h
  | cons g gs ih =>
    intro i h
    by_cases e : i = gs.length
    · subst e
      rw [gAt_eq]
      simp only [rowsCh, List.cons_append]
      rw [rowsCh_ge N m gs gs.length f (Nat.le_refl _)]
      have : updR m gs.length f gs.length = f := by unfold updR; rw [if_pos rfl]
      rw [this]
      exact .here
    · have h' : i < gs.length := by simp at h; omega
      rw [gAt_lt g gs i h']
      simp only [rowsCh, List.cons_append]
      have : updR m i f gs.length = m gs.length := by unfold updR; rw [if_neg (by omega)]
      rw [this]
      exact .there (ih i h')
theorem outV_get (N : Nat) (gs : List Nat) (i : Nat) (h : i < gs.length) : (outV N gs)[i]? = some (.slice (some ⟨gAt gs i, 0, none⟩) N N) := by
  unfold outV gAt
  rw [List.getElem?_map, List.getElem?_eq_getElem (by simpa using h)]
  simp
theorem outV_cons (N : Nat) (g : Nat) (gs : List Nat) : outV N (g :: gs) = outV N gs ++ [.slice (some ⟨g, 0, none⟩) N N] := by simp [outV]
theorem outV_length (N : Nat) (gs : List Nat) : (outV N gs).length = gs.length := by simp [outV]
/-- What the first pass writes. -/
def rowV (b : Nat → Nat → Option Int) (i k : Nat) : Int := if i = k then 0 else (b i k).getD FarC
/-- One step of joining. -/
def fwV (m : Mx) (mm i k : Nat) : Int :=
  let s := m i mm + m mm k
  let q := if s < m i k then s else m i k
  if q > -FarC then q else -FarC
def fwS (m : Mx) (mm i k : Nat) : Mx := if m i mm < FarC ∧ m mm k < FarC then updR m i (updF (m i) k (fwV m mm i k)) else m
def fwK (mm i : Nat) : Nat → Mx → Mx
  | 0, m => m
  | k + 1, m => fwS (fwK mm i k m) mm i k
def fwI (N mm : Nat) : Nat → Mx → Mx
  | 0, m => m
  | i + 1, m => fwK mm i N (fwI N mm i m)
def fwM (N : Nat) : Nat → Mx → Mx
  | 0, m => m
  | mm + 1, m => fwI N mm N (fwM N mm m)
def BMN (N : Nat) (m : Mx) : Prop := ∀ i k, i < N → k < N → -FarC ≤ m i k ∧ m i k ≤ FarC
theorem BMN.fwS {N : Nat} {m : Mx} (h : BMN N m) (mm i k : Nat) : BMN N (Go.Proofs.Ytkbcogaodnmdoaa.fwS m mm i k) := by
  intro x y hx hy
  unfold Go.Proofs.Ytkbcogaodnmdoaa.fwS
  split
  · unfold updR
    split
    · rename_i e
      unfold updF
      split
      · rename_i e2
        have := h i k (by omega) (by omega)
        have hF : FarC = 1099511627776 := rfl
        unfold fwV
        dsimp only
        split <;> split <;> omega
      · exact h i y (by omega) hy
    · exact h x y hx hy
  · exact h x y hx hy
theorem BMN.fwK {N : Nat} {m : Mx} (h : BMN N m) (mm i : Nat) (hm : mm < N) (hi : i < N) : ∀ k, k ≤ N → BMN N (fwK mm i k m)
  | 0, _ => h
  | k + 1, hk => (h.fwK mm i hm hi k (by omega)).fwS mm i k
theorem BMN.fwI {N : Nat} {m : Mx} (h : BMN N m) (mm : Nat) (hm : mm < N) : ∀ i, i ≤ N → BMN N (fwI N mm i m)
  | 0, _ => h
  | i + 1, hi => (h.fwI mm hm i (by omega)).fwK mm i hm (by omega) N (Nat.le_refl _)
theorem BMN.fwM {N : Nat} {m : Mx} (h : BMN N m) : ∀ mm, mm ≤ N → BMN N (fwM N mm m)
  | 0, _ => h
  | mm + 1, hm => (h.fwM mm (by omega)).fwI mm (by omega) N (Nat.le_refl _)
/-- Joined, plainly. -/
def joinP (b : Nat → Nat → Option Int) (N : Nat) : Mx := fwM N N fun i k => rowV b i k
section
variable (rlo rhi : Int) (L : Nat) (Al : Option Addr) (c : Nat) (S : List (List T3)) (w : World) (hN : NestR w 3 Al (nestOf S)) (hO : Okb rlo rhi L S)
include hN hO
theorem bnd_small (but : Int) (i k : Nat) (hi : i < 1 + L + S.flatten.length) (hk : k < 1 + L + S.flatten.length) : -1000 ≤ (bnd rlo rhi L S but i k).getD 0 ∧ (bnd rlo rhi L S but i k).getD 0 ≤ 1000 := by
  have hx := fun x (h : x < S.flatten.length) => hO.x _ (tasteAt_mem h)
  obtain ⟨r1, r2, r3⟩ := hO.r
  unfold bnd
  split
  · split
    · simp
    · split
      · simp
      · split <;> simp
  · split
    · split
      · simp
      · split
        · simp
        · split
          · have := hx (k - L - 1) (by omega)
            simp only [Option.getD_some]; omega
          · simp
    · split
      · split <;> simp
      · split
        · split
          · have := hx (i - L - 1) (by omega)
            simp only [Option.getD_some]; omega
          · simp
        · split
          · simp only [Option.getD_some]; omega
          · split
            · simp only [Option.getD_some]; omega
            · simp
theorem rowV_bd (but : Int) (i k : Nat) (hi : i < 1 + L + S.flatten.length) (hk : k < 1 + L + S.flatten.length) : -FarC ≤ rowV (bnd rlo rhi L S but) i k ∧ rowV (bnd rlo rhi L S but) i k ≤ FarC := by
  have h := bnd_small rlo rhi L Al S w hN hO but i k hi hk
  have hF : FarC = 1099511627776 := rfl
  unfold rowV
  split
  · omega
  · cases hb : bnd rlo rhi L S but i k with
    | none => simp only [Option.getD_none]; omega
    | some v => rw [hb] at h; simp only [Option.getD_some] at h ⊢; omega
end
/-- The first pass, so far. -/
def rowU (b : Nat → Nat → Option Int) (i k : Nat) : Nat → Int := fun x => if x < k then rowV b i x else 0
theorem rowU_step (b : Nat → Nat → Option Int) (i k : Nat) : updF (rowU b i k) k (rowV b i k) = rowU b i (k + 1) := by
  funext x
  unfold updF rowU
  by_cases e : x = k
  · subst e; rw [if_pos rfl, if_pos (by omega)]
  · rw [if_neg e]
    by_cases h : x < k
    · rw [if_pos h, if_pos (by omega)]
    · rw [if_neg h, if_neg (by omega)]
theorem rowU_full (b : Nat → Nat → Option Int) (i N : Nat) : rowF N (rowU b i N) = rowF N (rowV b i) := by
  unfold rowF
  congr 1
  apply List.map_congr_left
  intro x hx
  unfold rowU
  rw [if_pos (List.mem_range.1 hx)]
theorem rowF_zero (N : Nat) (b : Nat → Nat → Option Int) (i : Nat) : List.replicate N (Value.int .i64 0) = rowF N (rowU b i 0) := by
  apply List.ext_getElem?
  intro k
  by_cases h : k < N
  · rw [rowF_get N _ k h]; simp [h, rowU]
  · rw [List.getElem?_eq_none (by simpa using h), List.getElem?_eq_none (by rw [rowF_length]; omega)]
theorem updF_updF (f : Nat → Int) (k : Nat) (a b : Int) : updF (updF f k a) k b = updF f k b := by
  funext x; unfold updF; split <;> rfl
theorem i1_one (v : Int) : ([Value.int .i64 v]).length = 1 := rfl
section
variable {N : Nat} {f : Nat → Int} {k g : Nat} {v : Int} {A R : List Chunk} {stop : Prop} {X : List Chunk → Prop} {m : Mx} {gs : List Nat} {i : Nat} {w0 : World}
theorem row_store (hk : k < N) : Nat.ble (0 + k * 1 + [Value.int .i64 v].length) (rowF N f).length = true ∧ setMany (rowF N f) (0 + k * 1) [Value.int .i64 v] = rowF N (updF f k v) := by
  have hlen : 0 + k * 1 + [Value.int .i64 v].length ≤ (rowF N f).length := by rw [rowF_length]; simp; omega
  refine ⟨Nat.ble_eq_true_of_le hlen, ?_⟩
  rw [setMany_eq _ _ _ hlen, ← rowF_set, List.set_eq_take_append_cons_drop, if_pos (by rw [rowF_length]; exact hk)]
  simp
theorem st_row (hk : k < N) (x : X (.blk g 2 (rowF N (updF f k v)) :: A)) : VSt g (0 + k * 1) [.int .i64 v] (.blk g 2 (rowF N f) :: A) stop X :=
  .old 2 _ _ _ .here (row_store hk).1 (row_store hk).2 x
theorem st_rows (hi : i < gs.length) (hk : k < N) (x : X (rowsCh N (updR m i (updF (m i) k v)) gs ++ R)) : VSt (gAt gs i) (0 + k * 1) [.int .i64 v] (rowsCh N m gs ++ R) stop X :=
  .old 2 _ _ _ (rows_upd N m _ R gs i hi) (row_store hk).1 (row_store hk).2 x
theorem ld_rows (hi : i < gs.length) (hk : k < N) : CellAt w0 (rowsCh N m gs ++ R) (gAt gs i) (0 + k * 1) (.int .i64 (m i k)) :=
  cell_blk (List.mem_append_left _ (rows_mem N m gs i hi)) (by rw [Nat.zero_add, Nat.mul_one]; exact rowF_get N _ k hk)
theorem ld_out {b cap t : Nat} {n : Nat} (hi : i < gs.length) : CellAt w0 (rowsCh N m gs ++ .own (.slice (some ⟨b, 0, none⟩) n cap) t 1 n (outV N gs) :: R) b (0 + i * 1) (.slice (some ⟨gAt gs i, 0, none⟩) N N) :=
  cell_own (List.mem_append_right _ (.head _)) (by rw [Nat.zero_add, Nat.mul_one]; exact outV_get N gs i hi)
end
abbrev JX (N : Nat) := { p : List Nat × Value // p.1.length = N }
def JCh (N : Nat) (m : Mx) (x : JX N) : List Chunk := rowsCh N m x.1.1 ++ [.own x.1.2 27 1 N (outV N x.1.1)]
section
variable (rlo rhi : Int) (L : Nat) (Al : Option Addr) (c : Nat) (S : List (List T3)) (w : World) (hN : NestR w 3 Al (nestOf S)) (hO : Okb rlo rhi L S)
include hN hO
set_option maxHeartbeats 8000000 in
set_option maxRecDepth 20000 in
theorem joined_any (but : Int) (N : Nat) (hNn : N = 1 + L + S.flatten.length) : Calls Try.prog 71 #[bookV rlo rhi L Al S.length c, .int .i64 but] w fun e w' =>
    ∃ x : JX N, e = .returned x.1.2 ∧ St w (JCh N (joinP (bnd rlo rhi L S but) N) x) w' := by
  have hF := hO.fit
  have hl := hO.l
  have ht := hO.t
  have hnm := fun w1 (h : NestR w1 3 Al (nestOf S)) => names_any rlo rhi L Al c S w1 h hF (by omega)
  have hbn := fun i k hi hk w1 (h : NestR w1 3 Al (nestOf S)) => bound_any rlo rhi L Al c S w1 h hO but i k hi hk
  have hsm := fun i k hi hk => bnd_small rlo rhi L Al S w hN hO but i k hi hk
  have hrb := fun i k hi hk => rowV_bd rlo rhi L Al S w hN hO but i k hi hk
  unfold bookV at *
  rw [show (1 : Int) + L + S.flatten.length = (N : Int) by omega] at hnm
  have hN20 : N ≤ 19 := by omega
  rw [← hNn] at hbn hsm hrb
  clear hO
  generalize bnd rlo rhi L S but = bf at *
  refine fn_v Try.tabOk (n := 119) (A := []) Try.func71 rfl rfl (Nat.le_of_ble_eq_true rfl) (St.nil (Below.refl _ _)) ?_
  ((try first | apply tr_v Try.tabOk | apply ot_v Try.tabOk); (conv => whnf); (repeat ((first | (apply VCall.q; kernel_rfl; (focus (intro w1 hs; first | with_reducible apply hnm w1 (hs.nest hN)))) | (apply VNew.mk; intro g hg) | (apply VLdN.mk; (focus ((repeat (first | (with_reducible apply ldn_blk) | (with_reducible apply ldn_row) | (with_reducible assumption) | (with_reducible apply ldn_skip))); done)); exact rfl)); (conv => whnf))); try (first | apply VStop.mk | apply VCall.stop))
  revert g hg
  intro gb hgb
  refine tr_own_nil 27 1 ?_
  refine v_loop (fun gm ds ts A => ds = [] ∧ ∃ gs v, gs.length + gm = N ∧ A = rowsCh N (fun i k => rowV bf i k) gs ++ [.own v 27 1 gs.length (outV N gs), .blk gb 26 [.int .i64 rlo, .int .i64 rhi, .int .i64 L, .slice Al S.length c]] ∧ ts = [(1, .int .i64 but), (2, .pointer (some ⟨gb, 0, none⟩)), (5, .int .i64 (N : Int)), (6, v), (7, .int .i64 (gs.length : Int))]) N
    (l := [(1, _), (2, _), (5, _), (6, _), (7, _)]) (B := [_, _]) ?_ (by (repeat (first | exact List.nil_sublist _ | exact List.Sublist.refl _ | refine List.Sublist.cons_cons _ ?_ | refine List.Sublist.cons _ ?_))) ⟨rfl, [], .slice none 0 0, by simp, rfl, rfl⟩ ?_
  · exact ⟨rfl, rfl, rfl, rfl, rfl, trivial⟩
  rintro gm ds ts A ⟨rfl, gs, v, hj, rfl, rfl⟩
  by_cases hlt : gs.length < N
  · ((try first | apply tr_v Try.tabOk | apply ot_v Try.tabOk); (conv => whnf); (repeat ((first | apply VBr.t | (apply v_t; omega)); (conv => whnf))); try (first | apply VStop.mk | apply VCall.stop))
    refine ot_makeSlice (m := N) Try.tabOk (by decide) rfl rfl rfl rfl rfl rfl rfl rfl rfl rfl rfl rfl (by omega) (by decide) (fun g1 hg1 => ?_)
    rw [rowF_zero N bf gs.length]
    ((try first | apply tr_v Try.tabOk | apply ot_v Try.tabOk); (conv => whnf); try (first | apply VStop.mk | apply VCall.stop))
    refine v_loop (fun gm ds ts A => ds = [] ∧ ∃ k, k + gm = N ∧ A = .blk g1 2 (rowF N (rowU bf gs.length k)) :: (rowsCh N (fun i k => rowV bf i k) gs ++ [.own v 27 1 gs.length (outV N gs), .blk gb 26 [.int .i64 rlo, .int .i64 rhi, .int .i64 L, .slice Al S.length c]]) ∧ ts = [(1, .int .i64 but), (2, .pointer (some ⟨gb, 0, none⟩)), (5, .int .i64 (N : Int)), (6, v), (7, .int .i64 (gs.length : Int)), (8, .slice (some ⟨g1, 0, none⟩) N N), (9, .int .i64 (k : Int))]) N
      (l := [(1, _), (2, _), (5, _), (6, _), (7, _), (8, _), (9, _)]) (B := _) ?_ (List.Sublist.refl _) ⟨rfl, 0, by omega, rfl, rfl⟩ ?_
    · exact ⟨rfl, rfl, rfl, rfl, rfl, rfl, rfl, trivial⟩
    rintro gm2 ds ts A ⟨rfl, k, hk, rfl, rfl⟩
    have hbox : ∀ c0, Chunk.blk gb 26 [.int .i64 rlo, .int .i64 rhi, .int .i64 L, .slice Al S.length c] ∈ c0 :: (rowsCh N (fun i k => rowV bf i k) gs ++ [.own v 27 1 gs.length (outV N gs), .blk gb 26 [.int .i64 rlo, .int .i64 rhi, .int .i64 L, .slice Al S.length c]]) := fun c0 => .tail _ (List.mem_append_right _ (.tail _ (.head _)))
    by_cases hlk : k < N
    · have hb1 := hbn gs.length k hlt hlk
      have hst := rowU_step bf gs.length k
      have hrv : rowV bf gs.length k = if gs.length = k then 0 else (bf gs.length k).getD FarC := rfl
      have hFe : FarC = 1099511627776 := rfl
      cases hbv : bf gs.length k with
      | none =>
        rw [hbv] at hb1 hrv
        by_cases hik : gs.length = k
        · rw [if_pos hik] at hrv
          ((try first | apply tr_v Try.tabOk | apply ot_v Try.tabOk); (conv => whnf); (repeat ((first | (apply VLdN.mk; exact cells_blk_all (hbox _); exact rfl) | (apply st_row; omega) | (apply VCall.q; kernel_rfl; (focus (intro w1 hs; first | with_reducible apply hb1 w1 (hs.nest hN)))) | (apply VRng.mk; omega) | apply VBr.t | apply VBr.f | (apply v_t; omega) | (apply VIx.mk; exact rfl; omega)); (conv => whnf))); try (first | apply VStop.mk | apply VCall.stop))
          rw [hrv] at hst
          simp only [updF_updF]
          exact v_rnd (gm2 - 1) (by omega) (l := [(1, _), (2, _), (5, _), (6, _), (7, _), (8, _), (9, _)]) (B := _) ⟨rfl, rfl, rfl, rfl, rfl, rfl, rfl, trivial⟩ (List.Sublist.refl _) ⟨rfl, k + 1, by omega, by rw [← hst], rfl⟩
        · rw [if_neg hik, Option.getD_none, hFe] at hrv
          ((try first | apply tr_v Try.tabOk | apply ot_v Try.tabOk); (conv => whnf); (repeat ((first | (apply VLdN.mk; exact cells_blk_all (hbox _); exact rfl) | (apply st_row; omega) | (apply VCall.q; kernel_rfl; (focus (intro w1 hs; first | with_reducible apply hb1 w1 (hs.nest hN)))) | (apply VRng.mk; omega) | apply VBr.t | apply VBr.f | (apply v_t; omega) | (apply v_f; omega) | (apply VIx.mk; exact rfl; omega)); (conv => whnf))); try (first | apply VStop.mk | apply VCall.stop))
          rw [hrv] at hst
          exact v_rnd (gm2 - 1) (by omega) (l := [(1, _), (2, _), (5, _), (6, _), (7, _), (8, _), (9, _)]) (B := _) ⟨rfl, rfl, rfl, rfl, rfl, rfl, rfl, trivial⟩ (List.Sublist.refl _) ⟨rfl, k + 1, by omega, by rw [← hst], rfl⟩
      | some q =>
        rw [hbv] at hb1 hrv
        by_cases hik : gs.length = k
        · rw [if_pos hik] at hrv
          ((try first | apply tr_v Try.tabOk | apply ot_v Try.tabOk); (conv => whnf); (repeat ((first | (apply VLdN.mk; exact cells_blk_all (hbox _); exact rfl) | (apply st_row; omega) | (apply VCall.q; kernel_rfl; (focus (intro w1 hs; first | with_reducible apply hb1 w1 (hs.nest hN)))) | (apply VRng.mk; omega) | apply VBr.t | (apply v_t; omega) | (apply VIx.mk; exact rfl; omega)); (conv => whnf))); try (first | apply VStop.mk | apply VCall.stop))
          rw [hrv] at hst
          simp only [updF_updF]
          exact v_rnd (gm2 - 1) (by omega) (l := [(1, _), (2, _), (5, _), (6, _), (7, _), (8, _), (9, _)]) (B := _) ⟨rfl, rfl, rfl, rfl, rfl, rfl, rfl, trivial⟩ (List.Sublist.refl _) ⟨rfl, k + 1, by omega, by rw [← hst], rfl⟩
        · rw [if_neg hik, Option.getD_some] at hrv
          ((try first | apply tr_v Try.tabOk | apply ot_v Try.tabOk); (conv => whnf); (repeat ((first | (apply VLdN.mk; exact cells_blk_all (hbox _); exact rfl) | (apply st_row; omega) | (apply VCall.q; kernel_rfl; (focus (intro w1 hs; first | with_reducible apply hb1 w1 (hs.nest hN)))) | (apply VRng.mk; omega) | apply VBr.t | apply VBr.f | (apply v_t; omega) | (apply v_f; omega) | (apply VIx.mk; exact rfl; omega)); (conv => whnf))); try (first | apply VStop.mk | apply VCall.stop))
          rw [hrv] at hst
          simp only [updF_updF]
          exact v_rnd (gm2 - 1) (by omega) (l := [(1, _), (2, _), (5, _), (6, _), (7, _), (8, _), (9, _)]) (B := _) ⟨rfl, rfl, rfl, rfl, rfl, rfl, rfl, trivial⟩ (List.Sublist.refl _) ⟨rfl, k + 1, by omega, by rw [← hst]; rfl, rfl⟩
    · obtain rfl : N = k := by omega
      rw [rowU_full]
      ((try first | apply tr_v Try.tabOk | apply ot_v Try.tabOk); (conv => whnf); (repeat ((first | apply VBr.f | (apply v_f; omega) | (apply VNew.mk; intro g hg)); (conv => whnf))); try (first | apply VStop.mk | apply VCall.stop))
      refine ot_append (sz := 1) (sl := gs.length) (xs := outV N gs) (A'v := fun v' => _ :: .blk g1 2 (rowF N (rowV bf gs.length)) :: (rowsCh N (fun i k => rowV bf i k) gs ++ Chunk.own v' 27 1 (gs.length + 1) (outV N gs ++ [Value.slice (some ⟨g1, 0, none⟩) N N]) :: [Chunk.blk gb 26 [.int .i64 rlo, .int .i64 rhi, .int .i64 L, .slice Al S.length c]])) Try.tabOk rfl rfl rfl rfl rfl rfl rfl rfl rfl rfl (by decide) rfl (cells_blk_all (.head _)) rfl rfl (fun v' => .there (.there (upd_app _ _))) (by omega) (by decide) (fun v' => ?_)
      ((try first | apply tr_v Try.tabOk | apply ot_v Try.tabOk); (conv => whnf); (repeat ((first | (apply VRng.mk; omega)); (conv => whnf))); try (first | apply VStop.mk | apply VCall.stop))
      exact v_rnd (gm - 1) (by omega) (l := [(1, _), (2, _), (5, _), (6, _), (7, _)]) (B := .blk g1 2 _ :: (_ ++ .own v' 27 1 _ _ :: [_])) ⟨rfl, rfl, rfl, rfl, rfl, trivial⟩ (List.Sublist.cons _ (List.Sublist.refl _)) ⟨rfl, g1 :: gs, v', by simp; omega, by rw [outV_cons]; rfl, by simp⟩
  · have hNg : gs.length = N := by omega
    rw [hNg]
    obtain ⟨m0, hm0⟩ : ∃ m0 : Mx, m0 = fun i k => rowV bf i k := ⟨_, rfl⟩
    have hBM : BMN N m0 := fun i k hi hk => by rw [hm0]; exact hrb i k hi hk
    have hjp : joinP bf N = fwM N N m0 := by rw [hm0]; rfl
    rw [hjp]
    rw [← hm0]
    clear hrb hsm hbn hnm hm0 hjp
    have hFe : FarC = 1099511627776 := rfl
    ((try first | apply tr_v Try.tabOk | apply ot_v Try.tabOk); (conv => whnf); (repeat ((first | apply VBr.f | (apply v_f; omega)); (conv => whnf))); try (first | apply VStop.mk | apply VCall.stop))
    refine v_loop (fun gm ds ts A => ds = [] ∧ ∃ mm, mm + gm = N ∧ A = rowsCh N (fwM N mm m0) gs ++ [.own v 27 1 N (outV N gs)] ∧ ts = [(5, .int .i64 (N : Int)), (6, v), (12, .int .i64 (mm : Int))]) N
      (l := [(5, _), (6, _), (12, _)]) (B := rowsCh N (fwM N 0 m0) gs ++ [.own v 27 1 N (outV N gs)]) ?_ ((List.Sublist.refl _).append (List.Sublist.cons_cons _ (List.nil_sublist _))) ⟨rfl, 0, by omega, rfl, rfl⟩ ?_
    · exact ⟨rfl, rfl, rfl, trivial⟩
    rintro gm ds ts A ⟨rfl, mm, hmm, rfl, rfl⟩
    by_cases hlt : mm < N
    rotate_left
    · obtain rfl : N = mm := by omega
      ((try first | apply tr_v Try.tabOk | apply ot_v Try.tabOk); (conv => whnf); (repeat ((first | apply VBr.f | (apply v_f; omega)); (conv => whnf))); try (first | apply VStop.mk | apply VCall.stop))
      (apply VRet.mk)
      refine ret1 (by first | exact .inl rfl | exact .inr rfl) rfl (by exact rv_tmp rfl) ?_
      exact fun w1 hs => ⟨⟨(gs, v), hNg⟩, rfl, hs⟩
    · have hB1 := hBM.fwM mm (by omega)
      generalize hm1 : fwM N mm m0 = m1 at *
      have hm1' : fwM N (mm + 1) m0 = fwI N mm N m1 := by rw [← hm1]; rfl
      ((try first | apply tr_v Try.tabOk | apply ot_v Try.tabOk); (conv => whnf); (repeat ((first | apply VBr.t | (apply v_t; omega)); (conv => whnf))); try (first | apply VStop.mk | apply VCall.stop))
      refine v_loop (fun gm ds ts A => ds = [] ∧ ∃ i, i + gm = N ∧ A = rowsCh N (fwI N mm i m1) gs ++ [.own v 27 1 N (outV N gs)] ∧ ts = [(5, .int .i64 (N : Int)), (6, v), (12, .int .i64 (mm : Int)), (13, .int .i64 (i : Int))]) N
        (l := [(5, _), (6, _), (12, _), (13, _)]) (B := rowsCh N (fwI N mm 0 m1) gs ++ [.own v 27 1 N (outV N gs)]) ?_ (List.Sublist.refl _) ⟨rfl, 0, by omega, rfl, rfl⟩ ?_
      · exact ⟨rfl, rfl, rfl, rfl, trivial⟩
      rintro gm2 ds ts A ⟨rfl, i, hii, rfl, rfl⟩
      by_cases hli : i < N
      rotate_left
      · obtain rfl : N = i := by omega
        ((try first | apply tr_v Try.tabOk | apply ot_v Try.tabOk); (conv => whnf); (repeat ((first | (apply VRng.mk; omega) | apply VBr.f | (apply v_f; omega)); (conv => whnf))); try (first | apply VStop.mk | apply VCall.stop))
        exact v_rnd (gm - 1) (by omega) (l := [(5, _), (6, _), (12, _)]) (B := _) ⟨rfl, rfl, rfl, trivial⟩ (List.Sublist.refl _) ⟨rfl, mm + 1, by omega, by rw [hm1'], rfl⟩
      · have hB2 := hB1.fwI mm hlt i (by omega)
        generalize hm2 : fwI N mm i m1 = m2 at *
        have hm2' : fwI N mm (i + 1) m1 = fwK mm i N m2 := by rw [← hm2]; rfl
        ((try first | apply tr_v Try.tabOk | apply ot_v Try.tabOk); (conv => whnf); (repeat ((first | apply VBr.t | (apply v_t; omega)); (conv => whnf))); try (first | apply VStop.mk | apply VCall.stop))
        refine v_loop (fun gm ds ts A => ds = [] ∧ ∃ k, k + gm = N ∧ A = rowsCh N (fwK mm i k m2) gs ++ [.own v 27 1 N (outV N gs)] ∧ ts = [(5, .int .i64 (N : Int)), (6, v), (12, .int .i64 (mm : Int)), (13, .int .i64 (i : Int)), (14, .int .i64 (k : Int))]) N
          (l := [(5, _), (6, _), (12, _), (13, _), (14, _)]) (B := rowsCh N (fwK mm i 0 m2) gs ++ [.own v 27 1 N (outV N gs)]) ?_ (List.Sublist.refl _) ⟨rfl, 0, by omega, rfl, rfl⟩ ?_
        · exact ⟨rfl, rfl, rfl, rfl, rfl, trivial⟩
        rintro gm3 ds ts A ⟨rfl, k, hkk, rfl, rfl⟩
        by_cases hlk : k < N
        rotate_left
        · obtain rfl : N = k := by omega
          ((try first | apply tr_v Try.tabOk | apply ot_v Try.tabOk); (conv => whnf); (repeat ((first | (apply VRng.mk; omega) | apply VBr.f | (apply v_f; omega)); (conv => whnf))); try (first | apply VStop.mk | apply VCall.stop))
          exact v_rnd (gm2 - 1) (by omega) (l := [(5, _), (6, _), (12, _), (13, _)]) (B := _) ⟨rfl, rfl, rfl, rfl, trivial⟩ (List.Sublist.refl _) ⟨rfl, i + 1, by omega, by rw [hm2'], rfl⟩
        · have hB3 := hB2.fwK mm i hlt hli k (by omega)
          generalize hm3 : fwK mm i k m2 = m3 at *
          have hm3' : fwK mm i (k + 1) m2 = fwS m3 mm i k := by rw [← hm3]; rfl
          refine tr_fact (p := ∃ b cap, v = .slice (some ⟨b, 0, none⟩) N cap) (fun w1 hs => ?_) ?_
          · obtain ⟨B, cp, e, hB⟩ := own_form (hs.all _ (List.mem_append_right _ (.head _)))
            obtain ⟨b, rfl⟩ := hB (by omega)
            exact ⟨b, cp, e⟩
          rintro ⟨b, cap, rfl⟩
          have hli' : i < gs.length := by omega
          have hlm' : mm < gs.length := by omega
          have b1 := hB3 i mm hli hlt
          have b2 := hB3 mm k hlt hlk
          have b3 := hB3 i k hli hlk
          by_cases c1 : m3 i mm < FarC
          · by_cases c2 : m3 mm k < FarC
            · have hst : fwS m3 mm i k = updR m3 i (updF (m3 i) k (fwV m3 mm i k)) := by unfold fwS; rw [if_pos ⟨c1, c2⟩]
              have hfv : fwV m3 mm i k = (if (if m3 i mm + m3 mm k < m3 i k then m3 i mm + m3 mm k else m3 i k) > -1099511627776 then (if m3 i mm + m3 mm k < m3 i k then m3 i mm + m3 mm k else m3 i k) else -1099511627776) := rfl
              ((try first | apply tr_v Try.tabOk | apply ot_v Try.tabOk); (conv => whnf); (repeat ((first | ((first | apply VStop.mk | apply VCall.stop); (first | refine tr_region_lex (id := 27) (by kernel_rfl) [.rd, .rd, .rd, .rd, .rd, .rd, .rd, .rd, .rd, .rd, .rd, .rd, .rd, .rd, .rd, .rd, .rd, .rd, .rd, .rd, .rd, .rd, .rd, .rd, .rd, .rd, .rd, .rd, .rd, .rd, .wr] rfl (by kernel_rfl) ?_); try first | apply ot_v Try.tabOk | apply tr_v Try.tabOk) | (apply VLd.mk; first | exact ld_out hli' | exact ld_out hlm' | exact ld_rows hli' hlt | exact ld_rows hlm' hlk | exact ld_rows hli' hlk) | (apply st_rows hli' hlk) | (apply VRng.mk; omega) | apply VBr.t | (apply v_t; omega) | (apply VIx.mk; exact rfl; omega)); (conv => whnf))); try (first | apply VStop.mk | apply VCall.stop))
              exact v_rnd (gm3 - 1) (by omega) (l := [(5, _), (6, _), (12, _), (13, _), (14, _)]) (B := _) ⟨rfl, rfl, rfl, rfl, rfl, trivial⟩ (List.Sublist.refl _) ⟨rfl, k + 1, by omega, by rw [hm3', hst, hfv], rfl⟩
            · have hst : fwS m3 mm i k = m3 := by unfold fwS; rw [if_neg (fun h => c2 h.2)]
              ((try first | apply tr_v Try.tabOk | apply ot_v Try.tabOk); (conv => whnf); (repeat ((first | ((first | apply VStop.mk | apply VCall.stop); (first | refine tr_region_lex (id := 27) (by kernel_rfl) [.rd, .rd, .rd, .rd, .rd, .rd, .rd, .rd, .rd, .rd, .rd, .rd, .rd, .rd, .rd, .rd, .rd, .rd, .rd, .rd, .rd, .rd, .rd, .rd, .rd, .rd, .rd, .rd, .rd, .rd, .wr] rfl (by kernel_rfl) ?_); try first | apply ot_v Try.tabOk | apply tr_v Try.tabOk) | (apply VLd.mk; first | exact ld_out hli' | exact ld_out hlm' | exact ld_rows hli' hlt | exact ld_rows hlm' hlk | exact ld_rows hli' hlk) | (apply st_rows hli' hlk) | (apply VRng.mk; omega) | apply VBr.t | apply VBr.f | (apply v_t; omega) | (apply v_f; omega) | (apply VIx.mk; exact rfl; omega)); (conv => whnf))); try (first | apply VStop.mk | apply VCall.stop))
              exact v_rnd (gm3 - 1) (by omega) (l := [(5, _), (6, _), (12, _), (13, _), (14, _)]) (B := _) ⟨rfl, rfl, rfl, rfl, rfl, trivial⟩ (List.Sublist.refl _) ⟨rfl, k + 1, by omega, by rw [hm3', hst], rfl⟩
          · have hst : fwS m3 mm i k = m3 := by unfold fwS; rw [if_neg (fun h => c1 h.1)]
            ((try first | apply tr_v Try.tabOk | apply ot_v Try.tabOk); (conv => whnf); (repeat ((first | ((first | apply VStop.mk | apply VCall.stop); (first | refine tr_region_lex (id := 27) (by kernel_rfl) [.rd, .rd, .rd, .rd, .rd, .rd, .rd, .rd, .rd, .rd, .rd, .rd, .rd, .rd, .rd, .rd, .rd, .rd, .rd, .rd, .rd, .rd, .rd, .rd, .rd, .rd, .rd, .rd, .rd, .rd, .wr] rfl (by kernel_rfl) ?_); try first | apply ot_v Try.tabOk | apply tr_v Try.tabOk) | (apply VLd.mk; first | exact ld_out hli' | exact ld_out hlm' | exact ld_rows hli' hlt | exact ld_rows hlm' hlk | exact ld_rows hli' hlk) | (apply st_rows hli' hlk) | (apply VRng.mk; omega) | apply VBr.t | apply VBr.f | (apply v_t; omega) | (apply v_f; omega) | (apply VIx.mk; exact rfl; omega)); (conv => whnf))); try (first | apply VStop.mk | apply VCall.stop))
            exact v_rnd (gm3 - 1) (by omega) (l := [(5, _), (6, _), (12, _), (13, _), (14, _)]) (B := _) ⟨rfl, rfl, rfl, rfl, rfl, trivial⟩ (List.Sublist.refl _) ⟨rfl, k + 1, by omega, by rw [hm3', hst], rfl⟩
end
end Go.Proofs.Ytkbcogaodnmdoaa
