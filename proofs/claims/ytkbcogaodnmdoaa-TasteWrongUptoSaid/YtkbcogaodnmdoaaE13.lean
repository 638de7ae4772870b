/- The tongue: its map, plainly: lemmas for the rows of this seat. No conditions. -/
import Derived.Test.YtkbcogaodnmdoaaProg
import Derived.WalkKit
import Derived.WalkSpells
import Derived.WalkLawsBesides
import Derived.Lib.Hide
import Derived.Deep.AppendLies
import Derived.Deep.Draws
import Derived.Maps.AppendAt
import Derived.RegionTactic
import Derived.OwnWalk
import Derived.Deep.QuietTactic
import Derived.BigQuiet
import Derived.Deep.DeepFit
import Derived.Deep.LoopGhost
import Derived.Deep.DeepMust
import Derived.Deep.DeepCutAuto
import Derived.StillTail
import Derived.Deep.Quiet
import Derived.Deep.RegionHeld3
import Derived.Deep.RegionWith
import Derived.Deep.RegionLaw
import Derived.Maps.OwnOps
import Derived.Maps.OwnSet
import Derived.Maps.OwnRows
import Derived.Maps.RangeWalk
import Derived.Carry
import Derived.Test.YtkbcogaodnmdoaaBase
import Derived.Test.YtkbcogaodnmdoaaMaps
import Derived.Test.YtkbcogaodnmdoaaKeys
import Derived.Test.YtkbcogaodnmdoaaS1
import Derived.Test.YtkbcogaodnmdoaaS5
import Derived.Test.YtkbcogaodnmdoaaS12
import Derived.Test.YtkbcogaodnmdoaaS14
import Derived.Test.YtkbcogaodnmdoaaV
import Derived.Test.YtkbcogaodnmdoaaV2
import Derived.Test.YtkbcogaodnmdoaaTab
import Derived.Test.YtkbcogaodnmdoaaE1
import Derived.Test.YtkbcogaodnmdoaaE2
import Derived.Test.YtkbcogaodnmdoaaE3
import Derived.Test.YtkbcogaodnmdoaaE4
import Derived.Test.YtkbcogaodnmdoaaE5
import Derived.Test.YtkbcogaodnmdoaaE6
import Derived.Test.YtkbcogaodnmdoaaE7
import Derived.Test.YtkbcogaodnmdoaaE8
import Derived.Test.YtkbcogaodnmdoaaE9
import Derived.Test.YtkbcogaodnmdoaaE10
import Derived.Test.YtkbcogaodnmdoaaE11
import Derived.Test.YtkbcogaodnmdoaaE12
set_option linter.all false
namespace Go.Proofs.Ytkbcogaodnmdoaa
open Go.RowKit
/-! ## The tongue: its map, plainly -/
def pairE (p : Int × Int) : Value := .agg #[.int .i64 p.1, .int .i64 p.2]
theorem pairK : KeyEnc Try.prog 92 pairE := pairKeys Try.underlying92 Try.underlying3 Try.underlying3 rfl rfl (by decide) (by decide) (by kernel_rfl)
theorem mapT : Try.prog.underlying 84 = some (.map 92 2) := Try.underlying84
theorem zv2 : ∀ w, (zeroValue 2).run Try.prog w = .ok (.int .i64 0) w := fun w => by kernel_rfl
def vO' (o : Option Int) : Option Value := o.map (.int .i64)
/-- The bounds between the first names. -/
def resM (bf : Nat → Nat → Option Int) (M : Nat) : Int × Int → Option Value := fun p => if 0 ≤ p.1 ∧ p.1 < M ∧ 0 ≤ p.2 ∧ p.2 < M then vO' (bf p.1.toNat p.2.toNat) else none
theorem resM_nat (bf : Nat → Nat → Option Int) (M : Nat) (i k : Nat) : resM bf M ((i : Int), (k : Int)) = if i < M ∧ k < M then vO' (bf i k) else none := by
  unfold resM
  simp only [Int.toNat_natCast]
  by_cases h : i < M ∧ k < M
  · rw [if_pos h, if_pos (by omega)]
  · rw [if_neg h, if_neg (by omega)]
theorem updM_pair (m : Int × Int → Option Value) (a b x y : Int) (v : Value) : updM m (a, b) v (x, y) = if x = a ∧ y = b then some v else m (x, y) := by
  simp only [updM, Prod.mk.injEq]
theorem firstFrom_lt : ∀ (S : List (List T3)) (m : Nat) (k : Int), k < m → firstFrom m S k = false
  | [], _, _, _ => rfl
  | s :: S, m, k, h => by rw [firstFrom, decide_eq_false (by omega), Bool.false_or, firstFrom_lt S _ k (by push_cast; omega)]
theorem firstFrom_at : ∀ (S : List (List T3)) (m j k : Nat), (∀ s ∈ S, s.length ≠ 0) → (hj : j < S.length) → k < S[j].length → firstFrom m S ((m + (S.take j).flatten.length + k : Nat) : Int) = decide (k = 0)
  | [], _, j, _, _, hj, _ => by simp at hj
  | s :: S, m, 0, k, hne, hj, hk => by
    rw [firstFrom]
    have e0 : m + (List.take 0 (s :: S)).flatten.length + k = m + k := by simp
    simp only [List.getElem_cons_zero] at hk
    rw [e0, firstFrom_lt S _ _ (by push_cast; omega), Bool.or_false]
    by_cases h : k = 0
    · rw [decide_eq_true h, decide_eq_true (by omega)]
    · rw [decide_eq_false h, decide_eq_false (by omega)]
  | s :: S, m, j + 1, k, hne, hj, hk => by
    have hs := hne s (.head _)
    have ih := firstFrom_at S (m + s.length) j k (fun x hx => hne x (.tail _ hx)) (by simpa using hj) (by simpa using hk)
    rw [firstFrom, decide_eq_false (by simp only [List.take_succ_cons, List.flatten_cons, List.length_append]; omega), Bool.false_or, ← ih]
    congr 2
    simp only [List.take_succ_cons, List.flatten_cons, List.length_append]
    omega
theorem first_at {S : List (List T3)} (hne : ∀ s ∈ S, s.length ≠ 0) {j k : Nat} (hj : j < S.length) (hk : k < S[j].length) : firstB S (((S.take j).flatten.length + k : Nat) : Int) = decide (k = 0) := by
  have := firstFrom_at S 0 j k hne hj hk
  rwa [Nat.zero_add] at this
theorem taste_at {S : List (List T3)} {j k : Nat} (hj : j < S.length) (hk : k < S[j].length) : tasteAt S ((S.take j).flatten.length + k) = S[j][k] := by
  have h1 : S.flatten = (S.take (j + 1)).flatten ++ (S.drop (j + 1)).flatten := by rw [← List.flatten_append, List.take_append_drop]
  unfold tasteAt
  rw [h1, flat_step S j hj, List.append_assoc, List.getElem?_append_right (by omega), Nat.add_sub_cancel_left, List.getElem?_append_left hk, List.getElem?_eq_getElem hk, Option.getD_some]
theorem flat_lt {S : List (List T3)} {j k : Nat} (hj : j < S.length) (hk : k < S[j].length) : (S.take j).flatten.length + k < S.flatten.length := by
  have h1 := flat_le S (j + 1)
  rw [flat_step S j hj, List.length_append] at h1
  omega
theorem res_lot (rlo rhi : Int) (L : Nat) (S : List (List T3)) (i : Nat) (hi : i < L) :
    updM (updM (resM (bnd rlo rhi L S (-1)) (i + 1)) ((0 : Int), (i : Int) + 1) (.int .i64 1000)) ((i : Int) + 1, (0 : Int)) (.int .i64 0) = resM (bnd rlo rhi L S (-1)) (i + 2) := by
  funext ⟨a, b⟩
  rw [updM_pair, updM_pair]
  by_cases hab : 0 ≤ a ∧ 0 ≤ b
  rotate_left
  · rw [if_neg (by omega), if_neg (by omega)]
    unfold resM
    rw [if_neg (by dsimp only; omega), if_neg (by dsimp only; omega)]
  obtain ⟨x, rfl⟩ : ∃ x : Nat, a = x := ⟨a.toNat, by omega⟩
  obtain ⟨y, rfl⟩ : ∃ y : Nat, b = y := ⟨b.toNat, by omega⟩
  rw [resM_nat, resM_nat]
  by_cases h1 : x < i + 1 ∧ y < i + 1
  · rw [if_neg (by omega), if_neg (by omega), if_pos h1, if_pos (by omega)]
  rw [if_neg h1]
  by_cases h2 : x = i + 1 ∧ y = 0
  · obtain ⟨rfl, rfl⟩ := h2
    rw [if_pos (by omega), if_pos (by omega)]
    unfold bnd
    rw [if_neg (by omega), if_pos (by omega), if_pos rfl]; rfl
  rw [if_neg (by omega)]
  by_cases h3 : x = 0 ∧ y = i + 1
  · obtain ⟨rfl, rfl⟩ := h3
    rw [if_pos (by omega), if_pos (by omega)]
    unfold bnd
    rw [if_pos rfl, if_neg (by omega), if_pos (by omega)]; rfl
  rw [if_neg (by omega)]
  by_cases h4 : x < i + 2 ∧ y < i + 2
  · rw [if_pos h4]
    have : bnd rlo rhi L S (-1) x y = none := by
      unfold bnd
      by_cases hx : x = 0
      · subst hx; rw [if_pos rfl, if_pos (by omega)]
      · rw [if_neg hx, if_pos (by omega)]
        by_cases hy : y = 0
        · omega
        · rw [if_neg hy, if_pos (by omega)]
    rw [this]; rfl
  · rw [if_neg h4]
theorem res_zero (rlo rhi : Int) (L : Nat) (S : List (List T3)) : resM (bnd rlo rhi L S (-1)) 1 = fun _ => none := by
  funext ⟨a, b⟩
  unfold resM
  split
  · rename_i h
    dsimp only at h ⊢
    obtain rfl : a = 0 := by omega
    obtain rfl : b = 0 := by omega
    have : bnd rlo rhi L S (-1) (0 : Int).toNat (0 : Int).toNat = none := by
      rw [show (0 : Int).toNat = 0 from rfl]; unfold bnd; rw [if_pos rfl, if_pos rfl]
    rw [this]; rfl
  · rfl
theorem res_taste (rlo rhi : Int) (L : Nat) (S : List (List T3)) (t q : Nat) (hq : q < L) (hq' : (tasteAt S t).1 = q) (hf0 : t = 0 → firstB S (t : Int) = true) (m : Int × Int → Option Value)
    (hm : m = if firstB S (t : Int) = true then updM (updM (resM (bnd rlo rhi L S (-1)) (t + L + 1)) ((0 : Int), ((t + L + 1 : Nat) : Int)) (.int .i64 0)) (((t + L + 1 : Nat) : Int), (0 : Int)) (.int .i64 0)
      else updM (updM (resM (bnd rlo rhi L S (-1)) (t + L + 1)) (((t + L + 1 : Nat) : Int) - 1, ((t + L + 1 : Nat) : Int)) (.int .i64 rhi)) (((t + L + 1 : Nat) : Int), ((t + L + 1 : Nat) : Int) - 1) (.int .i64 (-rlo))) :
    updM (updM m (((t + L + 1 : Nat) : Int), (q : Int) + 1) (.int .i64 (tasteAt S t).2.2)) ((q : Int) + 1, ((t + L + 1 : Nat) : Int)) (.int .i64 (-(tasteAt S t).2.1)) = resM (bnd rlo rhi L S (-1)) (t + 1 + L + 1) := by
  funext ⟨a, b⟩
  rw [updM_pair, updM_pair]
  by_cases hab : 0 ≤ a ∧ 0 ≤ b
  rotate_left
  · rw [if_neg (by omega), if_neg (by omega), hm]
    have e1 : resM (bnd rlo rhi L S (-1)) (t + 1 + L + 1) (a, b) = none := by unfold resM; rw [if_neg (by dsimp only; omega)]
    have e2 : resM (bnd rlo rhi L S (-1)) (t + L + 1) (a, b) = none := by unfold resM; rw [if_neg (by dsimp only; omega)]
    rw [e1]
    split
    · rw [updM_pair, updM_pair]; rw [if_neg (by omega), if_neg (by omega), e2]
    · rw [updM_pair, updM_pair]
      have h0 : ¬ t = 0 := fun h => by rename_i hx; exact hx (hf0 h)
      rw [if_neg (by omega), if_neg (by omega), e2]
  obtain ⟨x, rfl⟩ : ∃ x : Nat, a = x := ⟨a.toNat, by omega⟩
  obtain ⟨y, rfl⟩ : ∃ y : Nat, b = y := ⟨b.toNat, by omega⟩
  rw [resM_nat]
  have hb : ∀ u v : Nat, u = x → v = y → bnd rlo rhi L S (-1) x y = bnd rlo rhi L S (-1) u v := fun u v h1 h2 => by rw [h1, h2]
  by_cases h1 : x < t + L + 1 ∧ y < t + L + 1
  · rw [if_neg (by omega), if_neg (by omega), if_pos (by omega), hm]
    split
    · rw [updM_pair, updM_pair]; rw [if_neg (by omega), if_neg (by omega), resM_nat, if_pos h1]
    · rw [updM_pair, updM_pair]; rw [if_neg (by omega), if_neg (by omega), resM_nat, if_pos h1]
  have hr0 : resM (bnd rlo rhi L S (-1)) (t + L + 1) ((x : Int), (y : Int)) = none := by rw [resM_nat, if_neg h1]
  by_cases h2 : x = q + 1 ∧ y = t + L + 1
  · obtain ⟨rfl, rfl⟩ := h2
    rw [if_pos (by omega), if_pos (by omega)]
    unfold bnd
    rw [if_neg (by omega), if_pos (by omega), if_neg (by omega), if_neg (by omega), show t + L + 1 - L - 1 = t by omega, if_pos ⟨by omega, by omega⟩]; rfl
  rw [if_neg (by omega)]
  by_cases h3 : x = t + L + 1 ∧ y = q + 1
  · obtain ⟨rfl, rfl⟩ := h3
    rw [if_pos (by omega), if_pos (by omega)]
    unfold bnd
    rw [if_neg (by omega), if_neg (by omega), if_neg (by omega), if_pos (by omega), show t + L + 1 - L - 1 = t by omega, if_pos ⟨by omega, by omega⟩]; rfl
  rw [if_neg (by omega)]
  by_cases h4 : x < t + 1 + L + 1 ∧ y < t + 1 + L + 1
  rotate_left
  · rw [if_neg h4, hm]
    split
    · rw [updM_pair, updM_pair]; rw [if_neg (by omega), if_neg (by omega), hr0]
    · rw [updM_pair, updM_pair]; rw [if_neg (by omega), if_neg (by omega), hr0]
  rw [if_pos h4]
  rcases Nat.lt_or_ge x (t + L + 1) with hx | hx
  · -- y is the new name
    obtain rfl : y = t + L + 1 := by omega
    have hxq : x ≠ q + 1 := fun h => h2 ⟨h, rfl⟩
    rw [hm]
    cases hf : firstB S (t : Int) with
    | true =>
      have hbv : bnd rlo rhi L S (-1) x (t + L + 1) = if x = 0 then some 0 else none := by
        unfold bnd
        by_cases hx0 : x = 0
        · rw [if_pos hx0, if_pos hx0, if_neg (by omega), if_neg (by omega), show t + L + 1 - L - 1 = t by omega, if_pos hf]
        · rw [if_neg hx0, if_neg hx0]
          by_cases hxL : x ≤ L
          · rw [if_pos hxL, if_neg (by omega), if_neg (by omega), show t + L + 1 - L - 1 = t by omega, if_neg (by omega)]
          · rw [if_neg hxL, if_neg (by omega), if_neg (by omega), show t + L + 1 - L - 1 = t by omega, if_neg (fun h => by rw [hf] at h; cases h.2), if_neg (by omega)]
      rw [hbv, if_pos rfl, updM_pair, updM_pair, if_neg (by omega)]
      by_cases hx0 : x = 0
      · rw [if_pos (by omega), if_pos hx0]; rfl
      · rw [if_neg (by omega), if_neg hx0, hr0]; rfl
    | false =>
      have ht0 : t ≠ 0 := fun h => by have := hf0 h; rw [hf] at this; cases this
      have hbv : bnd rlo rhi L S (-1) x (t + L + 1) = if x = t + L then some rhi else none := by
        unfold bnd
        by_cases hx0 : x = 0
        · rw [if_pos hx0, if_neg (by omega), if_neg (by omega), show t + L + 1 - L - 1 = t by omega, if_neg (by rw [hf]; simp), if_neg (by omega)]
        · rw [if_neg hx0]
          by_cases hxL : x ≤ L
          · rw [if_pos hxL, if_neg (by omega), if_neg (by omega), show t + L + 1 - L - 1 = t by omega, if_neg (by omega), if_neg (by omega)]
          · rw [if_neg hxL, if_neg (by omega), if_neg (by omega), show t + L + 1 - L - 1 = t by omega]
            by_cases hx1 : x = t + L
            · rw [if_pos hx1, if_pos ⟨by omega, hf⟩]
            · rw [if_neg hx1, if_neg (fun h => by omega), if_neg (fun h => by omega)]
      rw [hbv, if_neg (by simp), updM_pair, updM_pair, if_neg (by omega)]
      by_cases hx1 : x = t + L
      · rw [if_pos (by omega), if_pos hx1]; rfl
      · rw [if_neg (by omega), if_neg hx1, hr0]; rfl
  · obtain rfl : x = t + L + 1 := by omega
    rw [hm]
    cases hf : firstB S (t : Int) with
    | true =>
      have hbv : bnd rlo rhi L S (-1) (t + L + 1) y = if y = 0 then some 0 else none := by
        unfold bnd
        rw [if_neg (by omega), if_neg (by omega), show t + L + 1 - L - 1 = t by omega]
        by_cases hy0 : y = 0
        · rw [if_pos hy0, if_pos hy0, if_pos hf]
        · rw [if_neg hy0, if_neg hy0]
          by_cases hyL : y ≤ L
          · rw [if_pos hyL, if_neg (by omega)]
          · rw [if_neg hyL, if_neg (by omega), if_neg (fun h => by rw [hf] at h; cases h.2)]
      rw [hbv, if_pos rfl, updM_pair, updM_pair]
      by_cases hy0 : y = 0
      · rw [if_pos (by omega), if_pos hy0]; rfl
      · rw [if_neg (by omega), if_neg (by omega), if_neg hy0, hr0]; rfl
    | false =>
      have ht0 : t ≠ 0 := fun h => by have := hf0 h; rw [hf] at this; cases this
      have hbv : bnd rlo rhi L S (-1) (t + L + 1) y = if y = t + L then some (-rlo) else none := by
        unfold bnd
        rw [if_neg (by omega), if_neg (by omega), show t + L + 1 - L - 1 = t by omega]
        by_cases hy0 : y = 0
        · rw [if_pos hy0, if_neg (by rw [hf]; simp), if_neg (by omega)]
        · rw [if_neg hy0]
          by_cases hyL : y ≤ L
          · rw [if_pos hyL, if_neg (by omega), if_neg (by omega)]
          · rw [if_neg hyL, if_neg (by omega)]
            by_cases hy1 : y = t + L
            · rw [if_pos hy1, if_pos ⟨by omega, hf⟩]
            · rw [if_neg hy1, if_neg (fun h => by omega)]
      rw [hbv, if_neg (by simp), updM_pair, updM_pair]
      by_cases hy1 : y = t + L
      · rw [if_pos (by omega), if_pos hy1]; rfl
      · rw [if_neg (by omega), if_neg (by omega), if_neg hy1, hr0]; rfl
/-! ## The tongue -/
def tongueC (rlo rhi : Int) (L : Nat) (Al : Option Addr) (n c : Nat) (x : Value) (gm : Nat) : List Value := [.int .i64 rlo, .int .i64 rhi, .int .i64 L, .slice Al n c, x, .map (some gm)]
/-- A tongue lies in memory, with its map. -/
structure TongueAt (rlo rhi : Int) (L : Nat) (Al : Option Addr) (c : Nat) (S : List (List T3)) (m : Int × Int → Option Value) (gt gm : Nat) (B : Option Addr) (cap : Nat) (w : World) : Prop where
  cell : ∀ (j : Nat) (u : Value), (tongueC rlo rhi L Al S.length c (.slice B S.flatten.length cap) gm)[j]? = some u → w.cell? ⟨gt, j, none⟩ = some u
  own : Reads w w.heap.size 3 B S.flatten.length (saidCells S.flatten)
  mlt : gm < w.heap.size
  map : ∃ st, MapP pairE m st w.heap[gm]?
structure TongueX where
  (gt gm : Nat) (B : Option Addr) (cap : Nat) (st : List (Nat × Int × Int))
/-- What holds a tongue. -/
def tongueCh (rlo rhi : Int) (L : Nat) (Al : Option Addr) (c : Nat) (S : List (List T3)) (m : Int × Int → Option Value) (x : TongueX) : List Chunk :=
  [.blk x.gt 86 (tongueC rlo rhi L Al S.length c (.slice x.B S.flatten.length x.cap) x.gm), .prd x.gm (MapP pairE m x.st), .own (.slice x.B S.flatten.length x.cap) 67 3 S.flatten.length (saidCells S.flatten)]
def TongueRet (rlo rhi : Int) (L : Nat) (Al : Option Addr) (c : Nat) (S : List (List T3)) (m : Int × Int → Option Value) (w : World) (e : Ending) (w' : World) : Prop :=
  ∃ x : TongueX, e = .returned (.pointer (some ⟨x.gt, 0, none⟩)) ∧ St w (tongueCh rlo rhi L Al c S m x) w'
theorem St.tongue {rlo rhi : Int} {L : Nat} {Al : Option Addr} {c : Nat} {S : List (List T3)} {m : Int × Int → Option Value} {x : TongueX} {A : List Chunk} {w0 w : World} (hs : St w0 A w) (h : ∀ c' ∈ tongueCh rlo rhi L Al c S m x, c' ∈ A) :
    TongueAt rlo rhi L Al c S m x.gt x.gm x.B x.cap w where
  cell := fun j u hu => by
    rw [(hs.all _ (h _ (.head _))).2.cell]
    simpa using hu
  own := hs.own_rd (h _ (.tail _ (.tail _ (.head _))))
  mlt := (hs.all _ (h _ (.tail _ (.head _)))).2.1
  map := ⟨x.st, (hs.all _ (h _ (.tail _ (.head _)))).2.2⟩
theorem TongueAt.grow {rlo rhi : Int} {L : Nat} {Al : Option Addr} {c : Nat} {S : List (List T3)} {m : Int × Int → Option Value} {gt gm : Nat} {B : Option Addr} {cap : Nat} {w w' : World} (h : TongueAt rlo rhi L Al c S m gt gm B cap w) (hb : Below w.heap.size w w') : TongueAt rlo rhi L Al c S m gt gm B cap w' where
  cell := fun j u hu => by
    have h1 := h.cell j u hu
    have h2 : gt < w.heap.size := by
      have h3 := h1
      simp only [World.cell?] at h3
      rcases Nat.lt_or_ge gt w.heap.size with h4 | h4
      · exact h4
      · simp [Array.getElem?_eq_none h4] at h3
    rw [hb.cell (p := ⟨gt, j, none⟩) h2]; exact h1
  own := (h.own.below hb).more hb.size
  mlt := Nat.lt_of_lt_of_le h.mlt hb.size
  map := by rw [hb.block gm h.mlt]; exact h.map
section
variable (rlo rhi : Int) (L : Nat) (Al : Option Addr) (c : Nat) (S : List (List T3)) (m : Int × Int → Option Value) (gt gm : Nat) (B : Option Addr) (cap : Nat) (w : World) (hT : TongueAt rlo rhi L Al c S m gt gm B cap w)
include hT
set_option maxRecDepth 20000 in
theorem namesP_any (hl : L ≤ 1000) (ht : S.flatten.length ≤ 1000) : Calls Try.prog 72 #[.pointer (some ⟨gt, 0, none⟩)] w fun e w' => e = .returned (.int .i64 ((1 + L + S.flatten.length : Nat) : Int)) ∧ Below w.heap.size w w' := by
  have hc := hT.cell
  have hcell : ∀ A {j u}, (tongueC rlo rhi L Al S.length c (.slice B S.flatten.length cap) gm)[j]? = some u → CellAt w A gt j u := fun A j u hu => CellAt.base (hc j u hu)
  refine fn_v Try.tabOk (n := 15) (A := []) Try.func72 rfl rfl (Nat.le_of_ble_eq_true rfl) (St.nil (Below.refl _ _)) ?_
  ((try first | apply tr_v Try.tabOk | apply ot_v Try.tabOk); (conv => whnf); (repeat ((first | ((first | apply VStop.mk | apply VCall.stop); (first | refine tr_region_lex (id := 1) (by kernel_rfl) [.rd, .rd, .rd, .rd, .rd, .rd, .rd, .rd, .rd, .rd, .rd, .rd, .rd] rfl (by kernel_rfl) ?_); try first | apply ot_v Try.tabOk | apply tr_v Try.tabOk) | (apply VLd.mk; exact hcell _ rfl) | (apply VRng.mk; omega) | (refine slist_and (by (repeat (first | exact List.nil_sublist _ | exact List.Sublist.refl _ | refine List.Sublist.cons_cons _ ?_ | refine List.Sublist.cons _ ?_))) ?_; first | refine otl_nil ?_ | (refine otl_cons ?_; apply ot_v Try.tabOk) | skip) | (apply VK.mk; first | (refine otl_cons ?_; apply ot_v Try.tabOk) | apply ot_v Try.tabOk)); (conv => whnf))); try (first | apply VStop.mk | apply VCall.stop))
  (apply VRet.mk)
  refine ret1 (by first | exact .inl rfl | exact .inr rfl) rfl (by exact rv_tmp rfl) ?_
  exact fun w h => ⟨by push_cast; rfl, h.base⟩
end
section
variable (rlo rhi : Int) (L : Nat) (Al : Option Addr) (c : Nat) (S : List (List T3)) (w : World) (hN : NestR w 3 Al (nestOf S)) (hO : Okb rlo rhi L S)
include hN hO
set_option maxHeartbeats 8000000 in
set_option maxRecDepth 20000 in
theorem newTongue_any : Calls Try.prog 77 #[bookV rlo rhi L Al S.length c] w (TongueRet rlo rhi L Al c S (resM (bnd rlo rhi L S (-1)) (S.flatten.length + L + 1)) w) := by
  have hF := hO.fit
  have htx := fun x (h : x < S.flatten.length) => hO.x _ (tasteAt_mem h)
  obtain ⟨r1, r2, r3⟩ := hO.r
  obtain ⟨l1, l2⟩ := hO.l
  have ht := hO.t
  have hn4 := hO.n
  have hne := hO.ne
  have hcc := fun w1 (h : NestR w1 3 Al (nestOf S)) => concat58_any Al c (nestOf S) w1 h (by rw [nestOf_length]; omega) (by rw [sumN_nest]; omega) (fun p hp u hu => by
    obtain ⟨s, _, rfl⟩ := List.mem_map.1 hp
    exact saidCells_one _ u hu)
  rw [nestOf_length, sumN_nest, catN_nest] at hcc
  have hlot := res_lot rlo rhi L S
  have hzero := res_zero rlo rhi L S
  have htaste := fun t q a b d m e => res_taste rlo rhi L S t q a b d m e
  have hfirst := fun (j k : Nat) (hj : j < S.length) (hk : k < S[j].length) => first_at hne hj hk
  unfold bookV at *
  clear hO
  generalize resM (bnd rlo rhi L S (-1)) = R at *
  refine fn_v Try.tabOk (n := 137) (A := []) Try.func77 rfl rfl (Nat.le_of_ble_eq_true rfl) (St.nil (Below.refl _ _)) ?_
  ((try first | apply tr_v Try.tabOk | apply ot_v Try.tabOk); (conv => whnf); (repeat ((first | ((first | apply VStop.mk | apply VCall.stop); (first | refine tr_region_pair (by kernel_rfl) [0, 1, 2] 3 4 [5, 6, 7] [.rd, .rd, .rd] [.rd, .cr, .rd] rfl (by kernel_rfl) ?_); try first | apply ot_v Try.tabOk | apply tr_v Try.tabOk) | (apply VLd.mk; (focus ((repeat (first | ((with_reducible apply ld_blk); exact rfl) | ((with_reducible apply ld_row); exact rfl) | ((with_reducible apply ld_row0); exact rfl) | (with_reducible assumption) | (with_reducible exact CellAt.base (by assumption)) | (with_reducible apply ld_skip))); done))) | (apply VNew.mk; intro g hg) | (apply VLdN.mk; (focus ((repeat (first | (with_reducible apply ldn_blk) | (with_reducible apply ldn_row) | (with_reducible assumption) | (with_reducible apply ldn_skip))); done)); exact rfl) | (refine slist_and (by (repeat (first | exact List.nil_sublist _ | exact List.Sublist.refl _ | refine List.Sublist.cons_cons _ ?_ | refine List.Sublist.cons _ ?_))) ?_; first | refine otl_nil ?_ | (refine otl_cons ?_; apply ot_v Try.tabOk) | skip) | (apply VK.mk; first | (refine otl_cons ?_; apply ot_v Try.tabOk) | apply ot_v Try.tabOk)); (conv => whnf))); try (first | apply VStop.mk | apply VCall.stop))
  revert g hg
  intro gb hgb
  refine ⟨?_, ?_⟩
  · refine ot_call_ownS (t := 67) (sz := 3) (m := S.flatten.length) (xs := saidCells S.flatten) (by decide) rfl rfl rfl (by kernel_rfl) (evl_of rfl) (fun w1 hs => hcc w1 (hs.nest hN)) (fun B cap hB => ?_)
    refine ot_makeMapF pairE (by decide) rfl rfl rfl (fun gm hgm => ?_)
    ((try first | apply tr_v Try.tabOk | apply ot_v Try.tabOk); (conv => whnf); (repeat ((first | (apply VLd.mk; (focus ((repeat (first | ((with_reducible apply ld_blk); exact rfl) | ((with_reducible apply ld_row); exact rfl) | ((with_reducible apply ld_row0); exact rfl) | (with_reducible assumption) | (with_reducible exact CellAt.base (by assumption)) | (with_reducible apply ld_skip))); done))) | (apply VNew.mk; intro g hg) | (refine slist_and (by (repeat (first | exact List.nil_sublist _ | exact List.Sublist.refl _ | refine List.Sublist.cons_cons _ ?_ | refine List.Sublist.cons _ ?_))) ?_; first | refine otl_nil ?_ | (refine otl_cons ?_; apply ot_v Try.tabOk) | skip) | (apply VK.mk; first | (refine otl_cons ?_; apply ot_v Try.tabOk) | apply ot_v Try.tabOk)); (conv => whnf))); try (first | apply VStop.mk | apply VCall.stop))
    revert g hg
    intro gt hgt
    refine v_loop (fun gm' ds ts A => ds = [] ∧ ∃ i st, i + gm' = L ∧ A = [.blk gt 86 (tongueC rlo rhi L Al S.length c (.slice B S.flatten.length cap) gm), .prd gm (MapP pairE (R (i + 1)) st), .own (.slice B S.flatten.length cap) 67 3 S.flatten.length (saidCells S.flatten), .blk gb 26 [.int .i64 rlo, .int .i64 rhi, .int .i64 L, .slice Al S.length c]] ∧ ts = [(1, .pointer (some ⟨gb, 0, none⟩)), (3, .pointer (some ⟨gt, 0, none⟩)), (18, .int .i64 (L : Int)), (19, .int .i64 (i : Int))]) L
      (l := [(1, _), (3, _), (18, _), (19, _)]) (B := _) ?_ (List.Sublist.refl _) ⟨rfl, 0, [], by omega, by rw [hzero]; rfl, rfl⟩ ?_
    · exact ⟨rfl, rfl, rfl, rfl, trivial⟩
    rintro gm' ds ts A ⟨rfl, i, st, hi, rfl, rfl⟩
    unfold tongueC
    by_cases hlti : i < L
    · ((try first | apply tr_v Try.tabOk | apply ot_v Try.tabOk); (conv => whnf); (repeat ((first | ((first | apply VStop.mk | apply VCall.stop); (first | refine tr_region_lateV (id := 5) (by kernel_rfl) [.blk _ 86 _] (by (repeat (first | exact List.nil_sublist _ | exact List.Sublist.refl _ | refine List.Sublist.cons_cons _ ?_ | refine List.Sublist.cons _ ?_))) [0, 1, 2, 3, 4, 5, 6, 7, 8, 9, 10, 11, 12, 13] [14, 15, 16, 17, 18, 19] [.rd, .rd, .rd, .rd, .rd, .rd, .rd, .rd, .rd, .rd, .rd, .rd, .rd, .rd] [.wr, .wr, .wr, .wr, .wr, .wr] rfl (by kernel_rfl) ?_); try first | apply ot_v Try.tabOk | apply tr_v Try.tabOk) | (apply VK.mk; refine otl_put (k := ((0 : Int), (i : Int) + 1)) (A1 := fun s => _ :: .prd _ (MapP pairE _ ((s, ((0 : Int), (i : Int) + 1)) :: _)) :: _) (A2 := fun s => _ :: .prd _ (MapP pairE _ ((s, ((0 : Int), (i : Int) + 1)) :: _)) :: _) pairK mapT zv2 rfl rfl rfl rfl rfl rfl rfl (fun _ _ => rfl) (fun _ _ => rfl) rfl rfl (fun _ _ => rfl) (fun _ _ => rfl) (fun _ _ => rfl) (fun _ _ => rfl) (fun _ => .there (.here)) (fun _ => .there (.here)) (fun _ => by (repeat (first | exact List.nil_sublist _ | exact List.Sublist.refl _ | refine List.Sublist.cons_cons _ ?_ | refine List.Sublist.cons _ ?_))) (fun _ => by (repeat (first | exact List.nil_sublist _ | exact List.Sublist.refl _ | refine List.Sublist.cons_cons _ ?_ | refine List.Sublist.cons _ ?_))) (fun u1 s1 => ?_); refine otl_put (k := ((i : Int) + 1, (0 : Int))) (A1 := fun s => _ :: .prd _ (MapP pairE _ ((s, ((i : Int) + 1, (0 : Int))) :: _)) :: _) (A2 := fun s => _ :: .prd _ (MapP pairE _ ((s, ((i : Int) + 1, (0 : Int))) :: _)) :: _) pairK mapT zv2 rfl rfl rfl rfl rfl rfl rfl (fun _ _ => rfl) (fun _ _ => rfl) rfl rfl (fun _ _ => rfl) (fun _ _ => rfl) (fun _ _ => rfl) (fun _ _ => rfl) (fun _ => .there (.here)) (fun _ => .there (.here)) (fun _ => by (repeat (first | exact List.nil_sublist _ | exact List.Sublist.refl _ | refine List.Sublist.cons_cons _ ?_ | refine List.Sublist.cons _ ?_))) (fun _ => by (repeat (first | exact List.nil_sublist _ | exact List.Sublist.refl _ | refine List.Sublist.cons_cons _ ?_ | refine List.Sublist.cons _ ?_))) (fun u2 s2 => ?_); refine otl_nil ?_) | (apply VLd.mk; (focus ((repeat (first | ((with_reducible apply ld_blk); exact rfl) | ((with_reducible apply ld_row); exact rfl) | ((with_reducible apply ld_row0); exact rfl) | (with_reducible assumption) | (with_reducible exact CellAt.base (by assumption)) | (with_reducible apply ld_skip))); done))) | (apply VRng.mk; omega) | apply VBr.t | (apply v_t; omega) | (refine slist_and (by (repeat (first | exact List.nil_sublist _ | exact List.Sublist.refl _ | refine List.Sublist.cons_cons _ ?_ | refine List.Sublist.cons _ ?_))) ?_; first | refine otl_nil ?_ | (refine otl_cons ?_; apply ot_v Try.tabOk) | skip) | (apply VK.mk; first | (refine otl_cons ?_; apply ot_v Try.tabOk) | apply ot_v Try.tabOk)); (conv => whnf))); try (first | apply VStop.mk | apply VCall.stop))
      refine v_rnd (gm' - 1) (by omega) (l := [(1, _), (3, _), (18, _), (19, _)]) (B := _) ⟨rfl, rfl, rfl, rfl, trivial⟩ (List.Sublist.refl _) ⟨rfl, i + 1, (s2, ((i : Int) + 1, (0 : Int))) :: (s1, ((0 : Int), (i : Int) + 1)) :: st, by omega, ?_, rfl⟩
      rw [← hlot i hlti]
    obtain rfl : i = L := by omega
    have e0 : (((S.take 0).flatten.length + i + 1 : Nat) : Int) = (i : Int) + 1 := by simp
    ((try first | apply tr_v Try.tabOk | apply ot_v Try.tabOk); (conv => whnf); (repeat ((first | (apply VLd.mk; (focus ((repeat (first | ((with_reducible apply ld_blk); exact rfl) | ((with_reducible apply ld_row); exact rfl) | ((with_reducible apply ld_row0); exact rfl) | (with_reducible assumption) | (with_reducible exact CellAt.base (by assumption)) | (with_reducible apply ld_skip))); done))) | (apply VRng.mk; omega) | apply VBr.f | (apply v_f; omega) | (refine slist_and (by (repeat (first | exact List.nil_sublist _ | exact List.Sublist.refl _ | refine List.Sublist.cons_cons _ ?_ | refine List.Sublist.cons _ ?_))) ?_; first | refine otl_nil ?_ | (refine otl_cons ?_; apply ot_v Try.tabOk) | skip) | (apply VK.mk; first | (refine otl_cons ?_; apply ot_v Try.tabOk) | apply ot_v Try.tabOk)); (conv => whnf))); try (first | apply VStop.mk | apply VCall.stop))
    refine v_loop (fun gm' ds ts A => ds = [] ∧ ∃ j st, j + gm' = S.length ∧ A = [.blk gt 86 (tongueC rlo rhi i Al S.length c (.slice B S.flatten.length cap) gm), .prd gm (MapP pairE (R ((S.take j).flatten.length + i + 1)) st), .own (.slice B S.flatten.length cap) 67 3 S.flatten.length (saidCells S.flatten), .blk gb 26 [.int .i64 rlo, .int .i64 rhi, .int .i64 i, .slice Al S.length c]] ∧ ts = [(1, .pointer (some ⟨gb, 0, none⟩)), (3, .pointer (some ⟨gt, 0, none⟩)), (5, .int .i64 (((S.take j).flatten.length + i + 1 : Nat) : Int)), (45, .slice Al S.length c), (46, .int .i64 (S.length : Int)), (47, .int .i64 (j : Int))]) S.length
      (l := [(1, _), (3, _), (5, _), (45, _), (46, _), (47, _)]) (B := _) ?_ (List.Sublist.refl _) ⟨rfl, 0, st, by omega, by simp [tongueC], by rw [e0]⟩ ?_
    · exact ⟨rfl, rfl, rfl, rfl, rfl, rfl, trivial⟩
    rintro gm' ds ts A ⟨rfl, j, st, hj, rfl, rfl⟩
    unfold tongueC
    by_cases hltj : j < S.length
    rotate_left
    · obtain rfl : j = S.length := by omega
      rw [List.take_length]
      ((try first | apply tr_v Try.tabOk | apply ot_v Try.tabOk); (conv => whnf); (repeat ((first | apply VBr.f | (apply v_f; omega) | (refine slist_and (by (repeat (first | exact List.nil_sublist _ | exact List.Sublist.refl _ | refine List.Sublist.cons_cons _ ?_ | refine List.Sublist.cons _ ?_))) ?_; first | refine otl_nil ?_ | (refine otl_cons ?_; apply ot_v Try.tabOk) | skip) | (apply VK.mk; first | (refine otl_cons ?_; apply ot_v Try.tabOk) | apply ot_v Try.tabOk)); (conv => whnf))); try (first | apply VStop.mk | apply VCall.stop))
      (apply VRet.mk)
      refine ret1 (by first | exact .inl rfl | exact .inr rfl) rfl (by exact rv_tmp rfl) ?_
      exact fun w hs => ⟨⟨gt, gm, B, cap, st⟩, rfl, hs.sub (.cons_cons _ (.cons_cons _ (.cons_cons _ (List.nil_sublist _))))⟩
    obtain ⟨b, o, rfl, B', c', hce, hrd⟩ := nest_at hN hltj
    obtain ⟨b', o', rfl, _⟩ := hrd.2 (by have := hne _ (List.getElem_mem hltj); omega)
    have hl12 : (S.take j).flatten.length + S[j].length ≤ S.flatten.length := by
      have h1 := flat_le S (j + 1)
      rw [flat_step S j hltj, List.length_append] at h1
      exact h1
    ((try first | apply tr_v Try.tabOk | apply ot_v Try.tabOk); (conv => whnf); (repeat ((first | (apply VLd.mk; exact hce _) | apply VBr.t | (apply v_t; omega) | (apply VIx.mk; exact rfl; omega) | (refine slist_and (by (repeat (first | exact List.nil_sublist _ | exact List.Sublist.refl _ | refine List.Sublist.cons_cons _ ?_ | refine List.Sublist.cons _ ?_))) ?_; first | refine otl_nil ?_ | (refine otl_cons ?_; apply ot_v Try.tabOk) | skip) | (apply VK.mk; first | (refine otl_cons ?_; apply ot_v Try.tabOk) | apply ot_v Try.tabOk)); (conv => whnf))); try (first | apply VStop.mk | apply VCall.stop))
    refine v_loop (fun gm'' ds ts A => ds = [] ∧ ∃ k st, k + gm'' = S[j].length ∧ A = [.blk gt 86 (tongueC rlo rhi i (some ⟨b, o, none⟩) S.length c (.slice B S.flatten.length cap) gm), .prd gm (MapP pairE (R ((S.take j).flatten.length + k + i + 1)) st), .own (.slice B S.flatten.length cap) 67 3 S.flatten.length (saidCells S.flatten), .blk gb 26 [.int .i64 rlo, .int .i64 rhi, .int .i64 i, .slice (some ⟨b, o, none⟩) S.length c]] ∧ ts = [(1, .pointer (some ⟨gb, 0, none⟩)), (3, .pointer (some ⟨gt, 0, none⟩)), (5, .int .i64 (((S.take j).flatten.length + k + i + 1 : Nat) : Int)), (45, .slice (some ⟨b, o, none⟩) S.length c), (46, .int .i64 (S.length : Int)), (47, .int .i64 (j : Int)), (51, .slice (some ⟨b', o', none⟩) S[j].length c'), (52, .int .i64 (S[j].length : Int)), (53, .int .i64 (k : Int))]) S[j].length
      (l := [(1, _), (3, _), (5, _), (45, _), (46, _), (47, _), (51, _), (52, _), (53, _)]) (B := _) ?_ (List.Sublist.refl _) ⟨rfl, 0, st, by omega, rfl, rfl⟩ ?_
    · exact ⟨rfl, rfl, rfl, rfl, rfl, rfl, rfl, rfl, rfl, trivial⟩
    rintro gm'' ds ts A ⟨rfl, k, st, hk, rfl, rfl⟩
    unfold tongueC
    by_cases hltk : k < S[j].length
    rotate_left
    · have hst : (S.take (j + 1)).flatten.length = (S.take j).flatten.length + k := by rw [flat_step S j hltj, List.length_append]; omega
      ((try first | apply tr_v Try.tabOk | apply ot_v Try.tabOk); (conv => whnf); (repeat ((first | (apply VRng.mk; omega) | apply VBr.f | (apply v_f; omega) | (refine slist_and (by (repeat (first | exact List.nil_sublist _ | exact List.Sublist.refl _ | refine List.Sublist.cons_cons _ ?_ | refine List.Sublist.cons _ ?_))) ?_; first | refine otl_nil ?_ | (refine otl_cons ?_; apply ot_v Try.tabOk) | skip) | (apply VK.mk; first | (refine otl_cons ?_; apply ot_v Try.tabOk) | apply ot_v Try.tabOk)); (conv => whnf))); try (first | apply VStop.mk | apply VCall.stop))
      exact v_rnd (gm' - 1) (by omega) (l := [(1, _), (3, _), (5, _), (45, _), (46, _), (47, _)]) (B := _) ⟨rfl, rfl, rfl, rfl, rfl, rfl, trivial⟩ (List.Sublist.refl _) ⟨rfl, j + 1, st, by omega, by rw [hst], by rw [hst]; rfl⟩
    have hsd : ∀ Ch, CellsAt w Ch b' (o' + k * 3) (saidL S[j][k]) := fun Ch => by
      have := said_cells hrd hltk (by omega) Ch
      rwa [List.getElem?_eq_getElem hltk, Option.getD_some] at this
    have hft := hfirst j k hltj hltk
    have hta := taste_at hltj hltk
    have hlt := flat_lt hltj hltk
    have htx := htx _ hlt
    have hstep := htaste ((S.take j).flatten.length + k)
    rw [hft] at hstep
    rw [hta] at htx hstep
    generalize S[j][k] = tx at *
    obtain ⟨t1, t2, t3⟩ := tx
    dsimp only at htx hstep
    obtain ⟨q, rfl⟩ : ∃ q : Nat, t1 = q := ⟨t1.toNat, by omega⟩
    have hstep := fun hh mm => hstep q (by omega) rfl hh mm
    have hsd : ∀ Ch, CellsAt w Ch b' (o' + k * 3) [.int .i64 (q : Int), .int .i64 t2, .int .i64 t3] := hsd
    generalize hT : (S.take j).flatten.length + k = T at *
    have hsz : (S.take j).flatten.length + (k + 1) = T + 1 := by omega
    have hsz2 : ((T + 1 + i + 1 : Nat) : Int) = ((T + i + 1 : Nat) : Int) + 1 := by omega
    by_cases hk0 : k = 0
    · subst hk0
      have hstep := hstep (fun _ => rfl) _ rfl
      rw [if_pos (by decide)] at hstep
      ((try first | apply tr_v Try.tabOk | apply ot_v Try.tabOk); (conv => whnf); (repeat ((first | ((first | apply VStop.mk | apply VCall.stop); (first | refine tr_region_lateV (id := 15) (by kernel_rfl) [.blk _ 67 _, .blk _ 86 _, .blk _ 26 _] (by (repeat (first | exact List.nil_sublist _ | exact List.Sublist.refl _ | refine List.Sublist.cons_cons _ ?_ | refine List.Sublist.cons _ ?_))) [0, 1, 2, 3, 4, 5, 6, 7, 8, 9, 10, 11] [12, 13, 14, 15, 16, 17] [.rd, .rd, .rd, .rd, .rd, .rd, .rd, .rd, .rd, .rd, .rd, .rd] [.wr, .wr, .wr, .wr, .wr, .wr] rfl (by kernel_rfl) ?_ | refine tr_region_lateV (id := 17) (by kernel_rfl) [.blk _ 67 _, .blk _ 86 _, .blk _ 26 _] (by (repeat (first | exact List.nil_sublist _ | exact List.Sublist.refl _ | refine List.Sublist.cons_cons _ ?_ | refine List.Sublist.cons _ ?_))) [0, 1, 2, 3, 4, 5, 6, 7, 8, 9, 10, 11, 12, 13, 14, 15, 16, 17, 18, 19, 20, 21, 22, 23, 24] [25, 26, 27, 28, 29, 30] [.rd, .rd, .rd, .rd, .rd, .rd, .rd, .rd, .rd, .rd, .rd, .rd, .rd, .rd, .rd, .rd, .rd, .rd, .rd, .rd, .rd, .rd, .rd, .rd, .rd] [.wr, .wr, .wr, .wr, .wr, .wr] rfl (by kernel_rfl) ?_); try first | apply ot_v Try.tabOk | apply tr_v Try.tabOk) | (apply VLdN.mk; exact hsd _; exact rfl) | (apply VK.mk; refine otl_put (k := ((0 : Int), ((T + i + 1 : Nat) : Int))) (A1 := fun s => _ :: _ :: .prd _ (MapP pairE _ ((s, ((0 : Int), ((T + i + 1 : Nat) : Int))) :: _)) :: _) (A2 := fun s => _ :: _ :: .prd _ (MapP pairE _ ((s, ((0 : Int), ((T + i + 1 : Nat) : Int))) :: _)) :: _) pairK mapT zv2 rfl rfl rfl rfl rfl rfl rfl (fun _ _ => rfl) (fun _ _ => rfl) rfl rfl (fun _ _ => rfl) (fun _ _ => rfl) (fun _ _ => rfl) (fun _ _ => rfl) (fun _ => .there (.there (.here))) (fun _ => .there (.there (.here))) (fun _ => by (repeat (first | exact List.nil_sublist _ | exact List.Sublist.refl _ | refine List.Sublist.cons_cons _ ?_ | refine List.Sublist.cons _ ?_))) (fun _ => by (repeat (first | exact List.nil_sublist _ | exact List.Sublist.refl _ | refine List.Sublist.cons_cons _ ?_ | refine List.Sublist.cons _ ?_))) (fun u1 s1 => ?_); refine otl_put (k := (((T + i + 1 : Nat) : Int), (0 : Int))) (A1 := fun s => _ :: _ :: .prd _ (MapP pairE _ ((s, (((T + i + 1 : Nat) : Int), (0 : Int))) :: _)) :: _) (A2 := fun s => _ :: _ :: .prd _ (MapP pairE _ ((s, (((T + i + 1 : Nat) : Int), (0 : Int))) :: _)) :: _) pairK mapT zv2 rfl rfl rfl rfl rfl rfl rfl (fun _ _ => rfl) (fun _ _ => rfl) rfl rfl (fun _ _ => rfl) (fun _ _ => rfl) (fun _ _ => rfl) (fun _ _ => rfl) (fun _ => .there (.there (.here))) (fun _ => .there (.there (.here))) (fun _ => by (repeat (first | exact List.nil_sublist _ | exact List.Sublist.refl _ | refine List.Sublist.cons_cons _ ?_ | refine List.Sublist.cons _ ?_))) (fun _ => by (repeat (first | exact List.nil_sublist _ | exact List.Sublist.refl _ | refine List.Sublist.cons_cons _ ?_ | refine List.Sublist.cons _ ?_))) (fun u2 s2 => ?_); refine otl_nil ?_) | (apply VK.mk; refine otl_put (k := (((T + i + 1 : Nat) : Int), (q : Int) + 1)) (A1 := fun s => _ :: _ :: .prd _ (MapP pairE _ ((s, (((T + i + 1 : Nat) : Int), (q : Int) + 1)) :: _)) :: _) (A2 := fun s => _ :: _ :: .prd _ (MapP pairE _ ((s, (((T + i + 1 : Nat) : Int), (q : Int) + 1)) :: _)) :: _) pairK mapT zv2 rfl rfl rfl rfl rfl rfl rfl (fun _ _ => rfl) (fun _ _ => rfl) rfl rfl (fun _ _ => rfl) (fun _ _ => rfl) (fun _ _ => rfl) (fun _ _ => rfl) (fun _ => .there (.there (.here))) (fun _ => .there (.there (.here))) (fun _ => by (repeat (first | exact List.nil_sublist _ | exact List.Sublist.refl _ | refine List.Sublist.cons_cons _ ?_ | refine List.Sublist.cons _ ?_))) (fun _ => by (repeat (first | exact List.nil_sublist _ | exact List.Sublist.refl _ | refine List.Sublist.cons_cons _ ?_ | refine List.Sublist.cons _ ?_))) (fun u3 s3 => ?_); refine otl_put (k := ((q : Int) + 1, ((T + i + 1 : Nat) : Int))) (A1 := fun s => _ :: _ :: .prd _ (MapP pairE _ ((s, ((q : Int) + 1, ((T + i + 1 : Nat) : Int))) :: _)) :: _) (A2 := fun s => _ :: _ :: .prd _ (MapP pairE _ ((s, ((q : Int) + 1, ((T + i + 1 : Nat) : Int))) :: _)) :: _) pairK mapT zv2 rfl rfl rfl rfl rfl rfl rfl (fun _ _ => rfl) (fun _ _ => rfl) rfl rfl (fun _ _ => rfl) (fun _ _ => rfl) (fun _ _ => rfl) (fun _ _ => rfl) (fun _ => .there (.there (.here))) (fun _ => .there (.there (.here))) (fun _ => by (repeat (first | exact List.nil_sublist _ | exact List.Sublist.refl _ | refine List.Sublist.cons_cons _ ?_ | refine List.Sublist.cons _ ?_))) (fun _ => by (repeat (first | exact List.nil_sublist _ | exact List.Sublist.refl _ | refine List.Sublist.cons_cons _ ?_ | refine List.Sublist.cons _ ?_))) (fun u4 s4 => ?_); refine otl_nil ?_) | (apply VLd.mk; (focus ((repeat (first | ((with_reducible apply ld_blk); exact rfl) | ((with_reducible apply ld_row); exact rfl) | ((with_reducible apply ld_row0); exact rfl) | (with_reducible assumption) | (with_reducible exact CellAt.base (by assumption)) | (with_reducible apply ld_skip))); done))) | (apply VRng.mk; omega) | apply VBr.t | (apply v_t; omega) | (apply VNew.mk; intro g hg) | (apply VIx.mk; exact rfl; omega) | (apply VSt.mk; (focus ((repeat (first | (with_reducible exact At.here) | (with_reducible apply At.there))); done)); exact rfl) | (refine slist_and (by (repeat (first | exact List.nil_sublist _ | exact List.Sublist.refl _ | refine List.Sublist.cons_cons _ ?_ | refine List.Sublist.cons _ ?_))) ?_; first | refine otl_nil ?_ | (refine otl_cons ?_; apply ot_v Try.tabOk) | skip) | (apply VK.mk; first | (refine otl_cons ?_; apply ot_v Try.tabOk) | apply ot_v Try.tabOk)); (conv => whnf))); try (first | apply VStop.mk | apply VCall.stop))
      refine v_rnd (gm'' - 1) (by omega) (l := [(1, _), (3, _), (5, _), (45, _), (46, _), (47, _), (51, _), (52, _), (53, _)]) (B := _) ⟨rfl, rfl, rfl, rfl, rfl, rfl, rfl, rfl, rfl, trivial⟩ (.cons _ (List.Sublist.refl _)) ⟨rfl, 0 + 1, (s4, ((q : Int) + 1, ((T + i + 1 : Nat) : Int))) :: (s3, (((T + i + 1 : Nat) : Int), (q : Int) + 1)) :: (s2, (((T + i + 1 : Nat) : Int), (0 : Int))) :: (s1, ((0 : Int), ((T + i + 1 : Nat) : Int))) :: st, by omega, ?_, by rw [hsz, hsz2]; rfl⟩
      rw [hsz, ← hstep]
    · have hstep := hstep (fun h => by omega) _ rfl
      rw [if_neg (by simpa using hk0)] at hstep
      ((try first | apply tr_v Try.tabOk | apply ot_v Try.tabOk); (conv => whnf); (repeat ((first | ((first | apply VStop.mk | apply VCall.stop); (first | refine tr_region_lateV (id := 16) (by kernel_rfl) [.blk _ 67 _, .blk _ 86 _, .blk _ 26 _] (by (repeat (first | exact List.nil_sublist _ | exact List.Sublist.refl _ | refine List.Sublist.cons_cons _ ?_ | refine List.Sublist.cons _ ?_))) [0, 1, 2, 3, 4, 5, 6, 7, 8, 9, 10, 11, 12, 13, 14, 15, 16, 17, 18, 19, 20, 21, 22] [23, 24, 25, 26, 27, 28] [.rd, .rd, .rd, .rd, .rd, .rd, .rd, .rd, .rd, .rd, .rd, .rd, .rd, .rd, .rd, .rd, .rd, .rd, .rd, .rd, .rd, .rd, .rd] [.wr, .wr, .wr, .wr, .wr, .wr] rfl (by kernel_rfl) ?_ | refine tr_region_lateV (id := 17) (by kernel_rfl) [.blk _ 67 _, .blk _ 86 _, .blk _ 26 _] (by (repeat (first | exact List.nil_sublist _ | exact List.Sublist.refl _ | refine List.Sublist.cons_cons _ ?_ | refine List.Sublist.cons _ ?_))) [0, 1, 2, 3, 4, 5, 6, 7, 8, 9, 10, 11, 12, 13, 14, 15, 16, 17, 18, 19, 20, 21, 22, 23, 24] [25, 26, 27, 28, 29, 30] [.rd, .rd, .rd, .rd, .rd, .rd, .rd, .rd, .rd, .rd, .rd, .rd, .rd, .rd, .rd, .rd, .rd, .rd, .rd, .rd, .rd, .rd, .rd, .rd, .rd] [.wr, .wr, .wr, .wr, .wr, .wr] rfl (by kernel_rfl) ?_); try first | apply ot_v Try.tabOk | apply tr_v Try.tabOk) | (apply VLdN.mk; exact hsd _; exact rfl) | (apply VK.mk; refine otl_put (k := (((T + i + 1 : Nat) : Int) - 1, ((T + i + 1 : Nat) : Int))) (A1 := fun s => _ :: _ :: .prd _ (MapP pairE _ ((s, (((T + i + 1 : Nat) : Int) - 1, ((T + i + 1 : Nat) : Int))) :: _)) :: _) (A2 := fun s => _ :: _ :: .prd _ (MapP pairE _ ((s, (((T + i + 1 : Nat) : Int) - 1, ((T + i + 1 : Nat) : Int))) :: _)) :: _) pairK mapT zv2 rfl rfl rfl rfl rfl rfl rfl (fun _ _ => rfl) (fun _ _ => rfl) rfl rfl (fun _ _ => rfl) (fun _ _ => rfl) (fun _ _ => rfl) (fun _ _ => rfl) (fun _ => .there (.there (.here))) (fun _ => .there (.there (.here))) (fun _ => by (repeat (first | exact List.nil_sublist _ | exact List.Sublist.refl _ | refine List.Sublist.cons_cons _ ?_ | refine List.Sublist.cons _ ?_))) (fun _ => by (repeat (first | exact List.nil_sublist _ | exact List.Sublist.refl _ | refine List.Sublist.cons_cons _ ?_ | refine List.Sublist.cons _ ?_))) (fun u1 s1 => ?_); refine otl_put (k := (((T + i + 1 : Nat) : Int), ((T + i + 1 : Nat) : Int) - 1)) (A1 := fun s => _ :: _ :: .prd _ (MapP pairE _ ((s, (((T + i + 1 : Nat) : Int), ((T + i + 1 : Nat) : Int) - 1)) :: _)) :: _) (A2 := fun s => _ :: _ :: .prd _ (MapP pairE _ ((s, (((T + i + 1 : Nat) : Int), ((T + i + 1 : Nat) : Int) - 1)) :: _)) :: _) pairK mapT zv2 rfl rfl rfl rfl rfl rfl rfl (fun _ _ => rfl) (fun _ _ => rfl) rfl rfl (fun _ _ => rfl) (fun _ _ => rfl) (fun _ _ => rfl) (fun _ _ => rfl) (fun _ => .there (.there (.here))) (fun _ => .there (.there (.here))) (fun _ => by (repeat (first | exact List.nil_sublist _ | exact List.Sublist.refl _ | refine List.Sublist.cons_cons _ ?_ | refine List.Sublist.cons _ ?_))) (fun _ => by (repeat (first | exact List.nil_sublist _ | exact List.Sublist.refl _ | refine List.Sublist.cons_cons _ ?_ | refine List.Sublist.cons _ ?_))) (fun u2 s2 => ?_); refine otl_nil ?_) | (apply VK.mk; refine otl_put (k := (((T + i + 1 : Nat) : Int), (q : Int) + 1)) (A1 := fun s => _ :: _ :: .prd _ (MapP pairE _ ((s, (((T + i + 1 : Nat) : Int), (q : Int) + 1)) :: _)) :: _) (A2 := fun s => _ :: _ :: .prd _ (MapP pairE _ ((s, (((T + i + 1 : Nat) : Int), (q : Int) + 1)) :: _)) :: _) pairK mapT zv2 rfl rfl rfl rfl rfl rfl rfl (fun _ _ => rfl) (fun _ _ => rfl) rfl rfl (fun _ _ => rfl) (fun _ _ => rfl) (fun _ _ => rfl) (fun _ _ => rfl) (fun _ => .there (.there (.here))) (fun _ => .there (.there (.here))) (fun _ => by (repeat (first | exact List.nil_sublist _ | exact List.Sublist.refl _ | refine List.Sublist.cons_cons _ ?_ | refine List.Sublist.cons _ ?_))) (fun _ => by (repeat (first | exact List.nil_sublist _ | exact List.Sublist.refl _ | refine List.Sublist.cons_cons _ ?_ | refine List.Sublist.cons _ ?_))) (fun u3 s3 => ?_); refine otl_put (k := ((q : Int) + 1, ((T + i + 1 : Nat) : Int))) (A1 := fun s => _ :: _ :: .prd _ (MapP pairE _ ((s, ((q : Int) + 1, ((T + i + 1 : Nat) : Int))) :: _)) :: _) (A2 := fun s => _ :: _ :: .prd _ (MapP pairE _ ((s, ((q : Int) + 1, ((T + i + 1 : Nat) : Int))) :: _)) :: _) pairK mapT zv2 rfl rfl rfl rfl rfl rfl rfl (fun _ _ => rfl) (fun _ _ => rfl) rfl rfl (fun _ _ => rfl) (fun _ _ => rfl) (fun _ _ => rfl) (fun _ _ => rfl) (fun _ => .there (.there (.here))) (fun _ => .there (.there (.here))) (fun _ => by (repeat (first | exact List.nil_sublist _ | exact List.Sublist.refl _ | refine List.Sublist.cons_cons _ ?_ | refine List.Sublist.cons _ ?_))) (fun _ => by (repeat (first | exact List.nil_sublist _ | exact List.Sublist.refl _ | refine List.Sublist.cons_cons _ ?_ | refine List.Sublist.cons _ ?_))) (fun u4 s4 => ?_); refine otl_nil ?_) | (apply VLd.mk; (focus ((repeat (first | ((with_reducible apply ld_blk); exact rfl) | ((with_reducible apply ld_row); exact rfl) | ((with_reducible apply ld_row0); exact rfl) | (with_reducible assumption) | (with_reducible exact CellAt.base (by assumption)) | (with_reducible apply ld_skip))); done))) | (apply VRng.mk; omega) | apply VBr.t | apply VBr.f | (apply v_t; omega) | (apply v_f; omega) | (apply VNew.mk; intro g hg) | (apply VIx.mk; exact rfl; omega) | (apply VSt.mk; (focus ((repeat (first | (with_reducible exact At.here) | (with_reducible apply At.there))); done)); exact rfl) | (refine slist_and (by (repeat (first | exact List.nil_sublist _ | exact List.Sublist.refl _ | refine List.Sublist.cons_cons _ ?_ | refine List.Sublist.cons _ ?_))) ?_; first | refine otl_nil ?_ | (refine otl_cons ?_; apply ot_v Try.tabOk) | skip) | (apply VK.mk; first | (refine otl_cons ?_; apply ot_v Try.tabOk) | apply ot_v Try.tabOk)); (conv => whnf))); try (first | apply VStop.mk | apply VCall.stop))
      refine v_rnd (gm'' - 1) (by omega) (l := [(1, _), (3, _), (5, _), (45, _), (46, _), (47, _), (51, _), (52, _), (53, _)]) (B := _) ⟨rfl, rfl, rfl, rfl, rfl, rfl, rfl, rfl, rfl, trivial⟩ (.cons _ (List.Sublist.refl _)) ⟨rfl, k + 1, (s4, ((q : Int) + 1, ((T + i + 1 : Nat) : Int))) :: (s3, (((T + i + 1 : Nat) : Int), (q : Int) + 1)) :: (s2, (((T + i + 1 : Nat) : Int), ((T + i + 1 : Nat) : Int) - 1)) :: (s1, (((T + i + 1 : Nat) : Int) - 1, ((T + i + 1 : Nat) : Int))) :: st, by omega, ?_, by rw [hsz, hsz2]; rfl⟩
      rw [hsz, ← hstep]
  · refine ot_makeMapF pairE (by decide) rfl rfl rfl (fun gm hgm => ?_)
    refine ot_call_ownS (t := 67) (sz := 3) (m := S.flatten.length) (xs := saidCells S.flatten) (by decide) rfl rfl rfl (by kernel_rfl) (evl_of rfl) (fun w1 hs => hcc w1 (hs.nest hN)) (fun B cap hB => ?_)
    ((try first | apply tr_v Try.tabOk | apply ot_v Try.tabOk); (conv => whnf); (repeat ((first | (apply VLd.mk; (focus ((repeat (first | ((with_reducible apply ld_blk); exact rfl) | ((with_reducible apply ld_row); exact rfl) | ((with_reducible apply ld_row0); exact rfl) | (with_reducible assumption) | (with_reducible exact CellAt.base (by assumption)) | (with_reducible apply ld_skip))); done))) | (apply VNew.mk; intro g hg) | (refine slist_and (by (repeat (first | exact List.nil_sublist _ | exact List.Sublist.refl _ | refine List.Sublist.cons_cons _ ?_ | refine List.Sublist.cons _ ?_))) ?_; first | refine otl_nil ?_ | (refine otl_cons ?_; apply ot_v Try.tabOk) | skip) | (apply VK.mk; first | (refine otl_cons ?_; apply ot_v Try.tabOk) | apply ot_v Try.tabOk)); (conv => whnf))); try (first | apply VStop.mk | apply VCall.stop))
    refine tr_perm (.cons _ (.swap _ _ _)) ?_
    revert g hg
    intro gt hgt
    refine v_loop (fun gm' ds ts A => ds = [] ∧ ∃ i st, i + gm' = L ∧ A = [.blk gt 86 (tongueC rlo rhi L Al S.length c (.slice B S.flatten.length cap) gm), .prd gm (MapP pairE (R (i + 1)) st), .own (.slice B S.flatten.length cap) 67 3 S.flatten.length (saidCells S.flatten), .blk gb 26 [.int .i64 rlo, .int .i64 rhi, .int .i64 L, .slice Al S.length c]] ∧ ts = [(1, .pointer (some ⟨gb, 0, none⟩)), (3, .pointer (some ⟨gt, 0, none⟩)), (18, .int .i64 (L : Int)), (19, .int .i64 (i : Int))]) L
      (l := [(1, _), (3, _), (18, _), (19, _)]) (B := _) ?_ (List.Sublist.refl _) ⟨rfl, 0, [], by omega, by rw [hzero]; rfl, rfl⟩ ?_
    · exact ⟨rfl, rfl, rfl, rfl, trivial⟩
    rintro gm' ds ts A ⟨rfl, i, st, hi, rfl, rfl⟩
    unfold tongueC
    by_cases hlti : i < L
    · ((try first | apply tr_v Try.tabOk | apply ot_v Try.tabOk); (conv => whnf); (repeat ((first | ((first | apply VStop.mk | apply VCall.stop); (first | refine tr_region_lateV (id := 5) (by kernel_rfl) [.blk _ 86 _] (by (repeat (first | exact List.nil_sublist _ | exact List.Sublist.refl _ | refine List.Sublist.cons_cons _ ?_ | refine List.Sublist.cons _ ?_))) [0, 1, 2, 3, 4, 5, 6, 7, 8, 9, 10, 11, 12, 13] [14, 15, 16, 17, 18, 19] [.rd, .rd, .rd, .rd, .rd, .rd, .rd, .rd, .rd, .rd, .rd, .rd, .rd, .rd] [.wr, .wr, .wr, .wr, .wr, .wr] rfl (by kernel_rfl) ?_); try first | apply ot_v Try.tabOk | apply tr_v Try.tabOk) | (apply VK.mk; refine otl_put (k := ((0 : Int), (i : Int) + 1)) (A1 := fun s => _ :: .prd _ (MapP pairE _ ((s, ((0 : Int), (i : Int) + 1)) :: _)) :: _) (A2 := fun s => _ :: .prd _ (MapP pairE _ ((s, ((0 : Int), (i : Int) + 1)) :: _)) :: _) pairK mapT zv2 rfl rfl rfl rfl rfl rfl rfl (fun _ _ => rfl) (fun _ _ => rfl) rfl rfl (fun _ _ => rfl) (fun _ _ => rfl) (fun _ _ => rfl) (fun _ _ => rfl) (fun _ => .there (.here)) (fun _ => .there (.here)) (fun _ => by (repeat (first | exact List.nil_sublist _ | exact List.Sublist.refl _ | refine List.Sublist.cons_cons _ ?_ | refine List.Sublist.cons _ ?_))) (fun _ => by (repeat (first | exact List.nil_sublist _ | exact List.Sublist.refl _ | refine List.Sublist.cons_cons _ ?_ | refine List.Sublist.cons _ ?_))) (fun u1 s1 => ?_); refine otl_put (k := ((i : Int) + 1, (0 : Int))) (A1 := fun s => _ :: .prd _ (MapP pairE _ ((s, ((i : Int) + 1, (0 : Int))) :: _)) :: _) (A2 := fun s => _ :: .prd _ (MapP pairE _ ((s, ((i : Int) + 1, (0 : Int))) :: _)) :: _) pairK mapT zv2 rfl rfl rfl rfl rfl rfl rfl (fun _ _ => rfl) (fun _ _ => rfl) rfl rfl (fun _ _ => rfl) (fun _ _ => rfl) (fun _ _ => rfl) (fun _ _ => rfl) (fun _ => .there (.here)) (fun _ => .there (.here)) (fun _ => by (repeat (first | exact List.nil_sublist _ | exact List.Sublist.refl _ | refine List.Sublist.cons_cons _ ?_ | refine List.Sublist.cons _ ?_))) (fun _ => by (repeat (first | exact List.nil_sublist _ | exact List.Sublist.refl _ | refine List.Sublist.cons_cons _ ?_ | refine List.Sublist.cons _ ?_))) (fun u2 s2 => ?_); refine otl_nil ?_) | (apply VLd.mk; (focus ((repeat (first | ((with_reducible apply ld_blk); exact rfl) | ((with_reducible apply ld_row); exact rfl) | ((with_reducible apply ld_row0); exact rfl) | (with_reducible assumption) | (with_reducible exact CellAt.base (by assumption)) | (with_reducible apply ld_skip))); done))) | (apply VRng.mk; omega) | apply VBr.t | (apply v_t; omega) | (refine slist_and (by (repeat (first | exact List.nil_sublist _ | exact List.Sublist.refl _ | refine List.Sublist.cons_cons _ ?_ | refine List.Sublist.cons _ ?_))) ?_; first | refine otl_nil ?_ | (refine otl_cons ?_; apply ot_v Try.tabOk) | skip) | (apply VK.mk; first | (refine otl_cons ?_; apply ot_v Try.tabOk) | apply ot_v Try.tabOk)); (conv => whnf))); try (first | apply VStop.mk | apply VCall.stop))
      refine v_rnd (gm' - 1) (by omega) (l := [(1, _), (3, _), (18, _), (19, _)]) (B := _) ⟨rfl, rfl, rfl, rfl, trivial⟩ (List.Sublist.refl _) ⟨rfl, i + 1, (s2, ((i : Int) + 1, (0 : Int))) :: (s1, ((0 : Int), (i : Int) + 1)) :: st, by omega, ?_, rfl⟩
      rw [← hlot i hlti]
    obtain rfl : i = L := by omega
    have e0 : (((S.take 0).flatten.length + i + 1 : Nat) : Int) = (i : Int) + 1 := by simp
    ((try first | apply tr_v Try.tabOk | apply ot_v Try.tabOk); (conv => whnf); (repeat ((first | (apply VLd.mk; (focus ((repeat (first | ((with_reducible apply ld_blk); exact rfl) | ((with_reducible apply ld_row); exact rfl) | ((with_reducible apply ld_row0); exact rfl) | (with_reducible assumption) | (with_reducible exact CellAt.base (by assumption)) | (with_reducible apply ld_skip))); done))) | (apply VRng.mk; omega) | apply VBr.f | (apply v_f; omega) | (refine slist_and (by (repeat (first | exact List.nil_sublist _ | exact List.Sublist.refl _ | refine List.Sublist.cons_cons _ ?_ | refine List.Sublist.cons _ ?_))) ?_; first | refine otl_nil ?_ | (refine otl_cons ?_; apply ot_v Try.tabOk) | skip) | (apply VK.mk; first | (refine otl_cons ?_; apply ot_v Try.tabOk) | apply ot_v Try.tabOk)); (conv => whnf))); try (first | apply VStop.mk | apply VCall.stop))
    refine v_loop (fun gm' ds ts A => ds = [] ∧ ∃ j st, j + gm' = S.length ∧ A = [.blk gt 86 (tongueC rlo rhi i Al S.length c (.slice B S.flatten.length cap) gm), .prd gm (MapP pairE (R ((S.take j).flatten.length + i + 1)) st), .own (.slice B S.flatten.length cap) 67 3 S.flatten.length (saidCells S.flatten), .blk gb 26 [.int .i64 rlo, .int .i64 rhi, .int .i64 i, .slice Al S.length c]] ∧ ts = [(1, .pointer (some ⟨gb, 0, none⟩)), (3, .pointer (some ⟨gt, 0, none⟩)), (5, .int .i64 (((S.take j).flatten.length + i + 1 : Nat) : Int)), (45, .slice Al S.length c), (46, .int .i64 (S.length : Int)), (47, .int .i64 (j : Int))]) S.length
      (l := [(1, _), (3, _), (5, _), (45, _), (46, _), (47, _)]) (B := _) ?_ (List.Sublist.refl _) ⟨rfl, 0, st, by omega, by simp [tongueC], by rw [e0]⟩ ?_
    · exact ⟨rfl, rfl, rfl, rfl, rfl, rfl, trivial⟩
    rintro gm' ds ts A ⟨rfl, j, st, hj, rfl, rfl⟩
    unfold tongueC
    by_cases hltj : j < S.length
    rotate_left
    · obtain rfl : j = S.length := by omega
      rw [List.take_length]
      ((try first | apply tr_v Try.tabOk | apply ot_v Try.tabOk); (conv => whnf); (repeat ((first | apply VBr.f | (apply v_f; omega) | (refine slist_and (by (repeat (first | exact List.nil_sublist _ | exact List.Sublist.refl _ | refine List.Sublist.cons_cons _ ?_ | refine List.Sublist.cons _ ?_))) ?_; first | refine otl_nil ?_ | (refine otl_cons ?_; apply ot_v Try.tabOk) | skip) | (apply VK.mk; first | (refine otl_cons ?_; apply ot_v Try.tabOk) | apply ot_v Try.tabOk)); (conv => whnf))); try (first | apply VStop.mk | apply VCall.stop))
      (apply VRet.mk)
      refine ret1 (by first | exact .inl rfl | exact .inr rfl) rfl (by exact rv_tmp rfl) ?_
      exact fun w hs => ⟨⟨gt, gm, B, cap, st⟩, rfl, hs.sub (.cons_cons _ (.cons_cons _ (.cons_cons _ (List.nil_sublist _))))⟩
    obtain ⟨b, o, rfl, B', c', hce, hrd⟩ := nest_at hN hltj
    obtain ⟨b', o', rfl, _⟩ := hrd.2 (by have := hne _ (List.getElem_mem hltj); omega)
    have hl12 : (S.take j).flatten.length + S[j].length ≤ S.flatten.length := by
      have h1 := flat_le S (j + 1)
      rw [flat_step S j hltj, List.length_append] at h1
      exact h1
    ((try first | apply tr_v Try.tabOk | apply ot_v Try.tabOk); (conv => whnf); (repeat ((first | (apply VLd.mk; exact hce _) | apply VBr.t | (apply v_t; omega) | (apply VIx.mk; exact rfl; omega) | (refine slist_and (by (repeat (first | exact List.nil_sublist _ | exact List.Sublist.refl _ | refine List.Sublist.cons_cons _ ?_ | refine List.Sublist.cons _ ?_))) ?_; first | refine otl_nil ?_ | (refine otl_cons ?_; apply ot_v Try.tabOk) | skip) | (apply VK.mk; first | (refine otl_cons ?_; apply ot_v Try.tabOk) | apply ot_v Try.tabOk)); (conv => whnf))); try (first | apply VStop.mk | apply VCall.stop))
    refine v_loop (fun gm'' ds ts A => ds = [] ∧ ∃ k st, k + gm'' = S[j].length ∧ A = [.blk gt 86 (tongueC rlo rhi i (some ⟨b, o, none⟩) S.length c (.slice B S.flatten.length cap) gm), .prd gm (MapP pairE (R ((S.take j).flatten.length + k + i + 1)) st), .own (.slice B S.flatten.length cap) 67 3 S.flatten.length (saidCells S.flatten), .blk gb 26 [.int .i64 rlo, .int .i64 rhi, .int .i64 i, .slice (some ⟨b, o, none⟩) S.length c]] ∧ ts = [(1, .pointer (some ⟨gb, 0, none⟩)), (3, .pointer (some ⟨gt, 0, none⟩)), (5, .int .i64 (((S.take j).flatten.length + k + i + 1 : Nat) : Int)), (45, .slice (some ⟨b, o, none⟩) S.length c), (46, .int .i64 (S.length : Int)), (47, .int .i64 (j : Int)), (51, .slice (some ⟨b', o', none⟩) S[j].length c'), (52, .int .i64 (S[j].length : Int)), (53, .int .i64 (k : Int))]) S[j].length
      (l := [(1, _), (3, _), (5, _), (45, _), (46, _), (47, _), (51, _), (52, _), (53, _)]) (B := _) ?_ (List.Sublist.refl _) ⟨rfl, 0, st, by omega, rfl, rfl⟩ ?_
    · exact ⟨rfl, rfl, rfl, rfl, rfl, rfl, rfl, rfl, rfl, trivial⟩
    rintro gm'' ds ts A ⟨rfl, k, st, hk, rfl, rfl⟩
    unfold tongueC
    by_cases hltk : k < S[j].length
    rotate_left
    · have hst : (S.take (j + 1)).flatten.length = (S.take j).flatten.length + k := by rw [flat_step S j hltj, List.length_append]; omega
      ((try first | apply tr_v Try.tabOk | apply ot_v Try.tabOk); (conv => whnf); (repeat ((first | (apply VRng.mk; omega) | apply VBr.f | (apply v_f; omega) | (refine slist_and (by (repeat (first | exact List.nil_sublist _ | exact List.Sublist.refl _ | refine List.Sublist.cons_cons _ ?_ | refine List.Sublist.cons _ ?_))) ?_; first | refine otl_nil ?_ | (refine otl_cons ?_; apply ot_v Try.tabOk) | skip) | (apply VK.mk; first | (refine otl_cons ?_; apply ot_v Try.tabOk) | apply ot_v Try.tabOk)); (conv => whnf))); try (first | apply VStop.mk | apply VCall.stop))
      exact v_rnd (gm' - 1) (by omega) (l := [(1, _), (3, _), (5, _), (45, _), (46, _), (47, _)]) (B := _) ⟨rfl, rfl, rfl, rfl, rfl, rfl, trivial⟩ (List.Sublist.refl _) ⟨rfl, j + 1, st, by omega, by rw [hst], by rw [hst]; rfl⟩
    have hsd : ∀ Ch, CellsAt w Ch b' (o' + k * 3) (saidL S[j][k]) := fun Ch => by
      have := said_cells hrd hltk (by omega) Ch
      rwa [List.getElem?_eq_getElem hltk, Option.getD_some] at this
    have hft := hfirst j k hltj hltk
    have hta := taste_at hltj hltk
    have hlt := flat_lt hltj hltk
    have htx := htx _ hlt
    have hstep := htaste ((S.take j).flatten.length + k)
    rw [hft] at hstep
    rw [hta] at htx hstep
    generalize S[j][k] = tx at *
    obtain ⟨t1, t2, t3⟩ := tx
    dsimp only at htx hstep
    obtain ⟨q, rfl⟩ : ∃ q : Nat, t1 = q := ⟨t1.toNat, by omega⟩
    have hstep := fun hh mm => hstep q (by omega) rfl hh mm
    have hsd : ∀ Ch, CellsAt w Ch b' (o' + k * 3) [.int .i64 (q : Int), .int .i64 t2, .int .i64 t3] := hsd
    generalize hT : (S.take j).flatten.length + k = T at *
    have hsz : (S.take j).flatten.length + (k + 1) = T + 1 := by omega
    have hsz2 : ((T + 1 + i + 1 : Nat) : Int) = ((T + i + 1 : Nat) : Int) + 1 := by omega
    by_cases hk0 : k = 0
    · subst hk0
      have hstep := hstep (fun _ => rfl) _ rfl
      rw [if_pos (by decide)] at hstep
      ((try first | apply tr_v Try.tabOk | apply ot_v Try.tabOk); (conv => whnf); (repeat ((first | ((first | apply VStop.mk | apply VCall.stop); (first | refine tr_region_lateV (id := 15) (by kernel_rfl) [.blk _ 67 _, .blk _ 86 _, .blk _ 26 _] (by (repeat (first | exact List.nil_sublist _ | exact List.Sublist.refl _ | refine List.Sublist.cons_cons _ ?_ | refine List.Sublist.cons _ ?_))) [0, 1, 2, 3, 4, 5, 6, 7, 8, 9, 10, 11] [12, 13, 14, 15, 16, 17] [.rd, .rd, .rd, .rd, .rd, .rd, .rd, .rd, .rd, .rd, .rd, .rd] [.wr, .wr, .wr, .wr, .wr, .wr] rfl (by kernel_rfl) ?_ | refine tr_region_lateV (id := 17) (by kernel_rfl) [.blk _ 67 _, .blk _ 86 _, .blk _ 26 _] (by (repeat (first | exact List.nil_sublist _ | exact List.Sublist.refl _ | refine List.Sublist.cons_cons _ ?_ | refine List.Sublist.cons _ ?_))) [0, 1, 2, 3, 4, 5, 6, 7, 8, 9, 10, 11, 12, 13, 14, 15, 16, 17, 18, 19, 20, 21, 22, 23, 24] [25, 26, 27, 28, 29, 30] [.rd, .rd, .rd, .rd, .rd, .rd, .rd, .rd, .rd, .rd, .rd, .rd, .rd, .rd, .rd, .rd, .rd, .rd, .rd, .rd, .rd, .rd, .rd, .rd, .rd] [.wr, .wr, .wr, .wr, .wr, .wr] rfl (by kernel_rfl) ?_); try first | apply ot_v Try.tabOk | apply tr_v Try.tabOk) | (apply VLdN.mk; exact hsd _; exact rfl) | (apply VK.mk; refine otl_put (k := ((0 : Int), ((T + i + 1 : Nat) : Int))) (A1 := fun s => _ :: _ :: .prd _ (MapP pairE _ ((s, ((0 : Int), ((T + i + 1 : Nat) : Int))) :: _)) :: _) (A2 := fun s => _ :: _ :: .prd _ (MapP pairE _ ((s, ((0 : Int), ((T + i + 1 : Nat) : Int))) :: _)) :: _) pairK mapT zv2 rfl rfl rfl rfl rfl rfl rfl (fun _ _ => rfl) (fun _ _ => rfl) rfl rfl (fun _ _ => rfl) (fun _ _ => rfl) (fun _ _ => rfl) (fun _ _ => rfl) (fun _ => .there (.there (.here))) (fun _ => .there (.there (.here))) (fun _ => by (repeat (first | exact List.nil_sublist _ | exact List.Sublist.refl _ | refine List.Sublist.cons_cons _ ?_ | refine List.Sublist.cons _ ?_))) (fun _ => by (repeat (first | exact List.nil_sublist _ | exact List.Sublist.refl _ | refine List.Sublist.cons_cons _ ?_ | refine List.Sublist.cons _ ?_))) (fun u1 s1 => ?_); refine otl_put (k := (((T + i + 1 : Nat) : Int), (0 : Int))) (A1 := fun s => _ :: _ :: .prd _ (MapP pairE _ ((s, (((T + i + 1 : Nat) : Int), (0 : Int))) :: _)) :: _) (A2 := fun s => _ :: _ :: .prd _ (MapP pairE _ ((s, (((T + i + 1 : Nat) : Int), (0 : Int))) :: _)) :: _) pairK mapT zv2 rfl rfl rfl rfl rfl rfl rfl (fun _ _ => rfl) (fun _ _ => rfl) rfl rfl (fun _ _ => rfl) (fun _ _ => rfl) (fun _ _ => rfl) (fun _ _ => rfl) (fun _ => .there (.there (.here))) (fun _ => .there (.there (.here))) (fun _ => by (repeat (first | exact List.nil_sublist _ | exact List.Sublist.refl _ | refine List.Sublist.cons_cons _ ?_ | refine List.Sublist.cons _ ?_))) (fun _ => by (repeat (first | exact List.nil_sublist _ | exact List.Sublist.refl _ | refine List.Sublist.cons_cons _ ?_ | refine List.Sublist.cons _ ?_))) (fun u2 s2 => ?_); refine otl_nil ?_) | (apply VK.mk; refine otl_put (k := (((T + i + 1 : Nat) : Int), (q : Int) + 1)) (A1 := fun s => _ :: _ :: .prd _ (MapP pairE _ ((s, (((T + i + 1 : Nat) : Int), (q : Int) + 1)) :: _)) :: _) (A2 := fun s => _ :: _ :: .prd _ (MapP pairE _ ((s, (((T + i + 1 : Nat) : Int), (q : Int) + 1)) :: _)) :: _) pairK mapT zv2 rfl rfl rfl rfl rfl rfl rfl (fun _ _ => rfl) (fun _ _ => rfl) rfl rfl (fun _ _ => rfl) (fun _ _ => rfl) (fun _ _ => rfl) (fun _ _ => rfl) (fun _ => .there (.there (.here))) (fun _ => .there (.there (.here))) (fun _ => by (repeat (first | exact List.nil_sublist _ | exact List.Sublist.refl _ | refine List.Sublist.cons_cons _ ?_ | refine List.Sublist.cons _ ?_))) (fun _ => by (repeat (first | exact List.nil_sublist _ | exact List.Sublist.refl _ | refine List.Sublist.cons_cons _ ?_ | refine List.Sublist.cons _ ?_))) (fun u3 s3 => ?_); refine otl_put (k := ((q : Int) + 1, ((T + i + 1 : Nat) : Int))) (A1 := fun s => _ :: _ :: .prd _ (MapP pairE _ ((s, ((q : Int) + 1, ((T + i + 1 : Nat) : Int))) :: _)) :: _) (A2 := fun s => _ :: _ :: .prd _ (MapP pairE _ ((s, ((q : Int) + 1, ((T + i + 1 : Nat) : Int))) :: _)) :: _) pairK mapT zv2 rfl rfl rfl rfl rfl rfl rfl (fun _ _ => rfl) (fun _ _ => rfl) rfl rfl (fun _ _ => rfl) (fun _ _ => rfl) (fun _ _ => rfl) (fun _ _ => rfl) (fun _ => .there (.there (.here))) (fun _ => .there (.there (.here))) (fun _ => by (repeat (first | exact List.nil_sublist _ | exact List.Sublist.refl _ | refine List.Sublist.cons_cons _ ?_ | refine List.Sublist.cons _ ?_))) (fun _ => by (repeat (first | exact List.nil_sublist _ | exact List.Sublist.refl _ | refine List.Sublist.cons_cons _ ?_ | refine List.Sublist.cons _ ?_))) (fun u4 s4 => ?_); refine otl_nil ?_) | (apply VLd.mk; (focus ((repeat (first | ((with_reducible apply ld_blk); exact rfl) | ((with_reducible apply ld_row); exact rfl) | ((with_reducible apply ld_row0); exact rfl) | (with_reducible assumption) | (with_reducible exact CellAt.base (by assumption)) | (with_reducible apply ld_skip))); done))) | (apply VRng.mk; omega) | apply VBr.t | (apply v_t; omega) | (apply VNew.mk; intro g hg) | (apply VIx.mk; exact rfl; omega) | (apply VSt.mk; (focus ((repeat (first | (with_reducible exact At.here) | (with_reducible apply At.there))); done)); exact rfl) | (refine slist_and (by (repeat (first | exact List.nil_sublist _ | exact List.Sublist.refl _ | refine List.Sublist.cons_cons _ ?_ | refine List.Sublist.cons _ ?_))) ?_; first | refine otl_nil ?_ | (refine otl_cons ?_; apply ot_v Try.tabOk) | skip) | (apply VK.mk; first | (refine otl_cons ?_; apply ot_v Try.tabOk) | apply ot_v Try.tabOk)); (conv => whnf))); try (first | apply VStop.mk | apply VCall.stop))
      refine v_rnd (gm'' - 1) (by omega) (l := [(1, _), (3, _), (5, _), (45, _), (46, _), (47, _), (51, _), (52, _), (53, _)]) (B := _) ⟨rfl, rfl, rfl, rfl, rfl, rfl, rfl, rfl, rfl, trivial⟩ (.cons _ (List.Sublist.refl _)) ⟨rfl, 0 + 1, (s4, ((q : Int) + 1, ((T + i + 1 : Nat) : Int))) :: (s3, (((T + i + 1 : Nat) : Int), (q : Int) + 1)) :: (s2, (((T + i + 1 : Nat) : Int), (0 : Int))) :: (s1, ((0 : Int), ((T + i + 1 : Nat) : Int))) :: st, by omega, ?_, by rw [hsz, hsz2]; rfl⟩
      rw [hsz, ← hstep]
    · have hstep := hstep (fun h => by omega) _ rfl
      rw [if_neg (by simpa using hk0)] at hstep
      ((try first | apply tr_v Try.tabOk | apply ot_v Try.tabOk); (conv => whnf); (repeat ((first | ((first | apply VStop.mk | apply VCall.stop); (first | refine tr_region_lateV (id := 16) (by kernel_rfl) [.blk _ 67 _, .blk _ 86 _, .blk _ 26 _] (by (repeat (first | exact List.nil_sublist _ | exact List.Sublist.refl _ | refine List.Sublist.cons_cons _ ?_ | refine List.Sublist.cons _ ?_))) [0, 1, 2, 3, 4, 5, 6, 7, 8, 9, 10, 11, 12, 13, 14, 15, 16, 17, 18, 19, 20, 21, 22] [23, 24, 25, 26, 27, 28] [.rd, .rd, .rd, .rd, .rd, .rd, .rd, .rd, .rd, .rd, .rd, .rd, .rd, .rd, .rd, .rd, .rd, .rd, .rd, .rd, .rd, .rd, .rd] [.wr, .wr, .wr, .wr, .wr, .wr] rfl (by kernel_rfl) ?_ | refine tr_region_lateV (id := 17) (by kernel_rfl) [.blk _ 67 _, .blk _ 86 _, .blk _ 26 _] (by (repeat (first | exact List.nil_sublist _ | exact List.Sublist.refl _ | refine List.Sublist.cons_cons _ ?_ | refine List.Sublist.cons _ ?_))) [0, 1, 2, 3, 4, 5, 6, 7, 8, 9, 10, 11, 12, 13, 14, 15, 16, 17, 18, 19, 20, 21, 22, 23, 24] [25, 26, 27, 28, 29, 30] [.rd, .rd, .rd, .rd, .rd, .rd, .rd, .rd, .rd, .rd, .rd, .rd, .rd, .rd, .rd, .rd, .rd, .rd, .rd, .rd, .rd, .rd, .rd, .rd, .rd] [.wr, .wr, .wr, .wr, .wr, .wr] rfl (by kernel_rfl) ?_); try first | apply ot_v Try.tabOk | apply tr_v Try.tabOk) | (apply VLdN.mk; exact hsd _; exact rfl) | (apply VK.mk; refine otl_put (k := (((T + i + 1 : Nat) : Int) - 1, ((T + i + 1 : Nat) : Int))) (A1 := fun s => _ :: _ :: .prd _ (MapP pairE _ ((s, (((T + i + 1 : Nat) : Int) - 1, ((T + i + 1 : Nat) : Int))) :: _)) :: _) (A2 := fun s => _ :: _ :: .prd _ (MapP pairE _ ((s, (((T + i + 1 : Nat) : Int) - 1, ((T + i + 1 : Nat) : Int))) :: _)) :: _) pairK mapT zv2 rfl rfl rfl rfl rfl rfl rfl (fun _ _ => rfl) (fun _ _ => rfl) rfl rfl (fun _ _ => rfl) (fun _ _ => rfl) (fun _ _ => rfl) (fun _ _ => rfl) (fun _ => .there (.there (.here))) (fun _ => .there (.there (.here))) (fun _ => by (repeat (first | exact List.nil_sublist _ | exact List.Sublist.refl _ | refine List.Sublist.cons_cons _ ?_ | refine List.Sublist.cons _ ?_))) (fun _ => by (repeat (first | exact List.nil_sublist _ | exact List.Sublist.refl _ | refine List.Sublist.cons_cons _ ?_ | refine List.Sublist.cons _ ?_))) (fun u1 s1 => ?_); refine otl_put (k := (((T + i + 1 : Nat) : Int), ((T + i + 1 : Nat) : Int) - 1)) (A1 := fun s => _ :: _ :: .prd _ (MapP pairE _ ((s, (((T + i + 1 : Nat) : Int), ((T + i + 1 : Nat) : Int) - 1)) :: _)) :: _) (A2 := fun s => _ :: _ :: .prd _ (MapP pairE _ ((s, (((T + i + 1 : Nat) : Int), ((T + i + 1 : Nat) : Int) - 1)) :: _)) :: _) pairK mapT zv2 rfl rfl rfl rfl rfl rfl rfl (fun _ _ => rfl) (fun _ _ => rfl) rfl rfl (fun _ _ => rfl) (fun _ _ => rfl) (fun _ _ => rfl) (fun _ _ => rfl) (fun _ => .there (.there (.here))) (fun _ => .there (.there (.here))) (fun _ => by (repeat (first | exact List.nil_sublist _ | exact List.Sublist.refl _ | refine List.Sublist.cons_cons _ ?_ | refine List.Sublist.cons _ ?_))) (fun _ => by (repeat (first | exact List.nil_sublist _ | exact List.Sublist.refl _ | refine List.Sublist.cons_cons _ ?_ | refine List.Sublist.cons _ ?_))) (fun u2 s2 => ?_); refine otl_nil ?_) | (apply VK.mk; refine otl_put (k := (((T + i + 1 : Nat) : Int), (q : Int) + 1)) (A1 := fun s => _ :: _ :: .prd _ (MapP pairE _ ((s, (((T + i + 1 : Nat) : Int), (q : Int) + 1)) :: _)) :: _) (A2 := fun s => _ :: _ :: .prd _ (MapP pairE _ ((s, (((T + i + 1 : Nat) : Int), (q : Int) + 1)) :: _)) :: _) pairK mapT zv2 rfl rfl rfl rfl rfl rfl rfl (fun _ _ => rfl) (fun _ _ => rfl) rfl rfl (fun _ _ => rfl) (fun _ _ => rfl) (fun _ _ => rfl) (fun _ _ => rfl) (fun _ => .there (.there (.here))) (fun _ => .there (.there (.here))) (fun _ => by (repeat (first | exact List.nil_sublist _ | exact List.Sublist.refl _ | refine List.Sublist.cons_cons _ ?_ | refine List.Sublist.cons _ ?_))) (fun _ => by (repeat (first | exact List.nil_sublist _ | exact List.Sublist.refl _ | refine List.Sublist.cons_cons _ ?_ | refine List.Sublist.cons _ ?_))) (fun u3 s3 => ?_); refine otl_put (k := ((q : Int) + 1, ((T + i + 1 : Nat) : Int))) (A1 := fun s => _ :: _ :: .prd _ (MapP pairE _ ((s, ((q : Int) + 1, ((T + i + 1 : Nat) : Int))) :: _)) :: _) (A2 := fun s => _ :: _ :: .prd _ (MapP pairE _ ((s, ((q : Int) + 1, ((T + i + 1 : Nat) : Int))) :: _)) :: _) pairK mapT zv2 rfl rfl rfl rfl rfl rfl rfl (fun _ _ => rfl) (fun _ _ => rfl) rfl rfl (fun _ _ => rfl) (fun _ _ => rfl) (fun _ _ => rfl) (fun _ _ => rfl) (fun _ => .there (.there (.here))) (fun _ => .there (.there (.here))) (fun _ => by (repeat (first | exact List.nil_sublist _ | exact List.Sublist.refl _ | refine List.Sublist.cons_cons _ ?_ | refine List.Sublist.cons _ ?_))) (fun _ => by (repeat (first | exact List.nil_sublist _ | exact List.Sublist.refl _ | refine List.Sublist.cons_cons _ ?_ | refine List.Sublist.cons _ ?_))) (fun u4 s4 => ?_); refine otl_nil ?_) | (apply VLd.mk; (focus ((repeat (first | ((with_reducible apply ld_blk); exact rfl) | ((with_reducible apply ld_row); exact rfl) | ((with_reducible apply ld_row0); exact rfl) | (with_reducible assumption) | (with_reducible exact CellAt.base (by assumption)) | (with_reducible apply ld_skip))); done))) | (apply VRng.mk; omega) | apply VBr.t | apply VBr.f | (apply v_t; omega) | (apply v_f; omega) | (apply VNew.mk; intro g hg) | (apply VIx.mk; exact rfl; omega) | (apply VSt.mk; (focus ((repeat (first | (with_reducible exact At.here) | (with_reducible apply At.there))); done)); exact rfl) | (refine slist_and (by (repeat (first | exact List.nil_sublist _ | exact List.Sublist.refl _ | refine List.Sublist.cons_cons _ ?_ | refine List.Sublist.cons _ ?_))) ?_; first | refine otl_nil ?_ | (refine otl_cons ?_; apply ot_v Try.tabOk) | skip) | (apply VK.mk; first | (refine otl_cons ?_; apply ot_v Try.tabOk) | apply ot_v Try.tabOk)); (conv => whnf))); try (first | apply VStop.mk | apply VCall.stop))
      refine v_rnd (gm'' - 1) (by omega) (l := [(1, _), (3, _), (5, _), (45, _), (46, _), (47, _), (51, _), (52, _), (53, _)]) (B := _) ⟨rfl, rfl, rfl, rfl, rfl, rfl, rfl, rfl, rfl, trivial⟩ (.cons _ (List.Sublist.refl _)) ⟨rfl, k + 1, (s4, ((q : Int) + 1, ((T + i + 1 : Nat) : Int))) :: (s3, (((T + i + 1 : Nat) : Int), (q : Int) + 1)) :: (s2, (((T + i + 1 : Nat) : Int), ((T + i + 1 : Nat) : Int) - 1)) :: (s1, (((T + i + 1 : Nat) : Int) - 1, ((T + i + 1 : Nat) : Int))) :: st, by omega, ?_, by rw [hsz, hsz2]; rfl⟩
      rw [hsz, ← hstep]
end
end Go.Proofs.Ytkbcogaodnmdoaa
