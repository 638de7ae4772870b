/- TasteMoved: plain: lemmas for the rows of this seat. No conditions. -/
import Derived.Test.YtkbcogaodnmdoaaProg
import Derived.WalkKit
import Derived.WalkSpells
import Derived.WalkLawsBesides
import Derived.Lib.Hide
import Derived.Deep.AppendLies
import Derived.Deep.Draws
import Derived.Maps.AppendAt
import Derived.RegionTactic
import Derived.OwnWalk
import Derived.Deep.QuietTactic
import Derived.BigQuiet
import Derived.Deep.DeepFit
import Derived.Deep.LoopGhost
import Derived.Deep.DeepMust
import Derived.Deep.DeepCutAuto
import Derived.StillTail
import Derived.Deep.Quiet
import Derived.Deep.RegionHeld3
import Derived.Deep.RegionWith
import Derived.Deep.RegionLaw
import Derived.Maps.OwnOps
import Derived.Maps.OwnSet
import Derived.Maps.OwnRows
import Derived.Maps.RangeWalk
import Derived.Carry
import Derived.Test.YtkbcogaodnmdoaaBase
import Derived.Test.YtkbcogaodnmdoaaMaps
import Derived.Test.YtkbcogaodnmdoaaKeys
import Derived.Test.YtkbcogaodnmdoaaS1
import Derived.Test.YtkbcogaodnmdoaaS5
import Derived.Test.YtkbcogaodnmdoaaS12
import Derived.Test.YtkbcogaodnmdoaaS14
import Derived.Test.YtkbcogaodnmdoaaV
import Derived.Test.YtkbcogaodnmdoaaV2
import Derived.Test.YtkbcogaodnmdoaaV3
import Derived.Test.YtkbcogaodnmdoaaV4
import Derived.Test.YtkbcogaodnmdoaaV5
import Derived.Test.YtkbcogaodnmdoaaV6
import Derived.Test.YtkbcogaodnmdoaaTab
import Derived.Test.YtkbcogaodnmdoaaE1
import Derived.Test.YtkbcogaodnmdoaaE2
import Derived.Test.YtkbcogaodnmdoaaE3
import Derived.Test.YtkbcogaodnmdoaaE4
import Derived.Test.YtkbcogaodnmdoaaE5
import Derived.Test.YtkbcogaodnmdoaaE6
import Derived.Test.YtkbcogaodnmdoaaE7
import Derived.Test.YtkbcogaodnmdoaaE8
import Derived.Test.YtkbcogaodnmdoaaE9
import Derived.Test.YtkbcogaodnmdoaaE10
import Derived.Test.YtkbcogaodnmdoaaE11
import Derived.Test.YtkbcogaodnmdoaaE12
import Derived.Test.YtkbcogaodnmdoaaE13
import Derived.Test.YtkbcogaodnmdoaaE14
import Derived.Test.YtkbcogaodnmdoaaE15
import Derived.Test.YtkbcogaodnmdoaaE16
import Derived.Test.YtkbcogaodnmdoaaE17
import Derived.Test.YtkbcogaodnmdoaaE18
import Derived.Test.YtkbcogaodnmdoaaE19
import Derived.Test.YtkbcogaodnmdoaaE20
import Derived.Test.YtkbcogaodnmdoaaE21
import Derived.Test.YtkbcogaodnmdoaaE22
import Derived.Test.YtkbcogaodnmdoaaE23
import Derived.Test.YtkbcogaodnmdoaaE24
import Derived.Test.YtkbcogaodnmdoaaE25
import Derived.Test.YtkbcogaodnmdoaaE26
import Derived.Test.YtkbcogaodnmdoaaE27
import Derived.Test.YtkbcogaodnmdoaaE28
import Derived.Test.YtkbcogaodnmdoaaE29
import Derived.Test.YtkbcogaodnmdoaaE30
import Derived.Test.YtkbcogaodnmdoaaE31
import Derived.Test.YtkbcogaodnmdoaaE32
import Derived.Test.YtkbcogaodnmdoaaE33
import Derived.Test.YtkbcogaodnmdoaaE34
import Derived.Test.YtkbcogaodnmdoaaE35
import Derived.Test.YtkbcogaodnmdoaaE36
set_option linter.all false
namespace Go.Proofs.Ytkbcogaodnmdoaa
open Go.RowKit
/-! ## TasteMoved: plain -/
theorem said_set : ∀ (l : List T3) (k : Nat) (hk : k < l.length) (a b : Int), setMany (saidCells l) (k * 3 + 1) [.int .i64 a, .int .i64 b] = saidCells (l.set k (l[k].1, a, b))
  | x :: l, 0, _, a, b => by
    simp only [saidCells, saidL, setMany, List.set_cons_zero, List.cons_append, List.nil_append, setMany_nil, Nat.zero_mul, Nat.zero_add, List.getElem_cons_zero]
  | x :: l, k + 1, hk, a, b => by
    have := said_set l k (by simpa using hk) a b
    rw [show (k + 1) * 3 + 1 = k * 3 + 1 + 1 + 1 + 1 by omega]
    simp only [saidCells, saidL, setMany, List.set_cons_succ, List.cons_append, List.nil_append, List.getElem_cons_succ]
    rw [this]
/-- All that is said of a lot is as much greater. -/
def mvT (i : Nat) (d : Int) (x : T3) : T3 := if x.1 = (i : Int) then (x.1, x.2.1 + d, x.2.2 + d) else x
theorem mvT_fst (i : Nat) (d : Int) (x : T3) : (mvT i d x).1 = x.1 := by
  unfold mvT; split <;> rfl
/-- A book is moved so far. -/
structure MvTo (i : Nat) (d : Int) (S M : List (List T3)) (j k : Nat) : Prop where
  len : M.length = S.length
  lens : ∀ a (h : a < S.length), (M[a]'(by omega)).length = S[a].length
  at_ : ∀ a (h : a < S.length) b (hb : b < S[a].length) (hb' : b < (M[a]'(by omega)).length), (M[a]'(by omega))[b] = if a < j ∨ (a = j ∧ b < k) then mvT i d S[a][b] else S[a][b]
theorem MvTo.zero (i : Nat) (d : Int) (S : List (List T3)) : MvTo i d S S 0 0 :=
  ⟨rfl, fun _ _ => rfl, fun a h b hb _ => by rw [if_neg (by omega)]⟩
theorem MvTo.next {i : Nat} {d : Int} {S M : List (List T3)} {j : Nat} (hj : j < S.length) (h : MvTo i d S M j S[j].length) : MvTo i d S M (j + 1) 0 :=
  ⟨h.len, h.lens, fun a ha b hb hb' => by
    rw [h.at_ a ha b hb hb']
    by_cases e : a = j
    · subst e; rw [if_pos (.inr ⟨rfl, hb⟩), if_pos (.inl (by omega))]
    · by_cases e2 : a < j
      · rw [if_pos (.inl e2), if_pos (.inl (by omega))]
      · rw [if_neg (by omega), if_neg (by omega)]⟩
theorem MvTo.cur {i : Nat} {d : Int} {S M : List (List T3)} {j k : Nat} (h : MvTo i d S M j k) (hj : j < S.length) (hk : k < S[j].length) : ∃ hk' : k < (M[j]'(by rw [h.len]; exact hj)).length, (M[j]'(by rw [h.len]; exact hj))[k] = S[j][k] := by
  have hk' : k < (M[j]'(by rw [h.len]; exact hj)).length := by rw [h.lens j hj]; exact hk
  exact ⟨hk', by rw [h.at_ j hj k hk hk', if_neg (by omega)]⟩
theorem MvTo.skip {i : Nat} {d : Int} {S M : List (List T3)} {j k : Nat} (h : MvTo i d S M j k) (hj : j < S.length) (hk : k < S[j].length) (hne : S[j][k].1 ≠ (i : Int)) : MvTo i d S M j (k + 1) :=
  ⟨h.len, h.lens, fun a ha b hb hb' => by
    rw [h.at_ a ha b hb hb']
    by_cases e : a = j ∧ b = k
    · obtain ⟨rfl, rfl⟩ := e
      rw [if_neg (by omega), if_pos (by omega)]
      unfold mvT
      rw [if_neg hne]
    · by_cases e2 : a < j ∨ (a = j ∧ b < k)
      · rw [if_pos e2, if_pos (by omega)]
      · rw [if_neg e2, if_neg (by omega)]⟩
theorem MvTo.step {i : Nat} {d : Int} {S M : List (List T3)} {j k : Nat} (h : MvTo i d S M j k) (hj : j < S.length) (hk : k < S[j].length) : MvTo i d S (M.set j ((M[j]'(by rw [h.len]; exact hj)).set k (mvT i d S[j][k]))) j (k + 1) := by
  have hjM : j < M.length := by rw [h.len]; exact hj
  refine ⟨by rw [List.length_set]; exact h.len, fun a ha => ?_, fun a ha b hb hb' => ?_⟩
  · rw [List.getElem_set]
    split
    · rename_i e; subst e; rw [List.length_set]; exact h.lens _ ha
    · exact h.lens a ha
  · by_cases e : j = a
    · subst e
      have hbM : b < M[j].length := by rw [h.lens j hj]; exact hb
      simp only [List.getElem_set_self, true_and]
      rw [List.getElem_set]
      by_cases e2 : k = b
      · subst e2
        rw [if_pos rfl]
        rw [if_pos (by omega)]
      · rw [if_neg e2, h.at_ j ha b hb hbM]
        by_cases e3 : b < k
        · rw [if_pos (by omega), if_pos (by omega)]
        · rw [if_neg (by omega), if_neg (by omega)]
    · have hbM : b < (M[a]'(by rw [h.len]; exact ha)).length := by rw [h.lens a ha]; exact hb
      simp only [List.getElem_set_ne e]
      rw [h.at_ a ha b hb hbM]
      by_cases e3 : a < j
      · rw [if_pos (by omega), if_pos (by omega)]
      · rw [if_neg (by omega), if_neg (by omega)]
section
variable {rlo rhi : Int} {L : Nat} {S : List (List T3)} (hO : Okb rlo rhi L S)
omit hO
theorem mv_off {i : Nat} {d : Int} {M : List (List T3)} {j k : Nat} (h : MvTo i d S M j k) : ∀ {a : Nat}, a ≤ S.length → offT M a = offT S a
  | 0, _ => rfl
  | a + 1, ha => by
    rw [offT_step (show a < S.length by omega), offT_step (show a < M.length by rw [h.len]; omega), mv_off h (by omega), h.lens a (by omega)]
include hO
theorem truth_mv {i : Nat} {d : Int} {M : List (List T3)} (hM : MvTo i d S M S.length 0) {sh : Nat → Int} {ti : Nat → Nat → Int} (h : TruthA rlo rhi L S sh ti) (hb : 0 ≤ sh i + d ∧ sh i + d ≤ 1000) : TruthA rlo rhi L M (fun q => if q = i then sh q + d else sh q) ti := by
  have hl := hM.len
  refine ⟨fun q hq => ?_, fun j hj => h.first j (by omega), fun j hj k hk => h.next j (by omega) k (by rw [hM.lens j (by omega)] at hk; exact hk), fun j hj k hk _ => ?_⟩
  · show 0 ≤ (if q = i then sh q + d else sh q) ∧ (if q = i then sh q + d else sh q) ≤ 1000
    split
    · rename_i e; subst e; exact hb
    · exact h.sharp q hq
  · have hj' : j < S.length := by omega
    have hk' : k < S[j].length := by rw [hM.lens j hj'] at hk; exact hk
    have hx := hO.x _ (List.mem_flatten.2 ⟨_, List.getElem_mem hj', List.getElem_mem hk'⟩)
    have hq := h.said j hj' k hk' id
    rw [hM.at_ j hj' k hk' hk, if_pos (.inl hj'), mvT_fst]
    unfold mvT
    by_cases e : S[j][k].1 = (i : Int)
    · rw [if_pos e, if_pos (by omega)]
      rw [show S[j][k].1.toNat = i by omega] at hq ⊢
      dsimp only
      omega
    · rw [if_neg e, if_neg (by omega)]
      exact hq
end
theorem truthN_off {rlo rhi : Int} {L : Nat} {S M : List (List T3)} (hOM : Okb rlo rhi L M) {sh T : Nat → Int} (hoff : ∀ j, j ≤ M.length → offT M j = offT S j) (h : TruthA rlo rhi L M sh (fun j k => T (offT S j + k))) : TruthN rlo rhi L M (-1) sh T := by
  have h2 : TruthS rlo rhi L M (skipAt M (-1)) sh (fun j k => T (offT M j + k)) := by
    refine truthA_iff.2 ⟨h.sharp, fun j hj => ?_, fun j hj k hk => ?_, fun j hj k hk hs => ?_⟩
    · have := h.first j hj
      rw [hoff j (by omega)]; exact this
    · have := h.next j hj k hk
      rw [hoff j (by omega)]; exact this
    · have := h.said j hj k hk hs
      rw [hoff j (by omega)]; exact this
  exact TruthN.congr' hOM (truthN_of hOM h2) (fun i hi => rfl) fun k hk => by rw [flatN_self hk]
theorem sitVs_congr : ∀ {ys : List SitX} {S M : List (List T3)}, S.length = M.length → (∀ a (h : a < S.length) (h' : a < M.length), M[a].length = S[a].length) → sitVs ys S = sitVs ys M
  | [], _, _, _, _ => rfl
  | y :: ys, [], [], _, _ => rfl
  | y :: ys, s :: S, m :: M, hl, h => by
    have h0 := h 0 (by simp) (by simp)
    simp only [List.getElem_cons_zero] at h0
    simp only [sitVs, sitV, h0]
    rw [sitVs_congr (by simpa using hl) fun a ha ha' => ?_]
    have := h (a + 1) (by simpa using ha) (by simpa using ha')
    simpa using this
end Go.Proofs.Ytkbcogaodnmdoaa
