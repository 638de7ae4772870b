/- TasteNarrower: plain: lemmas for the rows of this seat. No conditions. -/
import Derived.Test.YtkbcogaodnmdoaaProg
import Derived.WalkKit
import Derived.WalkSpells
import Derived.WalkLawsBesides
import Derived.Lib.Hide
import Derived.Deep.AppendLies
import Derived.Deep.Draws
import Derived.Maps.AppendAt
import Derived.RegionTactic
import Derived.OwnWalk
import Derived.Deep.QuietTactic
import Derived.BigQuiet
import Derived.Deep.DeepFit
import Derived.Deep.LoopGhost
import Derived.Deep.DeepMust
import Derived.Deep.DeepCutAuto
import Derived.StillTail
import Derived.Deep.Quiet
import Derived.Deep.RegionHeld3
import Derived.Deep.RegionWith
import Derived.Deep.RegionLaw
import Derived.Maps.OwnOps
import Derived.Maps.OwnSet
import Derived.Maps.OwnRows
import Derived.Maps.RangeWalk
import Derived.Carry
import Derived.Test.YtkbcogaodnmdoaaBase
import Derived.Test.YtkbcogaodnmdoaaMaps
import Derived.Test.YtkbcogaodnmdoaaKeys
import Derived.Test.YtkbcogaodnmdoaaS1
import Derived.Test.YtkbcogaodnmdoaaS5
import Derived.Test.YtkbcogaodnmdoaaS12
import Derived.Test.YtkbcogaodnmdoaaS14
import Derived.Test.YtkbcogaodnmdoaaV
import Derived.Test.YtkbcogaodnmdoaaV2
import Derived.Test.YtkbcogaodnmdoaaV3
import Derived.Test.YtkbcogaodnmdoaaV4
import Derived.Test.YtkbcogaodnmdoaaV5
import Derived.Test.YtkbcogaodnmdoaaV6
import Derived.Test.YtkbcogaodnmdoaaTab
import Derived.Test.YtkbcogaodnmdoaaE1
import Derived.Test.YtkbcogaodnmdoaaE2
import Derived.Test.YtkbcogaodnmdoaaE3
import Derived.Test.YtkbcogaodnmdoaaE4
import Derived.Test.YtkbcogaodnmdoaaE5
import Derived.Test.YtkbcogaodnmdoaaE6
import Derived.Test.YtkbcogaodnmdoaaE7
import Derived.Test.YtkbcogaodnmdoaaE8
import Derived.Test.YtkbcogaodnmdoaaE9
import Derived.Test.YtkbcogaodnmdoaaE10
import Derived.Test.YtkbcogaodnmdoaaE11
import Derived.Test.YtkbcogaodnmdoaaE12
import Derived.Test.YtkbcogaodnmdoaaE13
import Derived.Test.YtkbcogaodnmdoaaE14
import Derived.Test.YtkbcogaodnmdoaaE15
import Derived.Test.YtkbcogaodnmdoaaE16
import Derived.Test.YtkbcogaodnmdoaaE17
import Derived.Test.YtkbcogaodnmdoaaE18
import Derived.Test.YtkbcogaodnmdoaaE19
import Derived.Test.YtkbcogaodnmdoaaE20
import Derived.Test.YtkbcogaodnmdoaaE21
import Derived.Test.YtkbcogaodnmdoaaE22
import Derived.Test.YtkbcogaodnmdoaaE23
import Derived.Test.YtkbcogaodnmdoaaE24
import Derived.Test.YtkbcogaodnmdoaaE25
import Derived.Test.YtkbcogaodnmdoaaE26
import Derived.Test.YtkbcogaodnmdoaaE27
import Derived.Test.YtkbcogaodnmdoaaE28
import Derived.Test.YtkbcogaodnmdoaaE29
import Derived.Test.YtkbcogaodnmdoaaE30
import Derived.Test.YtkbcogaodnmdoaaE31
import Derived.Test.YtkbcogaodnmdoaaE32
import Derived.Test.YtkbcogaodnmdoaaE33
set_option linter.all false
namespace Go.Proofs.Ytkbcogaodnmdoaa
open Go.RowKit
/-! ## TasteNarrower: plain -/
section
variable {rlo rhi rlo' rhi' : Int} {L : Nat} {S S' : List (List T3)}
theorem less_true (hO : Okb rlo rhi L S) (hO' : Okb rlo' rhi' L S') (hsub : ∀ sh ti', TruthA rlo' rhi' L S' sh ti' → ∃ ti, TruthA rlo rhi L S sh ti) : (!canB rlo' rhi' L S' (-1) || canB rlo rhi L S (-1) && withinR (spansP rlo' rhi' L S') (spansP rlo rhi L S)) = true := by
  cases hc' : canB rlo' rhi' L S' (-1) with
  | false => rfl
  | true =>
    obtain ⟨hc, hle⟩ := spans_le hO hO' hsub hc'
    rw [hc, Bool.not_true, Bool.false_or, Bool.true_and]
    unfold spansP withinR
    rw [if_pos hc, if_pos hc', List.length_map, List.length_map, decide_eq_true rfl, Bool.true_and, truthUpto_all]
    intro k hk
    rw [List.length_range] at hk
    rw [List.getElem?_map, List.getElem?_map, List.getElem?_range hk, decide_eq_true_eq]
    exact hle k hk
theorem narrow_set {i : Nat} {s' : List T3} {sh : Nat → Int} {ti : Nat → Nat → Int} (hi : i < S.length) (hl : S[i].length ≤ s'.length) (hs : ∀ k (hk : k < S[i].length), (s'[k]'(by omega)).1 = S[i][k].1 ∧ S[i][k].2.1 ≤ (s'[k]'(by omega)).2.1 ∧ (s'[k]'(by omega)).2.2 ≤ S[i][k].2.2)
    (h : TruthA rlo rhi L (S.set i s') sh ti) : TruthA rlo rhi L S sh ti := by
  refine ⟨h.sharp, fun j hj => h.first j (by rw [List.length_set]; exact hj), fun j hj k hk => h.next j (by rw [List.length_set]; exact hj) k ?_, fun j hj k hk _ => ?_⟩
  · rw [List.getElem_set]
    split
    · rename_i e; subst e; omega
    · exact hk
  · have hj' : j < (S.set i s').length := by rw [List.length_set]; exact hj
    by_cases e : i = j
    · subst e
      have q := h.said i hj' k (by rw [List.getElem_set_self]; omega) id
      simp only [List.getElem_set_self] at q
      obtain ⟨h1, h2, h3⟩ := hs k hk
      rw [h1] at q
      omega
    · have q := h.said j hj' k (by rw [List.getElem_set_ne e]; exact hk) id
      simp only [List.getElem_set_ne e] at q
      exact q
theorem narrow_rate {sh : Nat → Int} {ti : Nat → Nat → Int} (h1 : rlo ≤ rlo') (h2 : rhi' ≤ rhi) (h : TruthA rlo' rhi' L S sh ti) : TruthA rlo rhi L S sh ti :=
  ⟨h.sharp, h.first, fun j hj k hk => by have := h.next j hj k hk; omega, h.said⟩
theorem flat_set {i : Nat} {s' : List T3} (hi : i < S.length) (hl : s'.length = S[i].length) : (S.set i s').flatten.length = S.flatten.length := by
  rw [List.length_flatten, List.length_flatten, List.map_set, hl]
  have : (S.map List.length).set i S[i].length = S.map List.length := by
    have e : S[i].length = (S.map List.length)[i]'(by simpa using hi) := by simp
    rw [e, List.set_getElem_self]
  rw [this]
theorem Okb.set {lots : Int} {i : Nat} {s' : List T3} (hO : Okb rlo rhi lots S) (hi : i < S.length) (hl : s'.length = S[i].length) (hx : ∀ x ∈ s', 0 ≤ x.1 ∧ x.1 < lots ∧ -1000 ≤ x.2.1 ∧ x.2.1 ≤ x.2.2 ∧ x.2.2 ≤ 1000) : Okb rlo rhi lots (S.set i s') := by
  refine ⟨hO.r, hO.l, by rw [List.length_set]; exact hO.n, by rw [flat_set hi hl]; exact hO.t, fun s hs => ?_, fun x hx' => ?_⟩
  · rcases List.mem_or_eq_of_mem_set hs with h | rfl
    · exact hO.ne s h
    · rw [hl]; exact hO.ne _ (List.getElem_mem hi)
  · obtain ⟨s, hs, hxs⟩ := List.mem_flatten.1 hx'
    rcases List.mem_or_eq_of_mem_set hs with h | rfl
    · exact hO.x x (List.mem_flatten.2 ⟨s, h, hxs⟩)
    · exact hx x hxs
/-- A taste's Said is another one. -/
theorem Okb.setSaid {lots : Int} {i k : Nat} {lo hi' : Int} (hO : Okb rlo rhi lots S) (hi : i < S.length) (hk : k < S[i].length) (h1 : -1000 ≤ lo) (h2 : lo ≤ hi') (h3 : hi' ≤ 1000) : Okb rlo rhi lots (S.set i (S[i].set k (S[i][k].1, lo, hi'))) := by
  refine hO.set hi (List.length_set) fun x hx => ?_
  have := hO.x S[i][k] (List.mem_flatten.2 ⟨_, List.getElem_mem hi, List.getElem_mem hk⟩)
  rcases List.mem_or_eq_of_mem_set hx with h | rfl
  · exact hO.x x (List.mem_flatten.2 ⟨_, List.getElem_mem hi, h⟩)
  · exact ⟨this.1, this.2.1, h1, h2, h3⟩
theorem narrow_said {i k : Nat} {lo hi' : Int} {sh : Nat → Int} {ti : Nat → Nat → Int} (hi : i < S.length) (hk : k < S[i].length) (h1 : S[i][k].2.1 ≤ lo) (h2 : hi' ≤ S[i][k].2.2) (h : TruthA rlo rhi L (S.set i (S[i].set k (S[i][k].1, lo, hi'))) sh ti) : TruthA rlo rhi L S sh ti := by
  refine narrow_set hi (by rw [List.length_set]; exact Nat.le_refl _) (fun q hq => ?_) h
  rw [List.getElem_set]
  split
  · rename_i e; subst e; exact ⟨rfl, h1, h2⟩
  · exact ⟨rfl, Int.le_refl _, Int.le_refl _⟩
theorem narrow_more {i : Nat} {t : T3} {sh : Nat → Int} {ti : Nat → Nat → Int} (hi : i < S.length) (h : TruthA rlo rhi L (S.set i (S[i] ++ [t])) sh ti) : TruthA rlo rhi L S sh ti := by
  refine narrow_set hi (by rw [List.length_append]; omega) (fun q hq => ?_) h
  rw [List.getElem_append_left hq]
  exact ⟨rfl, Int.le_refl _, Int.le_refl _⟩
end
/-- A rest, and half of it. -/
theorem narrow_num {a m : Int} (ha : 0 ≤ a) (hm : 0 < m) : 0 ≤ Int.tmod a m ∧ Int.tmod a m < m ∧ 0 ≤ Int.tdiv (Int.tmod a m) 2 ∧ Int.tdiv (Int.tmod a m) 2 ≤ Int.tmod a m := by
  have h1 := Int.tmod_nonneg m ha
  have h2 := Int.tmod_lt_of_pos a hm
  have h3 : 0 ≤ Int.tdiv (Int.tmod a m) 2 := Int.tdiv_nonneg h1 (by omega)
  refine ⟨h1, h2, h3, ?_⟩
  rw [Int.tdiv_eq_ediv_of_nonneg h1]
  omega
theorem tdiv_nat (z : Int) (h : 0 ≤ z) : Int.tdiv z 4 = ((z.toNat / 4 : Nat) : Int) := by
  rw [Int.tdiv_eq_ediv_of_nonneg h]
  omega
/-! ## TasteNarrower -/
/- appended -/
instance nestX_inh {n : Nat} : Inhabited (NestX n) := ⟨((none, 0), ⟨List.replicate n (none, 0), by simp⟩)⟩
abbrev NX (n : Nat) := NestX n × Nat
def factN (rlo rhi L : Int) (S : List (List T3)) : Nat → NX S.length → Value × List Chunk
  | 6, x => (.pointer (some ⟨x.2, 0, none⟩), [.blk x.2 26 [.int .i64 0, .int .i64 0, .int .i64 0, .slice none 0 0]])
  | 7, x => (.pointer (some ⟨x.2, 0, none⟩), [.blk x.2 26 [.int .i64 0, .int .i64 0, .int .i64 0, .slice none 0 0]])
  | 8, x => (.pointer (some ⟨x.2, 0, none⟩), [.blk x.2 26 [.int .i64 0, .int .i64 0, .int .i64 0, .slice none 0 0]])
  | _, x => (bookV rlo rhi L x.1.1.1 S.length x.1.1.2, nestCh S x.1)
theorem said_set : ∀ (l : List T3) (k : Nat) (hk : k < l.length) (a b : Int), setMany (saidCells l) (k * 3 + 1) [.int .i64 a, .int .i64 b] = saidCells (l.set k (l[k].1, a, b))
  | x :: l, 0, _, a, b => by
    simp only [saidCells, saidL, setMany, List.set_cons_zero, List.cons_append, List.nil_append, setMany_nil, Nat.zero_mul, Nat.zero_add, List.getElem_cons_zero]
  | x :: l, k + 1, hk, a, b => by
    have := said_set l k (by simpa using hk) a b
    rw [show (k + 1) * 3 + 1 = k * 3 + 1 + 1 + 1 + 1 by omega]
    simp only [saidCells, saidL, setMany, List.set_cons_succ, List.cons_append, List.nil_append, List.getElem_cons_succ]
    rw [this]
theorem perm_narrow {α : Type} {a1 a2 a3 o1 o2 o3 y g g0 c1 c3 : α} {C1 C2 C3 R1 R3 : List α} (h1 : C1.Perm (c1 :: R1)) (h3 : C3.Perm (c3 :: R3)) : (a1 :: a2 :: a3 :: o1 :: (C1 ++ o2 :: (C2 ++ o3 :: C3) ++ [y, g, g0])).Perm (a1 :: a2 :: a3 :: o1 :: c1 :: o3 :: c3 :: g0 :: g :: y :: (o2 :: (C2 ++ (R1 ++ R3)))) := by
  classical
  refine List.perm_iff_count.2 fun q => ?_
  simp only [List.count_append, List.count_cons, List.count_nil, h1.count_eq q, h3.count_eq q]
  omega
section
variable (rlo rhi lots : Int) (Al : Option Addr) (c : Nat) (S : List (List T3)) (w : World) (hN : NestR w 3 Al (nestOf S)) (hm : ∀ s ∈ S, s.length ≤ maxLen)
include hN hm
set_option maxHeartbeats 4000000 in
set_option maxRecDepth 20000 in
theorem tasteNarrower_any (which less : Int) (h1 : 0 ≤ which ∧ which ≤ 255) (h2 : 0 ≤ less ∧ less ≤ 255) (t : T3) : Calls Try.prog 13 #[bookV rlo rhi lots Al S.length c, .int .u8 which, .int .u8 less, .agg #[.int .i64 t.1, .int .i64 t.2.1, .int .i64 t.2.2]] w fun e w' => e = .returned (.bool true) ∧ Below w.heap.size w w' := by
  obtain ⟨t1, t2, t3⟩ := t
  dsimp only
  have hfn := fun w1 (h : NestR w1 3 Al (nestOf S)) => fineG_any rlo rhi lots Al c S w1 h hm
  have hwk := fun w1 => works_any w1
  by_cases h0 : chkBook rlo rhi lots S = 0
  rotate_left
  · rw [decide_eq_false h0] at hfn
    unfold bookV at *
    refine fn_v Try.tabOk (n := 161) (A := []) Try.func13 rfl rfl (Nat.le_of_ble_eq_true rfl) (St.nil (Below.refl _ _)) ?_
    ((try first | apply tr_v Try.tabOk | apply ot_v Try.tabOk); (conv => whnf); (repeat ((first | (apply VCall.q; kernel_rfl; (focus (intro w1 hs; first | with_reducible apply hfn w1 (hs.nest hN) | with_reducible apply hwk w1))) | apply VBr.t | (apply VNew.mk; intro g hg) | (apply VLdN.mk; (focus ((repeat (first | (with_reducible apply ldn_blk) | (with_reducible apply ldn_row) | (with_reducible assumption) | (with_reducible apply ldn_skip))); done)); exact rfl) | (refine slist_and (by (repeat (first | exact List.nil_sublist _ | exact List.Sublist.refl _ | refine List.Sublist.cons_cons _ ?_ | refine List.Sublist.cons _ ?_ | (with_reducible refine List.Sublist.trans ?_ (List.sublist_append_right _ _))))) ?_; first | refine otl_nil ?_ | (refine otl_cons ?_; apply ot_v Try.tabOk) | skip) | (apply VK.mk; first | (refine otl_cons ?_; apply ot_v Try.tabOk) | apply ot_v Try.tabOk)); (conv => whnf))); try (first | apply VStop.mk | apply VCall.stop))
    ((apply VRet.mk); refine ret1 (by first | exact .inl rfl | exact .inr rfl) rfl (by exact rv_tmp rfl) ?_; exact fun w h => ⟨rfl, h.base⟩)
  rw [decide_eq_true h0] at hfn
  have hO := chk_ok.1 h0
  obtain ⟨L, rfl⟩ : ∃ L : Nat, lots = L := ⟨lots.toNat, by have := hO.l; omega⟩
  by_cases hS : S.length = 0
  · unfold bookV at *
    refine fn_v Try.tabOk (n := 161) (A := []) Try.func13 rfl rfl (Nat.le_of_ble_eq_true rfl) (St.nil (Below.refl _ _)) ?_
    ((try first | apply tr_v Try.tabOk | apply ot_v Try.tabOk); (conv => whnf); (repeat ((first | (apply VCall.q; kernel_rfl; (focus (intro w1 hs; first | with_reducible apply hfn w1 (hs.nest hN) | with_reducible apply hwk w1))) | (apply VLd.mk; (focus ((repeat (first | ((with_reducible apply ld_blk); exact rfl) | ((with_reducible apply ld_row); exact rfl) | ((with_reducible apply ld_row0); exact rfl) | (with_reducible assumption) | (with_reducible exact CellAt.base (by assumption)) | (with_reducible apply ld_skip))); done))) | apply VBr.t | apply VBr.f | (apply v_t; omega) | (apply VNew.mk; intro g hg) | (apply VLdN.mk; (focus ((repeat (first | (with_reducible apply ldn_blk) | (with_reducible apply ldn_row) | (with_reducible assumption) | (with_reducible apply ldn_skip))); done)); exact rfl) | (refine slist_and (by (repeat (first | exact List.nil_sublist _ | exact List.Sublist.refl _ | refine List.Sublist.cons_cons _ ?_ | refine List.Sublist.cons _ ?_ | (with_reducible refine List.Sublist.trans ?_ (List.sublist_append_right _ _))))) ?_; first | refine otl_nil ?_ | (refine otl_cons ?_; apply ot_v Try.tabOk) | skip) | (apply VK.mk; first | (refine otl_cons ?_; apply ot_v Try.tabOk) | apply ot_v Try.tabOk)); (conv => whnf))); try (first | apply VStop.mk | apply VCall.stop))
    ((apply VRet.mk); refine ret1 (by first | exact .inl rfl | exact .inr rfl) rfl (by exact rv_tmp rfl) ?_; exact fun w h => ⟨rfl, h.base⟩)
  have hsp := fun w1 (h : NestR w1 3 Al (nestOf S)) => spans_any rlo rhi L Al c S w1 h hO
  have hsm := fun w1 (h : NestR w1 3 Al (nestOf S)) => same_any rlo rhi L Al c S w1 h hO.fit
  have hn := spansP_len rlo rhi L S
  have hl := hO.l
  obtain ⟨i, hi⟩ : ∃ i, i = which.toNat % S.length := ⟨_, rfl⟩
  have hiS : i < S.length := by rw [hi]; exact Nat.mod_lt _ (by omega)
  have ei : Int.tmod which (S.length : Int) = i := by rw [tmod_nat which S.length h1.1, hi]
  have hne : 0 < S[i].length := Nat.pos_of_ne_zero (hO.ne _ (List.getElem_mem hiS))
  obtain ⟨k, hk⟩ : ∃ k, k = (which.toNat / 4) % S[i].length := ⟨_, rfl⟩
  have hkS : k < S[i].length := by rw [hk]; exact Nat.mod_lt _ hne
  have ek : Int.tmod (Int.tdiv which 4) (S[i].length : Int) = k := by rw [tdiv_nat which h1.1, tmod_nat _ S[i].length (by omega), Int.toNat_natCast, hk]
  have hdv : 0 ≤ Int.tdiv which 4 ∧ Int.tdiv which 4 ≤ 255 := by rw [tdiv_nat which h1.1]; omega
  clear hi hk
  obtain ⟨b, o, rfl, B', c', hce, hrd⟩ := nest_at hN hiS
  unfold bookV at hfn hsp hsm
  refine fn_k (n := 161) (args := [bookV rlo rhi L (some ⟨b, o, none⟩) S.length c, .int .u8 which, .int .u8 less, .agg #[.int .i64 t1, .int .i64 t2, .int .i64 t3]]) (A := []) Try.func13 rfl rfl (Nat.le_of_ble_eq_true rfl) (St.nil (Below.refl _ _)) ?_
  unfold bookV
  refine tr_seqK ?_
  ((try first | apply tr_v Try.tabOk | apply ot_v Try.tabOk); (conv => whnf); (repeat ((first | (apply VNew.mk; intro g hg) | (refine slist_and (by (repeat (first | exact List.nil_sublist _ | exact List.Sublist.refl _ | refine List.Sublist.cons_cons _ ?_ | refine List.Sublist.cons _ ?_ | (with_reducible refine List.Sublist.trans ?_ (List.sublist_append_right _ _))))) ?_; first | refine otl_nil ?_ | (refine otl_cons ?_; apply ot_v Try.tabOk) | skip) | (apply VK.mk; first | (refine otl_cons ?_; apply ot_v Try.tabOk) | apply ot_v Try.tabOk)); (conv => whnf))); try (first | apply VStop.mk | apply VCall.stop))
  refine tr_seqK ?_
  ((try first | apply tr_v Try.tabOk | apply ot_v Try.tabOk); (conv => whnf); (repeat ((first | (apply VCall.q; kernel_rfl; (focus (intro w1 hs; first | with_reducible apply hfn w1 (hs.nest hN)))) | (apply VLd.mk; (focus ((repeat (first | ((with_reducible apply ld_blk); exact rfl) | ((with_reducible apply ld_row); exact rfl) | ((with_reducible apply ld_row0); exact rfl) | (with_reducible assumption) | (with_reducible exact CellAt.base (by assumption)) | (with_reducible apply ld_skip))); done))) | apply VBr.f | (apply v_f; omega) | (apply VLdN.mk; (focus ((repeat (first | (with_reducible apply ldn_blk) | (with_reducible apply ldn_row) | (with_reducible assumption) | (with_reducible apply ldn_skip))); done)); exact rfl) | (refine slist_and (by (repeat (first | exact List.nil_sublist _ | exact List.Sublist.refl _ | refine List.Sublist.cons_cons _ ?_ | refine List.Sublist.cons _ ?_ | (with_reducible refine List.Sublist.trans ?_ (List.sublist_append_right _ _))))) ?_; first | refine otl_nil ?_ | (refine otl_cons ?_; apply ot_v Try.tabOk) | skip) | (apply VK.mk; first | (refine otl_cons ?_; apply ot_v Try.tabOk) | apply ot_v Try.tabOk)); (conv => whnf))); try (first | apply VStop.mk | apply VCall.stop))
  refine tr_seqK ?_
  ((try first | apply tr_v Try.tabOk | apply ot_v Try.tabOk); (conv => whnf); (repeat ((first | (apply VLdN.mk; (focus ((repeat (first | (with_reducible apply ldn_blk) | (with_reducible apply ldn_row) | (with_reducible assumption) | (with_reducible apply ldn_skip))); done)); exact rfl) | (refine slist_and (by (repeat (first | exact List.nil_sublist _ | exact List.Sublist.refl _ | refine List.Sublist.cons_cons _ ?_ | refine List.Sublist.cons _ ?_ | (with_reducible refine List.Sublist.trans ?_ (List.sublist_append_right _ _))))) ?_; first | refine otl_nil ?_ | (refine otl_cons ?_; apply ot_v Try.tabOk) | skip) | (apply VK.mk; first | (refine otl_cons ?_; apply ot_v Try.tabOk) | apply ot_v Try.tabOk)); (conv => whnf))); try (first | apply VStop.mk | apply VCall.stop))
  refine ot_call_st (X := Option Addr × Nat) (fun x => .tuple #[.slice x.1 (spansP rlo rhi L S).length x.2, .bool (canB rlo rhi L S (-1)), .bool true]) (fun x => [.own (.slice x.1 (spansP rlo rhi L S).length x.2) 23 2 (spansP rlo rhi L S).length (rngCells (spansP rlo rhi L S))]) (fun x => mut_one rfl) (by decide) rfl rfl rfl (by kernel_rfl) (evl_of rfl) (fun w1 hs => hsp w1 (hs.nest hN)) (fun y => ?_)
  dsimp only [List.cons_append, List.nil_append]
  apply ot_v Try.tabOk
  ((try first | apply tr_v Try.tabOk | apply ot_v Try.tabOk); (conv => whnf); (repeat ((first | (refine slist_and (by (repeat (first | exact List.nil_sublist _ | exact List.Sublist.refl _ | refine List.Sublist.cons_cons _ ?_ | refine List.Sublist.cons _ ?_ | (with_reducible refine List.Sublist.trans ?_ (List.sublist_append_right _ _))))) ?_; first | refine otl_nil ?_ | (refine otl_cons ?_; apply ot_v Try.tabOk) | skip) | (apply VK.mk; first | (refine otl_cons ?_; apply ot_v Try.tabOk) | apply ot_v Try.tabOk)); (conv => whnf))); try (first | apply VStop.mk | apply VCall.stop))
  refine tr_seqK ?_
  ((try first | apply tr_v Try.tabOk | apply ot_v Try.tabOk); (conv => whnf); (repeat ((first | apply VBr.f | (refine slist_and (by (repeat (first | exact List.nil_sublist _ | exact List.Sublist.refl _ | refine List.Sublist.cons_cons _ ?_ | refine List.Sublist.cons _ ?_ | (with_reducible refine List.Sublist.trans ?_ (List.sublist_append_right _ _))))) ?_; first | refine otl_nil ?_ | (refine otl_cons ?_; apply ot_v Try.tabOk) | skip) | (apply VK.mk; first | (refine otl_cons ?_; apply ot_v Try.tabOk) | apply ot_v Try.tabOk)); (conv => whnf))); try (first | apply VStop.mk | apply VCall.stop))
  refine tr_seqK ?_
  ((try first | apply tr_v Try.tabOk | apply ot_v Try.tabOk); (conv => whnf); (repeat ((first | (apply VLd.mk; (focus ((repeat (first | ((with_reducible apply ld_blk); exact rfl) | ((with_reducible apply ld_row); exact rfl) | ((with_reducible apply ld_row0); exact rfl) | (with_reducible assumption) | (with_reducible exact CellAt.base (by assumption)) | (with_reducible apply ld_skip))); done))) | (apply v_wr64; omega) | (apply VNz.mk; omega) | (refine slist_and (by (repeat (first | exact List.nil_sublist _ | exact List.Sublist.refl _ | refine List.Sublist.cons_cons _ ?_ | refine List.Sublist.cons _ ?_ | (with_reducible refine List.Sublist.trans ?_ (List.sublist_append_right _ _))))) ?_; first | refine otl_nil ?_ | (refine otl_cons ?_; apply ot_v Try.tabOk) | skip) | (apply VK.mk; first | (refine otl_cons ?_; apply ot_v Try.tabOk) | apply ot_v Try.tabOk)); (conv => whnf))); try (first | apply VStop.mk | apply VCall.stop))
  rw [ei]
  refine tr_seqK ?_
  ((try first | apply tr_v Try.tabOk | apply ot_v Try.tabOk); (conv => whnf); (repeat ((first | (apply VIx.mk (j := i); exact rfl; omega) | (apply VLd.mk; exact hce _) | (apply VLd.mk; (focus ((repeat (first | ((with_reducible apply ld_blk); exact rfl) | ((with_reducible apply ld_row); exact rfl) | ((with_reducible apply ld_row0); exact rfl) | (with_reducible assumption) | (with_reducible exact CellAt.base (by assumption)) | (with_reducible apply ld_skip))); done))) | (apply VRng.mk; omega) | (apply v_wr64; omega) | (apply VNz.mk; omega) | (refine slist_and (by (repeat (first | exact List.nil_sublist _ | exact List.Sublist.refl _ | refine List.Sublist.cons_cons _ ?_ | refine List.Sublist.cons _ ?_ | (with_reducible refine List.Sublist.trans ?_ (List.sublist_append_right _ _))))) ?_; first | refine otl_nil ?_ | (refine otl_cons ?_; apply ot_v Try.tabOk) | skip) | (apply VK.mk; first | (refine otl_cons ?_; apply ot_v Try.tabOk) | apply ot_v Try.tabOk)); (conv => whnf))); try (first | apply VStop.mk | apply VCall.stop))
  rw [ek]
  refine tr_seqK ?_
  rename_i g0 hg0
  obtain ⟨gm, rfl⟩ : ∃ gm, gm = g := ⟨g, rfl⟩
  refine tr_region_make (id := 8) (by kernel_rfl) [.blk g0 26 [.int .i64 rlo, .int .i64 rhi, .int .i64 L, .slice (some ⟨b, o, none⟩) S.length c]] (by (repeat (first | exact List.nil_sublist _ | exact List.Sublist.refl _ | refine List.Sublist.cons_cons _ ?_ | refine List.Sublist.cons _ ?_ | (with_reducible refine List.Sublist.trans ?_ (List.sublist_append_right _ _))))) [0, 2, 4] [6, 7, 8, 1, 3, 5] [9, 10, 11] [.rd, .rd, .rd] (fun i => [.wr, .cr, .wr, .cr, .wr, .cr, .cr, .cr, .cr, .wr, .wr, .wr].getD i .wr) _ rfl rfl (by kernel_rfl) (by kernel_rfl) (by decide) (fun i => [53, 54, 55, 56, 57, 58, 14, 15, 16, 0, 0, 0].getD i 0) [(4, .pointer (some ⟨g0, 0, none⟩)), (7, .pointer (some ⟨gm, 0, none⟩)), (9, .slice y.1 (spansP rlo rhi L S).length y.2), (10, .bool (canB rlo rhi L S (-1))), (12, .int .i64 i), (13, .int .i64 k), (2, .int .u8 less), (53, bookV rlo rhi L (some ⟨b, o, none⟩) S.length c), (55, bookV rlo rhi L (some ⟨b, o, none⟩) S.length c), (57, bookV rlo rhi L (some ⟨b, o, none⟩) S.length c)] (factN rlo rhi L S) (by kernel_rfl) ?_ ?_ ?_
  · ((try first | apply tr_v Try.tabOk | apply ot_v Try.tabOk); (conv => whnf); (repeat ((first | (apply VLdN.mk; (focus ((repeat (first | (with_reducible apply ldn_blk) | (with_reducible apply ldn_row) | (with_reducible assumption) | (with_reducible apply ldn_skip))); done)); exact rfl) | (refine slist_and (by (repeat (first | exact List.nil_sublist _ | exact List.Sublist.refl _ | refine List.Sublist.cons_cons _ ?_ | refine List.Sublist.cons _ ?_ | (with_reducible refine List.Sublist.trans ?_ (List.sublist_append_right _ _))))) ?_; first | refine otl_nil ?_ | (refine otl_cons ?_; apply ot_v Try.tabOk) | skip) | (apply VK.mk; first | (refine otl_cons ?_; apply ot_v Try.tabOk) | apply ot_v Try.tabOk)); (conv => whnf))); try (first | apply VStop.mk | apply VCall.stop))
    exact ⟨rfl, rfl, rfl, rfl, rfl, rfl, rfl, rfl, rfl, rfl, trivial⟩
  · refine ⟨?_, ?_, ?_, ?_, ?_, ?_, trivial⟩
    · intro ts A hb hA hd
      exact ot_alloc Try.tabOk (by decide) rfl rfl rfl rfl fun g _ => ⟨(default, g), rfl, rfl⟩
    · intro ts A hb hA hd
      exact ot_alloc Try.tabOk (by decide) rfl rfl rfl rfl fun g _ => ⟨(default, g), rfl, rfl⟩
    · intro ts A hb hA hd
      exact ot_alloc Try.tabOk (by decide) rfl rfl rfl rfl fun g _ => ⟨(default, g), rfl, rfl⟩
    · intro ts A hb hA hd
      exact ot_call_st (X := NestX S.length) (fun x => bookV rlo rhi L x.1.1 S.length x.1.2) (fun x => nestCh S x) (nestCh_mut S) (by decide) rfl rfl rfl (by kernel_rfl) (.cons hb.2.2.2.2.2.2.2.1 .nil) (fun w1 hs => hsm w1 (hs.nest hN)) (fun x => ⟨(x, 0), rfl, rfl⟩)
    · intro ts A hb hA hd
      exact ot_call_st (X := NestX S.length) (fun x => bookV rlo rhi L x.1.1 S.length x.1.2) (fun x => nestCh S x) (nestCh_mut S) (by decide) rfl rfl rfl (by kernel_rfl) (.cons hb.2.2.2.2.2.2.2.2.1 .nil) (fun w1 hs => hsm w1 (hs.nest hN)) (fun x => ⟨(x, 0), rfl, rfl⟩)
    · intro ts A hb hA hd
      exact ot_call_st (X := NestX S.length) (fun x => bookV rlo rhi L x.1.1 S.length x.1.2) (fun x => nestCh S x) (nestCh_mut S) (by decide) rfl rfl rfl (by kernel_rfl) (.cons hb.2.2.2.2.2.2.2.2.2.1 .nil) (fun w1 hs => hsm w1 (hs.nest hN)) (fun x => ⟨(x, 0), rfl, rfl⟩)
  · intro xs
    simp only [List.map_cons, List.map_nil, List.flatMap_cons, List.flatMap_nil, List.append_nil, List.cons_append, List.nil_append, factN, nestCh, bookV]
    generalize (xs 6).2 = g6
    generalize (xs 7).2 = g7
    generalize (xs 8).2 = g8
    generalize (xs 1).1 = x1
    generalize (xs 3).1 = x2
    generalize (xs 5).1 = x3
    refine otl_cons ?_
    apply ot_v Try.tabOk
    ((try first | apply tr_v Try.tabOk | apply ot_v Try.tabOk); (conv => whnf); (repeat ((first | (apply VSt.mk; (focus ((repeat (first | (with_reducible exact At.here) | (with_reducible apply At.there))); done)); exact rfl) | (refine slist_and (by (repeat (first | exact List.nil_sublist _ | exact List.Sublist.refl _ | refine List.Sublist.cons_cons _ ?_ | refine List.Sublist.cons _ ?_ | (with_reducible refine List.Sublist.trans ?_ (List.sublist_append_right _ _))))) ?_; first | refine otl_nil ?_ | (refine otl_cons ?_; apply ot_v Try.tabOk) | skip) | (apply VK.mk; first | (refine otl_cons ?_; apply ot_v Try.tabOk) | apply ot_v Try.tabOk)); (conv => whnf))); try (first | apply VStop.mk | apply VCall.stop))
    refine VK.mk fun ts' A' hs hst => VStop.mk (tr_weakS (fun t v h => hs t v h) hst ?_)
    clear hs hst ts' A'
    obtain ⟨⟨B1, c1⟩, ⟨ys1, hy1⟩⟩ := x1
    obtain ⟨⟨B3, c3⟩, ⟨ys3, hy3⟩⟩ := x3
    dsimp only
    refine tr_perm (perm_narrow (sitCh_pull hy1 hiS) (sitCh_pull hy3 hiS)) ?_
    generalize hR1 : sitCh (ys1.eraseIdx i) (S.eraseIdx i) = R1
    generalize hR3 : sitCh (ys3.eraseIdx i) (S.eraseIdx i) = R3
    refine tr_fact (p := (∃ b1, B1 = some ⟨b1, 0, none⟩) ∧ (∃ b2, (ys1[i]'(by omega)).1 = some ⟨b2, 0, none⟩) ∧ ∃ b3, B3 = some ⟨b3, 0, none⟩) (fun w' hs => ?_) fun hp => ?_
    · obtain ⟨_, _, q1, p1⟩ := own_form (hs.all _ (.tail _ (.tail _ (.tail _ (.head _)))))
      obtain ⟨_, _, q2, p2⟩ := own_form (hs.all _ (.tail _ (.tail _ (.tail _ (.tail _ (.head _))))))
      obtain ⟨_, _, q3, p3⟩ := own_form (hs.all _ (.tail _ (.tail _ (.tail _ (.tail _ (.tail _ (.head _)))))))
      cases q1; cases q2; cases q3
      exact ⟨p1 (by omega), p2 hne, p3 (by omega)⟩
    obtain ⟨⟨b1, rfl⟩, ⟨b2, hb2⟩, ⟨b3, rfl⟩⟩ := hp
    obtain ⟨y1, hy1i⟩ : ∃ y1, ys1[i]'(by omega) = y1 := ⟨_, rfl⟩
    obtain ⟨y3, hy3i⟩ : ∃ y3, ys3[i]'(by omega) = y3 := ⟨_, rfl⟩
    obtain ⟨yb, c2⟩ := y1
    rw [hy1i] at hb2
    obtain rfl : yb = some ⟨b2, 0, none⟩ := hb2
    obtain ⟨y3B, y3c⟩ := y3
    have hcx : ∀ {Ch : List Chunk}, .own (.slice (some ⟨b1, 0, none⟩) S.length c1) 55 1 S.length (sitVs ys1 S) ∈ Ch → CellAt w Ch b1 (0 + i * 1) (.slice (some ⟨b2, 0, none⟩) S[i].length c2) := fun h => by
      rw [Nat.zero_add, Nat.mul_one]
      exact cell_own h (by rw [sitVs_get hy1 hiS, hy1i]; rfl)
    have hcz : ∀ {Ch : List Chunk}, .own (.slice (some ⟨b3, 0, none⟩) S.length c3) 55 1 S.length (sitVs ys3 S) ∈ Ch → CellAt w Ch b3 (0 + i * 1) (.slice y3B S[i].length y3c) := fun h => by
      rw [Nat.zero_add, Nat.mul_one]
      exact cell_own h (by rw [sitVs_get hy3 hiS, hy3i]; rfl)
    have hsx : ∀ {Ch : List Chunk}, .own (.slice (some ⟨b2, 0, none⟩) S[i].length c2) 67 3 S[i].length (saidCells S[i]) ∈ Ch → CellsAt w Ch b2 (0 + k * 3 + 1) [.int .i64 S[i][k].2.1, .int .i64 S[i][k].2.2] := fun h => by
      have hg := fun j hj => saidCells_get S[i] k hkS j hj
      rw [List.getElem?_eq_getElem hkS, Option.getD_some] at hg
      rw [Nat.zero_add]
      exact cells_two (cell_own h (hg 1 (by decide))) (cell_own h (hg 2 (by decide)))
    have hv1 := sitVs_id hy1 hiS
    rw [hy1i] at hv1
    simp only [hy1i, hy3i, sitC]
    have hq := hO.x _ (List.mem_flatten.2 ⟨_, List.getElem_mem hiS, List.getElem_mem hkS⟩)
    have hO1 := fun a b h1 h2 h3 => hO.setSaid (lo := a) (hi' := b) hiS hkS h1 h2 h3
    have hss := said_set S[i] k hkS
    have hT1 := fun a b h1 h2 sh ti => narrow_said (rlo := rlo) (rhi := rhi) (L := L) (sh := sh) (ti := ti) (lo := a) (hi' := b) hiS hkS h1 h2
    have hlen : S[i].length ≤ 12 := by
      have := flat_lt hiS hkS
      have h1 := hO.t
      have h2 : S[i].length ≤ S.flatten.length := by
        have := offT_step hiS
        have := off_mono (S := S) (show i + 1 ≤ S.length by omega) (Nat.le_refl _)
        rw [offT_all] at this
        omega
      omega
    generalize hX : S[i][k] = X at *
    obtain ⟨q, lo, hi⟩ := X
    dsimp only at hq hO1 hT1 hsx hss
    have hnum := narrow_num (a := less) (m := hi - lo + 1) h2.1 (by omega)
    refine tr_weak (l := [(4, _), (7, _), (9, _), (10, _), (12, _), (13, _), (2, _), (14, _), (15, _), (16, _)]) (B := _) ⟨rfl, rfl, rfl, rfl, rfl, rfl, rfl, rfl, rfl, rfl, trivial⟩ (List.Sublist.refl _) ?_
    refine tr_seqK ?_
    ((try first | apply tr_v Try.tabOk | apply ot_v Try.tabOk); (conv => whnf); (repeat ((first | (apply VIx.mk (j := i); exact rfl; omega) | (apply VIx.mk (j := k); exact rfl; omega) | (apply VLd.mk; exact hcx (by (repeat (first | with_unfolding_all exact List.Mem.head _ | assumption | with_unfolding_all refine List.Mem.tail _ ?_)))) | (apply VLdN.mk; exact hsx (by (repeat (first | with_unfolding_all exact List.Mem.head _ | assumption | with_unfolding_all refine List.Mem.tail _ ?_))); exact rfl) | (apply VLd.mk; (focus ((repeat (first | ((with_reducible apply ld_blk); exact rfl) | ((with_reducible apply ld_row); exact rfl) | ((with_reducible apply ld_row0); exact rfl) | (with_reducible assumption) | (with_reducible exact CellAt.base (by assumption)) | (with_reducible apply ld_skip))); done))) | (apply VNew.mk; intro g hg) | (apply VSt.mk; (focus ((repeat (first | (with_reducible exact At.here) | (with_reducible apply At.there))); done)); exact rfl) | (refine slist_and (by (repeat (first | exact List.nil_sublist _ | exact List.Sublist.refl _ | refine List.Sublist.cons_cons _ ?_ | refine List.Sublist.cons _ ?_ | (with_reducible refine List.Sublist.trans ?_ (List.sublist_append_right _ _))))) ?_; first | refine otl_nil ?_ | (refine otl_cons ?_; apply ot_v Try.tabOk) | skip) | (apply VK.mk; first | (refine otl_cons ?_; apply ot_v Try.tabOk) | apply ot_v Try.tabOk)); (conv => whnf))); try (first | apply VStop.mk | apply VCall.stop))
    refine tr_seqK ?_
    ((try first | apply tr_v Try.tabOk | apply ot_v Try.tabOk); (conv => whnf); (repeat ((first | (apply VLd.mk; (focus ((repeat (first | ((with_reducible apply ld_blk); exact rfl) | ((with_reducible apply ld_row); exact rfl) | ((with_reducible apply ld_row0); exact rfl) | (with_reducible assumption) | (with_reducible exact CellAt.base (by assumption)) | (with_reducible apply ld_skip))); done))) | (apply VRng.mk; omega) | (apply v_wr64; omega) | (apply VNz.mk; omega) | (refine slist_and (by (repeat (first | exact List.nil_sublist _ | exact List.Sublist.refl _ | refine List.Sublist.cons_cons _ ?_ | refine List.Sublist.cons _ ?_ | (with_reducible refine List.Sublist.trans ?_ (List.sublist_append_right _ _))))) ?_; first | refine otl_nil ?_ | (refine otl_cons ?_; apply ot_v Try.tabOk) | skip) | (apply VK.mk; first | (refine otl_cons ?_; apply ot_v Try.tabOk) | apply ot_v Try.tabOk)); (conv => whnf))); try (first | apply VStop.mk | apply VCall.stop))
    generalize hd : Int.tmod less (hi - lo + 1) = d at *
    generalize hd2 : Int.tdiv d 2 = d2 at *
    have hr := hO.r
    have hnur := narrow_num (a := less) (m := rhi - rlo + 1) h2.1 (by omega)
    have hto := fun a b w1 => to_any a b w1
    refine tr_seqK ?_
    ((try first | apply tr_v Try.tabOk | apply ot_v Try.tabOk); (conv => whnf); (repeat ((first | ((first | apply VStop.mk | apply VCall.stop); (first | refine tr_region_lex (id := 11) (by kernel_rfl) [.rd, .rd, .rd, .rd, .rd, .rd, .rd, .rd, .rd, .rd, .rd, .rd, .rd, .rd, .rd, .rd, .rd, .rd, .cr, .rd, .rd, .wr] rfl (by kernel_rfl) ?_); try first | apply ot_v Try.tabOk | apply tr_v Try.tabOk) | (apply VIx.mk (j := i); exact rfl; omega) | (apply VIx.mk (j := k); exact rfl; omega) | (apply VLd.mk; exact hcx (by (repeat (first | with_unfolding_all exact List.Mem.head _ | assumption | with_unfolding_all refine List.Mem.tail _ ?_)))) | (apply VSt.stop; refine ot_storeN_own (xs := saidCells S[i]) (vs := [_, _]) Try.tabOk rfl rfl rfl rfl rfl rfl rfl rfl rfl rfl (.there (.there (.there (.there (.there .here))))) (by simp only [List.length_cons, List.length_nil]; omega) (Nat.succ_pos _) ?_; apply ot_v Try.tabOk) | (apply VCall.q; kernel_rfl; (focus (intro w1 hs; first | with_reducible apply hto _ _ w1))) | (apply VLd.mk; (focus ((repeat (first | ((with_reducible apply ld_blk); exact rfl) | ((with_reducible apply ld_row); exact rfl) | ((with_reducible apply ld_row0); exact rfl) | (with_reducible assumption) | (with_reducible exact CellAt.base (by assumption)) | (with_reducible apply ld_skip))); done))) | (apply VRng.mk; omega) | (apply VNz.mk; omega) | (refine slist_and (by (repeat (first | exact List.nil_sublist _ | exact List.Sublist.refl _ | refine List.Sublist.cons_cons _ ?_ | refine List.Sublist.cons _ ?_ | (with_reducible refine List.Sublist.trans ?_ (List.sublist_append_right _ _))))) ?_; first | refine otl_nil ?_ | (refine otl_cons ?_; apply ot_v Try.tabOk) | skip) | (apply VK.mk; first | (refine otl_cons ?_; apply ot_v Try.tabOk) | apply ot_v Try.tabOk)); (conv => whnf))); try (first | apply VStop.mk | apply VCall.stop))
    rw [Nat.zero_add, hss]
    refine tr_seqK ?_
    ((try first | apply tr_v Try.tabOk | apply ot_v Try.tabOk); (conv => whnf); (repeat ((first | (apply VLd.mk; (focus ((repeat (first | ((with_reducible apply ld_blk); exact rfl) | ((with_reducible apply ld_row); exact rfl) | ((with_reducible apply ld_row0); exact rfl) | (with_reducible assumption) | (with_reducible exact CellAt.base (by assumption)) | (with_reducible apply ld_skip))); done))) | (apply VRng.mk; omega) | (apply v_wr64; omega) | (apply VNz.mk; omega) | (refine slist_and (by (repeat (first | exact List.nil_sublist _ | exact List.Sublist.refl _ | refine List.Sublist.cons_cons _ ?_ | refine List.Sublist.cons _ ?_ | (with_reducible refine List.Sublist.trans ?_ (List.sublist_append_right _ _))))) ?_; first | refine otl_nil ?_ | (refine otl_cons ?_; apply ot_v Try.tabOk) | skip) | (apply VK.mk; first | (refine otl_cons ?_; apply ot_v Try.tabOk) | apply ot_v Try.tabOk)); (conv => whnf))); try (first | apply VStop.mk | apply VCall.stop))
    generalize he : Int.tmod less (rhi - rlo + 1) = e at *
    generalize he2 : Int.tdiv e 2 = e2 at *
    refine tr_seqK ?_
    ((try first | apply tr_v Try.tabOk | apply ot_v Try.tabOk); (conv => whnf); (repeat ((first | (apply VCall.q; kernel_rfl; (focus (intro w1 hs; first | with_reducible apply hto _ _ w1))) | (apply VLd.mk; (focus ((repeat (first | ((with_reducible apply ld_blk); exact rfl) | ((with_reducible apply ld_row); exact rfl) | ((with_reducible apply ld_row0); exact rfl) | (with_reducible assumption) | (with_reducible exact CellAt.base (by assumption)) | (with_reducible apply ld_skip))); done))) | (apply VRng.mk; omega) | (apply VSt.mk; (focus ((repeat (first | (with_reducible exact At.here) | (with_reducible apply At.there))); done)); exact rfl) | (apply VNz.mk; omega) | (refine slist_and (by (repeat (first | exact List.nil_sublist _ | exact List.Sublist.refl _ | refine List.Sublist.cons_cons _ ?_ | refine List.Sublist.cons _ ?_ | (with_reducible refine List.Sublist.trans ?_ (List.sublist_append_right _ _))))) ?_; first | refine otl_nil ?_ | (refine otl_cons ?_; apply ot_v Try.tabOk) | skip) | (apply VK.mk; first | (refine otl_cons ?_; apply ot_v Try.tabOk) | apply ot_v Try.tabOk)); (conv => whnf))); try (first | apply VStop.mk | apply VCall.stop))
    refine tr_seqK ?_
    ((try first | apply tr_v Try.tabOk | apply ot_v Try.tabOk); (conv => whnf); (repeat ((first | ((first | apply VStop.mk | apply VCall.stop); (first | refine tr_region_late3 (id := 14) (by kernel_rfl) [.blk g8 26 _, .own (.slice (some ⟨b3, 0, none⟩) S.length c3) 55 1 S.length (sitVs ys3 S), .blk gm 67 _] (by (repeat (first | exact List.nil_sublist _ | exact List.Sublist.refl _ | refine List.Sublist.cons_cons _ ?_ | refine List.Sublist.cons _ ?_ | (with_reducible refine List.Sublist.trans ?_ (List.sublist_append_right _ _))))) [0, 1, 2, 3, 4, 5, 6, 7, 8] [9, 10] 11 [12] [.rd, .rd, .rd, .rd, .rd, .rd, .rd, .rd, .rd] rfl (by kernel_rfl) ?_ | (refine ot_appendS (sz := 3) (sl := S[i].length) (xs := saidCells S[i]) (A'v := fun v' => _ :: _ :: _ :: _ :: _ :: _ :: _ :: _ :: .own v' 67 3 (S[i].length + 1) _ :: _) Try.tabOk rfl rfl rfl rfl rfl rfl rfl rfl rfl rfl (by decide) rfl (cells_blk_all (.head _)) rfl rfl (fun v' => .there (.there (.there (.there (.there (.there (.there (.there .here)))))))) (by omega) (by decide) (fun Bn cn => ?_))); try first | apply ot_v Try.tabOk | apply tr_v Try.tabOk) | (apply VIx.mk (j := i); exact rfl; omega) | (apply VLd.mk; exact hcz (by (repeat (first | with_unfolding_all exact List.Mem.head _ | assumption | with_unfolding_all refine List.Mem.tail _ ?_)))) | (apply VSt.stop; refine ot_store_own (xs := sitVs ys3 S) (sv := .nilFunc) Try.tabOk rfl rfl rfl rfl rfl rfl rfl rfl rfl rfl (.there (.there (.there (.there (.there (.there (.there .here))))))) (by omega) ?_; apply ot_v Try.tabOk) | (apply VLd.mk; (focus ((repeat (first | ((with_reducible apply ld_blk); exact rfl) | ((with_reducible apply ld_row); exact rfl) | ((with_reducible apply ld_row0); exact rfl) | (with_reducible assumption) | (with_reducible exact CellAt.base (by assumption)) | (with_reducible apply ld_skip))); done))) | (apply VNew.mk; intro g hg) | (apply VLdN.mk; (focus ((repeat (first | (with_reducible apply ldn_blk) | (with_reducible apply ldn_row) | (with_reducible assumption) | (with_reducible apply ldn_skip))); done)); exact rfl) | (refine slist_and (by (repeat (first | exact List.nil_sublist _ | exact List.Sublist.refl _ | refine List.Sublist.cons_cons _ ?_ | refine List.Sublist.cons _ ?_ | (with_reducible refine List.Sublist.trans ?_ (List.sublist_append_right _ _))))) ?_; first | refine otl_nil ?_ | (refine otl_cons ?_; apply ot_v Try.tabOk) | skip) | (apply VK.mk; first | (refine otl_cons ?_; apply ot_v Try.tabOk) | apply ot_v Try.tabOk)); (conv => whnf))); try (first | apply VStop.mk | apply VCall.stop))
    rw [hd2, he2, Nat.zero_add, Nat.mul_one]
    have eS2 : (sitVs ys3 S).set i (.slice Bn (S[i].length + 1) cn) = sitVs (ys3.set i (Bn, cn)) (S.set i (S[i] ++ [(t1, t2, t3)])) := by
      rw [← sitVs_put (Bn, cn) (S[i] ++ [(t1, t2, t3)]) hy3]
      simp [sitV]
    have eC2 : saidCells S[i] ++ [.int .i64 t1, .int .i64 t2, .int .i64 t3] = saidCells (S[i] ++ [(t1, t2, t3)]) := by rw [saidCells_append]; rfl
    rw [eS2, eC2]
    refine tr_nameA ?_
    intro A1 hA1
    have hN1 : ∀ w1, St w A1 w1 → NestR w1 3 (some ⟨b1, 0, none⟩) (nestOf (S.set i (S[i].set k (q, lo + d2, hi - (d - d2))))) := fun w1 hs => by
      subst hA1
      refine hs.nestO (xs := ys1) (c := c1) (by rw [List.length_set]; exact hy1) ?_ fun z hz => ?_
      · rw [List.length_set, sitVs_set hiS (List.length_set)]
        exact (by (repeat (first | with_unfolding_all exact List.Mem.head _ | assumption | with_unfolding_all refine List.Mem.tail _ ?_)))
      · have := (sitCh_put hy1 hiS (some ⟨b2, 0, none⟩, c2) (S[i].set k (q, lo + d2, hi - (d - d2)))).mem_iff.2 (by rw [hv1]; exact hz)
        rw [hR1] at this
        rcases List.mem_cons.1 this with rfl | this
        · unfold sitC
          rw [List.length_set]
          exact (by (repeat (first | with_unfolding_all exact List.Mem.head _ | assumption | with_unfolding_all refine List.Mem.tail _ ?_)))
        · simp only [List.mem_cons, List.mem_append, this, true_or, or_true]
    have hN2 : ∀ w1, St w A1 w1 → NestR w1 3 x2.1.1 (nestOf S) := fun w1 hs => by
      subst hA1
      refine hs.nestX x2 fun z hz => ?_
      rcases List.mem_cons.1 hz with rfl | hz
      · exact (by (repeat (first | with_unfolding_all exact List.Mem.head _ | assumption | with_unfolding_all refine List.Mem.tail _ ?_)))
      · simp only [List.mem_cons, List.mem_append, hz, true_or, or_true]
    have hN3 : ∀ w1, St w A1 w1 → NestR w1 3 (some ⟨b3, 0, none⟩) (nestOf (S.set i (S[i] ++ [(t1, t2, t3)]))) := fun w1 hs => by
      subst hA1
      refine hs.nestO (xs := ys3.set i (Bn, cn)) (c := c3) (by rw [List.length_set, List.length_set]; exact hy3) ?_ fun z hz => ?_
      · rw [List.length_set]
        exact (by (repeat (first | with_unfolding_all exact List.Mem.head _ | assumption | with_unfolding_all refine List.Mem.tail _ ?_)))
      · have := (sitCh_put hy3 hiS (Bn, cn) (S[i] ++ [(t1, t2, t3)])).mem_iff.2 hz
        rw [hR3] at this
        rcases List.mem_cons.1 this with rfl | this
        · unfold sitC
          rw [List.length_append]
          exact (by (repeat (first | with_unfolding_all exact List.Mem.head _ | assumption | with_unfolding_all refine List.Mem.tail _ ?_)))
        · simp only [List.mem_cons, List.mem_append, this, true_or, or_true]
    have hsr : ∀ w1, St w A1 w1 → Reads w1 w1.heap.size 2 y.1 (spansP rlo rhi L S).length (rngCells (spansP rlo rhi L S)) := fun w1 hs => by
      subst hA1; exact hs.own_rd (by (repeat (first | with_unfolding_all exact List.Mem.head _ | assumption | with_unfolding_all refine List.Mem.tail _ ?_)))
    have g6c : CellsAt w A1 g6 0 [.int .i64 rlo, .int .i64 rhi, .int .i64 L, .slice (some ⟨b1, 0, none⟩) S.length c1] := by subst hA1; exact cells_blk_all (by (repeat (first | with_unfolding_all exact List.Mem.head _ | assumption | with_unfolding_all refine List.Mem.tail _ ?_)))
    have g7c : CellsAt w A1 g7 0 [.int .i64 (rlo + e2), .int .i64 (rhi - (e - e2)), .int .i64 L, .slice x2.1.1 S.length x2.1.2] := by subst hA1; exact cells_blk_all (by (repeat (first | with_unfolding_all exact List.Mem.head _ | assumption | with_unfolding_all refine List.Mem.tail _ ?_)))
    have g8c : CellsAt w A1 g8 0 [.int .i64 rlo, .int .i64 rhi, .int .i64 L, .slice (some ⟨b3, 0, none⟩) S.length c3] := by subst hA1; exact cells_blk_all (by (repeat (first | with_unfolding_all exact List.Mem.head _ | assumption | with_unfolding_all refine List.Mem.tail _ ?_)))
    clear hA1
    have hO1' := hO1 (lo + d2) (hi - (d - d2)) (by omega) (by omega) (by omega)
    have k1 := fun w1 (hs : St w A1 w1) => less01_any rlo rhi L (some ⟨b1, 0, none⟩) c1 _ w1 (hN1 w1 hs) hO1' y.1 y.2 (spansP rlo rhi L S) (canB rlo rhi L S (-1)) (hsr w1 hs) (by omega)
    rw [less_true hO hO1' fun sh ti h => ⟨ti, hT1 _ _ (by omega) (by omega) _ _ h⟩, List.length_set] at k1
    have hO2 : Okb (rlo + e2) (rhi - (e - e2)) L S := ⟨⟨by omega, by omega, by omega⟩, hO.l, hO.n, hO.t, hO.ne, hO.x⟩
    have k2 := fun w1 (hs : St w A1 w1) => less01_any (rlo + e2) (rhi - (e - e2)) L x2.1.1 x2.1.2 _ w1 (hN2 w1 hs) hO2 y.1 y.2 (spansP rlo rhi L S) (canB rlo rhi L S (-1)) (hsr w1 hs) (by omega)
    rw [less_true hO hO2 fun sh ti h => ⟨ti, narrow_rate (by omega) (by omega) h⟩] at k2
    have hm2 : ∀ s ∈ S.set i (S[i] ++ [(t1, t2, t3)]), s.length ≤ maxLen := fun s hs => by
      rcases List.mem_or_eq_of_mem_set hs with h | rfl
      · exact hm s h
      · rw [List.length_append, List.length_singleton]; unfold maxLen; omega
    have k3 := fun w1 (hs : St w A1 w1) => fineG_any rlo rhi L (some ⟨b3, 0, none⟩) c3 _ w1 (hN3 w1 hs) hm2
    rw [List.length_set] at k3
    refine tr_weak (l := [(14, _), (15, _), (16, _), (9, _), (10, _)]) (B := _) ⟨rfl, rfl, rfl, rfl, rfl, trivial⟩ (List.Sublist.refl _) ?_
    unfold bookV at k1 k2 k3
    by_cases hz : chkBook rlo rhi L (S.set i (S[i] ++ [(t1, t2, t3)])) = 0
    · have hO3 := chk_ok.1 hz
      have k4 := fun w1 (hs : St w A1 w1) => less01_any rlo rhi L (some ⟨b3, 0, none⟩) c3 _ w1 (hN3 w1 hs) hO3 y.1 y.2 (spansP rlo rhi L S) (canB rlo rhi L S (-1)) (hsr w1 hs) (by omega)
      rw [less_true hO hO3 fun sh ti h => ⟨ti, narrow_more hiS h⟩, List.length_set] at k4
      rw [decide_eq_true hz] at k3
      unfold bookV at k4
      ((try first | apply tr_v Try.tabOk | apply ot_v Try.tabOk); (conv => whnf); (repeat ((first | (apply VLdN.mk; (first | exact g6c | exact g7c | exact g8c); exact rfl) | (apply VCall.q; kernel_rfl; (focus (intro w1 hs; first | with_reducible apply k1 w1 hs | with_reducible apply k2 w1 hs | with_reducible apply k3 w1 hs | with_reducible apply k4 w1 hs | with_reducible apply hwk w1))) | apply VBr.t | apply VBr.f | (refine slist_and (by (repeat (first | exact List.nil_sublist _ | exact List.Sublist.refl _ | refine List.Sublist.cons_cons _ ?_ | refine List.Sublist.cons _ ?_ | (with_reducible refine List.Sublist.trans ?_ (List.sublist_append_right _ _))))) ?_; first | refine otl_nil ?_ | (refine otl_cons ?_; apply ot_v Try.tabOk) | skip) | (apply VK.mk; first | (refine otl_cons ?_; apply ot_v Try.tabOk) | apply ot_v Try.tabOk)); (conv => whnf))); try (first | apply VStop.mk | apply VCall.stop))
      ((apply VRet.mk); refine ret1 (by first | exact .inl rfl | exact .inr rfl) rfl (by exact rv_tmp rfl) ?_; exact fun w h => ⟨rfl, h.base⟩)
    · rw [decide_eq_false hz] at k3
      ((try first | apply tr_v Try.tabOk | apply ot_v Try.tabOk); (conv => whnf); (repeat ((first | (apply VLdN.mk; (first | exact g6c | exact g7c | exact g8c); exact rfl) | (apply VCall.q; kernel_rfl; (focus (intro w1 hs; first | with_reducible apply k1 w1 hs | with_reducible apply k2 w1 hs | with_reducible apply k3 w1 hs | with_reducible apply hwk w1))) | apply VBr.t | (refine slist_and (by (repeat (first | exact List.nil_sublist _ | exact List.Sublist.refl _ | refine List.Sublist.cons_cons _ ?_ | refine List.Sublist.cons _ ?_ | (with_reducible refine List.Sublist.trans ?_ (List.sublist_append_right _ _))))) ?_; first | refine otl_nil ?_ | (refine otl_cons ?_; apply ot_v Try.tabOk) | skip) | (apply VK.mk; first | (refine otl_cons ?_; apply ot_v Try.tabOk) | apply ot_v Try.tabOk)); (conv => whnf))); try (first | apply VStop.mk | apply VCall.stop))
      ((apply VRet.mk); refine ret1 (by first | exact .inl rfl | exact .inr rfl) rfl (by exact rv_tmp rfl) ?_; exact fun w h => ⟨rfl, h.base⟩)
end
end Go.Proofs.Ytkbcogaodnmdoaa
