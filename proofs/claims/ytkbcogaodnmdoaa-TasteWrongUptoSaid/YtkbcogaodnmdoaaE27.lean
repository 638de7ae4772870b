/- Works: lemmas for the rows of this seat. No conditions. -/
import Derived.Test.YtkbcogaodnmdoaaProg
import Derived.WalkKit
import Derived.WalkSpells
import Derived.WalkLawsBesides
import Derived.Lib.Hide
import Derived.Deep.AppendLies
import Derived.Deep.Draws
import Derived.Maps.AppendAt
import Derived.RegionTactic
import Derived.OwnWalk
import Derived.Deep.QuietTactic
import Derived.BigQuiet
import Derived.Deep.DeepFit
import Derived.Deep.LoopGhost
import Derived.Deep.DeepMust
import Derived.Deep.DeepCutAuto
import Derived.StillTail
import Derived.Deep.Quiet
import Derived.Deep.RegionHeld3
import Derived.Deep.RegionWith
import Derived.Deep.RegionLaw
import Derived.Maps.OwnOps
import Derived.Maps.OwnSet
import Derived.Maps.OwnRows
import Derived.Maps.RangeWalk
import Derived.Carry
import Derived.Test.YtkbcogaodnmdoaaBase
import Derived.Test.YtkbcogaodnmdoaaMaps
import Derived.Test.YtkbcogaodnmdoaaKeys
import Derived.Test.YtkbcogaodnmdoaaS1
import Derived.Test.YtkbcogaodnmdoaaS5
import Derived.Test.YtkbcogaodnmdoaaS12
import Derived.Test.YtkbcogaodnmdoaaS14
import Derived.Test.YtkbcogaodnmdoaaV
import Derived.Test.YtkbcogaodnmdoaaV2
import Derived.Test.YtkbcogaodnmdoaaV3
import Derived.Test.YtkbcogaodnmdoaaV4
import Derived.Test.YtkbcogaodnmdoaaTab
import Derived.Test.YtkbcogaodnmdoaaE1
import Derived.Test.YtkbcogaodnmdoaaE2
import Derived.Test.YtkbcogaodnmdoaaE3
import Derived.Test.YtkbcogaodnmdoaaE4
import Derived.Test.YtkbcogaodnmdoaaE5
import Derived.Test.YtkbcogaodnmdoaaE6
import Derived.Test.YtkbcogaodnmdoaaE7
import Derived.Test.YtkbcogaodnmdoaaE8
import Derived.Test.YtkbcogaodnmdoaaE9
import Derived.Test.YtkbcogaodnmdoaaE10
import Derived.Test.YtkbcogaodnmdoaaE11
import Derived.Test.YtkbcogaodnmdoaaE12
import Derived.Test.YtkbcogaodnmdoaaE13
import Derived.Test.YtkbcogaodnmdoaaE14
import Derived.Test.YtkbcogaodnmdoaaE15
import Derived.Test.YtkbcogaodnmdoaaE16
import Derived.Test.YtkbcogaodnmdoaaE17
import Derived.Test.YtkbcogaodnmdoaaE18
import Derived.Test.YtkbcogaodnmdoaaE19
import Derived.Test.YtkbcogaodnmdoaaE20
import Derived.Test.YtkbcogaodnmdoaaE21
import Derived.Test.YtkbcogaodnmdoaaE22
import Derived.Test.YtkbcogaodnmdoaaE23
import Derived.Test.YtkbcogaodnmdoaaE24
import Derived.Test.YtkbcogaodnmdoaaE25
import Derived.Test.YtkbcogaodnmdoaaE26
set_option linter.all false
namespace Go.Proofs.Ytkbcogaodnmdoaa
open Go.RowKit
/-! ## Works -/
section
variable {w0 w : World} {A : List Chunk}
theorem blk_long {g : Nat} {t : TypeId} {l : List Int} (hs : St w0 A w) (h : .blk g t (i64s l) ∈ A) : Reads w w.heap.size 1 (some ⟨g, 0, none⟩) l.length (i64s l) := hs.blk_reads h (by simp [i64s])
theorem St.book2 {l : List T3} {x : BookX} (hs : St w0 A w) (h1 : .blk x.g 55 [.slice x.B l.length x.c] ∈ A) (h2 : .own (.slice x.B l.length x.c) 67 3 l.length (saidCells l) ∈ A) : NestR w 3 (some ⟨x.g, 0, none⟩) (nestOf [l]) :=
  hs.book fun d hd => by
    unfold bookCh at hd
    simp only [List.mem_cons, List.not_mem_nil, or_false] at hd
    rcases hd with rfl | rfl
    · exact h1
    · exact h2
end
theorem tr_nameA {P : Program} {w0 : World} {n : Nat} {r : Option Nat} {ds : List Deferred} {ts : TS} {A : List Chunk} {Q : PostT} {c : Code} (h : ∀ A0, A0 = A → Tr P r w0 n c ds ts A0 Q) : Tr P r w0 n c ds ts A Q := h A rfl
/-- Two slices of one's own are handed back, and the error. -/
abbrev TwoX := (Option Addr × Nat) × (Option Addr × Nat)
theorem TwoRet.slices {r : List Int × List Int × Int} {w w' : World} {e : Ending} (h : TwoRet r w e w') : ∃ x : TwoX, e = .returned (.tuple #[.slice x.1.1 r.1.length x.1.2, .slice x.2.1 r.2.1.length x.2.2, .int .i64 r.2.2]) ∧ St w [.own (.slice x.1.1 r.1.length x.1.2) 2 1 r.1.length (i64s r.1), .own (.slice x.2.1 r.2.1.length x.2.2) 2 1 r.2.1.length (i64s r.2.1)] w' := by
  obtain ⟨⟨v1, v2⟩, rfl, hs⟩ := h
  obtain ⟨B1, c1, e1, _⟩ := own_form (hs.all _ (.head _))
  obtain ⟨B2, c2, e2, _⟩ := own_form (hs.all _ (.tail _ (.head _)))
  dsimp only at e1 e2
  subst e1 e2
  exact ⟨((B1, c1), (B2, c2)), rfl, hs⟩
theorem OneRet.slices {r : List Int × Int} {w w' : World} {e : Ending} (h : OneRet r w e w') : ∃ x : Option Addr × Nat, e = .returned (.tuple #[.slice x.1 r.1.length x.2, .int .i64 r.2]) ∧ St w [.own (.slice x.1 r.1.length x.2) 3 1 r.1.length (i64s r.1)] w' := by
  obtain ⟨v1, rfl, hs⟩ := h
  obtain ⟨B1, c1, e1, _⟩ := own_form (hs.all _ (.head _))
  subst e1
  exact ⟨(B1, c1), rfl, hs⟩
theorem mut_two {a b : Chunk} (h1 : a.mut = true) (h2 : b.mut = true) : ∀ c ∈ [a, b], c.mut = true := fun c hc => by
  simp only [List.mem_cons, List.not_mem_nil, or_false] at hc
  rcases hc with rfl | rfl
  · exact h1
  · exact h2
theorem mut_one {a : Chunk} (h1 : a.mut = true) : ∀ c ∈ [a], c.mut = true := fun c hc => by
  rw [List.mem_singleton] at hc; subst hc; exact h1
theorem rngK : KeyEnc Try.prog 23 (fun p : Int × Int => .agg #[.int .i64 p.1, .int .i64 p.2]) := pairKeys Try.underlying23 Try.underlying2 Try.underlying2 rfl rfl (by decide) (by decide) (by kernel_rfl)
theorem rng_eq (a b c d : Int) (w : World) : (Op.equal 23 (.agg #[.int .i64 a, .int .i64 b]) (.agg #[.int .i64 c, .int .i64 d])).run Try.prog w = .ok (decide (a = c ∧ b = d)) w := by
  have := rngK.eq (a, b) (c, d) w
  dsimp only at this
  rw [this]
  simp only [Prod.mk.injEq]
theorem rng_same (a b : Int) (w : World) : (Op.equal 23 (.agg #[.int .i64 a, .int .i64 b]) (.agg #[.int .i64 a, .int .i64 b])).run Try.prog w = .ok true w := by
  rw [rng_eq]; simp
theorem fitA : Fit SA := ⟨by decide, by decide⟩
theorem fitB : Fit SB := ⟨by decide, by decide⟩
def lf (n : Nat) (l : List Int) (x : Nat) : Value × List Chunk := (.slice (some ⟨x, 0, none⟩) n n, [.blk x 2 (i64s l)])
def vf (v : Value) : Value × List Chunk := (v, [])
def fW2 : Nat → Nat → Value × List Chunk := fun i x => match i with
  | 1 | 2 => lf 2 [50, 41] x
  | 3 | 4 => lf 3 [0, 1, 3] x
  | 5 | 12 => vf (.int .i64 0)
  | 7 | 8 => lf 2 [52, 41] x
  | 9 | 10 => lf 3 [0, 1, 5] x
  | _ => vf (.int .i64 17)
def fW3 : Nat → Nat → Value × List Chunk := fun i x => match i with
  | 1 | 2 => lf 2 [50, 41] x
  | 3 | 4 => lf 2 [0, 1] x
  | 5 | 12 => vf (.int .i64 15)
  | 7 | 8 => lf 1 [50] x
  | 9 | 10 => lf 2 [0, 3] x
  | _ => vf (.int .i64 17)
def bkW (xa xb : BookX) (a : Bool) : Value := if a then bookV 1 3 2 (some ⟨xa.g, 0, none⟩) 1 1 else bookV 1 3 1 (some ⟨xb.g, 0, none⟩) 1 1
def bW (g1 g2 : Nat) (xa xb : BookX) (s : Nat) (a : Bool) (t : Nat) (b : Bool) : TS := [(1, .pointer (some ⟨g1, 0, none⟩)), (2, .pointer (some ⟨g2, 0, none⟩)), (s, bkW xa xb a), (t, bkW xa xb b)]
set_option maxHeartbeats 4000000 in
set_option maxRecDepth 20000 in
theorem works_any (w : World) : Calls Try.prog 20 #[] w fun e w' => e = .returned (.bool true) ∧ Below w.heap.size w w' := by
  refine fn_k (n := 273) (args := []) (A := []) Try.func20 rfl rfl (Nat.zero_le _) (St.nil (Below.refl _ _)) ?_
  refine tr_seqK ?_
  ((try first | apply tr_v Try.tabOk | apply ot_v Try.tabOk); (conv => whnf); (repeat ((first | (refine slist_and (by (repeat (first | exact List.nil_sublist _ | exact List.Sublist.refl _ | refine List.Sublist.cons_cons _ ?_ | refine List.Sublist.cons _ ?_))) ?_; first | refine otl_nil ?_ | (refine otl_cons ?_; apply ot_v Try.tabOk) | skip) | (apply VK.mk; first | (refine otl_cons ?_; apply ot_v Try.tabOk) | apply ot_v Try.tabOk)); (conv => whnf))); try (first | apply VStop.mk | apply VCall.stop))
  refine tr_seqK ?_
  ((try first | apply tr_v Try.tabOk | apply ot_v Try.tabOk); (conv => whnf); (repeat ((first | (refine slist_and (by (repeat (first | exact List.nil_sublist _ | exact List.Sublist.refl _ | refine List.Sublist.cons_cons _ ?_ | refine List.Sublist.cons _ ?_))) ?_; first | refine otl_nil ?_ | (refine otl_cons ?_; apply ot_v Try.tabOk) | skip) | (apply VK.mk; first | (refine otl_cons ?_; apply ot_v Try.tabOk) | apply ot_v Try.tabOk)); (conv => whnf))); try (first | apply VStop.mk | apply VCall.stop))
  refine ot_call_st (X := BookX) (fun x => bookV 1 3 2 (some ⟨x.g, 0, none⟩) 1 1) (fun x => bookCh [(0, 50, 52), (1, 40, 41), (0, 45, 47)] x) (bookCh_mut _) (by decide) rfl rfl rfl (by kernel_rfl) (evl_of rfl) (fun w1 hs => two_any w1) (fun xa => ?_)
  apply ot_v Try.tabOk
  ((try first | apply tr_v Try.tabOk | apply ot_v Try.tabOk); (conv => whnf); (repeat ((first | (refine slist_and (by (repeat (first | exact List.nil_sublist _ | exact List.Sublist.refl _ | refine List.Sublist.cons_cons _ ?_ | refine List.Sublist.cons _ ?_))) ?_; first | refine otl_nil ?_ | (refine otl_cons ?_; apply ot_v Try.tabOk) | skip) | (apply VK.mk; first | (refine otl_cons ?_; apply ot_v Try.tabOk) | apply ot_v Try.tabOk)); (conv => whnf))); try (first | apply VStop.mk | apply VCall.stop))
  refine ot_call_st (X := BookX) (fun x => bookV 1 3 1 (some ⟨x.g, 0, none⟩) 1 1) (fun x => bookCh [(0, 50, 50), (0, 44, 45)] x) (bookCh_mut _) (by decide) rfl rfl rfl (by kernel_rfl) (evl_of rfl) (fun w1 hs => one_any w1) (fun xb => ?_)
  dsimp only [bookV, bookCh, List.cons_append, List.nil_append]
  apply ot_v Try.tabOk
  ((try first | apply tr_v Try.tabOk | apply ot_v Try.tabOk); (conv => whnf); (repeat ((first | (apply VNew.mk; intro g hg) | (apply VSt.mk; (focus ((repeat (first | (with_reducible exact At.here) | (with_reducible apply At.there))); done)); exact rfl) | (refine slist_and (by (repeat (first | exact List.nil_sublist _ | exact List.Sublist.refl _ | refine List.Sublist.cons_cons _ ?_ | refine List.Sublist.cons _ ?_))) ?_; first | refine otl_nil ?_ | (refine otl_cons ?_; apply ot_v Try.tabOk) | skip) | (apply VK.mk; first | (refine otl_cons ?_; apply ot_v Try.tabOk) | apply ot_v Try.tabOk)); (conv => whnf))); try (first | apply VStop.mk | apply VCall.stop))
  rename_i g1 hg1
  revert g
  intro g2 hg2
  refine tr_nameA ?_
  intro A0 hA0
  have hNA : ∀ A' w1, A0.Sublist A' → St w A' w1 → NestR w1 3 (some ⟨xa.g, 0, none⟩) (nestOf SA) := fun A' w1 hs h => by subst hA0; exact (h.sub hs).book2 (by (repeat (first | with_unfolding_all exact List.Mem.head _ | assumption | with_unfolding_all refine List.Mem.tail _ ?_))) (by (repeat (first | with_unfolding_all exact List.Mem.head _ | assumption | with_unfolding_all refine List.Mem.tail _ ?_)))
  have hNB : ∀ A' w1, A0.Sublist A' → St w A' w1 → NestR w1 3 (some ⟨xb.g, 0, none⟩) (nestOf SB) := fun A' w1 hs h => by subst hA0; exact (h.sub hs).book2 (by (repeat (first | with_unfolding_all exact List.Mem.head _ | assumption | with_unfolding_all refine List.Mem.tail _ ?_))) (by (repeat (first | with_unfolding_all exact List.Mem.head _ | assumption | with_unfolding_all refine List.Mem.tail _ ?_)))
  have hgA : CellsAt w A0 g1 0 [.int .i64 1, .int .i64 3, .int .i64 2, .slice (some ⟨xa.g, 0, none⟩) 1 1] := by subst hA0; exact cells_blk_all (by (repeat (first | with_unfolding_all exact List.Mem.head _ | assumption | with_unfolding_all refine List.Mem.tail _ ?_)))
  have hgB : CellsAt w A0 g2 0 [.int .i64 1, .int .i64 3, .int .i64 1, .slice (some ⟨xb.g, 0, none⟩) 1 1] := by subst hA0; exact cells_blk_all (by (repeat (first | with_unfolding_all exact List.Mem.head _ | assumption | with_unfolding_all refine List.Mem.tail _ ?_)))
  clear hA0
  have kTA : ∀ (sh ti : List Int) (v : Int) {ns nt : Nat}, sh.length = ns → ti.length = nt → truthR 1 3 2 SA sh ti = v ∧ ns ≤ 30 ∧ nt ≤ 30 → ∀ A' w1, A0.Sublist A' → St w A' w1 → ∀ gs gt, .blk gs 2 (i64s sh) ∈ A' → .blk gt 2 (i64s ti) ∈ A' →
      Calls Try.prog 23 #[bookV 1 3 2 (some ⟨xa.g, 0, none⟩) 1 1, .slice (some ⟨gs, 0, none⟩) ns ns, .slice (some ⟨gt, 0, none⟩) nt nt] w1 fun e w' => e = .returned (.int .i64 v) ∧ Below w1.heap.size w1 w' := by
    rintro sh ti v _ _ rfl rfl ⟨rfl, hl1, hl2⟩ A' w1 hA hs gs gt h1 h2
    exact checkTruth_any 1 3 2 (some ⟨xa.g, 0, none⟩) 1 SA w1 (hNA A' w1 hA hs) fitA (some ⟨gs, 0, none⟩) (some ⟨gt, 0, none⟩) _ _ sh ti (blk_long hs h1) (blk_long hs h2) hl1 hl2
  have kTB : ∀ (sh ti : List Int) (v : Int) {ns nt : Nat}, sh.length = ns → ti.length = nt → truthR 1 3 1 SB sh ti = v ∧ ns ≤ 30 ∧ nt ≤ 30 → ∀ A' w1, A0.Sublist A' → St w A' w1 → ∀ gs gt, .blk gs 2 (i64s sh) ∈ A' → .blk gt 2 (i64s ti) ∈ A' →
      Calls Try.prog 23 #[bookV 1 3 1 (some ⟨xb.g, 0, none⟩) 1 1, .slice (some ⟨gs, 0, none⟩) ns ns, .slice (some ⟨gt, 0, none⟩) nt nt] w1 fun e w' => e = .returned (.int .i64 v) ∧ Below w1.heap.size w1 w' := by
    rintro sh ti v _ _ rfl rfl ⟨rfl, hl1, hl2⟩ A' w1 hA hs gs gt h1 h2
    exact checkTruth_any 1 3 1 (some ⟨xb.g, 0, none⟩) 1 SB w1 (hNB A' w1 hA hs) fitB (some ⟨gs, 0, none⟩) (some ⟨gt, 0, none⟩) _ _ sh ti (blk_long hs h1) (blk_long hs h2) hl1 hl2
  refine tr_seqK ?_
  refine tr_region_facts (id := 2) (by kernel_rfl) A0 (by (repeat (first | exact List.nil_sublist _ | exact List.Sublist.refl _ | refine List.Sublist.cons_cons _ ?_ | refine List.Sublist.cons _ ?_))) [0, 6] [1, 2, 3, 4, 5, 7, 8, 9, 10, 11, 12, 13] [.rd, .rd] (fun i => [.wr, .cr, .cr, .cr, .cr, .cr, .wr, .cr, .cr, .cr, .cr, .cr, .wr, .wr].getD i .wr) _ rfl rfl (by kernel_rfl) (by kernel_rfl) (fun i => [42, 43, 44, 45, 46, 47, 48, 49, 50, 51, 52, 53, 3, 4].getD i 0) (bW g1 g2 xa xb 42 true 48 true) fW2 (by kernel_rfl) ?_ ?_ ?_
  · ((try first | apply tr_v Try.tabOk | apply ot_v Try.tabOk); (conv => whnf); (repeat ((first | (apply VLdN.mk; (focus ((repeat (first | (with_reducible apply ldn_blk) | (with_reducible apply ldn_row) | (with_reducible assumption) | (with_reducible apply ldn_skip))); done)); exact rfl) | (refine slist_and (by (repeat (first | exact List.nil_sublist _ | exact List.Sublist.refl _ | refine List.Sublist.cons_cons _ ?_ | refine List.Sublist.cons _ ?_))) ?_; first | refine otl_nil ?_ | (refine otl_cons ?_; apply ot_v Try.tabOk) | skip) | (apply VK.mk; first | (refine otl_cons ?_; apply ot_v Try.tabOk) | apply ot_v Try.tabOk)); (conv => whnf))); try (first | apply VStop.mk | apply VCall.stop))
    exact ⟨rfl, rfl, rfl, rfl, trivial⟩
  · refine ⟨?_, ?_, ?_, ?_, ?_, ?_, ?_, ?_, ?_, ?_, ?_, ?_, trivial⟩
    · intro ts A hb hA hd
      refine ot_buildSlice Try.tabOk (by decide) rfl rfl rfl rfl rfl rfl (pts_of rfl) rfl (by decide) ?_
      intro g hg
      exact ⟨_, [_], g, rfl, rfl, rfl, fun c hc => by
        cases hc with
        | head => exact .head _
        | tail _ h => cases h⟩
    · rintro ts A hb hA ⟨⟨x, hx, hc⟩, _⟩
      refine ot_call_q rfl rfl rfl (by kernel_rfl) (.cons hx .nil) (fun w1 hs => longs_any _ w1) ?_
      exact ⟨_, [], x, rfl, rfl, rfl, fun c h => hc c h⟩
    · intro ts A hb hA hd
      refine ot_buildSlice Try.tabOk (by decide) rfl rfl rfl rfl rfl rfl (pts_of rfl) rfl (by decide) ?_
      intro g hg
      exact ⟨_, [_], g, rfl, rfl, rfl, fun c hc => by
        cases hc with
        | head => exact .head _
        | tail _ h => cases h⟩
    · rintro ts A hb hA ⟨⟨x, hx, hc⟩, _⟩
      refine ot_call_q rfl rfl rfl (by kernel_rfl) (.cons hx .nil) (fun w1 hs => longs_any _ w1) ?_
      exact ⟨_, [], x, rfl, rfl, rfl, fun c h => hc c h⟩
    · rintro ts A hb hA ⟨⟨x, hx, hc⟩, ⟨y, hy, hd⟩, _⟩
      refine ot_call_q (v := .int .i64 0) rfl rfl rfl (by kernel_rfl) (.cons hb.2.2.1 (.cons hx (.cons hy .nil))) (fun w1 hs => kTA [50, 41] [0, 1, 3] 0 rfl rfl (by decide +kernel) A w1 hA hs x y (hc _ (.head _)) (hd _ (.head _))) ?_
      exact ⟨_, [], 0, rfl, rfl, rfl, fun c h => by cases h⟩
    · intro ts A hb hA hd
      refine ot_buildSlice Try.tabOk (by decide) rfl rfl rfl rfl rfl rfl (pts_of rfl) rfl (by decide) ?_
      intro g hg
      exact ⟨_, [_], g, rfl, rfl, rfl, fun c hc => by
        cases hc with
        | head => exact .head _
        | tail _ h => cases h⟩
    · rintro ts A hb hA ⟨⟨x, hx, hc⟩, _⟩
      refine ot_call_q rfl rfl rfl (by kernel_rfl) (.cons hx .nil) (fun w1 hs => longs_any _ w1) ?_
      exact ⟨_, [], x, rfl, rfl, rfl, fun c h => hc c h⟩
    · intro ts A hb hA hd
      refine ot_buildSlice Try.tabOk (by decide) rfl rfl rfl rfl rfl rfl (pts_of rfl) rfl (by decide) ?_
      intro g hg
      exact ⟨_, [_], g, rfl, rfl, rfl, fun c hc => by
        cases hc with
        | head => exact .head _
        | tail _ h => cases h⟩
    · rintro ts A hb hA ⟨⟨x, hx, hc⟩, _⟩
      refine ot_call_q rfl rfl rfl (by kernel_rfl) (.cons hx .nil) (fun w1 hs => longs_any _ w1) ?_
      exact ⟨_, [], x, rfl, rfl, rfl, fun c h => hc c h⟩
    · rintro ts A hb hA ⟨⟨x, hx, hc⟩, ⟨y, hy, hd⟩, _⟩
      refine ot_call_q (v := .int .i64 17) rfl rfl rfl (by kernel_rfl) (.cons hb.2.2.2.1 (.cons hx (.cons hy .nil))) (fun w1 hs => kTA [52, 41] [0, 1, 5] 17 rfl rfl (by decide +kernel) A w1 hA hs x y (hc _ (.head _)) (hd _ (.head _))) ?_
      exact ⟨_, [], 0, rfl, rfl, rfl, fun c h => by cases h⟩
    · rintro ts A hb hA ⟨⟨x, hx, hc⟩, _⟩
      refine ot_assign rfl rfl rfl hx ?_
      exact ⟨_, [], x, rfl, rfl, rfl, fun c h => by cases h⟩
    · rintro ts A hb hA ⟨⟨x, hx, hc⟩, _⟩
      refine ot_assign rfl rfl rfl hx ?_
      exact ⟨_, [], x, rfl, rfl, rfl, fun c h => by cases h⟩
  · intro ts A hb hA hf
    obtain ⟨_, h3, _⟩ := hf 12 (by decide)
    obtain ⟨_, h4, _⟩ := hf 13 (by decide)
    refine VStop.mk (tr_weak (l := [(1, _), (2, _), (3, .int .i64 0), (4, .int .i64 17)]) (B := A0) ⟨hb.1, hb.2.1, h3, h4, trivial⟩ hA ?_)
    rename_i q1 q2 q3 q4
    clear q2 q4 hb hA hf h3 h4 ts A
    refine tr_seqK ?_
    refine tr_region_facts (id := 3) (by kernel_rfl) A0 (by (repeat (first | exact List.nil_sublist _ | exact List.Sublist.refl _ | refine List.Sublist.cons_cons _ ?_ | refine List.Sublist.cons _ ?_))) [0, 6] [1, 2, 3, 4, 5, 7, 8, 9, 10, 11, 12, 13] [.rd, .rd] (fun i => [.wr, .cr, .cr, .cr, .cr, .cr, .wr, .cr, .cr, .cr, .cr, .cr, .wr, .wr].getD i .wr) _ rfl rfl (by kernel_rfl) (by kernel_rfl) (fun i => [54, 55, 56, 57, 58, 59, 60, 61, 62, 63, 64, 65, 5, 6].getD i 0) (bW g1 g2 xa xb 54 true 60 false ++ [(3, .int .i64 0), (4, .int .i64 17)]) fW3 (by kernel_rfl) ?_ ?_ ?_
    · ((try first | apply tr_v Try.tabOk | apply ot_v Try.tabOk); (conv => whnf); (repeat ((first | (apply VLdN.mk; (focus ((repeat (first | (with_reducible apply ldn_blk) | (with_reducible apply ldn_row) | (with_reducible assumption) | (with_reducible apply ldn_skip))); done)); exact rfl) | (refine slist_and (by (repeat (first | exact List.nil_sublist _ | exact List.Sublist.refl _ | refine List.Sublist.cons_cons _ ?_ | refine List.Sublist.cons _ ?_))) ?_; first | refine otl_nil ?_ | (refine otl_cons ?_; apply ot_v Try.tabOk) | skip) | (apply VK.mk; first | (refine otl_cons ?_; apply ot_v Try.tabOk) | apply ot_v Try.tabOk)); (conv => whnf))); try (first | apply VStop.mk | apply VCall.stop))
      exact ⟨rfl, rfl, rfl, rfl, rfl, rfl, trivial⟩
    · refine ⟨?_, ?_, ?_, ?_, ?_, ?_, ?_, ?_, ?_, ?_, ?_, ?_, trivial⟩
      · intro ts A hb hA hd
        refine ot_buildSlice Try.tabOk (by decide) rfl rfl rfl rfl rfl rfl (pts_of rfl) rfl (by decide) ?_
        intro g hg
        exact ⟨_, [_], g, rfl, rfl, rfl, fun c hc => by
          cases hc with
          | head => exact .head _
          | tail _ h => cases h⟩
      · rintro ts A hb hA ⟨⟨x, hx, hc⟩, _⟩
        refine ot_call_q rfl rfl rfl (by kernel_rfl) (.cons hx .nil) (fun w1 hs => longs_any _ w1) ?_
        exact ⟨_, [], x, rfl, rfl, rfl, fun c h => hc c h⟩
      · intro ts A hb hA hd
        refine ot_buildSlice Try.tabOk (by decide) rfl rfl rfl rfl rfl rfl (pts_of rfl) rfl (by decide) ?_
        intro g hg
        exact ⟨_, [_], g, rfl, rfl, rfl, fun c hc => by
          cases hc with
          | head => exact .head _
          | tail _ h => cases h⟩
      · rintro ts A hb hA ⟨⟨x, hx, hc⟩, _⟩
        refine ot_call_q rfl rfl rfl (by kernel_rfl) (.cons hx .nil) (fun w1 hs => longs_any _ w1) ?_
        exact ⟨_, [], x, rfl, rfl, rfl, fun c h => hc c h⟩
      · rintro ts A hb hA ⟨⟨x, hx, hc⟩, ⟨y, hy, hd⟩, _⟩
        refine ot_call_q (v := .int .i64 15) rfl rfl rfl (by kernel_rfl) (.cons hb.2.2.1 (.cons hx (.cons hy .nil))) (fun w1 hs => kTA [50, 41] [0, 1] 15 rfl rfl (by decide +kernel) A w1 hA hs x y (hc _ (.head _)) (hd _ (.head _))) ?_
        exact ⟨_, [], 0, rfl, rfl, rfl, fun c h => by cases h⟩
      · intro ts A hb hA hd
        refine ot_buildSlice Try.tabOk (by decide) rfl rfl rfl rfl rfl rfl (pts_of rfl) rfl (by decide) ?_
        intro g hg
        exact ⟨_, [_], g, rfl, rfl, rfl, fun c hc => by
          cases hc with
          | head => exact .head _
          | tail _ h => cases h⟩
      · rintro ts A hb hA ⟨⟨x, hx, hc⟩, _⟩
        refine ot_call_q rfl rfl rfl (by kernel_rfl) (.cons hx .nil) (fun w1 hs => longs_any _ w1) ?_
        exact ⟨_, [], x, rfl, rfl, rfl, fun c h => hc c h⟩
      · intro ts A hb hA hd
        refine ot_buildSlice Try.tabOk (by decide) rfl rfl rfl rfl rfl rfl (pts_of rfl) rfl (by decide) ?_
        intro g hg
        exact ⟨_, [_], g, rfl, rfl, rfl, fun c hc => by
          cases hc with
          | head => exact .head _
          | tail _ h => cases h⟩
      · rintro ts A hb hA ⟨⟨x, hx, hc⟩, _⟩
        refine ot_call_q rfl rfl rfl (by kernel_rfl) (.cons hx .nil) (fun w1 hs => longs_any _ w1) ?_
        exact ⟨_, [], x, rfl, rfl, rfl, fun c h => hc c h⟩
      · rintro ts A hb hA ⟨⟨x, hx, hc⟩, ⟨y, hy, hd⟩, _⟩
        refine ot_call_q (v := .int .i64 17) rfl rfl rfl (by kernel_rfl) (.cons hb.2.2.2.1 (.cons hx (.cons hy .nil))) (fun w1 hs => kTB [50] [0, 3] 17 rfl rfl (by decide +kernel) A w1 hA hs x y (hc _ (.head _)) (hd _ (.head _))) ?_
        exact ⟨_, [], 0, rfl, rfl, rfl, fun c h => by cases h⟩
      · rintro ts A hb hA ⟨⟨x, hx, hc⟩, _⟩
        refine ot_assign rfl rfl rfl hx ?_
        exact ⟨_, [], x, rfl, rfl, rfl, fun c h => by cases h⟩
      · rintro ts A hb hA ⟨⟨x, hx, hc⟩, _⟩
        refine ot_assign rfl rfl rfl hx ?_
        exact ⟨_, [], x, rfl, rfl, rfl, fun c h => by cases h⟩
    · intro ts A hb hA hf
      obtain ⟨_, h5, _⟩ := hf 12 (by decide)
      obtain ⟨_, h6, _⟩ := hf 13 (by decide)
      refine VStop.mk (tr_weak (l := [(1, _), (2, _), (3, .int .i64 0), (4, .int .i64 17), (5, .int .i64 15), (6, .int .i64 17)]) (B := A0) ⟨hb.1, hb.2.1, hb.2.2.2.2.1, hb.2.2.2.2.2.1, h5, h6, trivial⟩ hA ?_)
      rename_i q1 q2 q3 q4
      clear q2 q4 hb hA hf h5 h6 ts A
      have k25 : ∀ A' w1, A0.Sublist A' → St w A' w1 → Calls Try.prog 25 #[bookV 1 3 2 (some ⟨xa.g, 0, none⟩) 1 1] w1 (TwoRet ([50, 41], [0, 1, 3], 0) w1) := fun A' w1 hA hs => endA0 ▸ least_any 1 3 2 (some ⟨xa.g, 0, none⟩) 1 SA w1 (hNA A' w1 hA hs) fitA
      have k27 : ∀ A' w1, A0.Sublist A' → St w A' w1 → Calls Try.prog 27 #[bookV 1 3 2 (some ⟨xa.g, 0, none⟩) 1 1] w1 (TwoRet ([52, 44], [0, 3, 6], 0) w1) := fun A' w1 hA hs => endA1 ▸ greatest_any 1 3 2 (some ⟨xa.g, 0, none⟩) 1 SA w1 (hNA A' w1 hA hs) fitA
      have k27b : ∀ A' w1, A0.Sublist A' → St w A' w1 → Calls Try.prog 27 #[bookV 1 3 1 (some ⟨xb.g, 0, none⟩) 1 1] w1 (TwoRet ([], [], 17) w1) := fun A' w1 hA hs => endB1 ▸ greatest_any 1 3 1 (some ⟨xb.g, 0, none⟩) 1 SB w1 (hNB A' w1 hA hs) fitB
      have k30 : ∀ (k : Int) (r : Int × Int × Int), spanR 1 3 2 SA k = r → ∀ A' w1, A0.Sublist A' → St w A' w1 → Calls Try.prog 30 #[bookV 1 3 2 (some ⟨xa.g, 0, none⟩) 1 1, .int .i64 k] w1 fun e w' => e = .returned (rangeV r.1 r.2.1 r.2.2) ∧ Below w1.heap.size w1 w' := by
        rintro k r rfl A' w1 hA hs
        exact span_any 1 3 2 (some ⟨xa.g, 0, none⟩) 1 SA w1 (hNA A' w1 hA hs) fitA k
      have k32 : ∀ (k j : Int) (r : Int × Int × Int), apartR 1 3 2 SA k j = r → ∀ A' w1, A0.Sublist A' → St w A' w1 → Calls Try.prog 32 #[bookV 1 3 2 (some ⟨xa.g, 0, none⟩) 1 1, .int .i64 k, .int .i64 j] w1 fun e w' => e = .returned (rangeV r.1 r.2.1 r.2.2) ∧ Below w1.heap.size w1 w' := by
        rintro k j r rfl A' w1 hA hs
        exact apart_any 1 3 2 (some ⟨xa.g, 0, none⟩) 1 SA w1 (hNA A' w1 hA hs) fitA k j
      dsimp only [bookV, rangeV] at *
      refine tr_seqK ?_
      ((try first | apply tr_v Try.tabOk | apply ot_v Try.tabOk); (conv => whnf); (repeat ((first | (apply VLdN.mk; (focus ((repeat (first | (with_reducible apply ldn_blk) | (with_reducible apply ldn_row) | (with_reducible assumption) | (with_reducible apply ldn_skip))); done)); exact rfl) | (refine slist_and (by (repeat (first | exact List.nil_sublist _ | exact List.Sublist.refl _ | refine List.Sublist.cons_cons _ ?_ | refine List.Sublist.cons _ ?_))) ?_; first | refine otl_nil ?_ | (refine otl_cons ?_; apply ot_v Try.tabOk) | skip) | (apply VK.mk; first | (refine otl_cons ?_; apply ot_v Try.tabOk) | apply ot_v Try.tabOk)); (conv => whnf))); try (first | apply VStop.mk | apply VCall.stop))
      refine ot_call_st (X := TwoX) (fun x => .tuple #[.slice x.1.1 2 x.1.2, .slice x.2.1 3 x.2.2, .int .i64 0]) (fun x => [.own (.slice x.1.1 2 x.1.2) 2 1 2 (i64s [50, 41]), .own (.slice x.2.1 3 x.2.2) 2 1 3 (i64s [0, 1, 3])]) (fun x => mut_two rfl rfl) (by decide) rfl rfl rfl (by kernel_rfl) (evl_of rfl) (fun w1 hs => (k25 _ w1 (by (repeat (first | exact List.nil_sublist _ | exact List.Sublist.refl _ | refine List.Sublist.cons_cons _ ?_ | refine List.Sublist.cons _ ?_))) hs).mono fun e w' h => h.slices) (fun y1 => ?_)
      dsimp only [List.cons_append, List.nil_append]
      apply ot_v Try.tabOk
      ((try first | apply tr_v Try.tabOk | apply ot_v Try.tabOk); (conv => whnf); (repeat ((first | (refine slist_and (by (repeat (first | exact List.nil_sublist _ | exact List.Sublist.refl _ | refine List.Sublist.cons_cons _ ?_ | refine List.Sublist.cons _ ?_))) ?_; first | refine otl_nil ?_ | (refine otl_cons ?_; apply ot_v Try.tabOk) | skip) | (apply VK.mk; first | (refine otl_cons ?_; apply ot_v Try.tabOk) | apply ot_v Try.tabOk)); (conv => whnf))); try (first | apply VStop.mk | apply VCall.stop))
      refine tr_seqK ?_
      ((try first | apply tr_v Try.tabOk | apply ot_v Try.tabOk); (conv => whnf); (repeat ((first | (apply VLdN.mk; (focus ((repeat (first | (with_reducible apply ldn_blk) | (with_reducible apply ldn_row) | (with_reducible assumption) | (with_reducible apply ldn_skip))); done)); exact rfl) | (refine slist_and (by (repeat (first | exact List.nil_sublist _ | exact List.Sublist.refl _ | refine List.Sublist.cons_cons _ ?_ | refine List.Sublist.cons _ ?_))) ?_; first | refine otl_nil ?_ | (refine otl_cons ?_; apply ot_v Try.tabOk) | skip) | (apply VK.mk; first | (refine otl_cons ?_; apply ot_v Try.tabOk) | apply ot_v Try.tabOk)); (conv => whnf))); try (first | apply VStop.mk | apply VCall.stop))
      refine ot_call_st (X := TwoX) (fun x => .tuple #[.slice x.1.1 2 x.1.2, .slice x.2.1 3 x.2.2, .int .i64 0]) (fun x => [.own (.slice x.1.1 2 x.1.2) 2 1 2 (i64s [52, 44]), .own (.slice x.2.1 3 x.2.2) 2 1 3 (i64s [0, 3, 6])]) (fun x => mut_two rfl rfl) (by decide) rfl rfl rfl (by kernel_rfl) (evl_of rfl) (fun w1 hs => (k27 _ w1 (by (repeat (first | exact List.nil_sublist _ | exact List.Sublist.refl _ | refine List.Sublist.cons_cons _ ?_ | refine List.Sublist.cons _ ?_))) hs).mono fun e w' h => h.slices) (fun y2 => ?_)
      dsimp only [List.cons_append, List.nil_append]
      apply ot_v Try.tabOk
      ((try first | apply tr_v Try.tabOk | apply ot_v Try.tabOk); (conv => whnf); (repeat ((first | (refine slist_and (by (repeat (first | exact List.nil_sublist _ | exact List.Sublist.refl _ | refine List.Sublist.cons_cons _ ?_ | refine List.Sublist.cons _ ?_))) ?_; first | refine otl_nil ?_ | (refine otl_cons ?_; apply ot_v Try.tabOk) | skip) | (apply VK.mk; first | (refine otl_cons ?_; apply ot_v Try.tabOk) | apply ot_v Try.tabOk)); (conv => whnf))); try (first | apply VStop.mk | apply VCall.stop))
      refine tr_seqK ?_
      ((try first | apply tr_v Try.tabOk | apply ot_v Try.tabOk); (conv => whnf); (repeat ((first | (apply VLdN.mk; (focus ((repeat (first | (with_reducible apply ldn_blk) | (with_reducible apply ldn_row) | (with_reducible assumption) | (with_reducible apply ldn_skip))); done)); exact rfl) | (refine slist_and (by (repeat (first | exact List.nil_sublist _ | exact List.Sublist.refl _ | refine List.Sublist.cons_cons _ ?_ | refine List.Sublist.cons _ ?_))) ?_; first | refine otl_nil ?_ | (refine otl_cons ?_; apply ot_v Try.tabOk) | skip) | (apply VK.mk; first | (refine otl_cons ?_; apply ot_v Try.tabOk) | apply ot_v Try.tabOk)); (conv => whnf))); try (first | apply VStop.mk | apply VCall.stop))
      refine ot_call_st (X := TwoX) (fun x => .tuple #[.slice x.1.1 0 x.1.2, .slice x.2.1 0 x.2.2, .int .i64 17]) (fun x => [.own (.slice x.1.1 0 x.1.2) 2 1 0 (i64s []), .own (.slice x.2.1 0 x.2.2) 2 1 0 (i64s [])]) (fun x => mut_two rfl rfl) (by decide) rfl rfl rfl (by kernel_rfl) (evl_of rfl) (fun w1 hs => (k27b _ w1 (by (repeat (first | exact List.nil_sublist _ | exact List.Sublist.refl _ | refine List.Sublist.cons_cons _ ?_ | refine List.Sublist.cons _ ?_))) hs).mono fun e w' h => h.slices) (fun y3 => ?_)
      dsimp only [List.cons_append, List.nil_append]
      apply ot_v Try.tabOk
      ((try first | apply tr_v Try.tabOk | apply ot_v Try.tabOk); (conv => whnf); (repeat ((first | (refine slist_and (by (repeat (first | exact List.nil_sublist _ | exact List.Sublist.refl _ | refine List.Sublist.cons_cons _ ?_ | refine List.Sublist.cons _ ?_))) ?_; first | refine otl_nil ?_ | (refine otl_cons ?_; apply ot_v Try.tabOk) | skip) | (apply VK.mk; first | (refine otl_cons ?_; apply ot_v Try.tabOk) | apply ot_v Try.tabOk)); (conv => whnf))); try (first | apply VStop.mk | apply VCall.stop))
      have k1 := k30 1 _ spanA1
      have k2 := k30 2 _ spanA2
      have k3 := k32 0 1 _ apartA01
      dsimp only at k1 k2 k3
      refine tr_seqK ?_
      ((try first | apply tr_v Try.tabOk | apply ot_v Try.tabOk); (conv => whnf); (repeat ((first | (apply VCall.q; kernel_rfl; (focus (intro w1 hs; first | with_reducible apply k1 _ w1 (by (repeat (first | exact List.nil_sublist _ | exact List.Sublist.refl _ | refine List.Sublist.cons_cons _ ?_ | refine List.Sublist.cons _ ?_))) hs))) | (apply VNew.mk; intro g hg) | (apply VLdN.mk; (focus ((repeat (first | (with_reducible apply ldn_blk) | (with_reducible apply ldn_row) | (with_reducible assumption) | (with_reducible apply ldn_skip))); done)); exact rfl) | (apply VSt.mk; (focus ((repeat (first | (with_reducible exact At.here) | (with_reducible apply At.there))); done)); exact rfl) | (refine slist_and (by (repeat (first | exact List.nil_sublist _ | exact List.Sublist.refl _ | refine List.Sublist.cons_cons _ ?_ | refine List.Sublist.cons _ ?_))) ?_; first | refine otl_nil ?_ | (refine otl_cons ?_; apply ot_v Try.tabOk) | skip) | (apply VK.mk; first | (refine otl_cons ?_; apply ot_v Try.tabOk) | apply ot_v Try.tabOk)); (conv => whnf))); try (first | apply VStop.mk | apply VCall.stop))
      refine tr_seqK ?_
      ((try first | apply tr_v Try.tabOk | apply ot_v Try.tabOk); (conv => whnf); (repeat ((first | (apply VCall.q; kernel_rfl; (focus (intro w1 hs; first | with_reducible apply k2 _ w1 (by (repeat (first | exact List.nil_sublist _ | exact List.Sublist.refl _ | refine List.Sublist.cons_cons _ ?_ | refine List.Sublist.cons _ ?_))) hs))) | (apply VNew.mk; intro g hg) | (apply VLdN.mk; (focus ((repeat (first | (with_reducible apply ldn_blk) | (with_reducible apply ldn_row) | (with_reducible assumption) | (with_reducible apply ldn_skip))); done)); exact rfl) | (apply VSt.mk; (focus ((repeat (first | (with_reducible exact At.here) | (with_reducible apply At.there))); done)); exact rfl) | (refine slist_and (by (repeat (first | exact List.nil_sublist _ | exact List.Sublist.refl _ | refine List.Sublist.cons_cons _ ?_ | refine List.Sublist.cons _ ?_))) ?_; first | refine otl_nil ?_ | (refine otl_cons ?_; apply ot_v Try.tabOk) | skip) | (apply VK.mk; first | (refine otl_cons ?_; apply ot_v Try.tabOk) | apply ot_v Try.tabOk)); (conv => whnf))); try (first | apply VStop.mk | apply VCall.stop))
      refine tr_seqK ?_
      ((try first | apply tr_v Try.tabOk | apply ot_v Try.tabOk); (conv => whnf); (repeat ((first | (apply VCall.q; kernel_rfl; (focus (intro w1 hs; first | with_reducible apply k3 _ w1 (by (repeat (first | exact List.nil_sublist _ | exact List.Sublist.refl _ | refine List.Sublist.cons_cons _ ?_ | refine List.Sublist.cons _ ?_))) hs))) | (apply VNew.mk; intro g hg) | (apply VLdN.mk; (focus ((repeat (first | (with_reducible apply ldn_blk) | (with_reducible apply ldn_row) | (with_reducible assumption) | (with_reducible apply ldn_skip))); done)); exact rfl) | (apply VSt.mk; (focus ((repeat (first | (with_reducible exact At.here) | (with_reducible apply At.there))); done)); exact rfl) | (refine slist_and (by (repeat (first | exact List.nil_sublist _ | exact List.Sublist.refl _ | refine List.Sublist.cons_cons _ ?_ | refine List.Sublist.cons _ ?_))) ?_; first | refine otl_nil ?_ | (refine otl_cons ?_; apply ot_v Try.tabOk) | skip) | (apply VK.mk; first | (refine otl_cons ?_; apply ot_v Try.tabOk) | apply ot_v Try.tabOk)); (conv => whnf))); try (first | apply VStop.mk | apply VCall.stop))
      have kRB : ∀ (l : List Int) (r : Int × Int) {n : Nat}, l.length = n → roundR 1 3 1 SB l = r ∧ n ≤ 30 → ∀ A' w1, A0.Sublist A' → St w A' w1 → ∀ g, .blk g 3 (i64s l) ∈ A' → Calls Try.prog 34 #[bookV 1 3 1 (some ⟨xb.g, 0, none⟩) 1 1, .slice (some ⟨g, 0, none⟩) n n] w1 fun e w' => e = .returned (.tuple #[.int .i64 r.1, .int .i64 r.2]) ∧ Below w1.heap.size w1 w' := by
        rintro l r _ rfl ⟨rfl, hl⟩ A' w1 hA hs g h1
        exact checkRound_any 1 3 1 (some ⟨xb.g, 0, none⟩) 1 SB w1 (hNB A' w1 hA hs) fitB (some ⟨g, 0, none⟩) _ l (blk_long hs h1) hl
      have kRA : ∀ (l : List Int) (r : Int × Int) {n : Nat}, l.length = n → roundR 1 3 2 SA l = r ∧ n ≤ 30 → ∀ A' w1, A0.Sublist A' → St w A' w1 → ∀ g, .blk g 3 (i64s l) ∈ A' → Calls Try.prog 34 #[bookV 1 3 2 (some ⟨xa.g, 0, none⟩) 1 1, .slice (some ⟨g, 0, none⟩) n n] w1 fun e w' => e = .returned (.tuple #[.int .i64 r.1, .int .i64 r.2]) ∧ Below w1.heap.size w1 w' := by
        rintro l r _ rfl ⟨rfl, hl⟩ A' w1 hA hs g h1
        exact checkRound_any 1 3 2 (some ⟨xa.g, 0, none⟩) 1 SA w1 (hNA A' w1 hA hs) fitA (some ⟨g, 0, none⟩) _ l (blk_long hs h1) hl
      have kRN : ∀ A' w1, A0.Sublist A' → St w A' w1 → Calls Try.prog 34 #[bookV 1 3 1 (some ⟨xb.g, 0, none⟩) 1 1, .slice none 0 0] w1 fun e w' => e = .returned (.tuple #[.int .i64 0, .int .i64 6]) ∧ Below w1.heap.size w1 w' := by
        intro A' w1 hA hs
        have := checkRound_any 1 3 1 (some ⟨xb.g, 0, none⟩) 1 SB w1 (hNB A' w1 hA hs) fitB none 0 [] ⟨rfl, fun h => absurd h (by decide)⟩ (by decide)
        rw [show roundR 1 3 1 SB [] = (0, 6) by decide +kernel] at this
        exact this
      have k10 := kRB [1, 2, 3] (2, 0) (n := 3) rfl ⟨by decide +kernel, by decide⟩
      have k11 := kRB [3, 2, 1] (0, 14) (n := 3) rfl ⟨by decide +kernel, by decide⟩
      have k12 := kRB [1, 1] (0, 2) (n := 2) rfl ⟨by decide +kernel, by decide⟩
      have k14 := kRA [0, 2, 4] (0, 16) (n := 3) rfl ⟨by decide +kernel, by decide⟩
      have k36 : ∀ A' w1, A0.Sublist A' → St w A' w1 → Calls Try.prog 36 #[bookV 1 3 2 (some ⟨xa.g, 0, none⟩) 1 1] w1 (OneRet ([], 5) w1) := fun A' w1 hA hs => roundRetA ▸ rounds_any 1 3 2 (some ⟨xa.g, 0, none⟩) 1 SA w1 (hNA A' w1 hA hs) fitA
      obtain ⟨rb, nb, hrb, hnb, hrb2, hrl1, hrl2⟩ := roundRetB
      have k36b : ∀ A' w1, A0.Sublist A' → St w A' w1 → Calls Try.prog 36 #[bookV 1 3 1 (some ⟨xb.g, 0, none⟩) 1 1] w1 (OneRet (rb, 0) w1) := fun A' w1 hA hs => hrb ▸ rounds_any 1 3 1 (some ⟨xb.g, 0, none⟩) 1 SB w1 (hNB A' w1 hA hs) fitB
      have k38 : ∀ A' w1, A0.Sublist A' → St w A' w1 → Calls Try.prog 38 #[bookV 1 3 1 (some ⟨xb.g, 0, none⟩) 1 1] w1 (OneRet ([0, 1], 0) w1) := fun A' w1 hA hs => wrongB ▸ wrong_any 1 3 1 (some ⟨xb.g, 0, none⟩) 1 SB w1 (hNB A' w1 hA hs) fitB
      have k35 : ∀ A' w1, A0.Sublist A' → St w A' w1 → ∀ B cB, Reads w1 w1.heap.size 1 B rb.length (i64s rb) → Calls Try.prog 35 #[bookV 1 3 1 (some ⟨xb.g, 0, none⟩) 1 1, .slice B rb.length cB] w1 fun e w' => e = .returned (.tuple #[.int .i64 nb, .int .i64 0]) ∧ Below w1.heap.size w1 w' := by
        intro A' w1 hA hs B cB hr
        have := refCheckRound_any 1 3 1 (some ⟨xb.g, 0, none⟩) 1 SB w1 (hNB A' w1 hA hs) fitB B cB rb hr (by omega)
        rw [hrb2] at this
        exact this
      clear hrb hrb2
      dsimp only [bookV] at *
      refine tr_seqK ?_
      ((try first | apply tr_v Try.tabOk | apply ot_v Try.tabOk); (conv => whnf); (repeat ((first | ((first | apply VStop.mk | apply VCall.stop); (first | refine tr_region_lex (id := 10) (by kernel_rfl) [.rd, .cr, .cr, .cr, .rd, .rd, .rd, .rd, .rd] rfl (by kernel_rfl) ?_); try first | apply ot_v Try.tabOk | apply tr_v Try.tabOk) | (apply VCall.q; kernel_rfl; (focus (intro w1 hs; first | with_reducible apply of_any _ w1 | with_reducible apply k10 _ w1 (by (repeat (first | exact List.nil_sublist _ | exact List.Sublist.refl _ | refine List.Sublist.cons_cons _ ?_ | refine List.Sublist.cons _ ?_))) hs _ (by (repeat (first | with_unfolding_all exact List.Mem.head _ | assumption | with_unfolding_all refine List.Mem.tail _ ?_)))))) | (apply VNew.mk; intro g hg) | (apply VLdN.mk; (focus ((repeat (first | (with_reducible apply ldn_blk) | (with_reducible apply ldn_row) | (with_reducible assumption) | (with_reducible apply ldn_skip))); done)); exact rfl) | (refine slist_and (by (repeat (first | exact List.nil_sublist _ | exact List.Sublist.refl _ | refine List.Sublist.cons_cons _ ?_ | refine List.Sublist.cons _ ?_))) ?_; first | refine otl_nil ?_ | (refine otl_cons ?_; apply ot_v Try.tabOk) | skip) | (apply VK.mk; first | (refine otl_cons ?_; apply ot_v Try.tabOk) | apply ot_v Try.tabOk)); (conv => whnf))); try (first | apply VStop.mk | apply VCall.stop))
      refine tr_seqK ?_
      ((try first | apply tr_v Try.tabOk | apply ot_v Try.tabOk); (conv => whnf); (repeat ((first | ((first | apply VStop.mk | apply VCall.stop); (first | refine tr_region_lex (id := 11) (by kernel_rfl) [.rd, .cr, .cr, .cr, .rd, .rd, .rd, .rd, .rd] rfl (by kernel_rfl) ?_); try first | apply ot_v Try.tabOk | apply tr_v Try.tabOk) | (apply VCall.q; kernel_rfl; (focus (intro w1 hs; first | with_reducible apply of_any _ w1 | with_reducible apply k11 _ w1 (by (repeat (first | exact List.nil_sublist _ | exact List.Sublist.refl _ | refine List.Sublist.cons_cons _ ?_ | refine List.Sublist.cons _ ?_))) hs _ (by (repeat (first | with_unfolding_all exact List.Mem.head _ | assumption | with_unfolding_all refine List.Mem.tail _ ?_)))))) | (apply VNew.mk; intro g hg) | (apply VLdN.mk; (focus ((repeat (first | (with_reducible apply ldn_blk) | (with_reducible apply ldn_row) | (with_reducible assumption) | (with_reducible apply ldn_skip))); done)); exact rfl) | (refine slist_and (by (repeat (first | exact List.nil_sublist _ | exact List.Sublist.refl _ | refine List.Sublist.cons_cons _ ?_ | refine List.Sublist.cons _ ?_))) ?_; first | refine otl_nil ?_ | (refine otl_cons ?_; apply ot_v Try.tabOk) | skip) | (apply VK.mk; first | (refine otl_cons ?_; apply ot_v Try.tabOk) | apply ot_v Try.tabOk)); (conv => whnf))); try (first | apply VStop.mk | apply VCall.stop))
      refine tr_seqK ?_
      ((try first | apply tr_v Try.tabOk | apply ot_v Try.tabOk); (conv => whnf); (repeat ((first | ((first | apply VStop.mk | apply VCall.stop); (first | refine tr_region_lex (id := 12) (by kernel_rfl) [.rd, .cr, .cr, .cr, .rd, .rd, .rd, .rd, .rd] rfl (by kernel_rfl) ?_); try first | apply ot_v Try.tabOk | apply tr_v Try.tabOk) | (apply VCall.q; kernel_rfl; (focus (intro w1 hs; first | with_reducible apply of_any _ w1 | with_reducible apply k12 _ w1 (by (repeat (first | exact List.nil_sublist _ | exact List.Sublist.refl _ | refine List.Sublist.cons_cons _ ?_ | refine List.Sublist.cons _ ?_))) hs _ (by (repeat (first | with_unfolding_all exact List.Mem.head _ | assumption | with_unfolding_all refine List.Mem.tail _ ?_)))))) | (apply VNew.mk; intro g hg) | (apply VLdN.mk; (focus ((repeat (first | (with_reducible apply ldn_blk) | (with_reducible apply ldn_row) | (with_reducible assumption) | (with_reducible apply ldn_skip))); done)); exact rfl) | (refine slist_and (by (repeat (first | exact List.nil_sublist _ | exact List.Sublist.refl _ | refine List.Sublist.cons_cons _ ?_ | refine List.Sublist.cons _ ?_))) ?_; first | refine otl_nil ?_ | (refine otl_cons ?_; apply ot_v Try.tabOk) | skip) | (apply VK.mk; first | (refine otl_cons ?_; apply ot_v Try.tabOk) | apply ot_v Try.tabOk)); (conv => whnf))); try (first | apply VStop.mk | apply VCall.stop))
      refine tr_seqK ?_
      ((try first | apply tr_v Try.tabOk | apply ot_v Try.tabOk); (conv => whnf); (repeat ((first | (apply VCall.q; kernel_rfl; (focus (intro w1 hs; first | with_reducible apply kRN _ w1 (by (repeat (first | exact List.nil_sublist _ | exact List.Sublist.refl _ | refine List.Sublist.cons_cons _ ?_ | refine List.Sublist.cons _ ?_))) hs))) | (apply VLdN.mk; (focus ((repeat (first | (with_reducible apply ldn_blk) | (with_reducible apply ldn_row) | (with_reducible assumption) | (with_reducible apply ldn_skip))); done)); exact rfl) | (refine slist_and (by (repeat (first | exact List.nil_sublist _ | exact List.Sublist.refl _ | refine List.Sublist.cons_cons _ ?_ | refine List.Sublist.cons _ ?_))) ?_; first | refine otl_nil ?_ | (refine otl_cons ?_; apply ot_v Try.tabOk) | skip) | (apply VK.mk; first | (refine otl_cons ?_; apply ot_v Try.tabOk) | apply ot_v Try.tabOk)); (conv => whnf))); try (first | apply VStop.mk | apply VCall.stop))
      refine tr_seqK ?_
      ((try first | apply tr_v Try.tabOk | apply ot_v Try.tabOk); (conv => whnf); (repeat ((first | ((first | apply VStop.mk | apply VCall.stop); (first | refine tr_region_lex (id := 14) (by kernel_rfl) [.rd, .cr, .cr, .cr, .rd, .rd, .rd, .rd, .rd] rfl (by kernel_rfl) ?_); try first | apply ot_v Try.tabOk | apply tr_v Try.tabOk) | (apply VCall.q; kernel_rfl; (focus (intro w1 hs; first | with_reducible apply of_any _ w1 | with_reducible apply k14 _ w1 (by (repeat (first | exact List.nil_sublist _ | exact List.Sublist.refl _ | refine List.Sublist.cons_cons _ ?_ | refine List.Sublist.cons _ ?_))) hs _ (by (repeat (first | with_unfolding_all exact List.Mem.head _ | assumption | with_unfolding_all refine List.Mem.tail _ ?_)))))) | (apply VNew.mk; intro g hg) | (apply VLdN.mk; (focus ((repeat (first | (with_reducible apply ldn_blk) | (with_reducible apply ldn_row) | (with_reducible assumption) | (with_reducible apply ldn_skip))); done)); exact rfl) | (refine slist_and (by (repeat (first | exact List.nil_sublist _ | exact List.Sublist.refl _ | refine List.Sublist.cons_cons _ ?_ | refine List.Sublist.cons _ ?_))) ?_; first | refine otl_nil ?_ | (refine otl_cons ?_; apply ot_v Try.tabOk) | skip) | (apply VK.mk; first | (refine otl_cons ?_; apply ot_v Try.tabOk) | apply ot_v Try.tabOk)); (conv => whnf))); try (first | apply VStop.mk | apply VCall.stop))
      refine tr_seqK ?_
      ((try first | apply tr_v Try.tabOk | apply ot_v Try.tabOk); (conv => whnf); (repeat ((first | (apply VLdN.mk; (focus ((repeat (first | (with_reducible apply ldn_blk) | (with_reducible apply ldn_row) | (with_reducible assumption) | (with_reducible apply ldn_skip))); done)); exact rfl) | (refine slist_and (by (repeat (first | exact List.nil_sublist _ | exact List.Sublist.refl _ | refine List.Sublist.cons_cons _ ?_ | refine List.Sublist.cons _ ?_))) ?_; first | refine otl_nil ?_ | (refine otl_cons ?_; apply ot_v Try.tabOk) | skip) | (apply VK.mk; first | (refine otl_cons ?_; apply ot_v Try.tabOk) | apply ot_v Try.tabOk)); (conv => whnf))); try (first | apply VStop.mk | apply VCall.stop))
      refine ot_call_st (X := Option Addr × Nat) (fun x => .tuple #[.slice x.1 0 x.2, .int .i64 5]) (fun x => [.own (.slice x.1 0 x.2) 3 1 0 (i64s [])]) (fun x => mut_one rfl) (by decide) rfl rfl rfl (by kernel_rfl) (evl_of rfl) (fun w1 hs => (k36 _ w1 (by (repeat (first | exact List.nil_sublist _ | exact List.Sublist.refl _ | refine List.Sublist.cons_cons _ ?_ | refine List.Sublist.cons _ ?_))) hs).mono fun e w' h => h.slices) (fun y4 => ?_)
      dsimp only [List.cons_append, List.nil_append]
      apply ot_v Try.tabOk
      ((try first | apply tr_v Try.tabOk | apply ot_v Try.tabOk); (conv => whnf); (repeat ((first | (refine slist_and (by (repeat (first | exact List.nil_sublist _ | exact List.Sublist.refl _ | refine List.Sublist.cons_cons _ ?_ | refine List.Sublist.cons _ ?_))) ?_; first | refine otl_nil ?_ | (refine otl_cons ?_; apply ot_v Try.tabOk) | skip) | (apply VK.mk; first | (refine otl_cons ?_; apply ot_v Try.tabOk) | apply ot_v Try.tabOk)); (conv => whnf))); try (first | apply VStop.mk | apply VCall.stop))
      refine tr_seqK ?_
      ((try first | apply tr_v Try.tabOk | apply ot_v Try.tabOk); (conv => whnf); (repeat ((first | (apply VLdN.mk; (focus ((repeat (first | (with_reducible apply ldn_blk) | (with_reducible apply ldn_row) | (with_reducible assumption) | (with_reducible apply ldn_skip))); done)); exact rfl) | (refine slist_and (by (repeat (first | exact List.nil_sublist _ | exact List.Sublist.refl _ | refine List.Sublist.cons_cons _ ?_ | refine List.Sublist.cons _ ?_))) ?_; first | refine otl_nil ?_ | (refine otl_cons ?_; apply ot_v Try.tabOk) | skip) | (apply VK.mk; first | (refine otl_cons ?_; apply ot_v Try.tabOk) | apply ot_v Try.tabOk)); (conv => whnf))); try (first | apply VStop.mk | apply VCall.stop))
      refine ot_call_st (X := Option Addr × Nat) (fun x => .tuple #[.slice x.1 rb.length x.2, .int .i64 0]) (fun x => [.own (.slice x.1 rb.length x.2) 3 1 rb.length (i64s rb)]) (fun x => mut_one rfl) (by decide) rfl rfl rfl (by kernel_rfl) (evl_of rfl) (fun w1 hs => (k36b _ w1 (by (repeat (first | exact List.nil_sublist _ | exact List.Sublist.refl _ | refine List.Sublist.cons_cons _ ?_ | refine List.Sublist.cons _ ?_))) hs).mono fun e w' h => h.slices) (fun y5 => ?_)
      dsimp only [List.cons_append, List.nil_append]
      apply ot_v Try.tabOk
      ((try first | apply tr_v Try.tabOk | apply ot_v Try.tabOk); (conv => whnf); (repeat ((first | (refine slist_and (by (repeat (first | exact List.nil_sublist _ | exact List.Sublist.refl _ | refine List.Sublist.cons_cons _ ?_ | refine List.Sublist.cons _ ?_))) ?_; first | refine otl_nil ?_ | (refine otl_cons ?_; apply ot_v Try.tabOk) | skip) | (apply VK.mk; first | (refine otl_cons ?_; apply ot_v Try.tabOk) | apply ot_v Try.tabOk)); (conv => whnf))); try (first | apply VStop.mk | apply VCall.stop))
      refine tr_seqK ?_
      ((try first | apply tr_v Try.tabOk | apply ot_v Try.tabOk); (conv => whnf); (repeat ((first | (apply VLdN.mk; (focus ((repeat (first | (with_reducible apply ldn_blk) | (with_reducible apply ldn_row) | (with_reducible assumption) | (with_reducible apply ldn_skip))); done)); exact rfl) | (refine slist_and (by (repeat (first | exact List.nil_sublist _ | exact List.Sublist.refl _ | refine List.Sublist.cons_cons _ ?_ | refine List.Sublist.cons _ ?_))) ?_; first | refine otl_nil ?_ | (refine otl_cons ?_; apply ot_v Try.tabOk) | skip) | (apply VK.mk; first | (refine otl_cons ?_; apply ot_v Try.tabOk) | apply ot_v Try.tabOk)); (conv => whnf))); try (first | apply VStop.mk | apply VCall.stop))
      refine ot_call_st (X := Option Addr × Nat) (fun x => .tuple #[.slice x.1 2 x.2, .int .i64 0]) (fun x => [.own (.slice x.1 2 x.2) 3 1 2 (i64s [0, 1])]) (fun x => mut_one rfl) (by decide) rfl rfl rfl (by kernel_rfl) (evl_of rfl) (fun w1 hs => (k38 _ w1 (by (repeat (first | exact List.nil_sublist _ | exact List.Sublist.refl _ | refine List.Sublist.cons_cons _ ?_ | refine List.Sublist.cons _ ?_))) hs).mono fun e w' h => h.slices) (fun y6 => ?_)
      dsimp only [List.cons_append, List.nil_append]
      apply ot_v Try.tabOk
      have kL : ∀ (a : List Int) {n : Nat}, a.length = n → n ≤ 100 → ∀ A' w1, St w A' w1 → ∀ B cB g, .own (.slice B n cB) 2 1 n (i64s a) ∈ A' → .blk g 2 (i64s a) ∈ A' → Calls Try.prog 29 #[.slice B n cB, .slice (some ⟨g, 0, none⟩) n n] w1 fun e w' => e = .returned (.bool true) ∧ Below w1.heap.size w1 w' := by
        rintro a _ rfl hn A' w1 hs B cB g h1 h2
        have := longs_eq_any B (some ⟨g, 0, none⟩) cB a.length a a w1 (hs.own_rd h1) (blk_long hs h2) (by omega) (by omega)
        rw [decide_eq_true rfl] at this
        exact this
      have kI : ∀ (a : List Int) {n : Nat}, a.length = n → n ≤ 100 → ∀ A' w1, St w A' w1 → ∀ B cB g, .own (.slice B n cB) 3 1 n (i64s a) ∈ A' → .blk g 3 (i64s a) ∈ A' → Calls Try.prog 40 #[.slice B n cB, .slice (some ⟨g, 0, none⟩) n n] w1 fun e w' => e = .returned (.bool true) ∧ Below w1.heap.size w1 w' := by
        rintro a _ rfl hn A' w1 hs B cB g h1 h2
        have := ints_eq_any B (some ⟨g, 0, none⟩) cB a.length a a w1 (hs.own_rd h1) (blk_long hs h2) (by omega) (by omega)
        rw [decide_eq_true rfl] at this
        exact this
      have l1 := kL [50, 41] (n := 2) rfl (by decide)
      have l2 := kL [0, 1, 3] (n := 3) rfl (by decide)
      have l3 := kL [52, 44] (n := 2) rfl (by decide)
      have l4 := kL [0, 3, 6] (n := 3) rfl (by decide)
      have l5 := kI [0, 1] (n := 2) rfl (by decide)
      have t1 := fun w1 => to_any 41 44 w1
      have t2 := fun w1 => to_any 6 10 w1
      ((try first | apply tr_v Try.tabOk | apply ot_v Try.tabOk); (conv => whnf); (repeat ((first | (refine slist_and (by (repeat (first | exact List.nil_sublist _ | exact List.Sublist.refl _ | refine List.Sublist.cons_cons _ ?_ | refine List.Sublist.cons _ ?_))) ?_; first | refine otl_nil ?_ | (refine otl_cons ?_; apply ot_v Try.tabOk) | skip) | (apply VK.mk; first | (refine otl_cons ?_; apply ot_v Try.tabOk) | apply ot_v Try.tabOk)); (conv => whnf))); try (first | apply VStop.mk | apply VCall.stop))
      ((try first | apply tr_v Try.tabOk | apply ot_v Try.tabOk); (conv => whnf); (repeat ((first | ((first | apply VStop.mk | apply VCall.stop); (first | refine tr_region_lex (id := 21) (by kernel_rfl) [.rd, .cr, .cr, .cr, .rd, .rd, .cr, .cr, .cr, .rd, .rd, .rd, .cr, .cr, .cr, .rd, .rd, .rd, .cr, .cr, .cr, .rd, .rd, .rd, .cr, .rd, .rd, .rd, .rd, .cr, .rd, .rd, .rd, .rd, .rd, .rd, .rd, .rd, .rd, .rd, .rd, .rd, .rd, .rd, .rd, .rd, .cr, .cr, .cr, .rd, .rd] rfl (by kernel_rfl) ?_); try first | apply ot_v Try.tabOk | apply tr_v Try.tabOk) | (apply VEq.mk true; kernel_rfl; first | exact rng_same 41 44 | exact rng_same 6 10) | (apply VCall.q; kernel_rfl; (focus (intro w1 hs; first | with_reducible apply k35 _ w1 (by (repeat (first | exact List.nil_sublist _ | exact List.Sublist.refl _ | refine List.Sublist.cons_cons _ ?_ | refine List.Sublist.cons _ ?_))) hs _ _ (hs.own_rd (by (repeat (first | with_unfolding_all exact List.Mem.head _ | assumption | with_unfolding_all refine List.Mem.tail _ ?_)))) | with_reducible apply longs_any _ w1 | with_reducible apply of_any _ w1 | with_reducible apply l1 _ w1 hs y1.1.1 y1.1.2 _ (by (repeat (first | with_unfolding_all exact List.Mem.head _ | assumption | with_unfolding_all refine List.Mem.tail _ ?_))) (by (repeat (first | with_unfolding_all exact List.Mem.head _ | assumption | with_unfolding_all refine List.Mem.tail _ ?_))) | with_reducible apply l2 _ w1 hs y1.2.1 y1.2.2 _ (by (repeat (first | with_unfolding_all exact List.Mem.head _ | assumption | with_unfolding_all refine List.Mem.tail _ ?_))) (by (repeat (first | with_unfolding_all exact List.Mem.head _ | assumption | with_unfolding_all refine List.Mem.tail _ ?_))) | with_reducible apply l3 _ w1 hs y2.1.1 y2.1.2 _ (by (repeat (first | with_unfolding_all exact List.Mem.head _ | assumption | with_unfolding_all refine List.Mem.tail _ ?_))) (by (repeat (first | with_unfolding_all exact List.Mem.head _ | assumption | with_unfolding_all refine List.Mem.tail _ ?_))) | with_reducible apply l4 _ w1 hs y2.2.1 y2.2.2 _ (by (repeat (first | with_unfolding_all exact List.Mem.head _ | assumption | with_unfolding_all refine List.Mem.tail _ ?_))) (by (repeat (first | with_unfolding_all exact List.Mem.head _ | assumption | with_unfolding_all refine List.Mem.tail _ ?_))) | with_reducible apply l5 _ w1 hs _ _ _ (by (repeat (first | with_unfolding_all exact List.Mem.head _ | assumption | with_unfolding_all refine List.Mem.tail _ ?_))) (by (repeat (first | with_unfolding_all exact List.Mem.head _ | assumption | with_unfolding_all refine List.Mem.tail _ ?_))) | with_reducible apply t1 w1 | with_reducible apply t2 w1))) | apply VBr.t | apply VBr.f | (apply v_t; omega) | (apply v_f; omega) | (apply VNew.mk; intro g hg) | (apply VLdN.mk; (focus ((repeat (first | (with_reducible apply ldn_blk) | (with_reducible apply ldn_row) | (with_reducible assumption) | (with_reducible apply ldn_skip))); done)); exact rfl) | (refine slist_and (by (repeat (first | exact List.nil_sublist _ | exact List.Sublist.refl _ | refine List.Sublist.cons_cons _ ?_ | refine List.Sublist.cons _ ?_))) ?_; first | refine otl_nil ?_ | (refine otl_cons ?_; apply ot_v Try.tabOk) | skip) | (apply VK.mk; first | (refine otl_cons ?_; apply ot_v Try.tabOk) | apply ot_v Try.tabOk)); (conv => whnf))); try (first | apply VStop.mk | apply VCall.stop))
      (apply VRet.mk)
      refine ret1 (by first | exact .inl rfl | exact .inr rfl) rfl (by exact rv_tmp rfl) ?_
      exact fun w h => ⟨rfl, h.base⟩
end Go.Proofs.Ytkbcogaodnmdoaa
