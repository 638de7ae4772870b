/- TasteReached: plain: lemmas for the rows of this seat. No conditions. -/
import Derived.Test.YtkbcogaodnmdoaaProg
import Derived.WalkKit
import Derived.WalkSpells
import Derived.WalkLawsBesides
import Derived.Lib.Hide
import Derived.Deep.AppendLies
import Derived.Deep.Draws
import Derived.Maps.AppendAt
import Derived.RegionTactic
import Derived.OwnWalk
import Derived.Deep.QuietTactic
import Derived.BigQuiet
import Derived.Deep.DeepFit
import Derived.Deep.LoopGhost
import Derived.Deep.DeepMust
import Derived.Deep.DeepCutAuto
import Derived.StillTail
import Derived.Deep.Quiet
import Derived.Deep.RegionHeld3
import Derived.Deep.RegionWith
import Derived.Deep.RegionLaw
import Derived.Maps.OwnOps
import Derived.Maps.OwnSet
import Derived.Maps.OwnRows
import Derived.Maps.RangeWalk
import Derived.Carry
import Derived.Test.YtkbcogaodnmdoaaBase
import Derived.Test.YtkbcogaodnmdoaaMaps
import Derived.Test.YtkbcogaodnmdoaaKeys
import Derived.Test.YtkbcogaodnmdoaaS1
import Derived.Test.YtkbcogaodnmdoaaS5
import Derived.Test.YtkbcogaodnmdoaaS12
import Derived.Test.YtkbcogaodnmdoaaS14
import Derived.Test.YtkbcogaodnmdoaaV
import Derived.Test.YtkbcogaodnmdoaaV2
import Derived.Test.YtkbcogaodnmdoaaV3
import Derived.Test.YtkbcogaodnmdoaaV4
import Derived.Test.YtkbcogaodnmdoaaV5
import Derived.Test.YtkbcogaodnmdoaaV6
import Derived.Test.YtkbcogaodnmdoaaTab
import Derived.Test.YtkbcogaodnmdoaaE1
import Derived.Test.YtkbcogaodnmdoaaE2
import Derived.Test.YtkbcogaodnmdoaaE3
import Derived.Test.YtkbcogaodnmdoaaE4
import Derived.Test.YtkbcogaodnmdoaaE5
import Derived.Test.YtkbcogaodnmdoaaE6
import Derived.Test.YtkbcogaodnmdoaaE7
import Derived.Test.YtkbcogaodnmdoaaE8
import Derived.Test.YtkbcogaodnmdoaaE9
import Derived.Test.YtkbcogaodnmdoaaE10
import Derived.Test.YtkbcogaodnmdoaaE11
import Derived.Test.YtkbcogaodnmdoaaE12
import Derived.Test.YtkbcogaodnmdoaaE13
import Derived.Test.YtkbcogaodnmdoaaE14
import Derived.Test.YtkbcogaodnmdoaaE15
import Derived.Test.YtkbcogaodnmdoaaE16
import Derived.Test.YtkbcogaodnmdoaaE17
import Derived.Test.YtkbcogaodnmdoaaE18
import Derived.Test.YtkbcogaodnmdoaaE19
import Derived.Test.YtkbcogaodnmdoaaE20
import Derived.Test.YtkbcogaodnmdoaaE21
import Derived.Test.YtkbcogaodnmdoaaE22
import Derived.Test.YtkbcogaodnmdoaaE23
import Derived.Test.YtkbcogaodnmdoaaE24
import Derived.Test.YtkbcogaodnmdoaaE25
import Derived.Test.YtkbcogaodnmdoaaE26
import Derived.Test.YtkbcogaodnmdoaaE27
import Derived.Test.YtkbcogaodnmdoaaE28
import Derived.Test.YtkbcogaodnmdoaaE29
import Derived.Test.YtkbcogaodnmdoaaE30
import Derived.Test.YtkbcogaodnmdoaaE31
import Derived.Test.YtkbcogaodnmdoaaE32
import Derived.Test.YtkbcogaodnmdoaaE33
set_option linter.all false
namespace Go.Proofs.Ytkbcogaodnmdoaa
open Go.RowKit
/-! ## TasteReached: plain -/
section
variable {rlo rhi : Int} {L : Nat} {S : List (List T3)}
/-- One more sitting, of one taste. -/
theorem app_at {s : List T3} {j : Nat} (hj : j < S.length) : (S ++ [s])[j]'(by rw [List.length_append]; omega) = S[j] := List.getElem_append_left hj
theorem app_last {s : List T3} : (S ++ [s])[S.length]'(by simp) = s := by simp
theorem app_sub {s : List T3} {sh : Nat → Int} {ti : Nat → Nat → Int} (h : TruthA rlo rhi L (S ++ [s]) sh ti) : TruthA rlo rhi L S sh ti := by
  have hl : ∀ {j}, j < S.length → j < (S ++ [s]).length := fun hj => by rw [List.length_append]; omega
  refine ⟨h.sharp, fun j hj => h.first j (hl hj), fun j hj k hk => h.next j (hl hj) k (by rw [app_at hj]; exact hk), fun j hj k hk _ => ?_⟩
  have := h.said j (hl hj) k (by rw [app_at hj]; exact hk) id
  simp only [app_at hj] at this
  exact this
theorem app_said {i : Nat} {lo hi : Int} {sh : Nat → Int} {ti : Nat → Nat → Int} (h : TruthA rlo rhi L (S ++ [[((i : Int), lo, hi)]]) sh ti) : lo ≤ sh i ∧ sh i ≤ hi := by
  have hl : S.length < (S ++ [[((i : Int), lo, hi)]]).length := by simp
  have h1 := h.first S.length hl
  have h2 := h.said S.length hl 0 (by rw [app_last]; exact Nat.one_pos) id
  simp only [app_last, List.getElem_cons_zero, Int.toNat_natCast] at h2
  omega
theorem app_ext {i : Nat} {lo hi : Int} {sh : Nat → Int} {ti : Nat → Nat → Int} (h : TruthA rlo rhi L S sh ti) (h1 : lo ≤ sh i) (h2 : sh i ≤ hi) : TruthA rlo rhi L (S ++ [[((i : Int), lo, hi)]]) sh (fun j k => if j < S.length then ti j k else 0) := by
  refine ⟨h.sharp, fun j hj => ?_, fun j hj k hk => ?_, fun j hj k hk _ => ?_⟩
  · by_cases e : j < S.length
    · rw [if_pos e]; exact h.first j e
    · rw [if_neg e]
  · by_cases e : j < S.length
    · rw [app_at e] at hk
      rw [if_pos e, if_pos e]; exact h.next j e k hk
    · have hjl : j = S.length := by rw [List.length_append, List.length_singleton] at hj; omega
      subst hjl
      rw [app_last] at hk
      simp at hk
  · by_cases e : j < S.length
    · simp only [app_at e] at hk ⊢
      rw [if_pos e]; exact h.said j e k hk id
    · have hjl : j = S.length := by rw [List.length_append, List.length_singleton] at hj; omega
      subst hjl
      simp only [app_last] at hk ⊢
      obtain rfl : k = 0 := by simpa using hk
      rw [if_neg e]
      simp only [List.getElem_cons_zero, Int.toNat_natCast]
      omega
variable (hO : Okb rlo rhi L S)
include hO
theorem Okb.app {i : Nat} {lo hi : Int} (h1 : S.length < 4) (h2 : S.flatten.length < 12) (hi' : i < L) (h3 : -1000 ≤ lo) (h4 : lo ≤ hi) (h5 : hi ≤ 1000) : Okb rlo rhi L (S ++ [[((i : Int), lo, hi)]]) := by
  refine ⟨hO.r, hO.l, by rw [List.length_append, List.length_singleton]; omega, by rw [List.flatten_append, List.flatten_singleton, List.length_append, List.length_singleton]; omega, fun s hs => ?_, fun x hx => ?_⟩
  · rcases List.mem_append.1 hs with h | h
    · exact hO.ne s h
    · rw [List.mem_singleton] at h; subst h; simp
  · rw [List.flatten_append, List.flatten_singleton, List.mem_append] at hx
    rcases hx with h | h
    · exact hO.x x h
    · rw [List.mem_singleton] at h; subst h
      dsimp only
      omega
theorem reach_no {i : Nat} {lo hi : Int} (hO' : Okb rlo rhi L (S ++ [[((i : Int), lo, hi)]])) (hi' : i < L) (h : hi < loS rlo rhi L S i ∨ hiS rlo rhi L S i < lo) : canB rlo rhi L (S ++ [[((i : Int), lo, hi)]]) (-1) = false := by
  cases hc : canB rlo rhi L (S ++ [[((i : Int), lo, hi)]]) (-1) with
  | false => rfl
  | true =>
    obtain ⟨sh, ti, ht⟩ := (can_truth hO').1 hc
    have h1 := app_said ht
    have h2 := span_holds hO (app_sub ht) hi'
    omega
theorem reach_yes {i : Nat} {n : Int} (hO' : Okb rlo rhi L (S ++ [[((i : Int), n, n)]])) (hc : canB rlo rhi L S (-1) = true) (hi : i < L) (h1 : loS rlo rhi L S i ≤ n) (h2 : n ≤ hiS rlo rhi L S i) :
    canB rlo rhi L (S ++ [[((i : Int), n, n)]]) (-1) = true ∧ loS rlo rhi L (S ++ [[((i : Int), n, n)]]) i = n ∧ hiS rlo rhi L (S ++ [[((i : Int), n, n)]]) i = n ∧ withinR (spansP rlo rhi L (S ++ [[((i : Int), n, n)]])) (spansP rlo rhi L S) = true := by
  obtain ⟨sh, ti, ht, he⟩ := span_had hO hc hi h1 h2
  have hc' : canB rlo rhi L (S ++ [[((i : Int), n, n)]]) (-1) = true := (can_truth hO').2 ⟨_, _, app_ext ht (by omega) (by omega)⟩
  have hb := span_bounds hO' hc' hi
  obtain ⟨s1, t1, g1, e1⟩ := span_had hO' hc' hi (Int.le_refl _) hb.2.1
  obtain ⟨s2, t2, g2, e2⟩ := span_had hO' hc' hi hb.2.1 (Int.le_refl _)
  have a1 := app_said g1
  have a2 := app_said g2
  refine ⟨hc', by omega, by omega, ?_⟩
  have := less_true hO hO' fun sh ti h => ⟨ti, app_sub h⟩
  rw [hc', hc] at this
  simpa using this
end
/-! ## TasteReached -/
/- appended -/
theorem set_last {α : Type} (l : List α) (v v' : α) {n : Nat} (h : l.length = n) : (l ++ [v]).set n v' = l ++ [v'] := by
  subst h; simp
theorem nest_app {w0 w : World} {A : List Chunk} (hs : St w0 A w) {ys : List SitX} {S : List (List T3)} (hl : ys.length = S.length) {s : List T3} {Bo B1 : Option Addr} {co c1 n : Nat} (hn : s.length = n) (h : .own (.slice Bo (S.length + 1) co) 55 1 (S.length + 1) (sitVs ys S ++ [.slice B1 n c1]) ∈ A) (h1 : .own (.slice B1 n c1) 67 3 n (saidCells s) ∈ A) (hR : ∀ d ∈ sitCh ys S, d ∈ A) : NestR w 3 Bo (nestOf (S ++ [s])) := by
  subst hn
  refine hs.nestO (xs := ys ++ [(B1, c1)]) (c := co) (by rw [List.length_append, List.length_append, hl]; rfl) ?_ fun d hd => ?_
  · rw [List.length_append, sitVs_snoc hl]; exact h
  · rw [sitCh_snoc hl] at hd
    rcases List.mem_append.1 hd with hd | hd
    · exact hR d hd
    · rw [List.mem_singleton] at hd; subst hd; exact h1
theorem sit1_any {w w1 : World} {A : List Chunk} {g : Nat} (i a b : Int) (hs : St w (.blk g 3 [.int .i64 i, .int .i64 a, .int .i64 b] :: A) w1) : Calls Try.prog 47 #[.slice (some ⟨g, 0, none⟩) 3 3] w1 (OwnRet 67 3 1 (saidCells [(i, a, b)]) w1) := by
  have h := sitting_any (some ⟨g, 0, none⟩) 3 [i, a, b] w1 (hs.blk_reads (.head _) rfl) (by simp)
  have e : sitP [i, a, b] = [(i, a, b)] := by simp [sitP, sitF, iAt]
  rw [e] at h
  exact h
section
variable (rlo rhi lots : Int) (Al : Option Addr) (c : Nat) (S : List (List T3)) (w : World) (hN : NestR w 3 Al (nestOf S)) (hm : ∀ s ∈ S, s.length ≤ maxLen)
include hN hm
set_option maxHeartbeats 4000000 in
set_option maxRecDepth 20000 in
theorem tasteReached_any (which at_ : Int) (h1 : 0 ≤ which ∧ which ≤ 255) (h2 : 0 ≤ at_ ∧ at_ ≤ 65535) : Calls Try.prog 10 #[bookV rlo rhi lots Al S.length c, .int .u8 which, .int .u16 at_] w fun e w' => e = .returned (.bool true) ∧ Below w.heap.size w w' := by
  have hfn := fun w1 (h : NestR w1 3 Al (nestOf S)) => fineG_any rlo rhi lots Al c S w1 h hm
  have hwk := fun w1 => works_any w1
  by_cases h0 : chkBook rlo rhi lots S = 0
  rotate_left
  · rw [decide_eq_false h0] at hfn
    unfold bookV at *
    refine fn_v Try.tabOk (n := 180) (A := []) Try.func10 rfl rfl (Nat.le_of_ble_eq_true rfl) (St.nil (Below.refl _ _)) ?_
    ((try first | apply tr_v Try.tabOk | apply ot_v Try.tabOk); (conv => whnf); (repeat ((first | (apply VCall.q; kernel_rfl; (focus (intro w1 hs; first | with_reducible apply hfn w1 (hs.nest hN) | with_reducible apply hwk w1))) | apply VBr.t | (apply VNew.mk; intro g hg) | (apply VLdN.mk; (focus ((repeat (first | (with_reducible apply ldn_blk) | (with_reducible apply ldn_row) | (with_reducible assumption) | (with_reducible apply ldn_skip))); done)); exact rfl) | (refine slist_and (by (repeat (first | exact List.nil_sublist _ | exact List.Sublist.refl _ | refine List.Sublist.cons_cons _ ?_ | refine List.Sublist.cons _ ?_ | (with_reducible refine List.Sublist.trans ?_ (List.sublist_append_right _ _))))) ?_; first | refine otl_nil ?_ | (refine otl_cons ?_; apply ot_v Try.tabOk) | skip) | (apply VK.mk; first | (refine otl_cons ?_; apply ot_v Try.tabOk) | apply ot_v Try.tabOk)); (conv => whnf))); try (first | apply VStop.mk | apply VCall.stop))
    ((apply VRet.mk); refine ret1 (by first | exact .inl rfl | exact .inr rfl) rfl (by exact rv_tmp rfl) ?_; exact fun w h => ⟨rfl, h.base⟩)
  rw [decide_eq_true h0] at hfn
  have hO := chk_ok.1 h0
  obtain ⟨L, rfl⟩ : ∃ L : Nat, lots = L := ⟨lots.toNat, by have := hO.l; omega⟩
  have hn4 := hO.n
  have ht12 := hO.t
  by_cases hS : 4 ≤ S.length
  · clear hO
    unfold bookV at *
    refine fn_v Try.tabOk (n := 180) (A := []) Try.func10 rfl rfl (Nat.le_of_ble_eq_true rfl) (St.nil (Below.refl _ _)) ?_
    ((try first | apply tr_v Try.tabOk | apply ot_v Try.tabOk); (conv => whnf); (repeat ((first | (apply VCall.q; kernel_rfl; (focus (intro w1 hs; first | with_reducible apply hfn w1 (hs.nest hN) | with_reducible apply hwk w1))) | (apply VLd.mk; (focus ((repeat (first | ((with_reducible apply ld_blk); exact rfl) | ((with_reducible apply ld_row); exact rfl) | ((with_reducible apply ld_row0); exact rfl) | (with_reducible assumption) | (with_reducible exact CellAt.base (by assumption)) | (with_reducible apply ld_skip))); done))) | apply VBr.t | apply VBr.f | (apply v_t; omega) | (apply VNew.mk; intro g hg) | (apply VLdN.mk; (focus ((repeat (first | (with_reducible apply ldn_blk) | (with_reducible apply ldn_row) | (with_reducible assumption) | (with_reducible apply ldn_skip))); done)); exact rfl) | (refine slist_and (by (repeat (first | exact List.nil_sublist _ | exact List.Sublist.refl _ | refine List.Sublist.cons_cons _ ?_ | refine List.Sublist.cons _ ?_ | (with_reducible refine List.Sublist.trans ?_ (List.sublist_append_right _ _))))) ?_; first | refine otl_nil ?_ | (refine otl_cons ?_; apply ot_v Try.tabOk) | skip) | (apply VK.mk; first | (refine otl_cons ?_; apply ot_v Try.tabOk) | apply ot_v Try.tabOk)); (conv => whnf))); try (first | apply VStop.mk | apply VCall.stop))
    ((apply VRet.mk); refine ret1 (by first | exact .inl rfl | exact .inr rfl) rfl (by exact rv_tmp rfl) ?_; exact fun w h => ⟨rfl, h.base⟩)
  have hta := fun w1 (h : NestR w1 3 Al (nestOf S)) => tastes_any rlo rhi L Al c S w1 h hO.fit
  by_cases hT : 12 ≤ S.flatten.length
  · clear hO
    unfold bookV at *
    refine fn_v Try.tabOk (n := 180) (A := []) Try.func10 rfl rfl (Nat.le_of_ble_eq_true rfl) (St.nil (Below.refl _ _)) ?_
    ((try first | apply tr_v Try.tabOk | apply ot_v Try.tabOk); (conv => whnf); (repeat ((first | (apply VCall.q; kernel_rfl; (focus (intro w1 hs; first | with_reducible apply hfn w1 (hs.nest hN)))) | (apply VLd.mk; (focus ((repeat (first | ((with_reducible apply ld_blk); exact rfl) | ((with_reducible apply ld_row); exact rfl) | ((with_reducible apply ld_row0); exact rfl) | (with_reducible assumption) | (with_reducible exact CellAt.base (by assumption)) | (with_reducible apply ld_skip))); done))) | apply VBr.f | (apply v_f; omega) | (apply VNew.mk; intro g hg) | (apply VLdN.mk; (focus ((repeat (first | (with_reducible apply ldn_blk) | (with_reducible apply ldn_row) | (with_reducible assumption) | (with_reducible apply ldn_skip))); done)); exact rfl) | (refine slist_and (by (repeat (first | exact List.nil_sublist _ | exact List.Sublist.refl _ | refine List.Sublist.cons_cons _ ?_ | refine List.Sublist.cons _ ?_ | (with_reducible refine List.Sublist.trans ?_ (List.sublist_append_right _ _))))) ?_; first | refine otl_nil ?_ | (refine otl_cons ?_; apply ot_v Try.tabOk) | skip) | (apply VK.mk; first | (refine otl_cons ?_; apply ot_v Try.tabOk) | apply ot_v Try.tabOk)); (conv => whnf))); try (first | apply VStop.mk | apply VCall.stop))
    refine ot_call_ownS (t := 67) (sz := 3) (m := S.flatten.length) (xs := saidCells S.flatten) (by decide) rfl rfl rfl (by kernel_rfl) (evl_of rfl) (fun w1 hs => hta w1 (hs.nest hN)) (fun B c _ => ?_)
    apply ot_v Try.tabOk
    ((try first | apply tr_v Try.tabOk | apply ot_v Try.tabOk); (conv => whnf); (repeat ((first | (apply VCall.q; kernel_rfl; (focus (intro w1 hs; first | with_reducible apply hwk w1))) | apply VBr.t | apply VBr.f | (apply v_t; omega) | (refine slist_and (by (repeat (first | exact List.nil_sublist _ | exact List.Sublist.refl _ | refine List.Sublist.cons_cons _ ?_ | refine List.Sublist.cons _ ?_ | (with_reducible refine List.Sublist.trans ?_ (List.sublist_append_right _ _))))) ?_; first | refine otl_nil ?_ | (refine otl_cons ?_; apply ot_v Try.tabOk) | skip) | (apply VK.mk; first | (refine otl_cons ?_; apply ot_v Try.tabOk) | apply ot_v Try.tabOk)); (conv => whnf))); try (first | apply VStop.mk | apply VCall.stop))
    ((apply VRet.mk); refine ret1 (by first | exact .inl rfl | exact .inr rfl) rfl (by exact rv_tmp rfl) ?_; exact fun w h => ⟨rfl, h.base⟩)
  have hsp := fun w1 (h : NestR w1 3 Al (nestOf S)) => spans_any rlo rhi L Al c S w1 h hO
  have hn := spansP_len rlo rhi L S
  have hl := hO.l
  obtain ⟨i, hi⟩ : ∃ i, i = which.toNat % L := ⟨_, rfl⟩
  have hiL : i < L := by rw [hi]; exact Nat.mod_lt _ (by omega)
  have ei : Int.tmod which (L : Int) = i := by rw [tmod_nat which L h1.1, hi]
  clear hi
  cases hc : canB rlo rhi L S (-1) with
  | false =>
    rw [hc] at hsp
    clear hO
    unfold bookV at *
    generalize spansP rlo rhi L S = sp at *
    refine fn_v Try.tabOk (n := 180) (A := []) Try.func10 rfl rfl (Nat.le_of_ble_eq_true rfl) (St.nil (Below.refl _ _)) ?_
    ((try first | apply tr_v Try.tabOk | apply ot_v Try.tabOk); (conv => whnf); (repeat ((first | (apply VCall.q; kernel_rfl; (focus (intro w1 hs; first | with_reducible apply hfn w1 (hs.nest hN)))) | (apply VLd.mk; (focus ((repeat (first | ((with_reducible apply ld_blk); exact rfl) | ((with_reducible apply ld_row); exact rfl) | ((with_reducible apply ld_row0); exact rfl) | (with_reducible assumption) | (with_reducible exact CellAt.base (by assumption)) | (with_reducible apply ld_skip))); done))) | apply VBr.f | (apply v_f; omega) | (apply VNew.mk; intro g hg) | (apply VLdN.mk; (focus ((repeat (first | (with_reducible apply ldn_blk) | (with_reducible apply ldn_row) | (with_reducible assumption) | (with_reducible apply ldn_skip))); done)); exact rfl) | (refine slist_and (by (repeat (first | exact List.nil_sublist _ | exact List.Sublist.refl _ | refine List.Sublist.cons_cons _ ?_ | refine List.Sublist.cons _ ?_ | (with_reducible refine List.Sublist.trans ?_ (List.sublist_append_right _ _))))) ?_; first | refine otl_nil ?_ | (refine otl_cons ?_; apply ot_v Try.tabOk) | skip) | (apply VK.mk; first | (refine otl_cons ?_; apply ot_v Try.tabOk) | apply ot_v Try.tabOk)); (conv => whnf))); try (first | apply VStop.mk | apply VCall.stop))
    refine ot_call_ownS (t := 67) (sz := 3) (m := S.flatten.length) (xs := saidCells S.flatten) (by decide) rfl rfl rfl (by kernel_rfl) (evl_of rfl) (fun w1 hs => hta w1 (hs.nest hN)) (fun B c _ => ?_)
    apply ot_v Try.tabOk
    ((try first | apply tr_v Try.tabOk | apply ot_v Try.tabOk); (conv => whnf); (repeat ((first | (apply VLd.mk; (focus ((repeat (first | ((with_reducible apply ld_blk); exact rfl) | ((with_reducible apply ld_row); exact rfl) | ((with_reducible apply ld_row0); exact rfl) | (with_reducible assumption) | (with_reducible exact CellAt.base (by assumption)) | (with_reducible apply ld_skip))); done))) | apply VBr.f | (apply v_f; omega) | (apply VLdN.mk; (focus ((repeat (first | (with_reducible apply ldn_blk) | (with_reducible apply ldn_row) | (with_reducible assumption) | (with_reducible apply ldn_skip))); done)); exact rfl) | (apply v_wr64; omega) | (apply VNz.mk; omega) | (refine slist_and (by (repeat (first | exact List.nil_sublist _ | exact List.Sublist.refl _ | refine List.Sublist.cons_cons _ ?_ | refine List.Sublist.cons _ ?_ | (with_reducible refine List.Sublist.trans ?_ (List.sublist_append_right _ _))))) ?_; first | refine otl_nil ?_ | (refine otl_cons ?_; apply ot_v Try.tabOk) | skip) | (apply VK.mk; first | (refine otl_cons ?_; apply ot_v Try.tabOk) | apply ot_v Try.tabOk)); (conv => whnf))); try (first | apply VStop.mk | apply VCall.stop))
    rw [ei]
    ((try first | apply tr_v Try.tabOk | apply ot_v Try.tabOk); (conv => whnf); (repeat ((first | (refine slist_and (by (repeat (first | exact List.nil_sublist _ | exact List.Sublist.refl _ | refine List.Sublist.cons_cons _ ?_ | refine List.Sublist.cons _ ?_ | (with_reducible refine List.Sublist.trans ?_ (List.sublist_append_right _ _))))) ?_; first | refine otl_nil ?_ | (refine otl_cons ?_; apply ot_v Try.tabOk) | skip) | (apply VK.mk; first | (refine otl_cons ?_; apply ot_v Try.tabOk) | apply ot_v Try.tabOk)); (conv => whnf))); try (first | apply VStop.mk | apply VCall.stop))
    refine ot_call_st (X := Option Addr × Nat) (fun x => .tuple #[.slice x.1 sp.length x.2, .bool false, .bool true]) (fun x => [.own (.slice x.1 sp.length x.2) 23 2 sp.length (rngCells sp)]) (fun x => mut_one rfl) (by decide) rfl rfl rfl (by kernel_rfl) (evl_of rfl) (fun w1 hs => hsp w1 (hs.nest hN)) (fun y => ?_)
    dsimp only [List.cons_append, List.nil_append]
    apply ot_v Try.tabOk
    ((try first | apply tr_v Try.tabOk | apply ot_v Try.tabOk); (conv => whnf); (repeat ((first | (apply VCall.q; kernel_rfl; (focus (intro w1 hs; first | with_reducible apply hwk w1))) | apply VBr.t | apply VBr.f | (refine slist_and (by (repeat (first | exact List.nil_sublist _ | exact List.Sublist.refl _ | refine List.Sublist.cons_cons _ ?_ | refine List.Sublist.cons _ ?_ | (with_reducible refine List.Sublist.trans ?_ (List.sublist_append_right _ _))))) ?_; first | refine otl_nil ?_ | (refine otl_cons ?_; apply ot_v Try.tabOk) | skip) | (apply VK.mk; first | (refine otl_cons ?_; apply ot_v Try.tabOk) | apply ot_v Try.tabOk)); (conv => whnf))); try (first | apply VStop.mk | apply VCall.stop))
    ((apply VRet.mk); refine ret1 (by first | exact .inl rfl | exact .inr rfl) rfl (by exact rv_tmp rfl) ?_; exact fun w h => ⟨rfl, h.base⟩)
  | true =>
    rw [hc] at hsp
    have hsl := spansP_yes hO hc
    have hat := spansP_at hO hc hiL
    have hbd := span_bounds hO hc hiL
    have hsm := fun w1 (h : NestR w1 3 Al (nestOf S)) => same_any rlo rhi L Al c S w1 h hO.fit
    have hto := fun a b w1 => to_any a b w1
    have hO' := fun lo hi h3 h4 h5 => hO.app (lo := lo) (hi := hi) (by omega) (by omega) hiL h3 h4 h5
    have hno := fun lo hi hq h => reach_no hO (i := i) (lo := lo) (hi := hi) hq hiL h
    have hyes := fun n hq h3 h4 => reach_yes hO (i := i) (n := n) hq hc hiL h3 h4
    clear hO
    generalize hlo : loS rlo rhi L S i = lo at *
    generalize hhi : hiS rlo rhi L S i = hi at *
    have hnum := narrow_num (a := at_) (m := hi - lo + 1) h2.1 (by omega)
    unfold bookV at hfn hsp hta hsm
    have o1 : ∀ {b cap : Nat} {A : List Chunk}, Chunk.own (.slice (some ⟨b, 0, none⟩) (spansP rlo rhi L S).length cap) 23 2 (spansP rlo rhi L S).length (rngCells (spansP rlo rhi L S)) ∈ A → CellAt w A b (0 + i * 2 + 0) (.int .i64 lo) ∧ CellAt w A b (0 + i * 2 + 1) (.int .i64 hi) := fun h => by
      have := own_rng (w0 := w) h (show i < (spansP rlo rhi L S).length by omega)
      rw [hat] at this
      exact this
    unfold bookV
    refine fn_v Try.tabOk (n := 180) (A := []) Try.func10 rfl rfl (Nat.le_of_ble_eq_true rfl) (St.nil (Below.refl _ _)) ?_
    ((try first | apply tr_v Try.tabOk | apply ot_v Try.tabOk); (conv => whnf); (repeat ((first | (apply VCall.q; kernel_rfl; (focus (intro w1 hs; first | with_reducible apply hfn w1 (hs.nest hN)))) | (apply VLd.mk; (focus ((repeat (first | ((with_reducible apply ld_blk); exact rfl) | ((with_reducible apply ld_row); exact rfl) | ((with_reducible apply ld_row0); exact rfl) | (with_reducible assumption) | (with_reducible exact CellAt.base (by assumption)) | (with_reducible apply ld_skip))); done))) | apply VBr.f | (apply v_f; omega) | (apply VNew.mk; intro g hg) | (apply VLdN.mk; (focus ((repeat (first | (with_reducible apply ldn_blk) | (with_reducible apply ldn_row) | (with_reducible assumption) | (with_reducible apply ldn_skip))); done)); exact rfl) | (refine slist_and (by (repeat (first | exact List.nil_sublist _ | exact List.Sublist.refl _ | refine List.Sublist.cons_cons _ ?_ | refine List.Sublist.cons _ ?_ | (with_reducible refine List.Sublist.trans ?_ (List.sublist_append_right _ _))))) ?_; first | refine otl_nil ?_ | (refine otl_cons ?_; apply ot_v Try.tabOk) | skip) | (apply VK.mk; first | (refine otl_cons ?_; apply ot_v Try.tabOk) | apply ot_v Try.tabOk)); (conv => whnf))); try (first | apply VStop.mk | apply VCall.stop))
    refine ot_call_ownS (t := 67) (sz := 3) (m := S.flatten.length) (xs := saidCells S.flatten) (by decide) rfl rfl rfl (by kernel_rfl) (evl_of rfl) (fun w1 hs => hta w1 (hs.nest hN)) (fun B c _ => ?_)
    apply ot_v Try.tabOk
    ((try first | apply tr_v Try.tabOk | apply ot_v Try.tabOk); (conv => whnf); (repeat ((first | (apply VLd.mk; (focus ((repeat (first | ((with_reducible apply ld_blk); exact rfl) | ((with_reducible apply ld_row); exact rfl) | ((with_reducible apply ld_row0); exact rfl) | (with_reducible assumption) | (with_reducible exact CellAt.base (by assumption)) | (with_reducible apply ld_skip))); done))) | apply VBr.f | (apply v_f; omega) | (apply VLdN.mk; (focus ((repeat (first | (with_reducible apply ldn_blk) | (with_reducible apply ldn_row) | (with_reducible assumption) | (with_reducible apply ldn_skip))); done)); exact rfl) | (apply v_wr64; omega) | (apply VNz.mk; omega) | (refine slist_and (by (repeat (first | exact List.nil_sublist _ | exact List.Sublist.refl _ | refine List.Sublist.cons_cons _ ?_ | refine List.Sublist.cons _ ?_ | (with_reducible refine List.Sublist.trans ?_ (List.sublist_append_right _ _))))) ?_; first | refine otl_nil ?_ | (refine otl_cons ?_; apply ot_v Try.tabOk) | skip) | (apply VK.mk; first | (refine otl_cons ?_; apply ot_v Try.tabOk) | apply ot_v Try.tabOk)); (conv => whnf))); try (first | apply VStop.mk | apply VCall.stop))
    rw [ei]
    ((try first | apply tr_v Try.tabOk | apply ot_v Try.tabOk); (conv => whnf); (repeat ((first | (refine slist_and (by (repeat (first | exact List.nil_sublist _ | exact List.Sublist.refl _ | refine List.Sublist.cons_cons _ ?_ | refine List.Sublist.cons _ ?_ | (with_reducible refine List.Sublist.trans ?_ (List.sublist_append_right _ _))))) ?_; first | refine otl_nil ?_ | (refine otl_cons ?_; apply ot_v Try.tabOk) | skip) | (apply VK.mk; first | (refine otl_cons ?_; apply ot_v Try.tabOk) | apply ot_v Try.tabOk)); (conv => whnf))); try (first | apply VStop.mk | apply VCall.stop))
    refine ot_call_st (X := Option Addr × Nat) (fun x => .tuple #[.slice x.1 (spansP rlo rhi L S).length x.2, .bool true, .bool true]) (fun x => [.own (.slice x.1 (spansP rlo rhi L S).length x.2) 23 2 (spansP rlo rhi L S).length (rngCells (spansP rlo rhi L S))]) (fun x => mut_one rfl) (by decide) rfl rfl rfl (by kernel_rfl) (evl_of rfl) (fun w1 hs => hsp w1 (hs.nest hN)) (fun y => ?_)
    obtain ⟨yB, yc⟩ := y
    dsimp only [List.cons_append, List.nil_append]
    refine ot_fact (p := ∃ b, yB = some ⟨b, 0, none⟩) rfl (fun w' hs => ?_) fun hy => ?_
    · obtain ⟨B, cp, e, hB⟩ := own_form (hs.all _ (.head _))
      cases e
      exact hB (by omega)
    obtain ⟨yb, rfl⟩ := hy
    apply ot_v Try.tabOk
    ((try first | apply tr_v Try.tabOk | apply ot_v Try.tabOk); (conv => whnf); (repeat ((first | ((first | apply VStop.mk | apply VCall.stop); (first | refine tr_region_lex (id := 9) (by kernel_rfl) [.rd, .rd, .rd, .rd, .rd, .rd, .rd, .rd, .rd, .rd, .rd, .rd, .rd, .rd, .rd, .rd, .rd, .rd, .rd, .rd, .rd, .rd] rfl (by kernel_rfl) ?_); try first | apply ot_v Try.tabOk | apply tr_v Try.tabOk) | (apply VIx.mk (j := i); exact rfl; omega) | (apply VLd.mk; first | exact (o1 (by (repeat (first | with_unfolding_all exact List.Mem.head _ | assumption | with_unfolding_all refine List.Mem.tail _ ?_)))).1 | exact (o1 (by (repeat (first | with_unfolding_all exact List.Mem.head _ | assumption | with_unfolding_all refine List.Mem.tail _ ?_)))).2) | (apply VRng.mk; omega) | apply VBr.f | (apply VLdN.mk; (focus ((repeat (first | (with_reducible apply ldn_blk) | (with_reducible apply ldn_row) | (with_reducible assumption) | (with_reducible apply ldn_skip))); done)); exact rfl) | (apply v_wr64; omega) | (apply VNz.mk; omega) | (refine slist_and (by (repeat (first | exact List.nil_sublist _ | exact List.Sublist.refl _ | refine List.Sublist.cons_cons _ ?_ | refine List.Sublist.cons _ ?_ | (with_reducible refine List.Sublist.trans ?_ (List.sublist_append_right _ _))))) ?_; first | refine otl_nil ?_ | (refine otl_cons ?_; apply ot_v Try.tabOk) | skip) | (apply VK.mk; first | (refine otl_cons ?_; apply ot_v Try.tabOk) | apply ot_v Try.tabOk)); (conv => whnf))); try (first | apply VStop.mk | apply VCall.stop))
    generalize hd : Int.tmod at_ (hi - lo + 1) = d at *
    refine ot_call_st (X := NestX S.length) (fun x => bookV rlo rhi L x.1.1 S.length x.1.2) (fun x => nestCh S x) (nestCh_mut S) (by decide) rfl rfl rfl (by kernel_rfl) (evl_of rfl) (fun w1 hs => hsm w1 (hs.nest hN)) (fun x => ?_)
    obtain ⟨⟨Bx, cx⟩, ⟨ys, hys⟩⟩ := x
    simp only [nestCh, bookV, List.cons_append]
    apply ot_v Try.tabOk
    have hys' := hys
    ((try first | apply tr_v Try.tabOk | apply ot_v Try.tabOk); (conv => whnf); (repeat ((first | (apply VNew.mk; intro g hg) | (apply VSt.mk; (focus ((repeat (first | (with_reducible exact At.here) | (with_reducible apply At.there))); done)); exact rfl) | (refine slist_and (by (repeat (first | exact List.nil_sublist _ | exact List.Sublist.refl _ | refine List.Sublist.cons_cons _ ?_ | refine List.Sublist.cons _ ?_ | (with_reducible refine List.Sublist.trans ?_ (List.sublist_append_right _ _))))) ?_; first | refine otl_nil ?_ | (refine otl_cons ?_; apply ot_v Try.tabOk) | skip) | (apply VK.mk; first | (refine otl_cons ?_; apply ot_v Try.tabOk) | apply ot_v Try.tabOk)); (conv => whnf))); try (first | apply VStop.mk | apply VCall.stop))
    refine tr_perm (.cons _ (.cons _ List.perm_append_comm)) ?_
    simp only [List.cons_append, List.nil_append]
    ((try first | apply tr_v Try.tabOk | apply ot_v Try.tabOk); (conv => whnf); (repeat ((first | ((first | apply VStop.mk | apply VCall.stop); (first | refine tr_region_late3 (id := 11) (by kernel_rfl) [.blk _ 26 _] (by (repeat (first | exact List.nil_sublist _ | exact List.Sublist.refl _ | refine List.Sublist.cons_cons _ ?_ | refine List.Sublist.cons _ ?_ | (with_reducible refine List.Sublist.trans ?_ (List.sublist_append_right _ _))))) [0, 1, 2, 3, 4] [5, 6, 7] 8 [9, 10] [.rd, .rd, .rd, .rd, .rd] rfl (by kernel_rfl) ?_); try first | apply ot_v Try.tabOk | apply tr_v Try.tabOk) | (apply VLd.mk; (focus ((repeat (first | ((with_reducible apply ld_blk); exact rfl) | ((with_reducible apply ld_row); exact rfl) | ((with_reducible apply ld_row0); exact rfl) | (with_reducible assumption) | (with_reducible exact CellAt.base (by assumption)) | (with_reducible apply ld_skip))); done))) | (apply VNew.mk; intro g hg) | (refine slist_and (by (repeat (first | exact List.nil_sublist _ | exact List.Sublist.refl _ | refine List.Sublist.cons_cons _ ?_ | refine List.Sublist.cons _ ?_ | (with_reducible refine List.Sublist.trans ?_ (List.sublist_append_right _ _))))) ?_; first | refine otl_nil ?_ | (refine otl_cons ?_; apply ot_v Try.tabOk) | skip) | (apply VK.mk; first | (refine otl_cons ?_; apply ot_v Try.tabOk) | apply ot_v Try.tabOk)); (conv => whnf))); try (first | apply VStop.mk | apply VCall.stop))
    refine ot_call_ownS (t := 67) (sz := 3) (m := 1) (xs := saidCells [((i : Int), lo + d, lo + d)]) (by decide) rfl rfl rfl (by kernel_rfl) (evl_of rfl) (fun w1 hs => sit1_any _ _ _ hs) (fun B1 c1 _ => ?_)
    apply ot_v Try.tabOk
    ((try first | apply tr_v Try.tabOk | apply ot_v Try.tabOk); (conv => whnf); (repeat ((first | ((first | apply VStop.mk | apply VCall.stop); (first | (refine ot_appendS (sz := 1) (sl := S.length) (xs := sitVs ys S) (A'v := fun v' => _ :: _ :: _ :: _ :: .own v' 55 1 (S.length + 1) _ :: _) Try.tabOk rfl rfl rfl rfl rfl rfl rfl rfl rfl rfl (by decide) rfl (cells_blk_all (.head _)) rfl rfl (fun v' => .there (.there (.there (.there .here)))) (by omega) (by decide) (fun Bo co => ?_))); try first | apply ot_v Try.tabOk | apply tr_v Try.tabOk) | (apply VNew.mk; intro g hg) | (apply VLdN.mk; (focus ((repeat (first | (with_reducible apply ldn_blk) | (with_reducible apply ldn_row) | (with_reducible assumption) | (with_reducible apply ldn_skip))); done)); exact rfl) | (apply VSt.mk; (focus ((repeat (first | (with_reducible exact At.here) | (with_reducible apply At.there))); done)); exact rfl) | (refine slist_and (by (repeat (first | exact List.nil_sublist _ | exact List.Sublist.refl _ | refine List.Sublist.cons_cons _ ?_ | refine List.Sublist.cons _ ?_ | (with_reducible refine List.Sublist.trans ?_ (List.sublist_append_right _ _))))) ?_; first | refine otl_nil ?_ | (refine otl_cons ?_; apply ot_v Try.tabOk) | skip) | (apply VK.mk; first | (refine otl_cons ?_; apply ot_v Try.tabOk) | apply ot_v Try.tabOk)); (conv => whnf))); try (first | apply VStop.mk | apply VCall.stop))
    have hq1 := hO' (lo + d) (lo + d) (by omega) (by omega) (by omega)
    obtain ⟨hc1, hlo1, hhi1, hw1⟩ := hyes (lo + d) hq1 (by omega) (by omega)
    have hsp1 := fun w1 A c (h : NestR w1 3 A (nestOf (S ++ [[((i : Int), lo + d, lo + d)]]))) => spans_any rlo rhi L A c _ w1 h hq1
    have hsl1 := spansP_yes hq1 hc1
    have hat1 := spansP_at hq1 hc1 hiL
    rw [hlo1, hhi1] at hat1
    rw [hc1] at hsp1
    have hwi := fun A B ca cb w1 ha hb => withinR_any A B ca cb _ (spansP rlo rhi L S) w1 ha hb (show (spansP rlo rhi L (S ++ [[((i : Int), lo + d, lo + d)]])).length ≤ 1000 by omega) (by omega)
    rw [hw1] at hwi
    generalize spansP rlo rhi L (S ++ [[((i : Int), lo + d, lo + d)]]) = sp1 at *
    unfold bookV at hsp1
    rw [List.length_append, List.length_singleton] at hsp1
    have o2 : ∀ {b cap : Nat} {A : List Chunk}, Chunk.own (.slice (some ⟨b, 0, none⟩) sp1.length cap) 23 2 sp1.length (rngCells sp1) ∈ A → CellAt w A b (0 + i * 2 + 0) (.int .i64 (lo + d)) ∧ CellAt w A b (0 + i * 2 + 1) (.int .i64 (lo + d)) := fun h => by
      have := own_rng (w0 := w) h (show i < sp1.length by omega)
      rw [hat1] at this
      exact this
    refine ot_call_st (X := Option Addr × Nat) (fun x => .tuple #[.slice x.1 sp1.length x.2, .bool true, .bool true]) (fun x => [.own (.slice x.1 sp1.length x.2) 23 2 sp1.length (rngCells sp1)]) (fun x => mut_one rfl) (by decide) rfl rfl rfl (by kernel_rfl) (evl_of rfl) (fun w1 hs => hsp1 w1 _ _ (nest_app hs hys rfl (by (repeat (first | with_unfolding_all exact List.Mem.head _ | assumption | with_unfolding_all refine List.Mem.tail _ ?_))) (by (repeat (first | with_unfolding_all exact List.Mem.head _ | assumption | with_unfolding_all refine List.Mem.tail _ ?_))) fun d hd => by simp only [List.mem_cons, hd, true_or, or_true])) (fun y1 => ?_)
    obtain ⟨y1B, y1c⟩ := y1
    dsimp only [List.cons_append, List.nil_append]
    refine ot_fact (p := ∃ b, y1B = some ⟨b, 0, none⟩) rfl (fun w' hs => ?_) fun hy => ?_
    · obtain ⟨B, cp, e, hB⟩ := own_form (hs.all _ (.head _))
      cases e
      exact hB (by omega)
    obtain ⟨y1b, rfl⟩ := hy
    apply ot_v Try.tabOk
    ((try first | apply tr_v Try.tabOk | apply ot_v Try.tabOk); (conv => whnf); (repeat ((first | ((first | apply VStop.mk | apply VCall.stop); (first | refine tr_region_lex (id := 13) (by kernel_rfl) [.rd, .rd, .rd, .rd, .rd, .rd, .rd, .rd, .rd, .rd, .rd, .rd, .rd, .cr, .rd, .rd, .rd, .rd, .rd, .cr, .rd, .rd] rfl (by kernel_rfl) ?_); try first | apply ot_v Try.tabOk | apply tr_v Try.tabOk) | (apply VEq.mk true; kernel_rfl; exact rng_same (lo + d) (lo + d)) | (apply VIx.mk (j := i); exact rfl; omega) | (apply VLdN.mk; exact cells_two (o2 (by (repeat (first | with_unfolding_all exact List.Mem.head _ | assumption | with_unfolding_all refine List.Mem.tail _ ?_)))).1 (o2 (by (repeat (first | with_unfolding_all exact List.Mem.head _ | assumption | with_unfolding_all refine List.Mem.tail _ ?_)))).2; exact rfl) | (apply VCall.q; kernel_rfl; (focus (intro w1 hs; first | with_reducible apply hto _ _ w1 | with_reducible apply hwi _ _ _ _ w1 (hs.own_rd (by (repeat (first | with_unfolding_all exact List.Mem.head _ | assumption | with_unfolding_all refine List.Mem.tail _ ?_)))) (hs.own_rd (by (repeat (first | with_unfolding_all exact List.Mem.head _ | assumption | with_unfolding_all refine List.Mem.tail _ ?_))))))) | apply VBr.f | (refine slist_and (by (repeat (first | exact List.nil_sublist _ | exact List.Sublist.refl _ | refine List.Sublist.cons_cons _ ?_ | refine List.Sublist.cons _ ?_ | (with_reducible refine List.Sublist.trans ?_ (List.sublist_append_right _ _))))) ?_; first | refine otl_nil ?_ | (refine otl_cons ?_; apply ot_v Try.tabOk) | skip) | (apply VK.mk; first | (refine otl_cons ?_; apply ot_v Try.tabOk) | apply ot_v Try.tabOk)); (conv => whnf))); try (first | apply VStop.mk | apply VCall.stop))
    refine tr_fact (p := ∃ bo, Bo = some ⟨bo, 0, none⟩) (fun w' hs => ?_) fun hp => ?_
    · obtain ⟨_, _, q1, p1⟩ := own_form (hs.all _ (.tail _ (.tail _ (.tail _ (.tail _ (.tail _ (.head _)))))))
      cases q1
      exact p1 (by omega)
    obtain ⟨bo, rfl⟩ := hp
    have hq2 := hO' (-1000) (lo - 1) (by omega) (by omega) (by omega)
    have hc2 := hno (-1000) (lo - 1) hq2 (.inl (by omega))
    have hsp2 := fun w1 A c (h : NestR w1 3 A (nestOf (S ++ [[((i : Int), -1000, lo - 1)]]))) => spans_any rlo rhi L A c _ w1 h hq2
    rw [hc2] at hsp2
    generalize spansP rlo rhi L (S ++ [[((i : Int), -1000, lo - 1)]]) = sp2 at *
    unfold bookV at hsp2
    rw [List.length_append, List.length_singleton] at hsp2
    ((try first | apply tr_v Try.tabOk | apply ot_v Try.tabOk); (conv => whnf); (repeat ((first | ((first | apply VStop.mk | apply VCall.stop); (first | refine tr_region_lex (id := 15) (by kernel_rfl) [.rd, .rd, .rd, .rd, .rd, .rd, .rd, .rd, .rd, .rd, .rd, .rd, .rd, .cr, .cr, .rd, .wr] rfl (by kernel_rfl) ?_); try first | apply ot_v Try.tabOk | apply tr_v Try.tabOk) | (apply VIx.mk (j := i); exact rfl; omega) | (apply VLd.mk; first | exact (o1 (by (repeat (first | with_unfolding_all exact List.Mem.head _ | assumption | with_unfolding_all refine List.Mem.tail _ ?_)))).1 | exact (o1 (by (repeat (first | with_unfolding_all exact List.Mem.head _ | assumption | with_unfolding_all refine List.Mem.tail _ ?_)))).2) | (apply VLd.mk; (focus ((repeat (first | ((with_reducible apply ld_blk); exact rfl) | ((with_reducible apply ld_row); exact rfl) | ((with_reducible apply ld_row0); exact rfl) | (with_reducible assumption) | (with_reducible exact CellAt.base (by assumption)) | (with_reducible apply ld_skip))); done))) | (apply VRng.mk; omega) | (apply VNew.mk; intro g hg) | (refine slist_and (by (repeat (first | exact List.nil_sublist _ | exact List.Sublist.refl _ | refine List.Sublist.cons_cons _ ?_ | refine List.Sublist.cons _ ?_ | (with_reducible refine List.Sublist.trans ?_ (List.sublist_append_right _ _))))) ?_; first | refine otl_nil ?_ | (refine otl_cons ?_; apply ot_v Try.tabOk) | skip) | (apply VK.mk; first | (refine otl_cons ?_; apply ot_v Try.tabOk) | apply ot_v Try.tabOk)); (conv => whnf))); try (first | apply VStop.mk | apply VCall.stop))
    refine ot_call_ownS (t := 67) (sz := 3) (m := 1) (xs := saidCells [((i : Int), -1000, lo - 1)]) (by decide) rfl rfl rfl (by kernel_rfl) (evl_of rfl) (fun w1 hs => sit1_any _ _ _ hs) (fun B2 c2 _ => ?_)
    apply ot_v Try.tabOk
    ((try first | apply tr_v Try.tabOk | apply ot_v Try.tabOk); (conv => whnf); (repeat ((first | (apply VIx.mk (j := i); exact rfl; omega) | (apply VLd.mk; first | exact (o1 (by (repeat (first | with_unfolding_all exact List.Mem.head _ | assumption | with_unfolding_all refine List.Mem.tail _ ?_)))).1 | exact (o1 (by (repeat (first | with_unfolding_all exact List.Mem.head _ | assumption | with_unfolding_all refine List.Mem.tail _ ?_)))).2) | (apply VIx.mk (j := S.length); omega; omega) | (apply VSt.stop; refine ot_store_own (xs := sitVs ys S ++ [.slice B1 1 c1]) (sv := .nilFunc) Try.tabOk rfl rfl rfl rfl rfl rfl rfl rfl rfl rfl (.there (.there (.there (.there (.there (.there (.there (.here)))))))) (by omega) ?_; apply ot_v Try.tabOk) | apply VBr.t | (apply v_t; omega) | (apply VLdN.mk; (focus ((repeat (first | (with_reducible apply ldn_blk) | (with_reducible apply ldn_row) | (with_reducible assumption) | (with_reducible apply ldn_skip))); done)); exact rfl) | (refine slist_and (by (repeat (first | exact List.nil_sublist _ | exact List.Sublist.refl _ | refine List.Sublist.cons_cons _ ?_ | refine List.Sublist.cons _ ?_ | (with_reducible refine List.Sublist.trans ?_ (List.sublist_append_right _ _))))) ?_; first | refine otl_nil ?_ | (refine otl_cons ?_; apply ot_v Try.tabOk) | skip) | (apply VK.mk; first | (refine otl_cons ?_; apply ot_v Try.tabOk) | apply ot_v Try.tabOk)); (conv => whnf))); try (first | apply VStop.mk | apply VCall.stop))
    rw [show 0 + S.length * 1 = S.length by omega, set_last _ _ _ (sitVs_length hys)]
    refine ot_call_st (X := Option Addr × Nat) (fun x => .tuple #[.slice x.1 sp2.length x.2, .bool false, .bool true]) (fun x => [.own (.slice x.1 sp2.length x.2) 23 2 sp2.length (rngCells sp2)]) (fun x => mut_one rfl) (by decide) rfl rfl rfl (by kernel_rfl) (evl_of rfl) (fun w1 hs => hsp2 w1 _ _ (nest_app hs hys rfl (by (repeat (first | with_unfolding_all exact List.Mem.head _ | assumption | with_unfolding_all refine List.Mem.tail _ ?_))) (by (repeat (first | with_unfolding_all exact List.Mem.head _ | assumption | with_unfolding_all refine List.Mem.tail _ ?_))) fun d hd => by simp only [List.mem_cons, hd, true_or, or_true])) (fun y2 => ?_)
    dsimp only [List.cons_append, List.nil_append]
    apply ot_v Try.tabOk
    by_cases hhi : 1000 ≤ hi
    · ((try first | apply tr_v Try.tabOk | apply ot_v Try.tabOk); (conv => whnf); (repeat ((first | (apply VIx.mk (j := i); exact rfl; omega) | (apply VLd.mk; first | exact (o1 (by (repeat (first | with_unfolding_all exact List.Mem.head _ | assumption | with_unfolding_all refine List.Mem.tail _ ?_)))).1 | exact (o1 (by (repeat (first | with_unfolding_all exact List.Mem.head _ | assumption | with_unfolding_all refine List.Mem.tail _ ?_)))).2) | (apply VCall.q; kernel_rfl; (focus (intro w1 hs; first | with_reducible apply hwk w1))) | apply VBr.t | apply VBr.f | (apply v_t; omega) | (refine slist_and (by (repeat (first | exact List.nil_sublist _ | exact List.Sublist.refl _ | refine List.Sublist.cons_cons _ ?_ | refine List.Sublist.cons _ ?_ | (with_reducible refine List.Sublist.trans ?_ (List.sublist_append_right _ _))))) ?_; first | refine otl_nil ?_ | (refine otl_cons ?_; apply ot_v Try.tabOk) | skip) | (apply VK.mk; first | (refine otl_cons ?_; apply ot_v Try.tabOk) | apply ot_v Try.tabOk)); (conv => whnf))); try (first | apply VStop.mk | apply VCall.stop))
      ((apply VRet.mk); refine ret1 (by first | exact .inl rfl | exact .inr rfl) rfl (by exact rv_tmp rfl) ?_; exact fun w h => ⟨rfl, h.base⟩)
    ((try first | apply tr_v Try.tabOk | apply ot_v Try.tabOk); (conv => whnf); (repeat ((first | (apply VIx.mk (j := i); exact rfl; omega) | (apply VLd.mk; first | exact (o1 (by (repeat (first | with_unfolding_all exact List.Mem.head _ | assumption | with_unfolding_all refine List.Mem.tail _ ?_)))).1 | exact (o1 (by (repeat (first | with_unfolding_all exact List.Mem.head _ | assumption | with_unfolding_all refine List.Mem.tail _ ?_)))).2) | apply VBr.f | (apply v_f; omega) | (refine slist_and (by (repeat (first | exact List.nil_sublist _ | exact List.Sublist.refl _ | refine List.Sublist.cons_cons _ ?_ | refine List.Sublist.cons _ ?_ | (with_reducible refine List.Sublist.trans ?_ (List.sublist_append_right _ _))))) ?_; first | refine otl_nil ?_ | (refine otl_cons ?_; apply ot_v Try.tabOk) | skip) | (apply VK.mk; first | (refine otl_cons ?_; apply ot_v Try.tabOk) | apply ot_v Try.tabOk)); (conv => whnf))); try (first | apply VStop.mk | apply VCall.stop))
    have hq3 := hO' (hi + 1) 1000 (by omega) (by omega) (by omega)
    have hc3 := hno (hi + 1) 1000 hq3 (.inr (by omega))
    have hsp3 := fun w1 A c (h : NestR w1 3 A (nestOf (S ++ [[((i : Int), hi + 1, 1000)]]))) => spans_any rlo rhi L A c _ w1 h hq3
    rw [hc3] at hsp3
    generalize spansP rlo rhi L (S ++ [[((i : Int), hi + 1, 1000)]]) = sp3 at *
    unfold bookV at hsp3
    rw [List.length_append, List.length_singleton] at hsp3
    ((try first | apply tr_v Try.tabOk | apply ot_v Try.tabOk); (conv => whnf); (repeat ((first | ((first | apply VStop.mk | apply VCall.stop); (first | refine tr_region_lex (id := 22) (by kernel_rfl) [.rd, .rd, .rd, .rd, .rd, .rd, .rd, .rd, .rd, .rd, .rd, .rd, .rd, .cr, .cr, .rd, .wr] rfl (by kernel_rfl) ?_); try first | apply ot_v Try.tabOk | apply tr_v Try.tabOk) | (apply VIx.mk (j := i); exact rfl; omega) | (apply VLd.mk; first | exact (o1 (by (repeat (first | with_unfolding_all exact List.Mem.head _ | assumption | with_unfolding_all refine List.Mem.tail _ ?_)))).1 | exact (o1 (by (repeat (first | with_unfolding_all exact List.Mem.head _ | assumption | with_unfolding_all refine List.Mem.tail _ ?_)))).2) | (apply VLd.mk; (focus ((repeat (first | ((with_reducible apply ld_blk); exact rfl) | ((with_reducible apply ld_row); exact rfl) | ((with_reducible apply ld_row0); exact rfl) | (with_reducible assumption) | (with_reducible exact CellAt.base (by assumption)) | (with_reducible apply ld_skip))); done))) | (apply VRng.mk; omega) | (apply VNew.mk; intro g hg) | (refine slist_and (by (repeat (first | exact List.nil_sublist _ | exact List.Sublist.refl _ | refine List.Sublist.cons_cons _ ?_ | refine List.Sublist.cons _ ?_ | (with_reducible refine List.Sublist.trans ?_ (List.sublist_append_right _ _))))) ?_; first | refine otl_nil ?_ | (refine otl_cons ?_; apply ot_v Try.tabOk) | skip) | (apply VK.mk; first | (refine otl_cons ?_; apply ot_v Try.tabOk) | apply ot_v Try.tabOk)); (conv => whnf))); try (first | apply VStop.mk | apply VCall.stop))
    refine ot_call_ownS (t := 67) (sz := 3) (m := 1) (xs := saidCells [((i : Int), hi + 1, 1000)]) (by decide) rfl rfl rfl (by kernel_rfl) (evl_of rfl) (fun w1 hs => sit1_any _ _ _ hs) (fun B3 c3 _ => ?_)
    apply ot_v Try.tabOk
    ((try first | apply tr_v Try.tabOk | apply ot_v Try.tabOk); (conv => whnf); (repeat ((first | (apply VIx.mk (j := S.length); omega; omega) | (apply VSt.stop; refine ot_store_own (xs := sitVs ys S ++ [.slice B2 1 c2]) (sv := .nilFunc) Try.tabOk rfl rfl rfl rfl rfl rfl rfl rfl rfl rfl (.there (.there (.there (.there (.there (.there (.there (.there (.there (.there (.here))))))))))) (by omega) ?_; apply ot_v Try.tabOk) | (apply VLdN.mk; (focus ((repeat (first | (with_reducible apply ldn_blk) | (with_reducible apply ldn_row) | (with_reducible assumption) | (with_reducible apply ldn_skip))); done)); exact rfl) | (refine slist_and (by (repeat (first | exact List.nil_sublist _ | exact List.Sublist.refl _ | refine List.Sublist.cons_cons _ ?_ | refine List.Sublist.cons _ ?_ | (with_reducible refine List.Sublist.trans ?_ (List.sublist_append_right _ _))))) ?_; first | refine otl_nil ?_ | (refine otl_cons ?_; apply ot_v Try.tabOk) | skip) | (apply VK.mk; first | (refine otl_cons ?_; apply ot_v Try.tabOk) | apply ot_v Try.tabOk)); (conv => whnf))); try (first | apply VStop.mk | apply VCall.stop))
    rw [show 0 + S.length * 1 = S.length by omega, set_last _ _ _ (sitVs_length hys)]
    refine ot_call_st (X := Option Addr × Nat) (fun x => .tuple #[.slice x.1 sp3.length x.2, .bool false, .bool true]) (fun x => [.own (.slice x.1 sp3.length x.2) 23 2 sp3.length (rngCells sp3)]) (fun x => mut_one rfl) (by decide) rfl rfl rfl (by kernel_rfl) (evl_of rfl) (fun w1 hs => hsp3 w1 _ _ (nest_app hs hys rfl (by (repeat (first | with_unfolding_all exact List.Mem.head _ | assumption | with_unfolding_all refine List.Mem.tail _ ?_))) (by (repeat (first | with_unfolding_all exact List.Mem.head _ | assumption | with_unfolding_all refine List.Mem.tail _ ?_))) fun d hd => by simp only [List.mem_cons, hd, true_or, or_true])) (fun y3 => ?_)
    dsimp only [List.cons_append, List.nil_append]
    apply ot_v Try.tabOk
    ((try first | apply tr_v Try.tabOk | apply ot_v Try.tabOk); (conv => whnf); (repeat ((first | (apply VCall.q; kernel_rfl; (focus (intro w1 hs; first | with_reducible apply hwk w1))) | apply VBr.t | (refine slist_and (by (repeat (first | exact List.nil_sublist _ | exact List.Sublist.refl _ | refine List.Sublist.cons_cons _ ?_ | refine List.Sublist.cons _ ?_ | (with_reducible refine List.Sublist.trans ?_ (List.sublist_append_right _ _))))) ?_; first | refine otl_nil ?_ | (refine otl_cons ?_; apply ot_v Try.tabOk) | skip) | (apply VK.mk; first | (refine otl_cons ?_; apply ot_v Try.tabOk) | apply ot_v Try.tabOk)); (conv => whnf))); try (first | apply VStop.mk | apply VCall.stop))
    ((apply VRet.mk); refine ret1 (by first | exact .inl rfl | exact .inr rfl) rfl (by exact rv_tmp rfl) ?_; exact fun w h => ⟨rfl, h.base⟩)
end
end Go.Proofs.Ytkbcogaodnmdoaa
