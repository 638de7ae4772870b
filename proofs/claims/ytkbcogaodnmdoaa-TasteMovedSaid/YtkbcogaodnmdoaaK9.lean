/- TasteMoved: lemmas for the rows of this seat. No conditions. -/
import Derived.Test.YtkbcogaodnmdoaaProg
import Derived.WalkKit
import Derived.WalkSpells
import Derived.WalkLawsBesides
import Derived.Lib.Hide
import Derived.Deep.AppendLies
import Derived.Deep.Draws
import Derived.Maps.AppendAt
import Derived.RegionTactic
import Derived.OwnWalk
import Derived.Deep.QuietTactic
import Derived.BigQuiet
import Derived.Deep.DeepFit
import Derived.Deep.LoopGhost
import Derived.Deep.DeepMust
import Derived.Deep.DeepCutAuto
import Derived.StillTail
import Derived.Deep.Quiet
import Derived.Deep.RegionHeld3
import Derived.Deep.RegionWith
import Derived.Deep.RegionLaw
import Derived.Maps.OwnOps
import Derived.Maps.OwnSet
import Derived.Maps.OwnRows
import Derived.Maps.RangeWalk
import Derived.Carry
import Derived.Test.YtkbcogaodnmdoaaBase
import Derived.Test.YtkbcogaodnmdoaaMaps
import Derived.Test.YtkbcogaodnmdoaaKeys
import Derived.Test.YtkbcogaodnmdoaaS1
import Derived.Test.YtkbcogaodnmdoaaS5
import Derived.Test.YtkbcogaodnmdoaaS12
import Derived.Test.YtkbcogaodnmdoaaS14
import Derived.Test.YtkbcogaodnmdoaaV
import Derived.Test.YtkbcogaodnmdoaaV2
import Derived.Test.YtkbcogaodnmdoaaV3
import Derived.Test.YtkbcogaodnmdoaaV4
import Derived.Test.YtkbcogaodnmdoaaV5
import Derived.Test.YtkbcogaodnmdoaaV6
import Derived.Test.YtkbcogaodnmdoaaTab
import Derived.Test.YtkbcogaodnmdoaaE1
import Derived.Test.YtkbcogaodnmdoaaE2
import Derived.Test.YtkbcogaodnmdoaaE3
import Derived.Test.YtkbcogaodnmdoaaE4
import Derived.Test.YtkbcogaodnmdoaaE5
import Derived.Test.YtkbcogaodnmdoaaE6
import Derived.Test.YtkbcogaodnmdoaaE7
import Derived.Test.YtkbcogaodnmdoaaE8
import Derived.Test.YtkbcogaodnmdoaaE9
import Derived.Test.YtkbcogaodnmdoaaE10
import Derived.Test.YtkbcogaodnmdoaaE11
import Derived.Test.YtkbcogaodnmdoaaE12
import Derived.Test.YtkbcogaodnmdoaaE13
import Derived.Test.YtkbcogaodnmdoaaE14
import Derived.Test.YtkbcogaodnmdoaaE15
import Derived.Test.YtkbcogaodnmdoaaE16
import Derived.Test.YtkbcogaodnmdoaaE17
import Derived.Test.YtkbcogaodnmdoaaE18
import Derived.Test.YtkbcogaodnmdoaaE19
import Derived.Test.YtkbcogaodnmdoaaE20
import Derived.Test.YtkbcogaodnmdoaaE21
import Derived.Test.YtkbcogaodnmdoaaE22
import Derived.Test.YtkbcogaodnmdoaaE23
import Derived.Test.YtkbcogaodnmdoaaE24
import Derived.Test.YtkbcogaodnmdoaaE25
import Derived.Test.YtkbcogaodnmdoaaE26
import Derived.Test.YtkbcogaodnmdoaaE27
import Derived.Test.YtkbcogaodnmdoaaE28
import Derived.Test.YtkbcogaodnmdoaaE29
import Derived.Test.YtkbcogaodnmdoaaE30
import Derived.Test.YtkbcogaodnmdoaaE31
import Derived.Test.YtkbcogaodnmdoaaE32
import Derived.Test.YtkbcogaodnmdoaaE33
import Derived.Test.YtkbcogaodnmdoaaE34
import Derived.Test.YtkbcogaodnmdoaaE35
import Derived.Test.YtkbcogaodnmdoaaE36
import Derived.Test.YtkbcogaodnmdoaaE37
set_option linter.all false
namespace Go.Proofs.Ytkbcogaodnmdoaa
open Go.RowKit
/-! ## TasteMoved -/
/- appended -/
theorem sit_upd {ys : List SitX} {M : List (List T3)} {j b2 c2 : Nat} (h : ys.length = M.length) (hj : j < M.length) (hy : ys[j]'(by omega) = (some ⟨b2, 0, none⟩, c2)) {s' : List T3} (hs : s'.length = M[j].length) {cells : List Value} (hc : cells = saidCells s') {R : List Chunk} :
    Upd (.own (.slice (some ⟨b2, 0, none⟩) M[j].length c2) 67 3 M[j].length (saidCells M[j])) (.own (.slice (some ⟨b2, 0, none⟩) M[j].length c2) 67 3 M[j].length cells) (sitCh ys M ++ R) (sitCh ys (M.set j s') ++ R) := by
  have := sitCh_upd (R := R) h hj hs
  unfold sitC at this
  rw [hy, hs] at this
  subst hc
  exact this
theorem same_n (rlo rhi lots : Int) (Al : Option Addr) (c : Nat) (S : List (List T3)) (w : World) (hN : NestR w 3 Al (nestOf S)) (hF : Fit S) {n : Nat} (hn : S.length = n) : Calls Try.prog 46 #[.agg #[.int .i64 rlo, .int .i64 rhi, .int .i64 lots, .slice Al n c]] w fun e w' => ∃ x : NestX n, e = .returned (.agg #[.int .i64 rlo, .int .i64 rhi, .int .i64 lots, .slice x.1.1 n x.1.2]) ∧ St w (.own (.slice x.1.1 n x.1.2) 55 1 n (sitVs x.2.1 S) :: sitCh x.2.1 S) w' := by
  subst hn
  exact same_any rlo rhi lots Al c S w hN hF
theorem perm_mv {α : Type} {a b g9 o8 o9 o1 g0 : α} {C R : List α} : (a :: b :: (C ++ g9 :: o8 :: o9 :: o1 :: (R ++ [g0]))).Perm (a :: b :: o8 :: o9 :: (C ++ (g9 :: o1 :: (R ++ [g0])))) := by
  classical
  refine List.perm_iff_count.2 fun q => ?_
  simp only [List.count_append, List.count_cons, List.count_nil]
  omega
section
variable (rlo rhi lots : Int) (Al : Option Addr) (c : Nat) (S : List (List T3)) (w : World) (hN : NestR w 3 Al (nestOf S)) (hm : ∀ s ∈ S, s.length ≤ maxLen)
include hN hm
set_option maxHeartbeats 4000000 in
set_option maxRecDepth 20000 in
theorem tasteMoved_any (By : Option Addr) (cb : Nat) (by_ : List Int) (hby : Reads w w.heap.size 1 By by_.length (by_.map (Value.int .u16))) (hmb : by_.length ≤ maxLen) (hb0 : ∀ z ∈ by_, (Lit.int .u16 z).wf = true) (which more : Int) (h1 : 0 ≤ which ∧ which ≤ 255) (h2 : -32768 ≤ more ∧ more ≤ 32767) :
    Calls Try.prog 15 #[bookV rlo rhi lots Al S.length c, .slice By by_.length cb, .int .u8 which, .int .i16 more] w fun e w' => e = .returned (.bool true) ∧ Below w.heap.size w w' := by
  have hb : ∀ z ∈ by_, 0 ≤ z ∧ z ≤ 65535 := fun z hz => by
    have h := hb0 z hz
    have e1 : IntKind.u16.min = 0 := rfl
    have e2 : IntKind.u16.max = 65535 := rfl
    simpa [Lit.wf, e1, e2] using h
  have hfn := fun w1 (h : NestR w1 3 Al (nestOf S)) => fineG_any rlo rhi lots Al c S w1 h hm
  have hwk := fun w1 => works_any w1
  unfold maxLen at hmb
  by_cases h0 : chkBook rlo rhi lots S = 0
  rotate_left
  · rw [decide_eq_false h0] at hfn
    unfold bookV at *
    refine fn_v Try.tabOk (n := 159) (A := []) Try.func15 rfl rfl (Nat.le_of_ble_eq_true rfl) (St.nil (Below.refl _ _)) ?_
    ((try first | apply tr_v Try.tabOk | apply ot_v Try.tabOk); (conv => whnf); (repeat ((first | (apply VCall.q; kernel_rfl; (focus (intro w1 hs; first | with_reducible apply hfn w1 (hs.nest hN) | with_reducible apply hwk w1))) | apply VBr.t | (apply VNew.mk; intro g hg) | (apply VLdN.mk; (focus ((repeat (first | (with_reducible apply ldn_blk) | (with_reducible apply ldn_row) | (with_reducible assumption) | (with_reducible apply ldn_skip))); done)); exact rfl)); (conv => whnf))); try (first | apply VStop.mk | apply VCall.stop))
    ((apply VRet.mk); refine ret1 (by first | exact .inl rfl | exact .inr rfl) rfl (by exact rv_tmp rfl) ?_; exact fun w h => ⟨rfl, h.base⟩)
  rw [decide_eq_true h0] at hfn
  by_cases hb30 : 30 < by_.length
  · unfold bookV at *
    refine fn_v Try.tabOk (n := 159) (A := []) Try.func15 rfl rfl (Nat.le_of_ble_eq_true rfl) (St.nil (Below.refl _ _)) ?_
    ((try first | apply tr_v Try.tabOk | apply ot_v Try.tabOk); (conv => whnf); (repeat ((first | (apply VCall.q; kernel_rfl; (focus (intro w1 hs; first | with_reducible apply hfn w1 (hs.nest hN) | with_reducible apply hwk w1))) | apply VBr.t | apply VBr.f | (apply v_t; omega) | (apply VNew.mk; intro g hg) | (apply VLdN.mk; (focus ((repeat (first | (with_reducible apply ldn_blk) | (with_reducible apply ldn_row) | (with_reducible assumption) | (with_reducible apply ldn_skip))); done)); exact rfl)); (conv => whnf))); try (first | apply VStop.mk | apply VCall.stop))
    ((apply VRet.mk); refine ret1 (by first | exact .inl rfl | exact .inr rfl) rfl (by exact rv_tmp rfl) ?_; exact fun w h => ⟨rfl, h.base⟩)
  have hO := chk_ok.1 h0
  obtain ⟨L, rfl⟩ : ∃ L : Nat, lots = L := ⟨lots.toNat, by have := hO.l; omega⟩
  have hl := hO.l
  have ht := hO.t
  have hn4 := hO.n
  have hhd := fun w1 (h : NestR w1 3 Al (nestOf S)) (hbe : Below w.heap.size w w1) => held_any rlo rhi L Al c S w1 h hO By cb by_ ((hby.below hbe).more hbe.size) (by omega) hb
  have hself := held_self hO hb
  have hlenS := heldS_len rlo rhi L S by_
  have hflat := held_flat (rlo := rlo) (rhi := rhi) (L := L) (S := S) (by_ := by_)
  have hoff := fun j (hj : j ≤ S.length) => held_off (rlo := rlo) (rhi := rhi) (L := L) (S := S) (by_ := by_) (j := j) hj
  have hm' : ∀ s ∈ heldS rlo rhi L S by_, s.length ≤ maxLen := fun s hs => by
    obtain ⟨j, hj, rfl⟩ := List.getElem_of_mem hs
    rw [hlenS] at hj
    rw [heldS_atl hj]
    exact hm _ (List.getElem_mem hj)
  have n1 : (heldL by_ L).length = L := by simp [heldL]
  have n2 : (heldTl rlo rhi L S by_ S.flatten.length).length = S.flatten.length := by simp [heldTl]
  have hLa := fun q (hq : q < L) => heldL_at (L := L) (by_ := by_) hq
  have hTa := fun q (hq : q < S.flatten.length) => heldTl_at (rlo := rlo) (rhi := rhi) (L := L) (S := S) (by_ := by_) hq
  have hshb := fun q => heldSh_bd hb q
  generalize heldS rlo rhi L S by_ = S' at *
  generalize hsh : heldL by_ L = sh at *
  generalize hti : heldTl rlo rhi L S by_ S.flatten.length = ti at *
  have hfn2 := fun w1 A c (h : NestR w1 3 A (nestOf S')) => fineG_any rlo rhi L A c S' w1 h hm'
  rw [hlenS] at hfn2
  unfold bookV at hfn hhd hfn2
  obtain ⟨i, hi⟩ : ∃ i, i = which.toNat % L := ⟨_, rfl⟩
  have hiL : i < L := by rw [hi]; exact Nat.mod_lt _ (by omega)
  have e1 : Int.tmod which (L : Int) = i := by rw [tmod_nat which L h1.1, hi]
  clear hi
  have hdb : -400 ≤ Int.tmod more 400 ∧ Int.tmod more 400 ≤ 400 := by
    have := Int.tmod_lt_of_pos more (show (0 : Int) < 400 by decide)
    have := Int.lt_tmod_of_pos more (show (0 : Int) < 400 by decide)
    omega
  unfold bookV
  refine fn_v Try.tabOk (n := 159) (A := []) Try.func15 rfl rfl (Nat.le_of_ble_eq_true rfl) (St.nil (Below.refl _ _)) ?_
  ((try first | apply tr_v Try.tabOk | apply ot_v Try.tabOk); (conv => whnf); (repeat ((first | (apply VCall.q; kernel_rfl; (focus (intro w1 hs; first | with_reducible apply hfn w1 (hs.nest hN)))) | apply VBr.f | (apply v_f; omega) | (apply VNew.mk; intro g hg) | (apply VLdN.mk; (focus ((repeat (first | (with_reducible apply ldn_blk) | (with_reducible apply ldn_row) | (with_reducible assumption) | (with_reducible apply ldn_skip))); done)); exact rfl)); (conv => whnf))); try (first | apply VStop.mk | apply VCall.stop))
  obtain ⟨g0, rfl⟩ : ∃ x, x = g := ⟨g, rfl⟩
  refine ot_call_st (X := NestX S.length × TwoX) (fun x => .tuple #[.agg #[.int .i64 rlo, .int .i64 rhi, .int .i64 L, .slice x.1.1.1 S.length x.1.1.2], .slice x.2.1.1 L x.2.1.2, .slice x.2.2.1 S.flatten.length x.2.2.2]) (fun x => .own (.slice x.2.1.1 L x.2.1.2) 2 1 L (i64s sh) :: .own (.slice x.2.2.1 S.flatten.length x.2.2.2) 2 1 S.flatten.length (i64s ti) :: .own (.slice x.1.1.1 S.length x.1.1.2) 55 1 S.length (sitVs x.1.2.1 S') :: sitCh x.1.2.1 S') (fun x c hc => by
    simp only [List.mem_cons] at hc
    rcases hc with rfl | rfl | rfl | hc
    · rfl
    · rfl
    · rfl
    · exact sitCh_mut c hc) (by decide) rfl rfl rfl (by kernel_rfl) (evl_of rfl) (fun w1 hs => hhd w1 (hs.nest hN) hs.base) (fun x => ?_)
  obtain ⟨⟨⟨Bo, co⟩, ⟨xs, hxs⟩⟩, ⟨⟨B8, c8⟩, ⟨B9, c9⟩⟩⟩ := x
  simp only [List.cons_append, List.nil_append]
  have hnx : ∀ {w1 : World} {A : List Chunk}, St w A w1 → .own (.slice Bo S.length co) 55 1 S.length (sitVs xs S') ∈ A → (∀ d ∈ sitCh xs S', d ∈ A) → NestR w1 3 Bo (nestOf S') := fun hs h h2 => hs.nestO (c := co) (by rw [hlenS]; exact hxs) (by rw [hlenS]; exact h) h2
  generalize hR : sitCh xs S' = R at *
  apply ot_v Try.tabOk
  by_cases h3 : chkBook rlo rhi L S' = 0
  rotate_left
  · rw [decide_eq_false h3] at hfn2
    ((try first | apply tr_v Try.tabOk | apply ot_v Try.tabOk); (conv => whnf); (repeat ((first | (apply VCall.q; kernel_rfl; (focus (intro w1 hs; first | with_reducible apply hfn2 w1 _ _ (hnx hs (by (repeat (first | with_unfolding_all exact List.Mem.head _ | assumption | with_unfolding_all refine List.Mem.tail _ ?_))) fun d hd => by simp only [List.mem_cons, List.mem_append, hd, true_or, or_true]) | with_reducible apply hwk w1))) | apply VBr.t | (apply VNew.mk; intro g hg) | (apply VLdN.mk; (focus ((repeat (first | (with_reducible apply ldn_blk) | (with_reducible apply ldn_row) | (with_reducible assumption) | (with_reducible apply ldn_skip))); done)); exact rfl) | (apply VSt.mk; (focus ((repeat (first | (with_reducible exact At.here) | (with_reducible apply At.there))); done)); exact rfl)); (conv => whnf))); try (first | apply VStop.mk | apply VCall.stop))
    ((apply VRet.mk); refine ret1 (by first | exact .inl rfl | exact .inr rfl) rfl (by exact rv_tmp rfl) ?_; exact fun w h => ⟨rfl, h.base⟩)
  rw [decide_eq_true h3] at hfn2
  have hO' := chk_ok.1 h3
  ((try first | apply tr_v Try.tabOk | apply ot_v Try.tabOk); (conv => whnf); (repeat ((first | (apply VLd.mk; exact cell_blk (t := 26) (cs := [.int .i64 rlo, .int .i64 rhi, .int .i64 L, .slice Al S.length c]) (by simp only [List.mem_cons, List.mem_append, List.mem_singleton, true_or, or_true]) rfl) | (apply VCall.q; kernel_rfl; (focus (intro w1 hs; first | with_reducible apply hfn2 w1 _ _ (hnx hs (by (repeat (first | with_unfolding_all exact List.Mem.head _ | assumption | with_unfolding_all refine List.Mem.tail _ ?_))) fun d hd => by simp only [List.mem_cons, List.mem_append, hd, true_or, or_true])))) | apply VBr.f | (apply VNew.mk; intro g hg) | (apply VLdN.mk; (focus ((repeat (first | (with_reducible apply ldn_blk) | (with_reducible apply ldn_row) | (with_reducible assumption) | (with_reducible apply ldn_skip))); done)); exact rfl) | (apply VSt.mk; (focus ((repeat (first | (with_reducible exact At.here) | (with_reducible apply At.there))); done)); exact rfl) | (apply v_wr64; omega) | (apply VNz.mk; omega)); (conv => whnf))); try (first | apply VStop.mk | apply VCall.stop))
  rw [e1]
  ((try first | apply tr_v Try.tabOk | apply ot_v Try.tabOk); (conv => whnf); try (first | apply VStop.mk | apply VCall.stop))
  generalize Int.tmod more 400 = d at *
  have hsm := fun w1 (h : NestR w1 3 Bo (nestOf S')) => same_n rlo rhi L Bo co S' w1 h hO'.fit hlenS
  refine ot_call_st (X := NestX S.length) (fun x => .agg #[.int .i64 rlo, .int .i64 rhi, .int .i64 L, .slice x.1.1 S.length x.1.2]) (fun x => .own (.slice x.1.1 S.length x.1.2) 55 1 S.length (sitVs x.2.1 S') :: sitCh x.2.1 S') (fun x c hc => by
    rcases List.mem_cons.1 hc with rfl | hc
    · rfl
    · exact sitCh_mut c hc) (by decide) rfl rfl rfl (by kernel_rfl) (evl_of rfl) (fun w1 hs => hsm w1 (hnx hs (by (repeat (first | with_unfolding_all exact List.Mem.head _ | assumption | with_unfolding_all refine List.Mem.tail _ ?_))) fun d hd => by simp only [List.mem_cons, List.mem_append, hd, true_or, or_true])) (fun x => ?_)
  obtain ⟨⟨Bq, cq⟩, ⟨ys, hys⟩⟩ := x
  simp only [List.cons_append, List.nil_append]
  apply ot_v Try.tabOk
  ((try first | apply tr_v Try.tabOk | apply ot_v Try.tabOk); (conv => whnf); (repeat ((first | (apply VNew.mk; intro g hg) | (apply VSt.mk; (focus ((repeat (first | (with_reducible exact At.here) | (with_reducible apply At.there))); done)); exact rfl)); (conv => whnf))); try (first | apply VStop.mk | apply VCall.stop))
  rename_i g9 h9
  refine tr_st (B := .blk g 26 [.int .i64 rlo, .int .i64 rhi, .int .i64 L, .slice Bq S.length cq] :: .own (.slice Bq S.length cq) 55 1 S.length (sitVs ys S') :: .own (.slice B8 L c8) 2 1 L (i64s sh) :: .own (.slice B9 S.flatten.length c9) 2 1 S.flatten.length (i64s ti) :: (sitCh ys S' ++ [])) (fun w hs => (hs.perm perm_mv).sub (.cons_cons _ (.cons_cons _ (.cons_cons _ (.cons_cons _ (List.Sublist.append_left (List.nil_sublist _) _)))))) ?_
  obtain ⟨g14, rfl⟩ : ∃ x, x = g := ⟨g, rfl⟩
  have hsv : ∀ j (hj : j < S.length), S'[j]'(by rw [hlenS]; exact hj) = S'[j]'(by rw [hlenS]; exact hj) := fun _ _ => rfl
  refine v_loop (fun gm ds ts A => ds = [] ∧ ∃ (j : Nat) (M : List (List T3)), j + gm = S.length ∧ MvTo i d S' M j 0 ∧ A = .blk g14 26 [.int .i64 rlo, .int .i64 rhi, .int .i64 L, .slice Bq S.length cq] :: .own (.slice Bq S.length cq) 55 1 S.length (sitVs ys S') :: .own (.slice B8 L c8) 2 1 L (i64s sh) :: .own (.slice B9 S.flatten.length c9) 2 1 S.flatten.length (i64s ti) :: (sitCh ys M ++ []) ∧ ts = [(10, .slice B8 L c8), (11, .slice B9 S.flatten.length c9), (12, .int .i64 (i : Int)), (13, .int .i64 d), (14, .pointer (some ⟨g14, 0, none⟩)), (15, .int .i64 (j : Int))]) S.length
    (l := [(10, _), (11, _), (12, _), (13, _), (14, _), (15, _)]) (B := _) ?_ (List.Sublist.refl _) ⟨rfl, 0, S', by omega, MvTo.zero i d S', rfl, rfl⟩ ?_
  · exact ⟨rfl, rfl, rfl, rfl, rfl, rfl, trivial⟩
  rintro gm ds ts A ⟨rfl, j, M, hj, hM, rfl, rfl⟩
  have hMl := hM.len
  by_cases hltj : j < S.length
  · have hjS : j < S'.length := by omega
    have hjM : j < M.length := by omega
    have hyM : ys.length = M.length := by omega
    have hlj := hM.lens j hjS
    have hne : 0 < S'[j].length := Nat.pos_of_ne_zero (hO'.ne _ (List.getElem_mem hjS))
    refine tr_fact (p := (∃ bq, Bq = some ⟨bq, 0, none⟩) ∧ ∃ b2, (ys[j]'(by omega)).1 = some ⟨b2, 0, none⟩) (fun w' hs => ?_) fun hp => ?_
    · refine ⟨own_some hs (n := S.length) (cap := cq) (sz := 1) (t := 55) (xs := sitVs ys S') (by (repeat (first | with_unfolding_all exact List.Mem.head _ | assumption | with_unfolding_all refine List.Mem.tail _ ?_))) (by omega), ?_⟩
      have h4 := sitCh_mem hyM hjM
      unfold sitC at h4
      exact own_some hs (.tail _ (.tail _ (.tail _ (.tail _ (List.mem_append_left _ h4))))) (by omega)
    obtain ⟨⟨bq, rfl⟩, ⟨b2, hb2⟩⟩ := hp
    obtain ⟨c2, hy2⟩ : ∃ c2, ys[j]'(by omega) = (some ⟨b2, 0, none⟩, c2) := ⟨(ys[j]'(by omega)).2, by rw [← hb2]⟩
    have hcx : ∀ {Ch : List Chunk}, .own (.slice (some ⟨bq, 0, none⟩) S.length cq) 55 1 S.length (sitVs ys S') ∈ Ch → CellAt w Ch bq (0 + j * 1) (.slice (some ⟨b2, 0, none⟩) S'[j].length c2) := fun h => by
      rw [Nat.zero_add, Nat.mul_one]
      exact cell_own h (by rw [sitVs_get (by omega) hjS, hy2]; rfl)
    ((try first | apply tr_v Try.tabOk | apply ot_v Try.tabOk); (conv => whnf); (repeat ((first | (apply VIx.mk (j := j); exact rfl; omega) | (apply VLd.mk; exact hcx (by (repeat (first | with_unfolding_all exact List.Mem.head _ | assumption | with_unfolding_all refine List.Mem.tail _ ?_)))) | (apply VLd.mk; (focus ((repeat (first | ((with_reducible apply ld_blk); exact rfl) | ((with_reducible apply ld_row); exact rfl) | ((with_reducible apply ld_row0); exact rfl) | (with_reducible assumption) | (with_reducible exact CellAt.base (by assumption)) | (with_reducible apply ld_skip))); done))) | apply VBr.t | (apply v_t; omega)); (conv => whnf))); try (first | apply VStop.mk | apply VCall.stop))
    refine v_loop (fun gm' ds ts A => ds = [] ∧ ∃ (k : Nat) (M : List (List T3)), k + gm' = S'[j].length ∧ MvTo i d S' M j k ∧ A = .blk g14 26 [.int .i64 rlo, .int .i64 rhi, .int .i64 L, .slice (some ⟨bq, 0, none⟩) S.length cq] :: .own (.slice (some ⟨bq, 0, none⟩) S.length cq) 55 1 S.length (sitVs ys S') :: .own (.slice B8 L c8) 2 1 L (i64s sh) :: .own (.slice B9 S.flatten.length c9) 2 1 S.flatten.length (i64s ti) :: (sitCh ys M ++ []) ∧ ts = [(10, .slice B8 L c8), (11, .slice B9 S.flatten.length c9), (12, .int .i64 (i : Int)), (13, .int .i64 d), (14, .pointer (some ⟨g14, 0, none⟩)), (15, .int .i64 (j : Int)), (16, .int .i64 (k : Int))]) S'[j].length
      (l := [(10, _), (11, _), (12, _), (13, _), (14, _), (15, _), (16, _)]) (B := _) ?_ (List.Sublist.refl _) ⟨rfl, 0, M, by omega, hM, rfl, rfl⟩ ?_
    · exact ⟨rfl, rfl, rfl, rfl, rfl, rfl, rfl, trivial⟩
    rintro gm' ds ts A ⟨rfl, k, M, hk, hM, rfl, rfl⟩
    have hMl := hM.len
    have hjM : j < M.length := by omega
    have hyM : ys.length = M.length := by omega
    have hlj := hM.lens j hjS
    by_cases hltk : k < S'[j].length
    · have hx := hO'.x _ (List.mem_flatten.2 ⟨_, List.getElem_mem hjS, List.getElem_mem hltk⟩)
      obtain ⟨hkM, hcur⟩ := hM.cur hjS hltk
      have hlen12 : S'[j].length ≤ 12 := by
        have h1 := offT_step hjS
        have h2 := off_mono (S := S') (show j + 1 ≤ S'.length by omega) (Nat.le_refl _)
        have h3 := hO'.t
        rw [offT_all] at h2
        omega
      have h4 := sitCh_mem hyM hjM
      unfold sitC at h4
      rw [hy2] at h4
      dsimp only at h4
      have hsd : ∀ {Ch : List Chunk}, (∀ d ∈ sitCh ys M, d ∈ Ch) → CellsAt w Ch b2 (0 + k * 3) (saidL S'[j][k]) := fun h => by
        have := own_said hkM (w0 := w) (h _ h4)
        rwa [List.getElem?_eq_getElem hkM, Option.getD_some, hcur] at this
      have hss := said_set M[j] k hkM
      rw [hcur] at hss
      have hstep := hM.step hjS hltk
      have hskip := hM.skip hjS hltk
      unfold mvT at hstep
      generalize S'[j][k] = X at *
      obtain ⟨q, lo, hi⟩ := X
      dsimp only at hx hss hskip hstep
      have hsd : ∀ {Ch : List Chunk}, (∀ d ∈ sitCh ys M, d ∈ Ch) → CellsAt w Ch b2 (0 + k * 3) [.int .i64 q, .int .i64 lo, .int .i64 hi] := hsd
      by_cases hq : q = (i : Int)
      · subst hq
        rw [if_pos rfl] at hstep
        have hcells : setMany (saidCells M[j]) (0 + k * 3 + 1) [.int .i64 (lo + d), .int .i64 (hi + d)] = saidCells (M[j].set k ((i : Int), lo + d, hi + d)) := by rw [Nat.zero_add]; exact hss _ _
        have hto := fun a b w1 => to_any a b w1
        ((try first | apply tr_v Try.tabOk | apply ot_v Try.tabOk); (conv => whnf); (repeat ((first | ((first | apply VStop.mk | apply VCall.stop); (first | refine tr_region_lex (id := 16) (by kernel_rfl) [.rd, .rd, .rd, .rd, .rd, .rd, .rd, .rd, .rd, .rd, .rd, .rd, .rd, .rd, .rd, .rd, .cr, .rd, .rd, .wr] rfl (by kernel_rfl) ?_); try first | apply ot_v Try.tabOk | apply tr_v Try.tabOk) | (apply VIx.mk (j := j); exact rfl; omega) | (apply VIx.mk (j := k); exact rfl; omega) | (apply VLd.mk; exact hcx (by (repeat (first | with_unfolding_all exact List.Mem.head _ | assumption | with_unfolding_all refine List.Mem.tail _ ?_)))) | (apply VLdN.mk; exact hsd (fun d hd => by simp only [List.mem_cons, List.mem_append, hd, true_or, or_true]); exact rfl) | (apply VSt.stop; refine ot_storeN_own (xs := saidCells M[j]) (vs := [_, _]) Try.tabOk rfl rfl rfl rfl rfl rfl rfl rfl rfl rfl (.there (.there (.there (.there (.there (sit_upd hyM hjM hy2 (List.length_set) hcells)))))) (by simp only [List.length_cons, List.length_nil]; omega) (Nat.succ_pos _) ?_; apply ot_v Try.tabOk) | (apply VCall.q; kernel_rfl; (focus (intro w1 hs; first | with_reducible apply hto _ _ w1))) | (apply VLd.mk; (focus ((repeat (first | ((with_reducible apply ld_blk); exact rfl) | ((with_reducible apply ld_row); exact rfl) | ((with_reducible apply ld_row0); exact rfl) | (with_reducible assumption) | (with_reducible exact CellAt.base (by assumption)) | (with_reducible apply ld_skip))); done))) | (apply VRng.mk; omega) | apply VBr.t | (apply v_t; omega) | (apply VNew.mk; intro g hg) | (apply VSt.mk; (focus ((repeat (first | (with_reducible exact At.here) | (with_reducible apply At.there))); done)); exact rfl)); (conv => whnf))); try (first | apply VStop.mk | apply VCall.stop))
        exact v_rnd (gm' - 1) (by omega) (l := [(10, _), (11, _), (12, _), (13, _), (14, _), (15, _), (16, _)]) (B := _) ⟨rfl, rfl, rfl, rfl, rfl, rfl, rfl, trivial⟩ (.cons _ (List.Sublist.refl _)) ⟨rfl, k + 1, M.set j (M[j].set k ((i : Int), lo + d, hi + d)), by omega, hstep, rfl, rfl⟩
      · ((try first | apply tr_v Try.tabOk | apply ot_v Try.tabOk); (conv => whnf); (repeat ((first | (apply VIx.mk (j := j); exact rfl; omega) | (apply VIx.mk (j := k); exact rfl; omega) | (apply VLd.mk; exact hcx (by (repeat (first | with_unfolding_all exact List.Mem.head _ | assumption | with_unfolding_all refine List.Mem.tail _ ?_)))) | (apply VLdN.mk; exact hsd (fun d hd => by simp only [List.mem_cons, List.mem_append, hd, true_or, or_true]); exact rfl) | (apply VLd.mk; (focus ((repeat (first | ((with_reducible apply ld_blk); exact rfl) | ((with_reducible apply ld_row); exact rfl) | ((with_reducible apply ld_row0); exact rfl) | (with_reducible assumption) | (with_reducible exact CellAt.base (by assumption)) | (with_reducible apply ld_skip))); done))) | (apply VRng.mk; omega) | apply VBr.t | apply VBr.f | (apply v_t; omega) | (apply v_f; omega) | (apply VNew.mk; intro g hg) | (apply VSt.mk; (focus ((repeat (first | (with_reducible exact At.here) | (with_reducible apply At.there))); done)); exact rfl)); (conv => whnf))); try (first | apply VStop.mk | apply VCall.stop))
        exact v_rnd (gm' - 1) (by omega) (l := [(10, _), (11, _), (12, _), (13, _), (14, _), (15, _), (16, _)]) (B := _) ⟨rfl, rfl, rfl, rfl, rfl, rfl, rfl, trivial⟩ (.cons _ (List.Sublist.refl _)) ⟨rfl, k + 1, M, by omega, hskip hq, rfl, rfl⟩
    · obtain rfl : S'[j].length = k := by omega
      ((try first | apply tr_v Try.tabOk | apply ot_v Try.tabOk); (conv => whnf); (repeat ((first | (apply VIx.mk (j := j); exact rfl; omega) | (apply VLd.mk; exact hcx (by (repeat (first | with_unfolding_all exact List.Mem.head _ | assumption | with_unfolding_all refine List.Mem.tail _ ?_)))) | (apply VLd.mk; (focus ((repeat (first | ((with_reducible apply ld_blk); exact rfl) | ((with_reducible apply ld_row); exact rfl) | ((with_reducible apply ld_row0); exact rfl) | (with_reducible assumption) | (with_reducible exact CellAt.base (by assumption)) | (with_reducible apply ld_skip))); done))) | (apply VRng.mk; omega) | apply VBr.f | (apply v_f; omega)); (conv => whnf))); try (first | apply VStop.mk | apply VCall.stop))
      exact v_rnd (gm - 1) (by omega) (l := [(10, _), (11, _), (12, _), (13, _), (14, _), (15, _)]) (B := _) ⟨rfl, rfl, rfl, rfl, rfl, rfl, trivial⟩ (List.Sublist.refl _) ⟨rfl, j + 1, M, by omega, hM.next hjS, rfl, rfl⟩
  · obtain rfl : S.length = j := by omega
    refine tr_fact (p := ∃ b, B8 = some ⟨b, 0, none⟩) (fun w' hs => own_some hs (n := L) (cap := c8) (sz := 1) (t := 2) (xs := i64s sh) (by (repeat (first | with_unfolding_all exact List.Mem.head _ | assumption | with_unfolding_all refine List.Mem.tail _ ?_))) (by omega)) fun hp => ?_
    obtain ⟨b8, rfl⟩ := hp
    have f8 : ∀ {Ch : List Chunk}, .own (.slice (some ⟨b8, 0, none⟩) L c8) 2 1 L (i64s sh) ∈ Ch → CellAt w Ch b8 (0 + i * 1) (.int .i64 (iAt sh i)) := fun h => own_int h (by omega)
    have hsi : 0 ≤ iAt sh i ∧ iAt sh i ≤ 1000 := by rw [hLa i hiL]; exact hshb i
    have hM' : MvTo i d S' M S'.length 0 := by rw [hlenS]; exact hM
    have hlM : M.length = S.length := by omega
    have hmM : ∀ s ∈ M, s.length ≤ maxLen := fun s hs => by
      obtain ⟨j, hj, rfl⟩ := List.getElem_of_mem hs
      rw [hM.lens j (by omega)]
      exact hm' _ (List.getElem_mem _)
    have hvs : sitVs ys S' = sitVs ys M := sitVs_congr (by omega) fun a h h' => hM.lens a h
    have hny : ∀ {w1 : World} {A : List Chunk}, St w A w1 → .own (.slice Bq S.length cq) 55 1 S.length (sitVs ys S') ∈ A → (∀ d ∈ sitCh ys M, d ∈ A) → NestR w1 3 Bq (nestOf M) := fun hs h h2 => hs.nestO (c := cq) (xs := ys) (by omega) (by rw [hlM, ← hvs]; exact h) h2
    have hfn3 := fun w1 A c (h : NestR w1 3 A (nestOf M)) => fineG_any rlo rhi L A c M w1 h hmM
    rw [hlM] at hfn3
    unfold bookV at hfn3
    have hset := i64s_set sh i (iAt sh i + d)
    by_cases h5 : chkBook rlo rhi L M = 0
    rotate_left
    · rw [decide_eq_false h5] at hfn3
      generalize iAt sh i = v8 at *
      ((try first | apply tr_v Try.tabOk | apply ot_v Try.tabOk); (conv => whnf); (repeat ((first | (apply VIx.mk (j := i); exact rfl; omega) | (apply VLd.mk; exact f8 (by (repeat (first | with_unfolding_all exact List.Mem.head _ | assumption | with_unfolding_all refine List.Mem.tail _ ?_)))) | (apply VSt.stop; refine ot_store_own (xs := i64s sh) (sv := .nilFunc) Try.tabOk rfl rfl rfl rfl rfl rfl rfl rfl rfl rfl (.there (.there .here)) (by omega) ?_; apply ot_v Try.tabOk) | (apply VCall.q; kernel_rfl; (focus (intro w1 hs; first | with_reducible apply hfn3 w1 _ _ (hny hs (by (repeat (first | with_unfolding_all exact List.Mem.head _ | assumption | with_unfolding_all refine List.Mem.tail _ ?_))) fun d hd => by simp only [List.mem_cons, List.mem_append, hd, true_or, or_true]) | with_reducible apply hwk w1))) | (apply VLd.mk; (focus ((repeat (first | ((with_reducible apply ld_blk); exact rfl) | ((with_reducible apply ld_row); exact rfl) | ((with_reducible apply ld_row0); exact rfl) | (with_reducible assumption) | (with_reducible exact CellAt.base (by assumption)) | (with_reducible apply ld_skip))); done))) | (apply VRng.mk; omega) | apply VBr.t | apply VBr.f | (apply v_f; omega) | (apply VLdN.mk; (focus ((repeat (first | (with_reducible apply ldn_blk) | (with_reducible apply ldn_row) | (with_reducible assumption) | (with_reducible apply ldn_skip))); done)); exact rfl)); (conv => whnf))); try (first | apply VStop.mk | apply VCall.stop))
      ((apply VRet.mk); refine ret1 (by first | exact .inl rfl | exact .inr rfl) rfl (by exact rv_tmp rfl) ?_; exact fun w h => ⟨rfl, h.base⟩)
    rw [decide_eq_true h5] at hfn3
    have hOM := chk_ok.1 h5
    have hx8 : 0 + i * 1 = i := by omega
    have g8 : ∀ {Ch : List Chunk}, .own (.slice (some ⟨b8, 0, none⟩) L c8) 2 1 L ((i64s sh).set (0 + i * 1) (.int .i64 (iAt sh i + d))) ∈ Ch → CellAt w Ch b8 (0 + i * 1) (.int .i64 (iAt sh i + d)) := fun h => by
      rw [hx8] at h ⊢
      refine cell_own h ?_
      rw [List.getElem?_set_self (by simp [i64s]; omega)]
    by_cases h6 : 0 ≤ iAt sh i + d ∧ iAt sh i + d ≤ 1000
    rotate_left
    · generalize iAt sh i = v8 at *
      by_cases h7 : v8 + d < 0
      · ((try first | apply tr_v Try.tabOk | apply ot_v Try.tabOk); (conv => whnf); (repeat ((first | (apply VIx.mk (j := i); exact rfl; omega) | (apply VLd.mk; first | exact f8 (.tail _ (.tail _ (.head _))) | exact g8 (.tail _ (.tail _ (.head _))) | exact g8 (.tail _ (.tail _ (.tail _ (.head _))))) | (apply VSt.stop; refine ot_store_own (xs := i64s sh) (sv := .nilFunc) Try.tabOk rfl rfl rfl rfl rfl rfl rfl rfl rfl rfl (.there (.there .here)) (by omega) ?_; apply ot_v Try.tabOk) | (apply VCall.q; kernel_rfl; (focus (intro w1 hs; first | with_reducible apply hfn3 w1 _ _ (hny hs (by (repeat (first | with_unfolding_all exact List.Mem.head _ | assumption | with_unfolding_all refine List.Mem.tail _ ?_))) fun d hd => by simp only [List.mem_cons, List.mem_append, hd, true_or, or_true]) | with_reducible apply hwk w1))) | (apply VLd.mk; (focus ((repeat (first | ((with_reducible apply ld_blk); exact rfl) | ((with_reducible apply ld_row); exact rfl) | ((with_reducible apply ld_row0); exact rfl) | (with_reducible assumption) | (with_reducible exact CellAt.base (by assumption)) | (with_reducible apply ld_skip))); done))) | (apply VRng.mk; omega) | apply VBr.t | apply VBr.f | (apply v_t; omega) | (apply v_f; omega) | (apply VLdN.mk; (focus ((repeat (first | (with_reducible apply ldn_blk) | (with_reducible apply ldn_row) | (with_reducible assumption) | (with_reducible apply ldn_skip))); done)); exact rfl)); (conv => whnf))); try (first | apply VStop.mk | apply VCall.stop))
        ((apply VRet.mk); refine ret1 (by first | exact .inl rfl | exact .inr rfl) rfl (by exact rv_tmp rfl) ?_; exact fun w h => ⟨rfl, h.base⟩)
      · have h8 : 1000 < v8 + d := by omega
        ((try first | apply tr_v Try.tabOk | apply ot_v Try.tabOk); (conv => whnf); (repeat ((first | (apply VIx.mk (j := i); exact rfl; omega) | (apply VLd.mk; first | exact f8 (.tail _ (.tail _ (.head _))) | exact g8 (.tail _ (.tail _ (.head _))) | exact g8 (.tail _ (.tail _ (.tail _ (.head _))))) | (apply VSt.stop; refine ot_store_own (xs := i64s sh) (sv := .nilFunc) Try.tabOk rfl rfl rfl rfl rfl rfl rfl rfl rfl rfl (.there (.there .here)) (by omega) ?_; apply ot_v Try.tabOk) | (apply VCall.q; kernel_rfl; (focus (intro w1 hs; first | with_reducible apply hfn3 w1 _ _ (hny hs (by (repeat (first | with_unfolding_all exact List.Mem.head _ | assumption | with_unfolding_all refine List.Mem.tail _ ?_))) fun d hd => by simp only [List.mem_cons, List.mem_append, hd, true_or, or_true]) | with_reducible apply hwk w1))) | (apply VLd.mk; (focus ((repeat (first | ((with_reducible apply ld_blk); exact rfl) | ((with_reducible apply ld_row); exact rfl) | ((with_reducible apply ld_row0); exact rfl) | (with_reducible assumption) | (with_reducible exact CellAt.base (by assumption)) | (with_reducible apply ld_skip))); done))) | (apply VRng.mk; omega) | apply VBr.t | apply VBr.f | (apply v_t; omega) | (apply v_f; omega) | (apply VLdN.mk; (focus ((repeat (first | (with_reducible apply ldn_blk) | (with_reducible apply ldn_row) | (with_reducible assumption) | (with_reducible apply ldn_skip))); done)); exact rfl)); (conv => whnf))); try (first | apply VStop.mk | apply VCall.stop))
        ((apply VRet.mk); refine ret1 (by first | exact .inl rfl | exact .inr rfl) rfl (by exact rv_tmp rfl) ?_; exact fun w h => ⟨rfl, h.base⟩)
    have hTM : TruthN rlo rhi L M (-1) (iAt (sh.set i (iAt sh i + d))) (iAt ti) := by
      have ha := truth_mv hO' hM' hself (by rw [hLa i hiL] at h6; exact h6)
      have hb2 := truthN_off hOM (fun j hj => (mv_off hM' (by omega)).trans (hoff j (by omega))) ha
      refine TruthN.congr' hOM hb2 (fun q hq => ?_) fun k hk => ?_
      · rw [iAt_set (by omega)]
        by_cases e : q = i
        · subst e; rw [if_pos rfl, if_pos rfl, hLa q hq]
        · rw [if_neg e, if_neg e, hLa q hq]
      · exact hTa k (by rw [← offT_all, hlM, mv_off hM' (by omega), hoff _ (by omega), offT_all] at hk; exact hk)
    have hTl : M.flatten.length = S.flatten.length := by rw [← offT_all, hlM, mv_off hM' (by omega), hoff _ (by omega), offT_all]
    have z := truthR_zero hOM (by rw [List.length_set]; exact n1) (by rw [n2, hTl]) hTM
    have hcM : canB rlo rhi L M (-1) = true := (canB_iff hOM (-1)).2 ((has_iff hOM (-1)).2 ⟨_, _, hTM⟩)
    have sp := span_holds hOM (truthA_iff.1 (truthS_of hOM hTM)) hiL
    rw [iAt_set (by omega), if_pos rfl] at sp
    have q1 : spanR rlo rhi L M i = (loS rlo rhi L M i, hiS rlo rhi L M i, 0) := by
      unfold spanR
      rw [if_neg (by simpa using h5), if_neg (by omega), Int.toNat_natCast, if_neg (by rw [hcM]; decide), Int.toNat_natCast]; rfl
    have cs := fun w1 A c (h : NestR w1 3 A (nestOf M)) => span_any rlo rhi L A c M w1 h hOM.fit i
    have ct := fun w1 A c (h : NestR w1 3 A (nestOf M)) B1 B2 k1 k2 ha hb => checkTruth_any rlo rhi L A c M w1 h hOM.fit B1 B2 k1 k2 (sh.set i (iAt sh i + d)) ti ha hb (by rw [List.length_set]; omega) (by omega)
    rw [q1] at cs
    rw [z, List.length_set, n1, n2] at ct
    unfold bookV at ct
    unfold bookV rangeV at cs
    rw [hlM] at cs ct
    rw [← hset] at ct
    dsimp only at cs
    generalize loS rlo rhi L M i = slo at *
    generalize hiS rlo rhi L M i = shi at *
    generalize iAt sh i = v8 at *
    clear hTM hself hhd z
    ((try first | apply tr_v Try.tabOk | apply ot_v Try.tabOk); (conv => whnf); (repeat ((first | (apply VIx.mk (j := i); exact rfl; omega) | (apply VLd.mk; first | exact f8 (.tail _ (.tail _ (.head _))) | exact g8 (.tail _ (.tail _ (.head _))) | exact g8 (.tail _ (.tail _ (.tail _ (.head _))))) | (apply VSt.stop; refine ot_store_own (xs := i64s sh) (sv := .nilFunc) Try.tabOk rfl rfl rfl rfl rfl rfl rfl rfl rfl rfl (.there (.there .here)) (by omega) ?_; apply ot_v Try.tabOk) | (apply VCall.q; kernel_rfl; (focus (intro w1 hs; first | with_reducible apply hfn3 w1 _ _ (hny hs (by (repeat (first | with_unfolding_all exact List.Mem.head _ | assumption | with_unfolding_all refine List.Mem.tail _ ?_))) fun d hd => by simp only [List.mem_cons, List.mem_append, hd, true_or, or_true]) | with_reducible apply hwk w1 | with_reducible apply cs w1 _ _ (hny hs (by (repeat (first | with_unfolding_all exact List.Mem.head _ | assumption | with_unfolding_all refine List.Mem.tail _ ?_))) fun d hd => by simp only [List.mem_cons, List.mem_append, hd, true_or, or_true])))) | (apply VLd.mk; (focus ((repeat (first | ((with_reducible apply ld_blk); exact rfl) | ((with_reducible apply ld_row); exact rfl) | ((with_reducible apply ld_row0); exact rfl) | (with_reducible assumption) | (with_reducible exact CellAt.base (by assumption)) | (with_reducible apply ld_skip))); done))) | (apply VRng.mk; omega) | apply VBr.f | (apply v_f; omega) | (apply VNew.mk; intro g hg) | (apply VLdN.mk; (focus ((repeat (first | (with_reducible apply ldn_blk) | (with_reducible apply ldn_row) | (with_reducible assumption) | (with_reducible apply ldn_skip))); done)); exact rfl) | (apply VSt.mk; (focus ((repeat (first | (with_reducible exact At.here) | (with_reducible apply At.there))); done)); exact rfl)); (conv => whnf))); try (first | apply VStop.mk | apply VCall.stop))
    rw [hx8] at g8 ⊢
    ((try first | apply tr_v Try.tabOk | apply ot_v Try.tabOk); (conv => whnf); (repeat ((first | ((first | apply VStop.mk | apply VCall.stop); (first | refine tr_region_lex (id := 21) (by kernel_rfl) [.rd, .rd, .rd, .cr, .rd, .rd, .rd, .rd, .rd, .rd, .rd, .rd, .rd, .rd, .rd, .rd, .rd, .rd, .rd, .rd, .rd, .rd, .rd, .rd, .rd, .rd, .rd, .rd, .cr, .rd, .rd] rfl (by kernel_rfl) ?_); try first | apply ot_v Try.tabOk | apply tr_v Try.tabOk) | (apply VIx.mk (j := i); exact rfl; omega) | (apply VLd.mk; rw [hx8]; exact g8 (.tail _ (.tail _ (.tail _ (.head _))))) | (apply VCall.q; kernel_rfl; (focus (intro w1 hs; first | with_reducible apply ct w1 _ _ (hny hs (by (repeat (first | with_unfolding_all exact List.Mem.head _ | assumption | with_unfolding_all refine List.Mem.tail _ ?_))) fun d hd => by simp only [List.mem_cons, List.mem_append, hd, true_or, or_true]) _ _ _ _ (hs.own_rd (by (repeat (first | with_unfolding_all exact List.Mem.head _ | assumption | with_unfolding_all refine List.Mem.tail _ ?_)))) (hs.own_rd (by (repeat (first | with_unfolding_all exact List.Mem.head _ | assumption | with_unfolding_all refine List.Mem.tail _ ?_)))) | with_reducible apply hwk w1))) | (apply VLd.mk; (focus ((repeat (first | ((with_reducible apply ld_blk); exact rfl) | ((with_reducible apply ld_row); exact rfl) | ((with_reducible apply ld_row0); exact rfl) | (with_reducible assumption) | (with_reducible exact CellAt.base (by assumption)) | (with_reducible apply ld_skip))); done))) | apply VBr.t | (apply v_t; omega) | (apply VLdN.mk; (focus ((repeat (first | (with_reducible apply ldn_blk) | (with_reducible apply ldn_row) | (with_reducible assumption) | (with_reducible apply ldn_skip))); done)); exact rfl)); (conv => whnf))); try (first | apply VStop.mk | apply VCall.stop))
    ((apply VRet.mk); refine ret1 (by first | exact .inl rfl | exact .inr rfl) rfl (by exact rv_tmp rfl) ?_; exact fun w h => ⟨rfl, h.base⟩)
end
end Go.Proofs.Ytkbcogaodnmdoaa
