/- TasteOrder: plain: lemmas for the rows of this seat. No conditions. -/
import Derived.Test.YtkbcogaodnmdoaaProg
import Derived.WalkKit
import Derived.WalkSpells
import Derived.WalkLawsBesides
import Derived.Lib.Hide
import Derived.Deep.AppendLies
import Derived.Deep.Draws
import Derived.Maps.AppendAt
import Derived.RegionTactic
import Derived.OwnWalk
import Derived.Deep.QuietTactic
import Derived.BigQuiet
import Derived.Deep.DeepFit
import Derived.Deep.LoopGhost
import Derived.Deep.DeepMust
import Derived.Deep.DeepCutAuto
import Derived.StillTail
import Derived.Deep.Quiet
import Derived.Deep.RegionHeld3
import Derived.Deep.RegionWith
import Derived.Deep.RegionLaw
import Derived.Maps.OwnOps
import Derived.Maps.OwnSet
import Derived.Maps.OwnRows
import Derived.Maps.RangeWalk
import Derived.Carry
import Derived.Test.YtkbcogaodnmdoaaBase
import Derived.Test.YtkbcogaodnmdoaaMaps
import Derived.Test.YtkbcogaodnmdoaaKeys
import Derived.Test.YtkbcogaodnmdoaaS1
import Derived.Test.YtkbcogaodnmdoaaS5
import Derived.Test.YtkbcogaodnmdoaaS12
import Derived.Test.YtkbcogaodnmdoaaS14
import Derived.Test.YtkbcogaodnmdoaaV
import Derived.Test.YtkbcogaodnmdoaaV2
import Derived.Test.YtkbcogaodnmdoaaV3
import Derived.Test.YtkbcogaodnmdoaaV4
import Derived.Test.YtkbcogaodnmdoaaV5
import Derived.Test.YtkbcogaodnmdoaaTab
import Derived.Test.YtkbcogaodnmdoaaE1
import Derived.Test.YtkbcogaodnmdoaaE2
import Derived.Test.YtkbcogaodnmdoaaE3
import Derived.Test.YtkbcogaodnmdoaaE4
import Derived.Test.YtkbcogaodnmdoaaE5
import Derived.Test.YtkbcogaodnmdoaaE6
import Derived.Test.YtkbcogaodnmdoaaE7
import Derived.Test.YtkbcogaodnmdoaaE8
import Derived.Test.YtkbcogaodnmdoaaE9
import Derived.Test.YtkbcogaodnmdoaaE10
import Derived.Test.YtkbcogaodnmdoaaE11
import Derived.Test.YtkbcogaodnmdoaaE12
import Derived.Test.YtkbcogaodnmdoaaE13
import Derived.Test.YtkbcogaodnmdoaaE14
import Derived.Test.YtkbcogaodnmdoaaE15
import Derived.Test.YtkbcogaodnmdoaaE16
import Derived.Test.YtkbcogaodnmdoaaE17
import Derived.Test.YtkbcogaodnmdoaaE18
import Derived.Test.YtkbcogaodnmdoaaE19
import Derived.Test.YtkbcogaodnmdoaaE20
import Derived.Test.YtkbcogaodnmdoaaE21
import Derived.Test.YtkbcogaodnmdoaaE22
import Derived.Test.YtkbcogaodnmdoaaE23
import Derived.Test.YtkbcogaodnmdoaaE24
import Derived.Test.YtkbcogaodnmdoaaE25
import Derived.Test.YtkbcogaodnmdoaaE26
import Derived.Test.YtkbcogaodnmdoaaE27
import Derived.Test.YtkbcogaodnmdoaaE28
import Derived.Test.YtkbcogaodnmdoaaE29
import Derived.Test.YtkbcogaodnmdoaaE30
import Derived.Test.YtkbcogaodnmdoaaE31
import Derived.Test.YtkbcogaodnmdoaaE32
set_option linter.all false
namespace Go.Proofs.Ytkbcogaodnmdoaa
open Go.RowKit
/-! ## TasteOrder: plain -/
theorem cnt_add (f : Nat → Bool) (a : Nat) : ∀ b, (wrongUpto f (a + b)).length = (wrongUpto f a).length + (wrongUpto (fun k => f (a + k)) b).length
  | 0 => rfl
  | b + 1 => by
    have := cnt_add f a b
    rw [show a + (b + 1) = (a + b) + 1 by omega, wrongUpto, wrongUpto]
    split
    · rw [List.length_append, List.length_append, this]; simp only [List.length_singleton]; omega
    · exact this
theorem cnt_congr {f g : Nat → Bool} : ∀ m, (∀ k, k < m → f k = g k) → (wrongUpto f m).length = (wrongUpto g m).length
  | 0, _ => rfl
  | m + 1, h => by
    rw [wrongUpto, wrongUpto, h m (by omega)]
    have := cnt_congr m fun k hk => h k (by omega)
    split
    · rw [List.length_append, List.length_append, this]
    · exact this
def sumJ (g : Nat → Nat) : Nat → Nat
  | 0 => 0
  | n + 1 => sumJ g n + g n
theorem sumJ_front (g : Nat → Nat) : ∀ n, sumJ g (n + 1) = g 0 + sumJ (fun j => g (j + 1)) n
  | 0 => by simp [sumJ]
  | n + 1 => by rw [sumJ, sumJ_front g n, sumJ]; omega
theorem sumJ_rev : ∀ (n : Nat) (g h : Nat → Nat), (∀ j, j < n → h j = g (n - 1 - j)) → sumJ h n = sumJ g n
  | 0, _, _, _ => rfl
  | n + 1, g, h, e => by
    rw [sumJ_front g, sumJ, sumJ_rev n (fun j => g (j + 1)) h fun j hj => by rw [e j (by omega)]; congr 1; omega, e n (by omega), show n + 1 - 1 - n = 0 by omega]
    omega
theorem sumJ_congr {g h : Nat → Nat} : ∀ n, (∀ j, j < n → g j = h j) → sumJ g n = sumJ h n
  | 0, _ => rfl
  | n + 1, e => by rw [sumJ, sumJ, sumJ_congr n fun j hj => e j (by omega), e n (by omega)]
theorem cnt_off (S : List (List T3)) (f : Nat → Bool) : ∀ m, m ≤ S.length → (wrongUpto f (offT S m)).length = sumJ (fun j => (wrongUpto (fun k => f (offT S j + k)) (S[j]?.getD []).length).length) m
  | 0, _ => by simp [offT, wrongUpto, sumJ]
  | m + 1, h => by
    rw [offT_step (show m < S.length by omega), cnt_add, cnt_off S f m (by omega), sumJ, List.getElem?_eq_getElem (show m < S.length by omega)]; rfl
section
variable {rlo rhi : Int} {L : Nat} {S : List (List T3)}
theorem TruthS.congr {skip skip' : Nat → Nat → Prop} {sh : Nat → Int} {ti : Nat → Nat → Int} (h : TruthS rlo rhi L S skip sh ti) (e : ∀ j (hj : j < S.length) k, k < S[j].length → skip j k → skip' j k) : TruthS rlo rhi L S skip' sh ti :=
  ⟨h.sharp, h.first, h.next, fun j hj k hk hs => h.said j hj k hk fun q => hs (e j hj k hk q)⟩
theorem skip_iff {j k j' k' : Nat} (hj : j < S.length) (hk : k < S[j].length) (hj' : j' < S.length) (hk' : k' < S[j'].length) : skipAt S ((offT S j + k : Nat) : Int) j' k' ↔ (j' = j ∧ k' = k) := by
  unfold skipAt
  constructor
  · intro h
    exact off_uniq hj' hj hk' hk (by omega)
  · rintro ⟨rfl, rfl⟩
    rfl
theorem flat_rev : S.reverse.flatten.length = S.flatten.length := by
  simp [List.length_flatten]
theorem Okb.rev {lots : Int} (h : Okb rlo rhi lots S) : Okb rlo rhi lots S.reverse :=
  ⟨h.r, h.l, by rw [List.length_reverse]; exact h.n, by rw [flat_rev]; exact h.t, fun s hs => h.ne s (List.mem_reverse.1 hs), fun x hx => h.x x (by
    obtain ⟨l, hl, hx⟩ := List.mem_flatten.1 hx
    exact List.mem_flatten.2 ⟨l, List.mem_reverse.1 hl, hx⟩)⟩
theorem rev_at {j : Nat} (hj : j < S.reverse.length) : S.reverse[j] = S[S.length - 1 - j]'(by rw [List.length_reverse] at hj; omega) := List.getElem_reverse hj
theorem TruthS.rev {skip : Nat → Nat → Prop} {sh : Nat → Int} {ti : Nat → Nat → Int} (h : TruthS rlo rhi L S skip sh ti) : TruthS rlo rhi L S.reverse (fun j k => skip (S.length - 1 - j) k) sh (fun j k => ti (S.length - 1 - j) k) := by
  refine ⟨h.sharp, fun j hj => ?_, fun j hj k hk => ?_, fun j hj k hk hs => ?_⟩
  · rw [List.length_reverse] at hj
    exact h.first _ (by omega)
  · rw [rev_at hj] at hk
    rw [List.length_reverse] at hj
    exact h.next _ (by omega) k hk
  · simp only [rev_at hj] at hk ⊢
    rw [List.length_reverse] at hj
    exact h.said _ (by omega) k hk hs
variable (hO : Okb rlo rhi L S)
include hO
theorem can_rev1 {j k : Nat} (hj : j < S.length) (hk : k < S[j].length) (h : canB rlo rhi L S ((offT S j + k : Nat) : Int) = true) : canB rlo rhi L S.reverse ((offT S.reverse (S.length - 1 - j) + k : Nat) : Int) = true := by
  obtain ⟨sh, ti, h⟩ := (can_truthS hO _).1 h
  have h2 := (h.congr fun j' hj' k' hk' q => (skip_iff hj hk hj' hk').1 q).rev
  have hj1 : S.length - 1 - j < S.reverse.length := by rw [List.length_reverse]; omega
  have hk1 : k < S.reverse[S.length - 1 - j].length := by
    rw [rev_at hj1]
    have e : S.length - 1 - (S.length - 1 - j) = j := by omega
    simp only [e]; exact hk
  refine (can_truthS hO.rev _).2 ⟨_, _, h2.congr fun j' hj' k' hk' q => (skip_iff hj1 hk1 hj' hk').2 ?_⟩
  rw [List.length_reverse] at hj'
  exact ⟨by omega, q.2⟩
theorem can_rev {j k : Nat} (hj : j < S.length) (hk : k < S[j].length) : canB rlo rhi L S ((offT S j + k : Nat) : Int) = canB rlo rhi L S.reverse ((offT S.reverse (S.length - 1 - j) + k : Nat) : Int) := by
  rw [Bool.eq_iff_iff]
  refine ⟨can_rev1 hO hj hk, fun h => ?_⟩
  have hj1 : S.length - 1 - j < S.reverse.length := by rw [List.length_reverse]; omega
  have hk1 : k < S.reverse[S.length - 1 - j].length := by
    rw [rev_at hj1]
    have e : S.length - 1 - (S.length - 1 - j) = j := by omega
    simp only [e]; exact hk
  have := can_rev1 hO.rev hj1 hk1 h
  rw [List.length_reverse, show S.length - 1 - (S.length - 1 - j) = j by omega, List.reverse_reverse] at this
  exact this
theorem wrong_rev : (wrongUpto (fun k => canB rlo rhi L S k) S.flatten.length).length = (wrongUpto (fun k => canB rlo rhi L S.reverse k) S.reverse.flatten.length).length := by
  rw [← offT_all, ← offT_all, cnt_off S _ _ (Nat.le_refl _), cnt_off S.reverse _ _ (Nat.le_refl _), List.length_reverse]
  refine sumJ_rev _ _ _ fun j hj => ?_
  have hj1 : S.length - 1 - j < S.reverse.length := by rw [List.length_reverse]; omega
  have hj2 : S.length - 1 - (S.length - 1 - j) = j := by omega
  rw [List.getElem?_eq_getElem hj, List.getElem?_eq_getElem hj1, Option.getD_some, Option.getD_some]
  have e : S.reverse[S.length - 1 - j].length = S[j].length := by
    rw [rev_at hj1]; simp only [hj2]
  rw [e]
  exact cnt_congr _ fun k hk => can_rev hO hj hk
/-- A truth of the one is one of the other. -/
theorem truth_rev {sh : Nat → Int} {ti : Nat → Nat → Int} (h : TruthA rlo rhi L S sh ti) : ∃ ti, TruthA rlo rhi L S.reverse sh ti := ⟨_, h.rev⟩
theorem span_rev : canB rlo rhi L S.reverse (-1) = canB rlo rhi L S (-1) ∧ spansP rlo rhi L S.reverse = spansP rlo rhi L S := by
  have h1 : ∀ sh ti', TruthA rlo rhi L S.reverse sh ti' → ∃ ti, TruthA rlo rhi L S sh ti := fun sh ti h => by
    have := truth_rev hO.rev h
    rwa [List.reverse_reverse] at this
  have h2 : ∀ sh ti', TruthA rlo rhi L S sh ti' → ∃ ti, TruthA rlo rhi L S.reverse sh ti := fun sh ti h => truth_rev hO h
  cases hc : canB rlo rhi L S (-1) with
  | true =>
    obtain ⟨g1, g2⟩ := spans_le hO.rev hO h2 hc
    obtain ⟨_, g4⟩ := spans_le hO hO.rev h1 g1
    refine ⟨g1, ?_⟩
    unfold spansP
    rw [if_pos g1, if_pos hc]
    refine List.map_congr_left fun i hi => ?_
    rw [List.mem_range] at hi
    have a1 := g2 i hi
    have a2 := g4 i hi
    rw [Prod.mk.injEq]
    omega
  | false =>
    have g1 : canB rlo rhi L S.reverse (-1) = false := by
      cases hd : canB rlo rhi L S.reverse (-1) with
      | false => rfl
      | true =>
        have := (spans_le hO hO.rev h1 hd).1
        rw [hc] at this; cases this
    refine ⟨g1, ?_⟩
    unfold spansP
    rw [if_neg (by rw [g1]; decide), if_neg (by rw [hc]; decide)]
end
theorem within_self (l : List (Int × Int)) : withinR l l = true := by
  unfold withinR
  rw [decide_eq_true rfl, Bool.true_and, truthUpto_all]
  intro k _
  rw [decide_eq_true_eq]
  exact ⟨Int.le_refl _, Int.le_refl _⟩
/-! ## TasteOrder -/
section
variable (rlo rhi lots : Int) (Al : Option Addr) (c : Nat) (S : List (List T3)) (w : World) (hN : NestR w 3 Al (nestOf S)) (hm : ∀ s ∈ S, s.length ≤ maxLen)
include hN hm
set_option maxHeartbeats 4000000 in
set_option maxRecDepth 20000 in
theorem tasteOrder_any : Calls Try.prog 16 #[bookV rlo rhi lots Al S.length c] w fun e w' => e = .returned (.bool true) ∧ Below w.heap.size w w' := by
  have hfn := fun w1 (h : NestR w1 3 Al (nestOf S)) => fineG_any rlo rhi lots Al c S w1 h hm
  have hwk := fun w1 => works_any w1
  by_cases h0 : chkBook rlo rhi lots S = 0
  rotate_left
  · rw [decide_eq_false h0] at hfn
    unfold bookV at *
    refine fn_v Try.tabOk (n := 101) (A := []) Try.func16 rfl rfl (Nat.le_of_ble_eq_true rfl) (St.nil (Below.refl _ _)) ?_
    ((try first | apply tr_v Try.tabOk | apply ot_v Try.tabOk); (conv => whnf); (repeat ((first | (apply VCall.q; kernel_rfl; (focus (intro w1 hs; first | with_reducible apply hfn w1 (hs.nest hN) | with_reducible apply hwk w1))) | apply VBr.t | (apply VNew.mk; intro g hg) | (apply VLdN.mk; (focus ((repeat (first | (with_reducible apply ldn_blk) | (with_reducible apply ldn_row) | (with_reducible assumption) | (with_reducible apply ldn_skip))); done)); exact rfl)); (conv => whnf))); try (first | apply VStop.mk | apply VCall.stop))
    ((apply VRet.mk); refine ret1 (by first | exact .inl rfl | exact .inr rfl) rfl (by exact rv_tmp rfl) ?_; exact fun w h => ⟨rfl, h.base⟩)
  rw [decide_eq_true h0] at hfn
  have hO := chk_ok.1 h0
  obtain ⟨L, rfl⟩ : ∃ L : Nat, lots = L := ⟨lots.toNat, by have := hO.l; omega⟩
  have hR := hO.rev
  have hl := hO.l
  have hn := hO.n
  have s1 := fun w1 (h : NestR w1 3 Al (nestOf S)) => spans_any rlo rhi L Al c S w1 h hO
  have s2 := fun w1 A c (h : NestR w1 3 A (nestOf S.reverse)) => spans_any rlo rhi L A c S.reverse w1 h hR
  have r1 := fun w1 (h : NestR w1 3 Al (nestOf S)) => wrong_any rlo rhi L Al c S w1 h hO.fit
  have r2 := fun w1 A c (h : NestR w1 3 A (nestOf S.reverse)) => wrong_any rlo rhi L A c S.reverse w1 h hR.fit
  have hsl := spansP_len rlo rhi L S
  have hw1 := wrongR_len (rlo := rlo) (rhi := rhi) (lots := L) (S := S)
  have hw2 := wrongR_len (rlo := rlo) (rhi := rhi) (lots := L) (S := S.reverse)
  have hwl : (wrongR rlo rhi L S).1.length = (wrongR rlo rhi L S.reverse).1.length ∧ (wrongR rlo rhi L S).2 = 0 ∧ (wrongR rlo rhi L S.reverse).2 = 0 := by
    have h0' := chk_ok.2 hR
    unfold wrongR
    rw [if_neg (by simpa using h0), if_neg (by simpa using h0'), Int.toNat_natCast]
    exact ⟨wrong_rev hO, rfl, rfl⟩
  obtain ⟨e1, e2⟩ := span_rev hO
  rw [e1, e2] at s2
  rw [List.length_reverse] at s2 r2
  have hwi := fun A B ca cb w1 ha hb => withinR_any A B ca cb (spansP rlo rhi L S) (spansP rlo rhi L S) w1 ha hb (by omega) (by omega)
  rw [within_self] at hwi
  obtain ⟨ys, hy, hvs, hys⟩ := nest_vs hN
  have hbk : ∀ (w1 : World) (A : List Chunk) (B : Option Addr) (c : Nat), St w A w1 → .own (.slice B S.length c) 55 1 S.length (sitVs ys.reverse S.reverse) ∈ A → NestR w1 3 B (nestOf S.reverse) := fun w1 A B c hs h => by
    have hl' : ys.reverse.length = S.reverse.length := by rw [List.length_reverse, List.length_reverse, hy]
    refine hs.nestB (c := c) hl' (by rw [List.length_reverse]; exact h) fun i hi => ?_
    rw [List.length_reverse] at hi
    rw [List.getElem_reverse, List.getElem_reverse]
    have := hs.reads (hys (S.length - 1 - i) (by omega))
    simp only [hy]
    exact this
  clear h0 hO hR e1 e2
  unfold bookV at *
  generalize wrongR rlo rhi L S = ra at *
  generalize wrongR rlo rhi L S.reverse = rb at *
  obtain ⟨wa, ea⟩ := ra
  obtain ⟨wb, eb⟩ := rb
  dsimp only at hwl hw1 hw2
  obtain ⟨hwl, rfl, rfl⟩ := hwl
  generalize spansP rlo rhi L S = sp at *
  generalize canB rlo rhi L S (-1) = cb at *
  refine fn_v Try.tabOk (n := 101) (A := []) Try.func16 rfl rfl (Nat.le_of_ble_eq_true rfl) (St.nil (Below.refl _ _)) ?_
  ((try first | apply tr_v Try.tabOk | apply ot_v Try.tabOk); (conv => whnf); (repeat ((first | (apply VCall.q; kernel_rfl; (focus (intro w1 hs; first | with_reducible apply hfn w1 (hs.nest hN) | with_reducible apply hwk w1))) | (apply VLd.mk; (focus ((repeat (first | ((with_reducible apply ld_blk); exact rfl) | ((with_reducible apply ld_row); exact rfl) | ((with_reducible apply ld_row0); exact rfl) | (with_reducible assumption) | (with_reducible exact CellAt.base (by assumption)) | (with_reducible apply ld_skip))); done))) | (apply VRng.mk; omega) | apply VBr.f | (apply VNew.mk; intro g hg) | (apply VLdN.mk; (focus ((repeat (first | (with_reducible apply ldn_blk) | (with_reducible apply ldn_row) | (with_reducible assumption) | (with_reducible apply ldn_skip))); done)); exact rfl) | (apply VLdN.sub; (focus ((repeat (first | (with_reducible apply ldn_blk) | (with_reducible apply ldn_row) | (with_reducible assumption) | (with_reducible apply ldn_skip))); done)); exact rfl) | (apply VSt.mk; (focus ((repeat (first | (with_reducible exact At.here) | (with_reducible apply At.there))); done)); exact rfl)); (conv => whnf))); try (first | apply VStop.mk | apply VCall.stop))
  rename_i g0 hg0
  refine tr_own_nil 55 1 ?_
  refine v_loop (fun gm ds ts A => ds = [] ∧ ∃ (k : Nat) (Bo : Option Addr) (co : Nat), k + gm = S.length ∧ A = [.own (.slice Bo k co) 55 1 k (sitVs (ys.reverse.take k) (S.reverse.take k)), .blk g 26 [.int .i64 rlo, .int .i64 rhi, .int .i64 L, .slice Bo k co], .blk g0 26 [.int .i64 rlo, .int .i64 rhi, .int .i64 L, .slice Al S.length c]] ∧ ts = [(1, .pointer (some ⟨g0, 0, none⟩)), (3, .pointer (some ⟨g, 0, none⟩)), (4, .int .i64 ((S.length : Int) - 1 - k))]) S.length
    (l := [(1, _), (3, _), (4, _)]) (B := _) ?_ (List.Sublist.refl _) ⟨rfl, 0, none, 0, by omega, rfl, by rw [show (S.length : Int) - 1 - ((0 : Nat) : Int) = S.length - 1 by omega]⟩ ?_
  · exact ⟨rfl, rfl, rfl, trivial⟩
  rintro gm ds ts A ⟨rfl, k, Bo, co, hk, rfl, rfl⟩
  by_cases hlt : k < S.length
  · have hsn : sitVs (ys.reverse.take k) (S.reverse.take k) ++ [sitV (ys[S.length - 1 - k]'(by omega)) S[S.length - 1 - k]] = sitVs (ys.reverse.take (k + 1)) (S.reverse.take (k + 1)) := by
      rw [take_snoc ys.reverse k (by rw [List.length_reverse]; omega), take_snoc S.reverse k (by rw [List.length_reverse]; omega), sitVs_snoc (by rw [List.length_take, List.length_take, List.length_reverse, List.length_reverse, hy]), List.getElem_reverse, List.getElem_reverse]
      simp only [hy]
    obtain ⟨b, o, rfl, _, hcell⟩ := hvs.2 (by omega)
    have hce : ∀ A, CellAt w A b (o + (S.length - 1 - k) * 1) (sitV (ys[S.length - 1 - k]'(by omega)) S[S.length - 1 - k]) := fun A => CellAt.base (by rw [Nat.mul_one]; exact hcell _ _ (sitVs_get hy (by omega)))
    unfold sitV at hce hsn
    ((try first | apply tr_v Try.tabOk | apply ot_v Try.tabOk); (conv => whnf); (repeat ((first | ((first | apply VStop.mk | apply VCall.stop); (first | refine tr_region_lex (id := 7) (by kernel_rfl) [.rd, .rd, .rd, .rd, .rd, .rd, .rd, .cr, .wr, .rd, .wr] rfl (by kernel_rfl) ?_); try first | apply ot_v Try.tabOk | apply tr_v Try.tabOk) | (apply VLd.mk; exact hce _) | (apply VIx.mk (j := S.length - 1 - k); omega; omega) | (apply VLd.mk; (focus ((repeat (first | ((with_reducible apply ld_blk); exact rfl) | ((with_reducible apply ld_row); exact rfl) | ((with_reducible apply ld_row0); exact rfl) | (with_reducible assumption) | (with_reducible exact CellAt.base (by assumption)) | (with_reducible apply ld_skip))); done))) | apply VBr.t | (apply v_t; omega) | (apply VNew.mk; intro g hg)); (conv => whnf))); try (first | apply VStop.mk | apply VCall.stop))
    refine ot_appendS (sz := 1) (sl := k) (xs := sitVs (ys.reverse.take k) (S.reverse.take k)) (A'v := fun v' => _ :: .own v' 55 1 (k + 1) _ :: _) Try.tabOk rfl rfl rfl rfl rfl rfl rfl rfl rfl rfl (by decide) rfl (cells_blk_all (.head _)) rfl rfl (fun v' => .there .here) (by omega) (by decide) (fun B3 cp3 => ?_)
    apply ot_v Try.tabOk
    ((try first | apply tr_v Try.tabOk | apply ot_v Try.tabOk); (conv => whnf); (repeat ((first | (apply VRng.mk; omega) | (apply VSt.mk; (focus ((repeat (first | (with_reducible exact At.here) | (with_reducible apply At.there))); done)); exact rfl)); (conv => whnf))); try (first | apply VStop.mk | apply VCall.stop))
    rw [hsn]
    exact v_rnd (gm - 1) (by omega) (l := [(1, _), (3, _), (4, _)]) (B := _) ⟨rfl, rfl, rfl, trivial⟩ (.cons _ (List.Sublist.refl _)) ⟨rfl, k + 1, B3, cp3, by omega, rfl, by rw [show (S.length : Int) - 1 - ((k + 1 : Nat) : Int) = S.length - 1 - k - 1 by omega]⟩
  · obtain rfl : k = S.length := by omega
    rw [List.take_of_length_le (by rw [List.length_reverse, hy]; exact Nat.le_refl _), List.take_of_length_le (by rw [List.length_reverse]; exact Nat.le_refl _)]
    ((try first | apply tr_v Try.tabOk | apply ot_v Try.tabOk); (conv => whnf); (repeat ((first | apply VBr.f | (apply v_f; omega) | (apply VLdN.mk; (focus ((repeat (first | (with_reducible apply ldn_blk) | (with_reducible apply ldn_row) | (with_reducible assumption) | (with_reducible apply ldn_skip))); done)); exact rfl)); (conv => whnf))); try (first | apply VStop.mk | apply VCall.stop))
    refine ot_call_st (X := Option Addr × Nat) (fun x => .tuple #[.slice x.1 sp.length x.2, .bool cb, .bool true]) (fun x => [.own (.slice x.1 sp.length x.2) 23 2 sp.length (rngCells sp)]) (fun x => mut_one rfl) (by decide) rfl rfl rfl (by kernel_rfl) (evl_of rfl) (fun w1 hs => s1 w1 (hs.nest hN)) (fun y1 => ?_)
    dsimp only [List.cons_append, List.nil_append]
    apply ot_v Try.tabOk
    ((try first | apply tr_v Try.tabOk | apply ot_v Try.tabOk); (conv => whnf); (repeat ((first | (apply VLdN.mk; (focus ((repeat (first | (with_reducible apply ldn_blk) | (with_reducible apply ldn_row) | (with_reducible assumption) | (with_reducible apply ldn_skip))); done)); exact rfl)); (conv => whnf))); try (first | apply VStop.mk | apply VCall.stop))
    refine ot_call_st (X := Option Addr × Nat) (fun x => .tuple #[.slice x.1 sp.length x.2, .bool cb, .bool true]) (fun x => [.own (.slice x.1 sp.length x.2) 23 2 sp.length (rngCells sp)]) (fun x => mut_one rfl) (by decide) rfl rfl rfl (by kernel_rfl) (evl_of rfl) (fun w1 hs => s2 w1 _ _ (hbk w1 _ _ _ hs (by (repeat (first | with_unfolding_all exact List.Mem.head _ | assumption | with_unfolding_all refine List.Mem.tail _ ?_))))) (fun y2 => ?_)
    dsimp only [List.cons_append, List.nil_append]
    apply ot_v Try.tabOk
    ((try first | apply tr_v Try.tabOk | apply ot_v Try.tabOk); (conv => whnf); (repeat ((first | (apply VLdN.mk; (focus ((repeat (first | (with_reducible apply ldn_blk) | (with_reducible apply ldn_row) | (with_reducible assumption) | (with_reducible apply ldn_skip))); done)); exact rfl)); (conv => whnf))); try (first | apply VStop.mk | apply VCall.stop))
    refine ot_call_st (X := Option Addr × Nat) (fun x => .tuple #[.slice x.1 wa.length x.2, .int .i64 0]) (fun x => [.own (.slice x.1 wa.length x.2) 3 1 wa.length (i64s wa)]) (fun x => mut_one rfl) (by decide) rfl rfl rfl (by kernel_rfl) (evl_of rfl) (fun w1 hs => (r1 w1 (hs.nest hN)).mono fun e w' h => h.slices) (fun y3 => ?_)
    dsimp only [List.cons_append, List.nil_append]
    apply ot_v Try.tabOk
    ((try first | apply tr_v Try.tabOk | apply ot_v Try.tabOk); (conv => whnf); (repeat ((first | (apply VLdN.mk; (focus ((repeat (first | (with_reducible apply ldn_blk) | (with_reducible apply ldn_row) | (with_reducible assumption) | (with_reducible apply ldn_skip))); done)); exact rfl)); (conv => whnf))); try (first | apply VStop.mk | apply VCall.stop))
    refine ot_call_st (X := Option Addr × Nat) (fun x => .tuple #[.slice x.1 wb.length x.2, .int .i64 0]) (fun x => [.own (.slice x.1 wb.length x.2) 3 1 wb.length (i64s wb)]) (fun x => mut_one rfl) (by decide) rfl rfl rfl (by kernel_rfl) (evl_of rfl) (fun w1 hs => (r2 w1 _ _ (hbk w1 _ _ _ hs (by (repeat (first | with_unfolding_all exact List.Mem.head _ | assumption | with_unfolding_all refine List.Mem.tail _ ?_))))).mono fun e w' h => h.slices) (fun y4 => ?_)
    dsimp only [List.cons_append, List.nil_append]
    apply ot_v Try.tabOk
    rw [← hwl]
    cases cb <;> (((try first | apply tr_v Try.tabOk | apply ot_v Try.tabOk); (conv => whnf); (repeat ((first | ((first | apply VStop.mk | apply VCall.stop); (first | refine ot_eqb Try.underlying4 rfl rfl rfl rfl rfl ?_); try first | apply ot_v Try.tabOk | apply tr_v Try.tabOk) | (apply VCall.q; kernel_rfl; (focus (intro w1 hs; first | with_reducible apply hwk w1 | with_reducible apply hwi _ _ _ _ w1 (hs.own_rd (by (repeat (first | with_unfolding_all exact List.Mem.head _ | assumption | with_unfolding_all refine List.Mem.tail _ ?_)))) (hs.own_rd (by (repeat (first | with_unfolding_all exact List.Mem.head _ | assumption | with_unfolding_all refine List.Mem.tail _ ?_))))))) | apply VBr.t | (apply v_t; omega)); (conv => whnf))); try (first | apply VStop.mk | apply VCall.stop)); ((apply VRet.mk); refine ret1 (by first | exact .inl rfl | exact .inr rfl) rfl (by exact rv_tmp rfl) ?_; exact fun w h => ⟨rfl, h.base⟩))
end
end Go.Proofs.Ytkbcogaodnmdoaa
