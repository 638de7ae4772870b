/- Reverse: lemmas for the rows of this seat. No conditions. -/
import Derived.Test.YtkbcogaodnmdoaaProg
import Derived.WalkKit
import Derived.WalkSpells
import Derived.WalkLawsBesides
import Derived.Lib.Hide
import Derived.Deep.AppendLies
import Derived.Deep.Draws
import Derived.Maps.AppendAt
import Derived.RegionTactic
import Derived.OwnWalk
import Derived.Deep.QuietTactic
import Derived.BigQuiet
import Derived.Deep.DeepFit
import Derived.Deep.LoopGhost
import Derived.Deep.DeepMust
import Derived.Deep.DeepCutAuto
import Derived.StillTail
import Derived.Deep.Quiet
import Derived.Deep.RegionHeld3
import Derived.Deep.RegionWith
import Derived.Deep.RegionLaw
import Derived.Maps.OwnOps
import Derived.Maps.OwnSet
import Derived.Maps.OwnRows
import Derived.Maps.RangeWalk
import Derived.Carry
import Derived.Test.YtkbcogaodnmdoaaBase
import Derived.Test.YtkbcogaodnmdoaaMaps
import Derived.Test.YtkbcogaodnmdoaaKeys
import Derived.Test.YtkbcogaodnmdoaaS1
import Derived.Test.YtkbcogaodnmdoaaS5
import Derived.Test.YtkbcogaodnmdoaaS12
import Derived.Test.YtkbcogaodnmdoaaS14
import Derived.Test.YtkbcogaodnmdoaaV
import Derived.Test.YtkbcogaodnmdoaaV2
import Derived.Test.YtkbcogaodnmdoaaV3
import Derived.Test.YtkbcogaodnmdoaaTab
import Derived.Test.YtkbcogaodnmdoaaE1
import Derived.Test.YtkbcogaodnmdoaaE2
import Derived.Test.YtkbcogaodnmdoaaE3
import Derived.Test.YtkbcogaodnmdoaaE4
import Derived.Test.YtkbcogaodnmdoaaE5
import Derived.Test.YtkbcogaodnmdoaaE6
import Derived.Test.YtkbcogaodnmdoaaE7
import Derived.Test.YtkbcogaodnmdoaaE8
import Derived.Test.YtkbcogaodnmdoaaE9
import Derived.Test.YtkbcogaodnmdoaaE10
import Derived.Test.YtkbcogaodnmdoaaE11
import Derived.Test.YtkbcogaodnmdoaaE12
import Derived.Test.YtkbcogaodnmdoaaE13
import Derived.Test.YtkbcogaodnmdoaaE14
set_option linter.all false
namespace Go.Proofs.Ytkbcogaodnmdoaa
open Go.RowKit
/-! ## Reverse -/
theorem i64s_set (l : List Int) (k : Nat) (v : Int) : (i64s l).set k (.int .i64 v) = i64s (l.set k v) := by simp [i64s, List.map_set]
theorem iAt_set {l : List Int} {k j : Nat} {v : Int} (hk : k < l.length) : iAt (l.set k v) j = if j = k then v else iAt l j := by
  unfold iAt
  by_cases h : j = k
  · subst h; rw [if_pos rfl, List.getElem?_set_self hk, Option.getD_some]
  · rw [if_neg h, List.getElem?_set_ne (Ne.symm h)]
theorem iAt_get {l : List Int} {k : Nat} (hk : k < l.length) : (i64s l)[k]? = some (.int .i64 (iAt l k)) := by
  unfold iAt i64s
  rw [List.getElem?_map, List.getElem?_eq_getElem hk, Option.getD_some]; rfl
theorem iAt_ext {l m : List Int} (h : l.length = m.length) (h1 : ∀ k, k < l.length → iAt l k = iAt m k) : l = m := by
  apply List.ext_getElem h
  intro k hk hk'
  have := h1 k hk
  unfold iAt at this
  rwa [List.getElem?_eq_getElem hk, List.getElem?_eq_getElem hk', Option.getD_some, Option.getD_some] at this
theorem iAt_rev {l : List Int} {k : Nat} (hk : k < l.length) : iAt l.reverse k = iAt l (l.length - 1 - k) := by
  unfold iAt
  rw [List.getElem?_reverse hk]
section
set_option maxHeartbeats 2000000 in
set_option maxRecDepth 20000 in
theorem reverse_head {w0 w : World} {R : List Chunk} (g cap : Nat) (l : List Int) (hl : l.length ≤ 1000) (hs : St w0 (.own (.slice (some ⟨g, 0, none⟩) l.length cap) 3 1 l.length (i64s l) :: R) w) :
    Calls Try.prog 91 #[.slice (some ⟨g, 0, none⟩) l.length cap] w fun e w' => e = .returned (.tuple #[]) ∧ St w0 (.own (.slice (some ⟨g, 0, none⟩) l.length cap) 3 1 l.length (i64s l.reverse) :: R) w' := by
  refine fn_v Try.tabOk (n := 28) (A := _) Try.func91 rfl rfl (Nat.le_of_ble_eq_true rfl) hs ?_
  have e0 : (l.length : Int) - 1 - ((0 : Nat) : Int) = l.length - 1 := by omega
  ((try first | apply tr_v Try.tabOk | apply ot_v Try.tabOk); (conv => whnf); (repeat ((first | (apply VRng.mk; omega) | (refine slist_and (by (repeat (first | exact List.nil_sublist _ | exact List.Sublist.refl _ | refine List.Sublist.cons_cons _ ?_ | refine List.Sublist.cons _ ?_))) ?_; first | refine otl_nil ?_ | (refine otl_cons ?_; apply ot_v Try.tabOk) | skip) | (apply VK.mk; first | (refine otl_cons ?_; apply ot_v Try.tabOk) | apply ot_v Try.tabOk)); (conv => whnf))); try (first | apply VStop.mk | apply VCall.stop))
  refine v_loop (fun gm ds ts A => ds = [] ∧ ∃ (i : Nat) (M : List Int), 2 * i + gm = l.length + 1 ∧ M.length = l.length ∧ (∀ k, k < l.length → iAt M k = if k < i ∨ l.length < k + 1 + i then iAt l (l.length - 1 - k) else iAt l k) ∧ A = .own (.slice (some ⟨g, 0, none⟩) l.length cap) 3 1 l.length (i64s M) :: R ∧ ts = [(0, .slice (some ⟨g, 0, none⟩) l.length cap), (2, .int .i64 (i : Int)), (3, .int .i64 ((l.length : Int) - 1 - i))]) (l.length + 1)
    (l := [(0, _), (2, _), (3, _)]) (B := _) ?_ (List.Sublist.refl _) ⟨rfl, 0, l, by omega, rfl, fun k hk => by rw [if_neg (by omega)], rfl, by rw [e0]⟩ ?_
  · exact ⟨rfl, rfl, rfl, trivial⟩
  rintro gm ds ts A ⟨rfl, i, M, hi, hM, hall, rfl, rfl⟩
  by_cases hlt : 2 * i + 1 < l.length
  · have hj : l.length - 1 - i < l.length := by omega
    have hji : ((l.length : Int) - 1 - i) = ((l.length - 1 - i : Nat) : Int) := by omega
    rw [hji]
    generalize hjj : l.length - 1 - i = j at *
    have ci : ∀ {R' : List Chunk}, CellAt w0 (.own (.slice (some ⟨g, 0, none⟩) l.length cap) 3 1 l.length (i64s M) :: R') g (0 + i * 1) (.int .i64 (iAt M i)) := by
      rw [Nat.zero_add, Nat.mul_one]; exact cell_own (.head _) (iAt_get (by omega))
    have cj : ∀ {R' : List Chunk}, CellAt w0 (.own (.slice (some ⟨g, 0, none⟩) l.length cap) 3 1 l.length (i64s M) :: R') g (0 + j * 1) (.int .i64 (iAt M j)) := by
      rw [Nat.zero_add, Nat.mul_one]; exact cell_own (.head _) (iAt_get (by omega))
    ((try first | apply tr_v Try.tabOk | apply ot_v Try.tabOk); (conv => whnf); (repeat ((first | ((first | apply VStop.mk | apply VCall.stop); (first | refine tr_region_late2 (id := 3) (by kernel_rfl) [] (by (repeat (first | exact List.nil_sublist _ | exact List.Sublist.refl _ | refine List.Sublist.cons_cons _ ?_ | refine List.Sublist.cons _ ?_))) [2, 3] [0, 1, 4, 5, 6, 7, 8, 9, 10, 11, 12] 13 [14, 15] [.rd, .rd] [.rd, .rd, .rd, .rd, .rd, .rd, .rd, .rd, .rd, .rd, .rd] [.wr, .wr, .wr] rfl (by kernel_rfl) ?_); try first | apply ot_v Try.tabOk | apply tr_v Try.tabOk) | (apply VLd.mk; first | exact cj | exact ci) | (apply VSt.stop; refine ot_store_own (sv := .nilFunc) Try.tabOk rfl rfl rfl rfl rfl rfl rfl rfl rfl rfl .here (by omega) ?_; apply ot_v Try.tabOk) | (apply VRng.mk; omega) | apply VBr.t | (apply v_t; omega) | (apply VIx.mk; exact rfl; omega) | (refine slist_and (by (repeat (first | exact List.nil_sublist _ | exact List.Sublist.refl _ | refine List.Sublist.cons_cons _ ?_ | refine List.Sublist.cons _ ?_))) ?_; first | refine otl_nil ?_ | (refine otl_cons ?_; apply ot_v Try.tabOk) | skip) | (apply VK.mk; first | (refine otl_cons ?_; apply ot_v Try.tabOk) | apply ot_v Try.tabOk)); (conv => whnf))); try (first | apply VStop.mk | apply VCall.stop))
    rw [Nat.zero_add, Nat.mul_one, i64s_set, Nat.zero_add, Nat.mul_one, i64s_set]
    refine v_rnd (gm - 2) (by omega) (l := [(0, _), (2, _), (3, _)]) (B := _) ⟨rfl, rfl, rfl, trivial⟩ (List.Sublist.refl _) ⟨rfl, i + 1, (M.set i (iAt M j)).set j (iAt M i), by omega, by simpa using hM, fun k hk => ?_, rfl, by rw [show (l.length : Int) - 1 - ((i + 1 : Nat) : Int) = (j : Int) - 1 by omega]; rfl⟩
    have hMi := hall i (by omega)
    have hMj := hall j (by omega)
    rw [if_neg (by omega)] at hMi hMj
    rw [iAt_set (by rw [List.length_set]; omega), iAt_set (by omega)]
    by_cases hkj : k = j
    · rw [if_pos hkj, if_pos (by omega), hMi, hkj, show l.length - 1 - j = i by omega]
    · rw [if_neg hkj]
      by_cases hki : k = i
      · rw [if_pos hki, if_pos (by omega), hMj, hki, hjj]
      · rw [if_neg hki, hall k hk]
        by_cases hc : k < i ∨ l.length < k + 1 + i
        · rw [if_pos hc, if_pos (by omega)]
        · rw [if_neg hc, if_neg (by omega)]
  · have hrev : M = l.reverse := iAt_ext (by rw [hM, List.length_reverse]) (fun k hk => by
      rw [hM] at hk
      rw [hall k hk, iAt_rev hk]
      by_cases hc : k < i ∨ l.length < k + 1 + i
      · rw [if_pos hc]
      · rw [if_neg hc, show l.length - 1 - k = k by omega])
    subst hrev
    ((try first | apply tr_v Try.tabOk | apply ot_v Try.tabOk); (conv => whnf); (repeat ((first | apply VBr.f | (apply v_f; omega) | (refine slist_and (by (repeat (first | exact List.nil_sublist _ | exact List.Sublist.refl _ | refine List.Sublist.cons_cons _ ?_ | refine List.Sublist.cons _ ?_))) ?_; first | refine otl_nil ?_ | (refine otl_cons ?_; apply ot_v Try.tabOk) | skip) | (apply VK.mk; first | (refine otl_cons ?_; apply ot_v Try.tabOk) | apply ot_v Try.tabOk)); (conv => whnf))); try (first | apply VStop.mk | apply VCall.stop))
    (apply VRet.mk)
    exact ret0 (by first | exact .inl rfl | exact .inr rfl) rfl fun w hs => ⟨rfl, hs⟩
end
end Go.Proofs.Ytkbcogaodnmdoaa
