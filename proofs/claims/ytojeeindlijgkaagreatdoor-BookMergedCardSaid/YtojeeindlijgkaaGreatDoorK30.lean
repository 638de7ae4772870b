/- Split, plainly: lemmas for the rows of this seat. No conditions. -/
import Derived.Laws.StructEq
import Derived.Lib.SplitLaws
import Derived.Lib.IndexLaws
import Derived.Test.YtojeeindlijgkaaGreatDoorKp
set_option linter.all false
namespace Go.Proofs.YtojeeindlijgkaaGreatDoor
open Go.RowKit
/-! ## Split, plainly -/
theorem spl_cur (s : Nat) : ∀ (l cur p : List UInt8) (r : List (List UInt8)), spl s [] l = p :: r → spl s cur l = (cur ++ p) :: r
 | [], cur, p, r, h => by
  simp only [spl, List.cons.injEq] at h ⊢
  obtain ⟨rfl, rfl⟩ := h
  exact ⟨by simp, rfl⟩
 | c :: l, cur, p, r, h => by
  rw [spl] at h ⊢
  by_cases e : c.toNat = s
  ·rw [if_pos e] at h ⊢
   injection h with h1 h2
   subst h1
   rw [List.append_nil, h2]
  ·rw [if_neg e] at h ⊢
   cases hq : spl s [] l with
   | nil => exact absurd hq (spl_ne s l [])
   | cons q t =>
    rw [spl_cur s l ([] ++ [c]) q t hq] at h
    injection h with h1 h2
    rw [spl_cur s l (cur ++ [c]) q t hq, ← h1, h2]
    simp
theorem index_cons (b c : UInt8) (l : List UInt8) : Go.Lib.index (b :: l) [c] = if b = c then 0 else if Go.Lib.index l [c] = -1 then -1 else Go.Lib.index l [c] + 1 := by
 rw [Go.Lib.index_one, Go.Lib.index_one, Go.Lib.indexByte]
 simp only [beq_iff_eq]
theorem split_spl (c : UInt8) : ∀ (l : List UInt8), Go.Lib.splitK [c] 0 (l.count c) l = spl c.toNat [] l
 | [] => rfl
 | b :: l => by
  have ih := split_spl c l
  by_cases e : b = c
  ·subst e
   rw [List.count_cons_self, Go.Lib.splitK, index_cons, if_pos rfl, spl, if_pos rfl]
   simp only [show ((0 : Int) == -1) = false from rfl, Bool.false_eq_true, if_false]
   rw [← ih]
   rfl
  ·have hn : ¬(b.toNat = c.toNat) := fun h => e (UInt8.toNat_inj.1 h)
   rw [List.count_cons_of_ne (by simpa using e), spl, if_neg hn]
   cases hk : l.count c with
   | zero =>
    rw [hk] at ih
    rw [Go.Lib.splitK] at ih ⊢
    exact (spl_cur _ l ([] ++ [b]) l [] ih.symm).symm
   | succ k =>
    rw [hk] at ih
    have hi : Go.Lib.index l [c] ≠ -1 := by
     rw [Go.Lib.index_one]
     intro h
     have h0 : l.count c = 0 := List.count_eq_zero.2 fun hm => by
      obtain ⟨j, hj, he⟩ := List.getElem_of_mem hm
      exact Go.Lib.indexByte_none h j (by rw [List.getElem?_eq_getElem hj, he])
     omega
    have hge := Go.Lib.index_ge l [c]
    rw [Go.Lib.splitK] at ih ⊢
    rw [index_cons, if_neg e, if_neg hi]
    have hb1 : (Go.Lib.index l [c] == -1) = false := by simpa using hi
    have hb2 : (Go.Lib.index l [c] + 1 == -1) = false := by
     rw [beq_eq_false_iff_ne]; omega
    rw [hb1] at ih
    rw [hb2]
    simp only [Bool.false_eq_true, if_false, Nat.add_zero, List.length_cons, List.length_nil] at ih ⊢
    rw [spl_cur _ l ([] ++ [b]) _ _ ih.symm]
    obtain ⟨i, hi2⟩ : ∃ i : Nat, Go.Lib.index l [c] = i := ⟨(Go.Lib.index l [c]).toNat, by omega⟩
    rw [hi2]
    rw [show ((i : Int) + 1).toNat = i + 1 by omega, Int.toNat_natCast]
    rfl
theorem split_all (c : UInt8) (l : List UInt8) : (Go.Lib.splitB (bs [c]) 0 (Go.Lib.countB (bs l) (bs [c])) (bs l)).map (·.data.toList) = spl c.toNat [] l := by
 rw [Go.Lib.splitB_data, bs_data, bs_data, ← split_spl]
 unfold Go.Lib.countB
 rw [bs_data, bs_data, Go.Lib.count_one]
/-! ## strings.Split -/
def MaxL (w : World) : Prop := ∃ m : Int, w.cell? ⟨0, 0, none⟩ = some (.int .i64 m)
theorem MaxL.st {w w' : World} {A : List Chunk} (h : MaxL w) (hs : St w A w') : MaxL w' := by
 obtain ⟨m, h⟩ := h
 exact ⟨m, CellAt.base h w' hs⟩
theorem strs_map (L : List ByteArray) : L.map Value.string = strs (L.map (·.data.toList)) := by
 unfold strs
 rw [List.map_map]
 refine List.map_congr_left fun s _ => ?_
 show Value.string s = .string (bs s.data.toList)
 rw [bs_list]
theorem split75_any (c : UInt8) (l : List UInt8) (w : World) (hM : MaxL w) (hl : l.length ≤ 100000) : Calls Tryz.prog 75 #[.string (bs l), .string (bs [c])] w fun e w' => ∃ x : SlX, e = .returned (.slice x.1 (spl c.toNat [] l).length x.2) ∧ True ∧ St w ([] ++ [.own (.slice x.1 (spl c.toNat [] l).length x.2) 9 1 (spl c.toNat [] l).length (strs (spl c.toNat [] l))]) w' := by
 obtain ⟨m, hm⟩ := hM
 have hz := bs_size l
 have hlen := Go.Lib.splitB_all (bs [c]) (by rw [bs_size]; exact Nat.le_refl 1) 0 _ (bs l) rfl
 have hsp := split_all c l
 have hn : (spl c.toNat [] l).length = Go.Lib.countB (bs l) (bs [c]) + 1 := by rw [← hsp, List.length_map, hlen]
 have hbd := spl_len c.toNat l []
 have hcells : (Go.Lib.splitB (bs [c]) 0 (Go.Lib.countB (bs l) (bs [c])) (bs l)).map Value.string = strs (spl c.toNat [] l) := by rw [strs_map, hsp]
 refine (Tryz.strings_Split (bs l) (bs [c]) m w (by omega) hm (by rw [bs_size]; exact Nat.le_refl 1)).mono fun e w' ⟨he, hw⟩ => ?_
 rw [hcells] at hw
 rw [← hn] at he
 subst hw
 generalize spl c.toNat [] l = W at *
 refine ⟨(some ⟨w.heap.size, 0, none⟩, W.length), he, trivial, ?_⟩
 have hB : Below w.heap.size w (w.alloc (.cells (strs W).toArray 9)) := (Below.refl _ _).alloc (Nat.le_refl _) _
 refine (St.nil (Below.refl _ _)).add hB ?_ fun b hb => ?_
 ·show (w.alloc _).ownsRow w.heap.size 9 1 _ _ _
  exact ⟨by rw [strs_length, Nat.mul_one], .inr ⟨w.heap.size, W.length, _, rfl, Nat.le_refl _, heap_alloc_new w _, Nat.le_refl _, by unfold maxLen; omega, by simp [strs_length], by rw [Nat.mul_one]; simp [← strs_length W]⟩⟩
 ·have : b = w.heap.size := by
   simp only [Chunk.at_, Value.ownBlock, Option.some.injEq] at hb
   exact hb.symm
  rw [this]; exact Nat.le_refl _
end Go.Proofs.YtojeeindlijgkaaGreatDoor
