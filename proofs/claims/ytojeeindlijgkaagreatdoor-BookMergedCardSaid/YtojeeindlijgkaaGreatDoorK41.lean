/- Contracts in one form, whatever the error: lemmas for the rows of this seat. No conditions. -/
import Derived.Laws.StructEq
import Derived.Test.YtojeeindlijgkaaGreatDoorK15
import Derived.Test.YtojeeindlijgkaaGreatDoorK17
import Derived.Test.YtojeeindlijgkaaGreatDoorK22
import Derived.Test.YtojeeindlijgkaaGreatDoorK26
import Derived.Test.YtojeeindlijgkaaGreatDoorK38
set_option linter.all false
namespace Go.Proofs.YtojeeindlijgkaaGreatDoor
open Go.RowKit
/-! ## Contracts in one form, whatever the error -/
theorem St.own_nil {w w' : World} (t : TypeId) (sz : Nat) (h : Below w.heap.size w w') : St w ([] ++ [.own (.slice none 0 0) t sz 0 []]) w' :=
 ⟨h, fun d hd => by
  rw [List.nil_append, List.mem_singleton] at hd
  subst hd
  exact World.ownsRow_nil w' _ _ _, by simp⟩
theorem fnC_i64s (f : Nat → Int) (n : Nat) : fnC f n = i64s ((List.range n).map f) := by
 unfold fnC i64s
 rw [List.map_map]; rfl
/-- What a call that makes a list of numbers hands back. -/
def RetN (t : TypeId) (w : World) (r : List Int × Int) (e : Ending) (w' : World) : Prop := ∃ x : SlX, e = .returned (.tuple #[.slice x.1 r.1.length x.2, .int .i64 r.2]) ∧ True ∧ St w ([] ++ [.own (.slice x.1 r.1.length x.2) t 1 r.1.length (i64s r.1)]) w'
/-- .. a book. -/
def RetB (w : World) (r : List Ln × Int) (e : Ending) (w' : World) : Prop := ∃ x : SlX, e = .returned (.tuple #[.agg #[.slice x.1 r.1.length x.2], .int .i64 r.2]) ∧ True ∧ St w ([] ++ [.own (.slice x.1 r.1.length x.2) 61 5 r.1.length (lnC r.1)]) w'
theorem retN_err {t : TypeId} {w : World} {z : Int} {e : Ending} {w' : World} (h : e = .returned (.tuple #[.slice none 0 0, .int .i64 z]) ∧ Below w.heap.size w w') : RetN t w ([], z) e w' := ⟨(none, 0), h.1, trivial, St.own_nil t 1 h.2⟩
theorem retB_err {w : World} {z : Int} {e : Ending} {w' : World} (h : e = .returned (.tuple #[.agg #[.slice none 0 0], .int .i64 z]) ∧ Below w.heap.size w w') : RetB w ([], z) e w' := ⟨(none, 0), h.1, trivial, St.own_nil 61 5 h.2⟩
theorem retN_ok {t : TypeId} {w : World} {f : Nat → Int} {n : Nat} {e : Ending} {w' : World} (h : ∃ x : SlX, e = .returned (.tuple #[.slice x.1 n x.2, .int .i64 0]) ∧ True ∧ St w ([] ++ [.own (.slice x.1 n x.2) t 1 n (fnC f n)]) w') : RetN t w ((List.range n).map f, 0) e w' := by
 obtain ⟨x, h1, _, h3⟩ := h
 rw [fnC_i64s] at h3
 exact ⟨x, by simpa using h1, trivial, by simpa using h3⟩
def stkR (a : Int) (l : List Ln) : List Int × Int := if chkBook l ≠ 0 then ([], chkBook l) else if inB a 0 999 = false then ([], 2) else ((List.range 8).map (stF a l), 0)
def stkS (l : List Ln) : List Int × Int := if chkBook l ≠ 0 then ([], chkBook l) else ((List.range 8).map (stF 999 l), 0)
def clsR (l1 l2 : List Ln) : Int × Int × Int := if errTwo l1 l2 ≠ 0 then (0, 0, errTwo l1 l2) else match l1.find? (clashB l2) with
 | some x => (x.st, x.ck, 0)
 | none => (0, 0, 5)
def mrgR (l1 l2 : List Ln) : List Ln × Int := if errTwo l1 l2 ≠ 0 then ([], errTwo l1 l2) else if (l1.find? (clashB l2)).isSome = true then ([], 28) else if 20 < (togL l1 l2).length then ([], 6) else (togL l1 l2, 0)
def prtR (b : Bool) (l1 l2 : List Ln) : List Ln × Int := if errTwo l1 l2 ≠ 0 then ([], errTwo l1 l2) else (l1.filter (partP l2 b), 0)
def seeR (l : List Ln) : List Int × Int := if chkBook l ≠ 0 then ([], chkBook l) else ((List.range 3).map (seenF l), 0)
def sncR (l : List Ln) (sn : List Int) : List Ln × Int := if chkBook l ≠ 0 then ([], chkBook l) else if sn.length ≠ 3 then ([], 15) else if badSn sn = true then ([], 3) else (l.filter (sinceP sn), 0)
def filR (l : List Ln) : List UInt8 × Int := if chkBook l ≠ 0 then ([], chkBook l) else ((fileF l).2, 0)
def loaR (s : List UInt8) : List Ln × Int := if 2000 < s.length then ([], 7) else if formOk (spl 10 [] s) = false then ([], 8) else if (fileF (linesR (spl 10 [] s).dropLast)).2 ≠ s then ([], 14) else if chkBook (linesR (spl 10 [] s).dropLast) ≠ 0 then ([], chkBook (linesR (spl 10 [] s).dropLast)) else (linesR (spl 10 [] s).dropLast, 0)
theorem stkR_len (a : Int) (l : List Ln) : (stkR a l).1.length ≤ 1000 := by unfold stkR; split <;> (try split) <;> simp
theorem stkS_len (l : List Ln) : (stkS l).1.length ≤ 1000 := by unfold stkS; split <;> simp
theorem seeR_len (l : List Ln) : (seeR l).1.length ≤ 1000 := by unfold seeR; split <;> simp
theorem mrgR_len (l1 l2 : List Ln) : (mrgR l1 l2).1.length ≤ 1000 := by
 unfold mrgR
 split
 ·simp
 ·split
  ·simp
  ·split
   ·simp
   ·dsimp only; omega
theorem prtR_len (b : Bool) (l1 l2 : List Ln) (h : l1.length ≤ 1000) : (prtR b l1 l2).1.length ≤ 1000 := by
 unfold prtR
 split
 ·simp
 ·exact Nat.le_trans (List.length_filter_le _ _) h
theorem sncR_len (l : List Ln) (sn : List Int) (h : l.length ≤ 1000) : (sncR l sn).1.length ≤ 1000 := by
 unfold sncR
 split
 ·simp
 ·split
  ·simp
  ·split
   ·simp
   ·exact Nat.le_trans (List.length_filter_le _ _) h
theorem loaR_len (s : List UInt8) : (loaR s).1.length ≤ 1000 := by
 unfold loaR
 split
 ·simp
 ·split
  ·simp
  ·split
   ·simp
   ·split
    ·simp
    ·rename_i h
     have := (chk_valid.1 (Decidable.not_not.1 h)).len
     dsimp only; omega
section
variable (B : Option Addr) (c : Nat) (l : List Ln) (w : World) (h : BookR w B l) (hm : l.length ≤ 1000)
include h hm
theorem stock_all : Calls Tryz.prog 17 #[.agg #[.slice B l.length c]] w (RetN 2 w (stkS l)) := by
 unfold stkS
 split
 ·exact (stock_err B c l w h (by unfold maxLen; omega) ‹_›).mono fun _ _ h => retN_err h
 ·exact (stock_ok B c l w h (by unfold maxLen; omega) (chk_valid.1 (by omega))).mono fun _ _ h => retN_ok h
theorem refStock_all : Calls Tryz.prog 18 #[.agg #[.slice B l.length c]] w (RetN 2 w (stkS l)) := by
 unfold stkS
 split
 ·exact (refStock_err B c l w h (by unfold maxLen; omega) ‹_›).mono fun _ _ h => retN_err h
 ·exact (refStock_ok B c l w h (chk_valid.1 (by omega))).mono fun _ _ h => retN_ok h
theorem at_all (a : Int) : Calls Tryz.prog 19 #[.agg #[.slice B l.length c], .int .i64 a] w (RetN 2 w (stkR a l)) := by
 unfold stkR
 by_cases hE : chkBook l ≠ 0
 ·rw [if_pos hE]
  exact (at_err B c l w h (by unfold maxLen; omega) a hE).mono fun _ _ h => retN_err h
 ·have hz : chkBook l = 0 := Decidable.not_not.1 hE
  rw [if_neg hE]
  by_cases ha : inB a 0 999 = false
  ·rw [if_pos ha]
   exact (at_arg B c l w h (by unfold maxLen; omega) a hz ha).mono fun _ _ h => retN_err h
  ·rw [if_neg ha]
   exact (at_ok B c l w h (by unfold maxLen; omega) a (chk_valid.1 hz) (by simpa using ha)).mono fun _ _ h => retN_ok h
theorem refAt_all (a : Int) : Calls Tryz.prog 20 #[.agg #[.slice B l.length c], .int .i64 a] w (RetN 2 w (stkR a l)) := by
 unfold stkR
 by_cases hE : chkBook l ≠ 0
 ·rw [if_pos hE]
  exact (refAt_err B c l a w h (by unfold maxLen; omega) hE).mono fun _ _ h => retN_err h
 ·have hz : chkBook l = 0 := Decidable.not_not.1 hE
  rw [if_neg hE]
  by_cases ha : inB a 0 999 = false
  ·rw [if_pos ha]
   exact (refAt_arg B c l a w h (chk_valid.1 hz) ha).mono fun _ _ h => retN_err h
  ·rw [if_neg ha]
   exact (refAt_ok B c l a w h (chk_valid.1 hz) (by simpa using ha)).mono fun _ _ h => retN_ok h
theorem seen_all : Calls Tryz.prog 33 #[.agg #[.slice B l.length c]] w (RetN 3 w (seeR l)) := by
 unfold seeR
 split
 ·exact (seen_err B c l w h (by unfold maxLen; omega) ‹_›).mono fun _ _ h => retN_err h
 ·exact (seen_ok B c l w h (chk_valid.1 (by omega))).mono fun _ _ h => retN_ok h
theorem refSeen_all : Calls Tryz.prog 34 #[.agg #[.slice B l.length c]] w (RetN 3 w (seeR l)) := by
 unfold seeR
 split
 ·exact (refSeen_err B c l w h (by unfold maxLen; omega) ‹_›).mono fun _ _ h => retN_err h
 ·exact (refSeen_ok B c l w h (chk_valid.1 (by omega))).mono fun _ _ h => retN_ok h
theorem since_all (SA : Option Addr) (sc : Nat) (sn : List Int) (hs0 : Reads w w.heap.size 1 SA sn.length (i64s sn)) : Calls Tryz.prog 35 #[.agg #[.slice B l.length c], .slice SA sn.length sc] w (RetB w (sncR l sn)) := by
 unfold sncR
 by_cases hE : chkBook l ≠ 0
 ·rw [if_pos hE]
  exact (since_err B c l SA sc sn w h (by unfold maxLen; omega) hE).mono fun _ _ h => retB_err h
 ·have hz : chkBook l = 0 := Decidable.not_not.1 hE
  rw [if_neg hE]
  by_cases hn : sn.length ≠ 3
  ·rw [if_pos hn]
   exact (since_len B c l SA sc sn w h (chk_valid.1 hz) hn).mono fun _ _ h => retB_err h
  ·have hn3 : sn.length = 3 := Decidable.not_not.1 hn
   rw [if_neg hn]
   by_cases hb : badSn sn = true
   ·rw [if_pos hb]
    exact (since_bad B c l SA sc sn w h hs0 (chk_valid.1 hz) hn3 hb).mono fun _ _ h => retB_err h
   ·rw [if_neg hb]
    exact since_ok B c l SA sc sn w h hs0 (chk_valid.1 hz) hn3 (by simpa using hb)
theorem refSince_all (SA : Option Addr) (sc : Nat) (sn : List Int) (hs0 : Reads w w.heap.size 1 SA sn.length (i64s sn)) : Calls Tryz.prog 36 #[.agg #[.slice B l.length c], .slice SA sn.length sc] w (RetB w (sncR l sn)) := by
 unfold sncR
 by_cases hE : chkBook l ≠ 0
 ·rw [if_pos hE]
  exact (refSince_err B c l SA sc sn w h (by unfold maxLen; omega) hE).mono fun _ _ h => retB_err h
 ·have hz : chkBook l = 0 := Decidable.not_not.1 hE
  rw [if_neg hE]
  by_cases hn : sn.length ≠ 3
  ·rw [if_pos hn]
   exact (refSince_len B c l SA sc sn w h (chk_valid.1 hz) hn).mono fun _ _ h => retB_err h
  ·have hn3 : sn.length = 3 := Decidable.not_not.1 hn
   rw [if_neg hn]
   by_cases hb : badSn sn = true
   ·rw [if_pos hb]
    exact (refSince_bad B c l SA sc sn w h hs0 (chk_valid.1 hz) hn3 hb).mono fun _ _ h => retB_err h
   ·rw [if_neg hb]
    exact refSince_ok B c l SA sc sn w h hs0 (chk_valid.1 hz) hn3 (by simpa using hb)
theorem file_all (hT : T10 w) : Calls Tryz.prog 38 #[.agg #[.slice B l.length c]] w fun e w' => e = .returned (.tuple #[.string (bs (filR l).1), .int .i64 (filR l).2]) ∧ Below w.heap.size w w' := by
 unfold filR
 split
 ·exact file_err B c l w h (by unfold maxLen; omega) ‹_›
 ·exact file_ok B c l w h (chk_valid.1 (by omega)) hT
theorem refFile_all (hT : T10 w) : Calls Tryz.prog 39 #[.agg #[.slice B l.length c]] w fun e w' => e = .returned (.tuple #[.string (bs (filR l).1), .int .i64 (filR l).2]) ∧ Below w.heap.size w w' := by
 unfold filR
 split
 ·exact refFile_err B c l w h (by unfold maxLen; omega) ‹_›
 ·exact refFile_ok B c l w h (chk_valid.1 (by omega)) hT
end
section
variable (A1 : Option Addr) (c1 : Nat) (l1 : List Ln) (A2 : Option Addr) (c2 : Nat) (l2 : List Ln) (w : World) (h1 : BookR w A1 l1) (h2 : BookR w A2 l2) (hm1 : l1.length ≤ 1000) (hm2 : l2.length ≤ 1000)
include h1 h2 hm1 hm2
theorem merge_all : Calls Tryz.prog 26 #[.agg #[.slice A1 l1.length c1], .agg #[.slice A2 l2.length c2]] w (RetB w (mrgR l1 l2)) := by
 unfold mrgR
 by_cases hE : errTwo l1 l2 ≠ 0
 ·rw [if_pos hE]
  exact (merge_err A1 c1 l1 A2 c2 l2 w h1 h2 (by unfold maxLen; omega) (by unfold maxLen; omega) hE).mono fun _ _ h => retB_err h
 ·obtain ⟨v1, v2⟩ := errTwo_zero.1 (Decidable.not_not.1 hE)
  rw [if_neg hE]
  cases hf : l1.find? (clashB l2) with
  | some x => rw [if_pos (show (some x).isSome = true from rfl)]; exact (merge_clash A1 c1 l1 A2 c2 l2 w h1 h2 v1 v2 hf).mono fun _ _ h => retB_err h
  | none =>
   rw [if_neg (show ¬(none : Option Ln).isSome = true by decide)]
   by_cases h20 : 20 < (togL l1 l2).length
   ·rw [if_pos h20]; exact (merge_many A1 c1 l1 A2 c2 l2 w h1 h2 v1 v2 hf h20).mono fun _ _ h => retB_err h
   ·rw [if_neg h20]; exact merge_ok A1 c1 l1 A2 c2 l2 w h1 h2 v1 v2 hf (by omega)
theorem refMerge_all : Calls Tryz.prog 27 #[.agg #[.slice A1 l1.length c1], .agg #[.slice A2 l2.length c2]] w (RetB w (mrgR l1 l2)) := by
 unfold mrgR
 by_cases hE : errTwo l1 l2 ≠ 0
 ·rw [if_pos hE]
  exact (refMerge_err A1 c1 l1 A2 c2 l2 w h1 h2 (by unfold maxLen; omega) (by unfold maxLen; omega) hE).mono fun _ _ h => retB_err h
 ·obtain ⟨v1, v2⟩ := errTwo_zero.1 (Decidable.not_not.1 hE)
  rw [if_neg hE]
  cases hf : l1.find? (clashB l2) with
  | some x => rw [if_pos (show (some x).isSome = true from rfl)]; exact (refMerge_clash A1 c1 l1 A2 c2 l2 w h1 h2 v1 v2 hf).mono fun _ _ h => retB_err h
  | none =>
   rw [if_neg (show ¬(none : Option Ln).isSome = true by decide)]
   by_cases h20 : 20 < (togL l1 l2).length
   ·rw [if_pos h20]; exact (refMerge_many A1 c1 l1 A2 c2 l2 w h1 h2 v1 v2 hf h20).mono fun _ _ h => retB_err h
   ·rw [if_neg h20]; exact refMerge_ok A1 c1 l1 A2 c2 l2 w h1 h2 v1 v2 hf (by omega)
theorem common_all : Calls Tryz.prog 29 #[.agg #[.slice A1 l1.length c1], .agg #[.slice A2 l2.length c2]] w (RetB w (prtR true l1 l2)) := by
 unfold prtR
 by_cases hE : errTwo l1 l2 ≠ 0
 ·rw [if_pos hE]
  exact (common_err A1 c1 l1 A2 c2 l2 w h1 h2 (by unfold maxLen; omega) (by unfold maxLen; omega) hE).mono fun _ _ h => retB_err h
 ·obtain ⟨v1, v2⟩ := errTwo_zero.1 (Decidable.not_not.1 hE)
  rw [if_neg hE]
  exact common_ok A1 c1 l1 A2 c2 l2 w h1 h2 v1 v2
theorem refCommon_all : Calls Tryz.prog 30 #[.agg #[.slice A1 l1.length c1], .agg #[.slice A2 l2.length c2]] w (RetB w (prtR true l1 l2)) := by
 unfold prtR
 by_cases hE : errTwo l1 l2 ≠ 0
 ·rw [if_pos hE]
  exact (refCommon_err A1 c1 l1 A2 c2 l2 w h1 h2 (by unfold maxLen; omega) (by unfold maxLen; omega) hE).mono fun _ _ h => retB_err h
 ·obtain ⟨v1, v2⟩ := errTwo_zero.1 (Decidable.not_not.1 hE)
  rw [if_neg hE]
  exact refCommon_ok A1 c1 l1 A2 c2 l2 w h1 h2 v1 v2
theorem only_all : Calls Tryz.prog 31 #[.agg #[.slice A1 l1.length c1], .agg #[.slice A2 l2.length c2]] w (RetB w (prtR false l1 l2)) := by
 unfold prtR
 by_cases hE : errTwo l1 l2 ≠ 0
 ·rw [if_pos hE]
  exact (only_err A1 c1 l1 A2 c2 l2 w h1 h2 (by unfold maxLen; omega) (by unfold maxLen; omega) hE).mono fun _ _ h => retB_err h
 ·obtain ⟨v1, v2⟩ := errTwo_zero.1 (Decidable.not_not.1 hE)
  rw [if_neg hE]
  exact only_ok A1 c1 l1 A2 c2 l2 w h1 h2 v1 v2
theorem refOnly_all : Calls Tryz.prog 32 #[.agg #[.slice A1 l1.length c1], .agg #[.slice A2 l2.length c2]] w (RetB w (prtR false l1 l2)) := by
 unfold prtR
 by_cases hE : errTwo l1 l2 ≠ 0
 ·rw [if_pos hE]
  exact (refOnly_err A1 c1 l1 A2 c2 l2 w h1 h2 (by unfold maxLen; omega) (by unfold maxLen; omega) hE).mono fun _ _ h => retB_err h
 ·obtain ⟨v1, v2⟩ := errTwo_zero.1 (Decidable.not_not.1 hE)
  rw [if_neg hE]
  exact refOnly_ok A1 c1 l1 A2 c2 l2 w h1 h2 v1 v2
theorem clash_all : Calls Tryz.prog 24 #[.agg #[.slice A1 l1.length c1], .agg #[.slice A2 l2.length c2]] w fun e w' => e = .returned (.tuple #[.int .i64 (clsR l1 l2).1, .int .i64 (clsR l1 l2).2.1, .int .i64 (clsR l1 l2).2.2]) ∧ Below w.heap.size w w' := by
 unfold clsR
 by_cases hE : errTwo l1 l2 ≠ 0
 ·rw [if_pos hE]
  exact clash_err A1 c1 l1 A2 c2 l2 w h1 h2 (by unfold maxLen; omega) (by unfold maxLen; omega) hE
 ·obtain ⟨v1, v2⟩ := errTwo_zero.1 (Decidable.not_not.1 hE)
  rw [if_neg hE]
  have k := (clash_any A1 c1 l1 A2 c2 l2 w h1 h2 v1 v2)
  cases hf : l1.find? (clashB l2) with
  | some x => rw [hf] at k; exact k
  | none => rw [hf] at k; exact k
theorem refClash_all : Calls Tryz.prog 25 #[.agg #[.slice A1 l1.length c1], .agg #[.slice A2 l2.length c2]] w fun e w' => e = .returned (.tuple #[.int .i64 (clsR l1 l2).1, .int .i64 (clsR l1 l2).2.1, .int .i64 (clsR l1 l2).2.2]) ∧ Below w.heap.size w w' := by
 unfold clsR
 by_cases hE : errTwo l1 l2 ≠ 0
 ·rw [if_pos hE]
  exact refClash_err A1 c1 l1 A2 c2 l2 w h1 h2 (by unfold maxLen; omega) (by unfold maxLen; omega) hE
 ·obtain ⟨v1, v2⟩ := errTwo_zero.1 (Decidable.not_not.1 hE)
  rw [if_neg hE]
  have k := (refClash_any A1 c1 l1 A2 c2 l2 w h1 h2 hm1 hm2 (Decidable.not_not.1 hE))
  cases hf : l1.find? (clashB l2) with
  | some x => rw [hf] at k; exact k
  | none => rw [hf] at k; exact k
end
theorem load_all (s : List UInt8) (w : World) (hE : LayE w) (hM : MaxL w) : Calls Tryz.prog 40 #[.string (bs s)] w (RetB w (loaR s)) := by
 unfold loaR
 by_cases h2 : 2000 < s.length
 ·rw [if_pos h2]
  exact (load_long s w h2).mono fun _ _ h => retB_err h
 rw [if_neg h2]
 by_cases hF : formOk (spl 10 [] s) = false
 ·rw [if_pos hF]
  exact (load_form s w (by omega) hE hM hF).mono fun _ _ h => retB_err h
 rw [if_neg hF]
 have hF : formOk (spl 10 [] s) = true := by simpa using hF
 by_cases hS : (fileF (linesR (spl 10 [] s).dropLast)).2 = s
 rotate_left
 ·rw [if_pos hS]
  exact (load_sum s w (by omega) hE hM hF hS).mono fun _ _ h => retB_err h
 rw [if_neg (Decidable.not_not.2 hS)]
 by_cases hC : chkBook (linesR (spl 10 [] s).dropLast) = 0
 rotate_left
 ·rw [if_pos hC]
  exact (load_chk s w (by omega) hE hM hF hS hC).mono fun _ _ h => retB_err h
 rw [if_neg (Decidable.not_not.2 hC)]
 exact load_ok s w (by omega) hE hM hF hS hC
theorem refLoad_all (s : List UInt8) (w : World) (hE : LayE w) (hM : MaxL w) : Calls Tryz.prog 41 #[.string (bs s)] w (RetB w (loaR s)) := by
 unfold loaR
 by_cases h2 : 2000 < s.length
 ·rw [if_pos h2]
  exact (refLoad_long s w h2).mono fun _ _ h => retB_err h
 rw [if_neg h2]
 by_cases hF : formOk (spl 10 [] s) = false
 ·rw [if_pos hF]
  exact (refLoad_form s w (by omega) hF).mono fun _ _ h => retB_err h
 rw [if_neg hF]
 have hF : formOk (spl 10 [] s) = true := by simpa using hF
 by_cases hS : (fileF (linesR (spl 10 [] s).dropLast)).2 = s
 rotate_left
 ·rw [if_pos hS]
  exact (refLoad_sum s w (by omega) hE.t10 hF (fun h => hS ((file_same hF).2 h))).mono fun _ _ h => retB_err h
 rw [if_neg (Decidable.not_not.2 hS)]
 by_cases hC : chkBook (linesR (spl 10 [] s).dropLast) = 0
 rotate_left
 ·rw [if_pos hC]
  exact (refLoad_chk s w (by omega) hE.t10 hF ((file_same hF).1 hS) hC).mono fun _ _ h => retB_err h
 rw [if_neg (Decidable.not_not.2 hC)]
 exact refLoad_ok s w (by omega) hE.t10 hF ((file_same hF).1 hS) hC
end Go.Proofs.YtojeeindlijgkaaGreatDoor
