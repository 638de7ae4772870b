/- Lines of a file, plainly: lemmas for the rows of this seat. No conditions. -/
import Derived.Laws.StructEq
import Derived.Laws.IdiomStrings
import Derived.Laws.Strings2
import Derived.Laws.Strings3
import Derived.Test.YtojeeindlijgkaaGreatDoorK21
set_option linter.all false
namespace Go.Proofs.YtojeeindlijgkaaGreatDoor
open Go.RowKit
/-! ## Lines of a file, plainly -/
def isDig (c : UInt8) : Bool := decide (48 ≤ (c.toNat : Int)) && decide ((c.toNat : Int) ≤ 57)
def digB (l : List UInt8) : Bool := l.all isDig && decide (0 < l.length)
def valS (n : Int) (c : UInt8) : Int := 10 * n + ((c.toNat : Int) - 48)
def valT (l : List UInt8) : Int := l.foldl valS 0
def cAt (l : List UInt8) (j : Nat) : UInt8 := l[j]?.getD 0
theorem all_step {l : List UInt8} {j : Nat} (h : j < l.length) : (l.drop j).all isDig = (isDig (cAt l j) && (l.drop (j + 1)).all isDig) := by
  unfold cAt
  rw [List.drop_eq_getElem_cons h, List.all_cons, List.getElem?_eq_getElem h]; rfl
theorem valT_step {l : List UInt8} {j : Nat} (h : j < l.length) : valT (l.take (j + 1)) = valS (valT (l.take j)) (cAt l j) := by
  unfold valT cAt
  rw [List.take_succ_eq_append_getElem h, List.foldl_append, List.getElem?_eq_getElem h]; rfl
theorem dig_at {l : List UInt8} (h : l.all isDig = true) {j : Nat} (hj : j < l.length) : 48 ≤ ((cAt l j).toNat : Int) ∧ ((cAt l j).toNat : Int) ≤ 57 := by
  have := List.all_eq_true.1 h l[j] (List.getElem_mem hj)
  unfold isDig at this
  unfold cAt
  rw [List.getElem?_eq_getElem hj]
  simpa using this
theorem valT_bd {l : List UInt8} (h : l.all isDig = true) (h5 : l.length ≤ 9) : ∀ j, j ≤ l.length → 0 ≤ valT (l.take j) ∧ valT (l.take j) < 10 ^ j
  | 0, _ => by simp [valT]
  | j + 1, hj => by
    have ih := valT_bd h h5 j (by omega)
    have hd := dig_at h (show j < l.length by omega)
    rw [valT_step (by omega)]
    unfold valS
    rw [Int.pow_succ]
    omega
/-- A number of at most four digits. -/
def numOk (l : List UInt8) : Bool := digB l && decide (l.length ≤ 4) && !(decide (1 < l.length) && decide ((cAt l 0).toNat = 48))
def numV (l : List UInt8) : Int := if numOk l then valT l else 0
def sgnB (l : List UInt8) : Bool := decide (0 < l.length) && decide ((cAt l 0).toNat = 45)
def sgnOk (l : List UInt8) : Bool := if sgnB l then numOk (l.drop 1) && decide (0 < numV (l.drop 1)) else numOk l
def sgnV (l : List UInt8) : Int := if sgnB l then -numV (l.drop 1) else numV l
theorem numV_bd (l : List UInt8) : 0 ≤ numV l ∧ numV l ≤ 9999 := by
  unfold numV
  split
  · rename_i h
    unfold numOk at h
    simp only [Bool.and_eq_true, decide_eq_true_eq] at h
    have hall : l.all isDig = true := by have := h.1.1; unfold digB at this; simp at this; simpa using this.1
    have := valT_bd hall (by omega) l.length (Nat.le_refl _)
    rw [List.take_length] at this
    have hp : (10 : Int) ^ l.length ≤ 10 ^ 4 := by
      have : 10 ^ l.length ≤ 10 ^ 4 := Nat.pow_le_pow_right (by decide) h.1.2
      exact_mod_cast this
    omega
  · omega
def spl (s : Nat) (cur : List UInt8) : List UInt8 → List (List UInt8)
  | [] => [cur]
  | c :: l => if c.toNat = s then cur :: spl s [] l else spl s (cur ++ [c]) l
def strs (L : List (List UInt8)) : List Value := L.map fun s => .string (bs s)
theorem strs_length (L : List (List UInt8)) : (strs L).length = L.length := by simp [strs]
theorem strs_snoc (L : List (List UInt8)) (s : List UInt8) : strs (L ++ [s]) = strs L ++ [.string (bs s)] := by simp [strs]
def part' (l : List UInt8) (a b : Nat) : List UInt8 := (l.drop a).take (b - a)
theorem part_self (l : List UInt8) (a : Nat) : part' l a a = [] := by unfold part'; rw [Nat.sub_self]; rfl
theorem part_snoc {l : List UInt8} {a b : Nat} (h : a ≤ b) (hb : b < l.length) : part' l a (b + 1) = part' l a b ++ [cAt l b] := by
  unfold part' cAt
  rw [show b + 1 - a = (b - a) + 1 by omega, List.take_succ_eq_append_getElem (by simp; omega), List.getElem?_eq_getElem hb, List.getElem_drop]
  congr 2
  rw [Option.getD_some]
  congr 1
  omega
theorem spl_step {s : Nat} {l cur : List UInt8} {j : Nat} (h : j < l.length) : spl s cur (l.drop j) = if (cAt l j).toNat = s then cur :: spl s [] (l.drop (j + 1)) else spl s (cur ++ [cAt l j]) (l.drop (j + 1)) := by
  rw [List.drop_eq_getElem_cons h, spl]
  unfold cAt
  rw [List.getElem?_eq_getElem h]; rfl
theorem spl_len (s : Nat) : ∀ (l cur : List UInt8), (spl s cur l).length ≤ l.length + 1
  | [], cur => by simp [spl]
  | c :: l, cur => by
    rw [spl]
    split
    · have := spl_len s l []
      simp; omega
    · have := spl_len s l (cur ++ [c])
      simp; omega
def addT : List UInt8 := [97, 100, 100]
def setT : List UInt8 := [115, 101, 116]
def wd (W : List (List UInt8)) (k : Nat) : List UInt8 := W[k]?.getD []
def goodW (W : List (List UInt8)) : Bool := decide (W.length = 6) && ((decide (wd W 2 = addT) || decide (wd W 2 = setT)) && (digB (wd W 5) && decide ((wd W 5).length = 5)))
def lnR (W : List (List UInt8)) : Ln := ⟨numV (wd W 0), numV (wd W 1), if wd W 2 = setT then 2 else 1, numV (wd W 3), sgnV (wd W 4)⟩
def okR (W : List (List UInt8)) : Bool := numOk (wd W 0) && (numOk (wd W 1) && (numOk (wd W 3) && sgnOk (wd W 4)))
def zV : Value := .agg #[.int .i64 0, .int .i64 0, .int .i64 0, .int .i64 0, .int .i64 0]
theorem spl_sub (s : Nat) : ∀ (l cur w : List UInt8), w ∈ spl s cur l → w.length ≤ cur.length + l.length
  | [], cur, w, h => by simp [spl] at h; simp [h]
  | c :: l, cur, w, h => by
    rw [spl] at h
    split at h
    · rcases List.mem_cons.1 h with rfl | h
      · simp
      · have := spl_sub s l [] w h; simp at this ⊢; omega
    · have := spl_sub s l (cur ++ [c]) w h; simp at this ⊢; omega
theorem six {α : Type} {W : List α} (h : W.length = 6) : ∃ a b c d e f, W = [a, b, c, d, e, f] := by
  match W, h with
  | [a, b, c, d, e, f], _ => exact ⟨a, b, c, d, e, f, rfl⟩
def rdR (p : List UInt8) : Ln × Int × Bool := if goodW (spl 32 [] p) then (lnR (spl 32 [] p), valT (wd (spl 32 [] p) 5), okR (spl 32 [] p)) else (⟨0, 0, 0, 0, 0⟩, 0, false)
theorem spl_ne (s : Nat) : ∀ (l cur : List UInt8), spl s cur l ≠ []
  | [], cur => by simp [spl]
  | c :: l, cur => by
    rw [spl]
    split
    · simp
    · exact spl_ne s l _
def formOk (P : List (List UInt8)) : Bool := P.dropLast.all (fun p => (rdR p).2.2) && decide (P.getLast? = some [])
theorem form_mid {D r : List (List UInt8)} {p : List UInt8} (hr : r ≠ []) (h : formOk (D ++ p :: r) = true) : (rdR p).2.2 = true := by
  unfold formOk at h
  simp only [Bool.and_eq_true] at h
  have := h.1
  rw [List.dropLast_append_of_ne_nil (by simp), List.all_append, Bool.and_eq_true] at this
  have h2 := this.2
  cases r with
  | nil => exact absurd rfl hr
  | cons q r => rw [List.dropLast_cons_cons, List.all_cons, Bool.and_eq_true] at h2; exact h2.1
theorem form_end {D : List (List UInt8)} {q : List UInt8} (hD : D.all (fun p => (rdR p).2.2) = true) : formOk (D ++ [q]) = decide (q = []) := by
  unfold formOk
  rw [List.dropLast_concat, hD, Bool.true_and, List.getLast?_concat]
  simp
theorem part_nil {s : List UInt8} {a b : Nat} (h : a ≤ b) (hb : b ≤ s.length) : part' s a b = [] ↔ a = b := by
  unfold part'
  constructor
  · intro e
    have := congrArg List.length e
    simp at this
    omega
  · rintro rfl; rw [Nat.sub_self]; rfl
theorem rdLn_sm (p : List UInt8) : LnSm (rdR p).1 := by
  unfold rdR
  split
  · unfold lnR
    have h0 := numV_bd (wd (spl 32 [] p) 0)
    have h1 := numV_bd (wd (spl 32 [] p) 1)
    have h3 := numV_bd (wd (spl 32 [] p) 3)
    have h4 := numV_bd (wd (spl 32 [] p) 4)
    have h5 := numV_bd ((wd (spl 32 [] p) 4).drop 1)
    refine ⟨by dsimp only; omega, by dsimp only; omega, by dsimp only; omega, ?_⟩
    dsimp only
    unfold sgnV
    split <;> omega
  · exact ⟨by decide, by decide, by decide, by decide⟩
end Go.Proofs.YtojeeindlijgkaaGreatDoor
