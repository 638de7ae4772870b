/- The examples, plainly: lemmas for the rows of this seat. No conditions. -/
import Derived.Laws.StructEq
import Derived.Test.YtojeeindlijgkaaGreatDoorK15
import Derived.Test.YtojeeindlijgkaaGreatDoorK17
import Derived.Test.YtojeeindlijgkaaGreatDoorK22
import Derived.Test.YtojeeindlijgkaaGreatDoorK33
import Derived.Test.YtojeeindlijgkaaGreatDoorK39
import Derived.Test.YtojeeindlijgkaaGreatDoorK38
set_option linter.all false
namespace Go.Proofs.YtojeeindlijgkaaGreatDoor
open Go.RowKit
/-! ## The examples, plainly -/
def abL : List Ln := [⟨1, 0, 1, 2, 30⟩, ⟨2, 1, 2, 2, 25⟩, ⟨3, 2, 1, 5, 7⟩, ⟨4, 0, 1, 2, -5⟩]
def onL : List Ln := [⟨1, 0, 1, 2, 30⟩]
def coL : List Ln := [⟨2, 1, 2, 2, 25⟩, ⟨4, 0, 1, 2, -5⟩]
def siL : List Ln := [⟨3, 2, 1, 5, 7⟩]
def fileL : List UInt8 := [49, 32, 48, 32, 97, 100, 100, 32, 50, 32, 51, 48, 32, 48, 52, 52, 53, 52, 10, 50, 32, 49, 32, 115, 101, 116, 32, 50, 32, 50, 53, 32, 48, 52, 57, 52, 54, 10, 52, 32, 48, 32, 97, 100, 100, 32, 50, 32, 45, 53, 32, 48, 48, 48, 51, 48, 10]
theorem va : Valid threeL := chk_valid.1 (by decide)
theorem vb : Valid otherL := chk_valid.1 (by decide)
theorem vc : Valid wrongL := chk_valid.1 (by decide)
theorem vab : Valid abL := chk_valid.1 (by decide)
theorem ab_join : Joins threeL otherL abL := ⟨va, vb, vab, fun x => by
 unfold abL threeL otherL
 simp only [List.mem_cons, List.not_mem_nil, or_false]
 constructor
 ·rintro (h | h | h | h) <;> simp [h]
 ·rintro ((h | h | h) | h | h | h) <;> simp [h]⟩
theorem ac_find : threeL.find? (clashB wrongL) = some ⟨2, 1, 2, 2, 25⟩ := by decide
theorem ab_only : threeL.filter (partP otherL false) = onL := by decide
theorem ab_common : threeL.filter (partP otherL true) = coL := by decide
theorem b_since : otherL.filter (sinceP [4, 2, 0]) = siL := by decide
theorem b_seen : fnC (seenF otherL) 3 = i64s [4, 2, 3] := rfl
theorem a_stock : fnC (stF 999 threeL) 8 = i64s [0, 0, 20, 0, 0, 0, 0, 0] := rfl
theorem a_at1 : fnC (stF 1 threeL) 8 = i64s [0, 0, 30, 0, 0, 0, 0, 0] := rfl
theorem itoa_dig {a : Nat} (h : a < 10) : Go.Lib.itoa (a : Int) = [dg a] := by
 unfold Go.Lib.itoa
 rw [if_neg (by omega), Int.toNat_natCast, dec1 h]
theorem itoa_two {a : Nat} (h1 : 10 ≤ a) (h : a < 100) : Go.Lib.itoa (a : Int) = [dg (a / 10), dg (a % 10)] := by
 unfold Go.Lib.itoa
 rw [if_neg (by omega), Int.toNat_natCast, dec2 h1 h]
theorem itoa_neg {a : Nat} (h0 : 0 < a) (h : a < 10) : Go.Lib.itoa (-(a : Int)) = [45, dg a] := by
 unfold Go.Lib.itoa
 rw [if_pos (by omega), show (-(a : Int)).natAbs = a by omega, dec1 h]
theorem line1 : lineT ⟨1, 0, 1, 2, 30⟩ = [49, 32, 48, 32, 97, 100, 100, 32, 50, 32, 51, 48] := by
 unfold lineT
 dsimp only
 rw [show (1 : Int) = ((1 : Nat) : Int) from rfl, show (0 : Int) = ((0 : Nat) : Int) from rfl, show (2 : Int) = ((2 : Nat) : Int) from rfl, show (30 : Int) = ((30 : Nat) : Int) from rfl, itoa_dig (by decide), itoa_dig (by decide), itoa_dig (by decide), itoa_two (by decide) (by decide)]
 rfl
theorem line2 : lineT ⟨2, 1, 2, 2, 25⟩ = [50, 32, 49, 32, 115, 101, 116, 32, 50, 32, 50, 53] := by
 unfold lineT
 dsimp only
 rw [show (1 : Int) = ((1 : Nat) : Int) from rfl, show (2 : Int) = ((2 : Nat) : Int) from rfl, show (25 : Int) = ((25 : Nat) : Int) from rfl, itoa_dig (by decide), itoa_dig (by decide), itoa_two (by decide) (by decide)]
 rfl
theorem line3 : lineT ⟨4, 0, 1, 2, -5⟩ = [52, 32, 48, 32, 97, 100, 100, 32, 50, 32, 45, 53] := by
 unfold lineT
 dsimp only
 rw [show (4 : Int) = ((4 : Nat) : Int) from rfl, show (0 : Int) = ((0 : Nat) : Int) from rfl, show (2 : Int) = ((2 : Nat) : Int) from rfl, show (-5 : Int) = -((5 : Nat) : Int) from rfl, itoa_dig (by decide), itoa_dig (by decide), itoa_dig (by decide), itoa_neg (by decide) (by decide)]
 rfl
theorem a_file : (fileF threeL).2 = fileL := by
 rw [fileF_eq]
 unfold threeL
 rw [outs, outs, outs, outs, outT, outT, outT, line1, line2, line3]
 decide
/-! ## Contracts at the examples -/
theorem longsN {l : List Int} {m : Nat} {A1 A2 : Option Addr} {c1 c2 : Nat} {A : List Chunk} {w0 w : World} (hs : St w0 A w) (h1 : Chunk.own (.slice A1 m c1) 2 1 m (i64s l) ∈ A) (h2 : Chunk.own (.slice A2 m c2) 2 1 m (i64s l) ∈ A) (hl : l.length = m) (hm : m ≤ 1000) :
  Calls Tryz.prog 23 #[.slice A1 m c1, .slice A2 m c2] w fun e w' => e = .returned (.bool true) ∧ Below w.heap.size w w' := by
 subst hl
 have := longs_any A1 c1 l A2 c2 l w (hs.own_rd h1) (hs.own_rd h2) (by unfold maxLen; omega)
 rwa [decide_eq_true rfl] at this
theorem sameN {l : List Ln} {m : Nat} {A1 A2 : Option Addr} {c1 c2 : Nat} {A : List Chunk} {w0 w : World} (hs : St w0 A w) (h1 : Chunk.own (.slice A1 m c1) 61 5 m (lnC l) ∈ A) (h2 : Chunk.own (.slice A2 m c2) 61 5 m (lnC l) ∈ A) (hl : l.length = m) (hm : m ≤ 1000) :
  Calls Tryz.prog 28 #[.agg #[.slice A1 m c1], .agg #[.slice A2 m c2]] w fun e w' => e = .returned (.bool true) ∧ Below w.heap.size w w' := by
 subst hl
 have := same_any A1 c1 l A2 c2 l w (hs.own_rd h1) (hs.own_rd h2) (by unfold maxLen; omega)
 rwa [decide_eq_true rfl] at this
theorem intsN {l : List Int} {m g t : Nat} {A1 : Option Addr} {c1 : Nat} {A : List Chunk} {w0 w : World} (hs : St w0 A w) (h1 : Chunk.own (.slice A1 m c1) 3 1 m (i64s l) ∈ A) (h2 : Chunk.blk g t (i64s l) ∈ A) (hl : l.length = m) (hm : m ≤ 1000) :
  Calls Tryz.prog 37 #[.slice A1 m c1, .slice (some ⟨g, 0, none⟩) m m] w fun e w' => e = .returned (.bool true) ∧ Below w.heap.size w w' := by
 subst hl
 have := ints_any A1 c1 l (some ⟨g, 0, none⟩) l.length l w (hs.own_rd h1) (hs.blk_reads h2 (by simp [i64s])) (by unfold maxLen; omega)
 rwa [decide_eq_true rfl] at this
theorem longsM (xs ys : List Int) (m : Nat) (hx : xs.length = m) (hm8 : m < 8) (hy : xs ++ List.replicate (8 - m) 0 = ys) {g t : Nat} {A : List Chunk} {w0 w : World} (hs : St w0 A w) (hm : Chunk.blk g t (i64s xs) ∈ A) :
  Calls Tryz.prog 49 #[.slice (some ⟨g, 0, none⟩) m m] w fun e w' => ∃ x : SlX, e = .returned (.slice x.1 8 x.2) ∧ True ∧ St w ([] ++ [.own (.slice x.1 8 x.2) 2 1 8 (i64s ys)]) w' := by
 subst hx; subst hy
 exact longs_mem xs hm8 hs hm
theorem bookM (xs : List Int) (ys : List Ln) (m k : Nat) (hx : xs.length = m) (hk : m / 5 = k) (hm : m ≤ 1000) (hy : bkF xs k = ys) {g t : Nat} {A : List Chunk} {w0 w : World} (hs : St w0 A w) (hA : Chunk.blk g t (i64s xs) ∈ A) :
  Calls Tryz.prog 51 #[.slice (some ⟨g, 0, none⟩) m m] w fun e w' => ∃ y : SlX, e = .returned (.agg #[.slice y.1 k y.2]) ∧ True ∧ St w ([] ++ [.own (.slice y.1 k y.2) 61 5 k (lnC ys)]) w' := by
 subst hx; subst hk; subst hy
 exact book_any (some ⟨g, 0, none⟩) _ xs w (hs.blk_reads hA (by simp [i64s])) hm
section
variable {A1 A2 A3 : Option Addr} {c1 c2 c3 : Nat} {A : List Chunk} {w0 w : World} (hs : St w0 A w)
include hs
theorem x_stock (h : Chunk.own (.slice A1 3 c1) 61 5 3 (lnC threeL) ∈ A) : Calls Tryz.prog 17 #[.agg #[.slice A1 3 c1]] w fun e w' => ∃ x : SlX, e = .returned (.tuple #[.slice x.1 8 x.2, .int .i64 0]) ∧ True ∧ St w ([] ++ [.own (.slice x.1 8 x.2) 2 1 8 (i64s [0, 0, 20, 0, 0, 0, 0, 0])]) w' := by
 rw [← a_stock]; exact stock_ok A1 c1 threeL w (hs.own_rd h) (by decide) va
theorem x_at1 (h : Chunk.own (.slice A1 3 c1) 61 5 3 (lnC threeL) ∈ A) : Calls Tryz.prog 19 #[.agg #[.slice A1 3 c1], .int .i64 1] w fun e w' => ∃ x : SlX, e = .returned (.tuple #[.slice x.1 8 x.2, .int .i64 0]) ∧ True ∧ St w ([] ++ [.own (.slice x.1 8 x.2) 2 1 8 (i64s [0, 0, 30, 0, 0, 0, 0, 0])]) w' := by
 rw [← a_at1]; exact at_ok A1 c1 threeL w (hs.own_rd h) (by decide) 1 va rfl
theorem x_at2 (h : Chunk.own (.slice A1 3 c1) 61 5 3 (lnC threeL) ∈ A) : Calls Tryz.prog 19 #[.agg #[.slice A1 3 c1], .int .i64 1000] w fun e w' => e = .returned (.tuple #[.slice none 0 0, .int .i64 2]) ∧ Below w.heap.size w w' :=
 at_arg A1 c1 threeL w (hs.own_rd h) (by decide) 1000 (chk_valid.2 va) rfl
theorem x_merge (h1 : Chunk.own (.slice A1 3 c1) 61 5 3 (lnC threeL) ∈ A) (h2 : Chunk.own (.slice A2 3 c2) 61 5 3 (lnC otherL) ∈ A) : Calls Tryz.prog 26 #[.agg #[.slice A1 3 c1], .agg #[.slice A2 3 c2]] w fun e w' => ∃ x : SlX, e = .returned (.tuple #[.agg #[.slice x.1 4 x.2], .int .i64 0]) ∧ True ∧ St w ([] ++ [.own (.slice x.1 4 x.2) 61 5 4 (lnC abL)]) w' := by
 have := merge_ok A1 c1 threeL A2 c2 otherL w (hs.own_rd h1) (hs.own_rd h2) va vb ab_join.free (by rw [ab_join.eq]; decide)
 rw [ab_join.eq] at this
 exact this
theorem x_mergeC (h1 : Chunk.own (.slice A1 3 c1) 61 5 3 (lnC threeL) ∈ A) (h2 : Chunk.own (.slice A2 1 c2) 61 5 1 (lnC wrongL) ∈ A) : Calls Tryz.prog 26 #[.agg #[.slice A1 3 c1], .agg #[.slice A2 1 c2]] w fun e w' => e = .returned (.tuple #[.agg #[.slice none 0 0], .int .i64 28]) ∧ Below w.heap.size w w' :=
 merge_clash A1 c1 threeL A2 c2 wrongL w (hs.own_rd h1) (hs.own_rd h2) va vc ac_find
theorem x_clash (h1 : Chunk.own (.slice A1 3 c1) 61 5 3 (lnC threeL) ∈ A) (h2 : Chunk.own (.slice A2 1 c2) 61 5 1 (lnC wrongL) ∈ A) : Calls Tryz.prog 24 #[.agg #[.slice A1 3 c1], .agg #[.slice A2 1 c2]] w fun e w' => e = .returned (.tuple #[.int .i64 2, .int .i64 1, .int .i64 0]) ∧ Below w.heap.size w w' := by
 have := clash_any A1 c1 threeL A2 c2 wrongL w (hs.own_rd h1) (hs.own_rd h2) va vc
 rw [ac_find] at this
 exact this
theorem x_clash0 (h1 : Chunk.own (.slice A1 3 c1) 61 5 3 (lnC threeL) ∈ A) (h2 : Chunk.own (.slice A2 3 c2) 61 5 3 (lnC otherL) ∈ A) : Calls Tryz.prog 24 #[.agg #[.slice A1 3 c1], .agg #[.slice A2 3 c2]] w fun e w' => e = .returned (.tuple #[.int .i64 0, .int .i64 0, .int .i64 5]) ∧ Below w.heap.size w w' := by
 have := clash_any A1 c1 threeL A2 c2 otherL w (hs.own_rd h1) (hs.own_rd h2) va vb
 rw [ab_join.free] at this
 exact this
theorem x_only (h1 : Chunk.own (.slice A1 3 c1) 61 5 3 (lnC threeL) ∈ A) (h2 : Chunk.own (.slice A2 3 c2) 61 5 3 (lnC otherL) ∈ A) : Calls Tryz.prog 31 #[.agg #[.slice A1 3 c1], .agg #[.slice A2 3 c2]] w fun e w' => ∃ x : SlX, e = .returned (.tuple #[.agg #[.slice x.1 1 x.2], .int .i64 0]) ∧ True ∧ St w ([] ++ [.own (.slice x.1 1 x.2) 61 5 1 (lnC onL)]) w' := by
 have := only_ok A1 c1 threeL A2 c2 otherL w (hs.own_rd h1) (hs.own_rd h2) va vb
 rw [ab_only] at this
 exact this
theorem x_common (h1 : Chunk.own (.slice A1 3 c1) 61 5 3 (lnC threeL) ∈ A) (h2 : Chunk.own (.slice A2 3 c2) 61 5 3 (lnC otherL) ∈ A) : Calls Tryz.prog 29 #[.agg #[.slice A1 3 c1], .agg #[.slice A2 3 c2]] w fun e w' => ∃ x : SlX, e = .returned (.tuple #[.agg #[.slice x.1 2 x.2], .int .i64 0]) ∧ True ∧ St w ([] ++ [.own (.slice x.1 2 x.2) 61 5 2 (lnC coL)]) w' := by
 have := common_ok A1 c1 threeL A2 c2 otherL w (hs.own_rd h1) (hs.own_rd h2) va vb
 rw [ab_common] at this
 exact this
theorem x_seen (h : Chunk.own (.slice A1 3 c1) 61 5 3 (lnC otherL) ∈ A) : Calls Tryz.prog 33 #[.agg #[.slice A1 3 c1]] w fun e w' => ∃ x : SlX, e = .returned (.tuple #[.slice x.1 3 x.2, .int .i64 0]) ∧ True ∧ St w ([] ++ [.own (.slice x.1 3 x.2) 3 1 3 (i64s [4, 2, 3])]) w' := by
 rw [← b_seen]; exact seen_ok A1 c1 otherL w (hs.own_rd h) vb
theorem x_since {g t : Nat} (h : Chunk.own (.slice A1 3 c1) 61 5 3 (lnC otherL) ∈ A) (h2 : Chunk.blk g t (i64s [4, 2, 0]) ∈ A) : Calls Tryz.prog 35 #[.agg #[.slice A1 3 c1], .slice (some ⟨g, 0, none⟩) 3 3] w fun e w' => ∃ x : SlX, e = .returned (.tuple #[.agg #[.slice x.1 1 x.2], .int .i64 0]) ∧ True ∧ St w ([] ++ [.own (.slice x.1 1 x.2) 61 5 1 (lnC siL)]) w' := by
 have := since_ok A1 c1 otherL (some ⟨g, 0, none⟩) 3 [4, 2, 0] w (hs.own_rd h) (hs.blk_reads h2 rfl) vb rfl rfl
 rw [b_since] at this
 exact this
theorem x_sinceL {g t : Nat} (h : Chunk.own (.slice A1 3 c1) 61 5 3 (lnC otherL) ∈ A) (h2 : Chunk.blk g t (i64s [4, 2]) ∈ A) : Calls Tryz.prog 35 #[.agg #[.slice A1 3 c1], .slice (some ⟨g, 0, none⟩) 2 2] w fun e w' => e = .returned (.tuple #[.agg #[.slice none 0 0], .int .i64 15]) ∧ Below w.heap.size w w' :=
 since_len A1 c1 otherL (some ⟨g, 0, none⟩) 2 [4, 2] w (hs.own_rd h) vb (by decide)
theorem x_sinceB {g t : Nat} (h : Chunk.own (.slice A1 3 c1) 61 5 3 (lnC otherL) ∈ A) (h2 : Chunk.blk g t (i64s [4, 2, 1000]) ∈ A) : Calls Tryz.prog 35 #[.agg #[.slice A1 3 c1], .slice (some ⟨g, 0, none⟩) 3 3] w fun e w' => e = .returned (.tuple #[.agg #[.slice none 0 0], .int .i64 3]) ∧ Below w.heap.size w w' :=
 since_bad A1 c1 otherL (some ⟨g, 0, none⟩) 3 [4, 2, 1000] w (hs.own_rd h) (hs.blk_reads h2 rfl) vb rfl rfl
theorem x_file (hE : LayE w0) (h : Chunk.own (.slice A1 3 c1) 61 5 3 (lnC threeL) ∈ A) : Calls Tryz.prog 38 #[.agg #[.slice A1 3 c1]] w fun e w' => e = .returned (.tuple #[.string (bs fileL), .int .i64 0]) ∧ Below w.heap.size w w' := by
 rw [← a_file]; exact file_ok A1 c1 threeL w (hs.own_rd h) va (hE.st hs).t10
theorem x_load (hE : LayE w0) (hM : MaxL w0) : Calls Tryz.prog 40 #[.string (bs fileL)] w fun e w' => ∃ x : SlX, e = .returned (.tuple #[.agg #[.slice x.1 3 x.2], .int .i64 0]) ∧ True ∧ St w ([] ++ [.own (.slice x.1 3 x.2) 61 5 3 (lnC threeL)]) w' := by
 obtain ⟨h1, h2⟩ := form_outs va.rd
 have h2 : linesR (spl 10 [] (fileF threeL).2).dropLast = threeL := h2
 have := load_ok (fileF threeL).2 w (by rw [a_file]; decide) (hE.st hs) (hM.st hs) h1 (by rw [h2]) (by rw [h2]; decide)
 rw [h2, a_file] at this
 exact this
end
theorem z_zs {g t : Nat} {A : List Chunk} {w0 w : World} (hs : St w0 A w) (hA : Chunk.blk g t (i64s [0, 0, 20]) ∈ A) : Calls Tryz.prog 49 #[.slice (some ⟨g, 0, none⟩) 3 3] w fun e w' => ∃ x : SlX, e = .returned (.slice x.1 8 x.2) ∧ True ∧ St w ([] ++ [.own (.slice x.1 8 x.2) 2 1 8 (i64s [0, 0, 20, 0, 0, 0, 0, 0])]) w' :=
 longsM [0, 0, 20] _ 3 rfl (by decide) rfl hs hA
theorem z_zt {g t : Nat} {A : List Chunk} {w0 w : World} (hs : St w0 A w) (hA : Chunk.blk g t (i64s [0, 0, 30]) ∈ A) : Calls Tryz.prog 49 #[.slice (some ⟨g, 0, none⟩) 3 3] w fun e w' => ∃ x : SlX, e = .returned (.slice x.1 8 x.2) ∧ True ∧ St w ([] ++ [.own (.slice x.1 8 x.2) 2 1 8 (i64s [0, 0, 30, 0, 0, 0, 0, 0])]) w' :=
 longsM [0, 0, 30] _ 3 rfl (by decide) rfl hs hA
theorem z_zm {g t : Nat} {A : List Chunk} {w0 w : World} (hs : St w0 A w) (hA : Chunk.blk g t (i64s [1, 0, 1, 2, 30, 2, 1, 2, 2, 25, 3, 2, 1, 5, 7, 4, 0, 1, 2, -5]) ∈ A) : Calls Tryz.prog 51 #[.slice (some ⟨g, 0, none⟩) 20 20] w fun e w' => ∃ y : SlX, e = .returned (.agg #[.slice y.1 4 y.2]) ∧ True ∧ St w ([] ++ [.own (.slice y.1 4 y.2) 61 5 4 (lnC abL)]) w' :=
 bookM [1, 0, 1, 2, 30, 2, 1, 2, 2, 25, 3, 2, 1, 5, 7, 4, 0, 1, 2, -5] _ 20 4 rfl rfl (by decide) rfl hs hA
theorem z_zo {g t : Nat} {A : List Chunk} {w0 w : World} (hs : St w0 A w) (hA : Chunk.blk g t (i64s [1, 0, 1, 2, 30]) ∈ A) : Calls Tryz.prog 51 #[.slice (some ⟨g, 0, none⟩) 5 5] w fun e w' => ∃ y : SlX, e = .returned (.agg #[.slice y.1 1 y.2]) ∧ True ∧ St w ([] ++ [.own (.slice y.1 1 y.2) 61 5 1 (lnC onL)]) w' :=
 bookM [1, 0, 1, 2, 30] _ 5 1 rfl rfl (by decide) rfl hs hA
theorem z_zp {g t : Nat} {A : List Chunk} {w0 w : World} (hs : St w0 A w) (hA : Chunk.blk g t (i64s [2, 1, 2, 2, 25, 4, 0, 1, 2, -5]) ∈ A) : Calls Tryz.prog 51 #[.slice (some ⟨g, 0, none⟩) 10 10] w fun e w' => ∃ y : SlX, e = .returned (.agg #[.slice y.1 2 y.2]) ∧ True ∧ St w ([] ++ [.own (.slice y.1 2 y.2) 61 5 2 (lnC coL)]) w' :=
 bookM [2, 1, 2, 2, 25, 4, 0, 1, 2, -5] _ 10 2 rfl rfl (by decide) rfl hs hA
theorem z_zn {g t : Nat} {A : List Chunk} {w0 w : World} (hs : St w0 A w) (hA : Chunk.blk g t (i64s [3, 2, 1, 5, 7]) ∈ A) : Calls Tryz.prog 51 #[.slice (some ⟨g, 0, none⟩) 5 5] w fun e w' => ∃ y : SlX, e = .returned (.agg #[.slice y.1 1 y.2]) ∧ True ∧ St w ([] ++ [.own (.slice y.1 1 y.2) 61 5 1 (lnC siL)]) w' :=
 bookM [3, 2, 1, 5, 7] _ 5 1 rfl rfl (by decide) rfl hs hA
/-! ## Works -/
theorem fn_t {P : Program} {w0 : World} {n : Nat} {A : List Chunk} {f : FuncId} {fn : Func} {c : Code} {args : List Value} {w : World} {R : Ending → World → Prop} (hf : P.funcs[f]? = some fn) (hb : fn.body = some c) (hn : fn.ntmps = n) (hs : args.length ≤ n) (hst : St w0 A w)
  (h : Tr P none w0 n c [] (argT 0 args) A (VRet P w0 n fn R)) : Calls P f args.toArray w R :=
 fn_enter hf hb hn hs hst (tr_mono h fun _ _ _ _ q => by cases q; assumption)
set_option maxHeartbeats 4000000 in
set_option maxRecDepth 20000 in
theorem works_any (w : World) (hE : LayE w) (hM : MaxL w) : Calls Tryz.prog 16 #[] w fun e w' => e = .returned (.bool true) ∧ Below w.heap.size w w' := by
 refine fn_t (n := 243) (A := []) Tryz.func16 rfl rfl (Nat.le_of_ble_eq_true rfl) (St.nil (Below.refl _ _)) ?_
 refine tr_cut (fun x : Unit => ([(0, .bool false)], [])) ?_ ?_
 ·(apply tr_v tk; (conv => whnf))
  exact VJ.mk () rfl ⟨rfl, trivial⟩ (by ((try dsimp only); repeat (first | exact Pick.nil | ((apply Pick.cons); (focus (repeat (first | exact Rem.here | apply Rem.there)); done)))))
 rintro _
 refine tr_cut (fun x : SlX × SlX × SlX × Nat × Nat × Nat => ([(1, .pointer (some ⟨x.2.2.2.1, 0, none⟩)), (2, .pointer (some ⟨x.2.2.2.2.1, 0, none⟩)), (3, .pointer (some ⟨x.2.2.2.2.2, 0, none⟩)), (0, .bool false)], [.blk x.2.2.2.1 24 [.slice x.1.1 3 x.1.2], .blk x.2.2.2.2.1 24 [.slice x.2.1.1 3 x.2.1.2], .blk x.2.2.2.2.2 24 [.slice x.2.2.1.1 1 x.2.2.1.2], .own (.slice x.1.1 3 x.1.2) 61 5 3 (lnC threeL), .own (.slice x.2.1.1 3 x.2.1.2) 61 5 3 (lnC otherL), .own (.slice x.2.2.1.1 1 x.2.2.1.2) 61 5 1 (lnC wrongL)])) ?_ ?_
 ·(apply tr_v tk; (conv => whnf); apply VCall.stop)
  refine ot_callT (X := SlX) (us := []) (vs := []) (fun x => .agg #[.slice x.1 3 x.2]) (fun x => []) (fun x => [.own (.slice x.1 3 x.2) 61 5 3 (lnC threeL)]) _ (fun x c hc => one_mut hc) (by decide) rfl rfl rfl rfl (by kernel_rfl) (evl_of rfl) rfl (fun w1 hs => three_any w1) ?_
  rintro ⟨Ba, ca⟩ _
  (dsimp only [List.cons_append, List.nil_append]; apply ot_v tk)
  ((conv => whnf); apply VCall.stop)
  refine ot_callT (X := SlX) (us := []) (vs := []) (fun x => .agg #[.slice x.1 3 x.2]) (fun x => []) (fun x => [.own (.slice x.1 3 x.2) 61 5 3 (lnC otherL)]) _ (fun x c hc => one_mut hc) (by decide) rfl rfl rfl rfl (by kernel_rfl) (evl_of rfl) rfl (fun w1 hs => other_any w1) ?_
  rintro ⟨Bb, cb⟩ _
  (dsimp only [List.cons_append, List.nil_append]; apply ot_v tk)
  ((conv => whnf); apply VCall.stop)
  refine ot_callT (X := SlX) (us := []) (vs := []) (fun x => .agg #[.slice x.1 1 x.2]) (fun x => []) (fun x => [.own (.slice x.1 1 x.2) 61 5 1 (lnC wrongL)]) _ (fun x c hc => one_mut hc) (by decide) rfl rfl rfl rfl (by kernel_rfl) (evl_of rfl) rfl (fun w1 hs => wrong_any w1) ?_
  rintro ⟨Bc, cc⟩ _
  (dsimp only [List.cons_append, List.nil_append]; apply ot_v tk)
  ((conv => whnf); (repeat ((first | (apply VNew.mk; intro g hg) | (apply VSt.mk; (focus ((repeat (first | (with_reducible exact At.here) | (with_reducible apply At.there))); done)); exact rfl)); (conv => whnf))))
  revert g hg; intro g3 hg3
  revert g hg; intro g2 hg2
  revert g hg; intro g1 hg1
  exact VJ.mk ((Ba, ca), (Bb, cb), (Bc, cc), g1, g2, g3) rfl ⟨rfl, rfl, rfl, rfl, trivial⟩ (by ((try dsimp only); repeat (first | exact Pick.nil | ((apply Pick.cons); (focus (repeat (first | exact Rem.here | apply Rem.there)); done)))))
 rintro ⟨⟨Ba, ca⟩, ⟨Bb, cb⟩, ⟨Bc, cc⟩, g1, g2, g3⟩
 refine tr_cut (fun x : SlX => ([(4, .slice x.1 8 x.2), (5, .int .i64 0), (1, .pointer (some ⟨g1, 0, none⟩)), (2, .pointer (some ⟨g2, 0, none⟩)), (3, .pointer (some ⟨g3, 0, none⟩)), (0, .bool false)], [.own (.slice x.1 8 x.2) 2 1 8 (i64s [0, 0, 20, 0, 0, 0, 0, 0]), .blk g1 24 [.slice Ba 3 ca], .blk g2 24 [.slice Bb 3 cb], .blk g3 24 [.slice Bc 1 cc], .own (.slice Ba 3 ca) 61 5 3 (lnC threeL), .own (.slice Bb 3 cb) 61 5 3 (lnC otherL), .own (.slice Bc 1 cc) 61 5 1 (lnC wrongL)])) ?_ ?_
 ·(apply tr_v tk; (conv => whnf); (repeat ((apply VLdN.mk; (focus ((repeat (first | (with_reducible apply ldn_blk) | (with_reducible apply ldn_skip))); done)); exact rfl); (conv => whnf))); apply VCall.stop)
  refine ot_callT (X := SlX) (us := []) (vs := []) (fun x => .tuple #[.slice x.1 8 x.2, .int .i64 0]) (fun x => []) (fun x => [.own (.slice x.1 8 x.2) 2 1 8 (i64s [0, 0, 20, 0, 0, 0, 0, 0])]) _ (fun x c hc => one_mut hc) (by decide) rfl rfl rfl rfl (by kernel_rfl) (evl_of rfl) rfl (fun w1 hs => x_stock hs (by (repeat (first | exact List.Mem.head _ | assumption | refine List.Mem.tail _ ?_)))) ?_
  rintro ⟨Bs, cs⟩ _
  (dsimp only [List.cons_append, List.nil_append]; apply ot_v tk)
  ((conv => whnf))
  exact VJ.mk (Bs, cs) rfl ⟨rfl, rfl, rfl, rfl, rfl, rfl, trivial⟩ (by ((try dsimp only); repeat (first | exact Pick.nil | ((apply Pick.cons); (focus (repeat (first | exact Rem.here | apply Rem.there)); done)))))
 rintro ⟨Bs, cs⟩
 refine tr_cut (fun x : SlX => ([(6, .slice x.1 8 x.2), (7, .int .i64 0), (4, .slice Bs 8 cs), (5, .int .i64 0), (1, .pointer (some ⟨g1, 0, none⟩)), (2, .pointer (some ⟨g2, 0, none⟩)), (3, .pointer (some ⟨g3, 0, none⟩)), (0, .bool false)], [.own (.slice x.1 8 x.2) 2 1 8 (i64s [0, 0, 30, 0, 0, 0, 0, 0]), .own (.slice Bs 8 cs) 2 1 8 (i64s [0, 0, 20, 0, 0, 0, 0, 0]), .blk g1 24 [.slice Ba 3 ca], .blk g2 24 [.slice Bb 3 cb], .blk g3 24 [.slice Bc 1 cc], .own (.slice Ba 3 ca) 61 5 3 (lnC threeL), .own (.slice Bb 3 cb) 61 5 3 (lnC otherL), .own (.slice Bc 1 cc) 61 5 1 (lnC wrongL)])) ?_ ?_
 ·(apply tr_v tk; (conv => whnf); (repeat ((apply VLdN.mk; (focus ((repeat (first | (with_reducible apply ldn_blk) | (with_reducible apply ldn_skip))); done)); exact rfl); (conv => whnf))); apply VCall.stop)
  refine ot_callT (X := SlX) (us := []) (vs := []) (fun x => .tuple #[.slice x.1 8 x.2, .int .i64 0]) (fun x => []) (fun x => [.own (.slice x.1 8 x.2) 2 1 8 (i64s [0, 0, 30, 0, 0, 0, 0, 0])]) _ (fun x c hc => one_mut hc) (by decide) rfl rfl rfl rfl (by kernel_rfl) (evl_of rfl) rfl (fun w1 hs => x_at1 hs (by (repeat (first | exact List.Mem.head _ | assumption | refine List.Mem.tail _ ?_)))) ?_
  rintro ⟨Bt, ct⟩ _
  (dsimp only [List.cons_append, List.nil_append]; apply ot_v tk)
  ((conv => whnf))
  exact VJ.mk (Bt, ct) rfl ⟨rfl, rfl, rfl, rfl, rfl, rfl, rfl, rfl, trivial⟩ (by ((try dsimp only); repeat (first | exact Pick.nil | ((apply Pick.cons); (focus (repeat (first | exact Rem.here | apply Rem.there)); done)))))
 rintro ⟨Bt, ct⟩
 refine tr_cut (fun x : Unit => ([(9, .int .i64 2), (6, .slice Bt 8 ct), (7, .int .i64 0), (4, .slice Bs 8 cs), (5, .int .i64 0), (1, .pointer (some ⟨g1, 0, none⟩)), (2, .pointer (some ⟨g2, 0, none⟩)), (3, .pointer (some ⟨g3, 0, none⟩)), (0, .bool false)], [.own (.slice Bt 8 ct) 2 1 8 (i64s [0, 0, 30, 0, 0, 0, 0, 0]), .own (.slice Bs 8 cs) 2 1 8 (i64s [0, 0, 20, 0, 0, 0, 0, 0]), .blk g1 24 [.slice Ba 3 ca], .blk g2 24 [.slice Bb 3 cb], .blk g3 24 [.slice Bc 1 cc], .own (.slice Ba 3 ca) 61 5 3 (lnC threeL), .own (.slice Bb 3 cb) 61 5 3 (lnC otherL), .own (.slice Bc 1 cc) 61 5 1 (lnC wrongL)])) ?_ ?_
 ·(apply tr_v tk; (conv => whnf); (repeat ((first | (apply VCall.q; kernel_rfl; (focus (intro w1 hs; first | ((with_reducible apply x_at2 hs); (repeat (first | exact List.Mem.head _ | assumption | refine List.Mem.tail _ ?_)))))) | (apply VLdN.mk; (focus ((repeat (first | (with_reducible apply ldn_blk) | (with_reducible apply ldn_skip))); done)); exact rfl)); (conv => whnf))))
  exact VJ.mk () rfl ⟨rfl, rfl, rfl, rfl, rfl, rfl, rfl, rfl, rfl, trivial⟩ (by ((try dsimp only); repeat (first | exact Pick.nil | ((apply Pick.cons); (focus (repeat (first | exact Rem.here | apply Rem.there)); done)))))
 rintro _
 refine tr_cut (fun x : SlX × Nat => ([(10, .pointer (some ⟨x.2, 0, none⟩)), (11, .int .i64 0), (9, .int .i64 2), (6, .slice Bt 8 ct), (7, .int .i64 0), (4, .slice Bs 8 cs), (5, .int .i64 0), (1, .pointer (some ⟨g1, 0, none⟩)), (2, .pointer (some ⟨g2, 0, none⟩)), (3, .pointer (some ⟨g3, 0, none⟩)), (0, .bool false)], [.own (.slice x.1.1 4 x.1.2) 61 5 4 (lnC abL), .blk x.2 24 [.slice x.1.1 4 x.1.2], .own (.slice Bt 8 ct) 2 1 8 (i64s [0, 0, 30, 0, 0, 0, 0, 0]), .own (.slice Bs 8 cs) 2 1 8 (i64s [0, 0, 20, 0, 0, 0, 0, 0]), .blk g1 24 [.slice Ba 3 ca], .blk g2 24 [.slice Bb 3 cb], .blk g3 24 [.slice Bc 1 cc], .own (.slice Ba 3 ca) 61 5 3 (lnC threeL), .own (.slice Bb 3 cb) 61 5 3 (lnC otherL), .own (.slice Bc 1 cc) 61 5 1 (lnC wrongL)])) ?_ ?_
 ·(apply tr_v tk; (conv => whnf); (repeat ((apply VLdN.mk; (focus ((repeat (first | (with_reducible apply ldn_blk) | (with_reducible apply ldn_skip))); done)); exact rfl); (conv => whnf))); apply VCall.stop)
  refine ot_callT (X := SlX) (us := []) (vs := []) (fun x => .tuple #[.agg #[.slice x.1 4 x.2], .int .i64 0]) (fun x => []) (fun x => [.own (.slice x.1 4 x.2) 61 5 4 (lnC abL)]) _ (fun x c hc => one_mut hc) (by decide) rfl rfl rfl rfl (by kernel_rfl) (evl_of rfl) rfl (fun w1 hs => x_merge hs (by (repeat (first | exact List.Mem.head _ | assumption | refine List.Mem.tail _ ?_))) (by (repeat (first | exact List.Mem.head _ | assumption | refine List.Mem.tail _ ?_)))) ?_
  rintro ⟨Bm, cm⟩ _
  (dsimp only [List.cons_append, List.nil_append]; apply ot_v tk)
  ((conv => whnf); (repeat ((first | (apply VNew.mk; intro g hg) | (apply VSt.mk; (focus ((repeat (first | (with_reducible exact At.here) | (with_reducible apply At.there))); done)); exact rfl)); (conv => whnf))))
  revert g hg; intro g10 hg10
  exact VJ.mk ((Bm, cm), g10) rfl ⟨rfl, rfl, rfl, rfl, rfl, rfl, rfl, rfl, rfl, rfl, rfl, trivial⟩ (by ((try dsimp only); repeat (first | exact Pick.nil | ((apply Pick.cons); (focus (repeat (first | exact Rem.here | apply Rem.there)); done)))))
 rintro ⟨⟨Bm, cm⟩, g10⟩
 refine tr_cut (fun x : Unit => ([(13, .int .i64 28), (10, .pointer (some ⟨g10, 0, none⟩)), (11, .int .i64 0), (9, .int .i64 2), (6, .slice Bt 8 ct), (7, .int .i64 0), (4, .slice Bs 8 cs), (5, .int .i64 0), (1, .pointer (some ⟨g1, 0, none⟩)), (2, .pointer (some ⟨g2, 0, none⟩)), (3, .pointer (some ⟨g3, 0, none⟩)), (0, .bool false)], [.own (.slice Bm 4 cm) 61 5 4 (lnC abL), .blk g10 24 [.slice Bm 4 cm], .own (.slice Bt 8 ct) 2 1 8 (i64s [0, 0, 30, 0, 0, 0, 0, 0]), .own (.slice Bs 8 cs) 2 1 8 (i64s [0, 0, 20, 0, 0, 0, 0, 0]), .blk g1 24 [.slice Ba 3 ca], .blk g2 24 [.slice Bb 3 cb], .blk g3 24 [.slice Bc 1 cc], .own (.slice Ba 3 ca) 61 5 3 (lnC threeL), .own (.slice Bb 3 cb) 61 5 3 (lnC otherL), .own (.slice Bc 1 cc) 61 5 1 (lnC wrongL)])) ?_ ?_
 ·(apply tr_v tk; (conv => whnf); (repeat ((first | (apply VCall.q; kernel_rfl; (focus (intro w1 hs; first | ((with_reducible apply x_mergeC hs); (repeat (first | exact List.Mem.head _ | assumption | refine List.Mem.tail _ ?_)))))) | (apply VLdN.mk; (focus ((repeat (first | (with_reducible apply ldn_blk) | (with_reducible apply ldn_skip))); done)); exact rfl) | (apply VNew.mk; intro g hg) | (apply VSt.mk; (focus ((repeat (first | (with_reducible exact At.here) | (with_reducible apply At.there))); done)); exact rfl)); (conv => whnf))))
  exact VJ.mk () rfl ⟨rfl, rfl, rfl, rfl, rfl, rfl, rfl, rfl, rfl, rfl, rfl, rfl, trivial⟩ (by ((try dsimp only); repeat (first | exact Pick.nil | ((apply Pick.cons); (focus (repeat (first | exact Rem.here | apply Rem.there)); done)))))
 rintro _
 refine tr_cut (fun x : Unit => ([(14, .int .i64 2), (15, .int .i64 1), (16, .int .i64 0), (13, .int .i64 28), (10, .pointer (some ⟨g10, 0, none⟩)), (11, .int .i64 0), (9, .int .i64 2), (6, .slice Bt 8 ct), (7, .int .i64 0), (4, .slice Bs 8 cs), (5, .int .i64 0), (1, .pointer (some ⟨g1, 0, none⟩)), (2, .pointer (some ⟨g2, 0, none⟩)), (3, .pointer (some ⟨g3, 0, none⟩)), (0, .bool false)], [.own (.slice Bm 4 cm) 61 5 4 (lnC abL), .blk g10 24 [.slice Bm 4 cm], .own (.slice Bt 8 ct) 2 1 8 (i64s [0, 0, 30, 0, 0, 0, 0, 0]), .own (.slice Bs 8 cs) 2 1 8 (i64s [0, 0, 20, 0, 0, 0, 0, 0]), .blk g1 24 [.slice Ba 3 ca], .blk g2 24 [.slice Bb 3 cb], .blk g3 24 [.slice Bc 1 cc], .own (.slice Ba 3 ca) 61 5 3 (lnC threeL), .own (.slice Bb 3 cb) 61 5 3 (lnC otherL), .own (.slice Bc 1 cc) 61 5 1 (lnC wrongL)])) ?_ ?_
 ·(apply tr_v tk; (conv => whnf); (repeat ((first | (apply VCall.q; kernel_rfl; (focus (intro w1 hs; first | ((with_reducible apply x_clash hs); (repeat (first | exact List.Mem.head _ | assumption | refine List.Mem.tail _ ?_)))))) | (apply VLdN.mk; (focus ((repeat (first | (with_reducible apply ldn_blk) | (with_reducible apply ldn_skip))); done)); exact rfl)); (conv => whnf))))
  exact VJ.mk () rfl ⟨rfl, rfl, rfl, rfl, rfl, rfl, rfl, rfl, rfl, rfl, rfl, rfl, rfl, rfl, rfl, trivial⟩ (by ((try dsimp only); repeat (first | exact Pick.nil | ((apply Pick.cons); (focus (repeat (first | exact Rem.here | apply Rem.there)); done)))))
 rintro _
 refine tr_cut (fun x : Unit => ([(19, .int .i64 5), (14, .int .i64 2), (15, .int .i64 1), (16, .int .i64 0), (13, .int .i64 28), (10, .pointer (some ⟨g10, 0, none⟩)), (11, .int .i64 0), (9, .int .i64 2), (6, .slice Bt 8 ct), (7, .int .i64 0), (4, .slice Bs 8 cs), (5, .int .i64 0), (1, .pointer (some ⟨g1, 0, none⟩)), (2, .pointer (some ⟨g2, 0, none⟩)), (3, .pointer (some ⟨g3, 0, none⟩)), (0, .bool false)], [.own (.slice Bm 4 cm) 61 5 4 (lnC abL), .blk g10 24 [.slice Bm 4 cm], .own (.slice Bt 8 ct) 2 1 8 (i64s [0, 0, 30, 0, 0, 0, 0, 0]), .own (.slice Bs 8 cs) 2 1 8 (i64s [0, 0, 20, 0, 0, 0, 0, 0]), .blk g1 24 [.slice Ba 3 ca], .blk g2 24 [.slice Bb 3 cb], .blk g3 24 [.slice Bc 1 cc], .own (.slice Ba 3 ca) 61 5 3 (lnC threeL), .own (.slice Bb 3 cb) 61 5 3 (lnC otherL), .own (.slice Bc 1 cc) 61 5 1 (lnC wrongL)])) ?_ ?_
 ·(apply tr_v tk; (conv => whnf); (repeat ((first | (apply VCall.q; kernel_rfl; (focus (intro w1 hs; first | ((with_reducible apply x_clash0 hs); (repeat (first | exact List.Mem.head _ | assumption | refine List.Mem.tail _ ?_)))))) | (apply VLdN.mk; (focus ((repeat (first | (with_reducible apply ldn_blk) | (with_reducible apply ldn_skip))); done)); exact rfl)); (conv => whnf))))
  exact VJ.mk () rfl ⟨rfl, rfl, rfl, rfl, rfl, rfl, rfl, rfl, rfl, rfl, rfl, rfl, rfl, rfl, rfl, rfl, trivial⟩ (by ((try dsimp only); repeat (first | exact Pick.nil | ((apply Pick.cons); (focus (repeat (first | exact Rem.here | apply Rem.there)); done)))))
 rintro _
 refine tr_cut (fun x : SlX × Nat => ([(20, .pointer (some ⟨x.2, 0, none⟩)), (21, .int .i64 0), (19, .int .i64 5), (14, .int .i64 2), (15, .int .i64 1), (16, .int .i64 0), (13, .int .i64 28), (10, .pointer (some ⟨g10, 0, none⟩)), (11, .int .i64 0), (9, .int .i64 2), (6, .slice Bt 8 ct), (7, .int .i64 0), (4, .slice Bs 8 cs), (5, .int .i64 0), (1, .pointer (some ⟨g1, 0, none⟩)), (2, .pointer (some ⟨g2, 0, none⟩)), (3, .pointer (some ⟨g3, 0, none⟩)), (0, .bool false)], [.own (.slice x.1.1 1 x.1.2) 61 5 1 (lnC onL), .blk x.2 24 [.slice x.1.1 1 x.1.2], .own (.slice Bm 4 cm) 61 5 4 (lnC abL), .blk g10 24 [.slice Bm 4 cm], .own (.slice Bt 8 ct) 2 1 8 (i64s [0, 0, 30, 0, 0, 0, 0, 0]), .own (.slice Bs 8 cs) 2 1 8 (i64s [0, 0, 20, 0, 0, 0, 0, 0]), .blk g1 24 [.slice Ba 3 ca], .blk g2 24 [.slice Bb 3 cb], .blk g3 24 [.slice Bc 1 cc], .own (.slice Ba 3 ca) 61 5 3 (lnC threeL), .own (.slice Bb 3 cb) 61 5 3 (lnC otherL), .own (.slice Bc 1 cc) 61 5 1 (lnC wrongL)])) ?_ ?_
 ·(apply tr_v tk; (conv => whnf); (repeat ((apply VLdN.mk; (focus ((repeat (first | (with_reducible apply ldn_blk) | (with_reducible apply ldn_skip))); done)); exact rfl); (conv => whnf))); apply VCall.stop)
  refine ot_callT (X := SlX) (us := []) (vs := []) (fun x => .tuple #[.agg #[.slice x.1 1 x.2], .int .i64 0]) (fun x => []) (fun x => [.own (.slice x.1 1 x.2) 61 5 1 (lnC onL)]) _ (fun x c hc => one_mut hc) (by decide) rfl rfl rfl rfl (by kernel_rfl) (evl_of rfl) rfl (fun w1 hs => x_only hs (by (repeat (first | exact List.Mem.head _ | assumption | refine List.Mem.tail _ ?_))) (by (repeat (first | exact List.Mem.head _ | assumption | refine List.Mem.tail _ ?_)))) ?_
  rintro ⟨Bo, co⟩ _
  (dsimp only [List.cons_append, List.nil_append]; apply ot_v tk)
  ((conv => whnf); (repeat ((first | (apply VNew.mk; intro g hg) | (apply VSt.mk; (focus ((repeat (first | (with_reducible exact At.here) | (with_reducible apply At.there))); done)); exact rfl)); (conv => whnf))))
  revert g hg; intro g20 hg20
  exact VJ.mk ((Bo, co), g20) rfl ⟨rfl, rfl, rfl, rfl, rfl, rfl, rfl, rfl, rfl, rfl, rfl, rfl, rfl, rfl, rfl, rfl, rfl, rfl, trivial⟩ (by ((try dsimp only); repeat (first | exact Pick.nil | ((apply Pick.cons); (focus (repeat (first | exact Rem.here | apply Rem.there)); done)))))
 rintro ⟨⟨Bo, co⟩, g20⟩
 refine tr_cut (fun x : SlX × Nat => ([(22, .pointer (some ⟨x.2, 0, none⟩)), (23, .int .i64 0), (20, .pointer (some ⟨g20, 0, none⟩)), (21, .int .i64 0), (19, .int .i64 5), (14, .int .i64 2), (15, .int .i64 1), (16, .int .i64 0), (13, .int .i64 28), (10, .pointer (some ⟨g10, 0, none⟩)), (11, .int .i64 0), (9, .int .i64 2), (6, .slice Bt 8 ct), (7, .int .i64 0), (4, .slice Bs 8 cs), (5, .int .i64 0), (1, .pointer (some ⟨g1, 0, none⟩)), (2, .pointer (some ⟨g2, 0, none⟩)), (3, .pointer (some ⟨g3, 0, none⟩)), (0, .bool false)], [.own (.slice x.1.1 2 x.1.2) 61 5 2 (lnC coL), .blk x.2 24 [.slice x.1.1 2 x.1.2], .own (.slice Bo 1 co) 61 5 1 (lnC onL), .blk g20 24 [.slice Bo 1 co], .own (.slice Bm 4 cm) 61 5 4 (lnC abL), .blk g10 24 [.slice Bm 4 cm], .own (.slice Bt 8 ct) 2 1 8 (i64s [0, 0, 30, 0, 0, 0, 0, 0]), .own (.slice Bs 8 cs) 2 1 8 (i64s [0, 0, 20, 0, 0, 0, 0, 0]), .blk g1 24 [.slice Ba 3 ca], .blk g2 24 [.slice Bb 3 cb], .blk g3 24 [.slice Bc 1 cc], .own (.slice Ba 3 ca) 61 5 3 (lnC threeL), .own (.slice Bb 3 cb) 61 5 3 (lnC otherL), .own (.slice Bc 1 cc) 61 5 1 (lnC wrongL)])) ?_ ?_
 ·(apply tr_v tk; (conv => whnf); (repeat ((apply VLdN.mk; (focus ((repeat (first | (with_reducible apply ldn_blk) | (with_reducible apply ldn_skip))); done)); exact rfl); (conv => whnf))); apply VCall.stop)
  refine ot_callT (X := SlX) (us := []) (vs := []) (fun x => .tuple #[.agg #[.slice x.1 2 x.2], .int .i64 0]) (fun x => []) (fun x => [.own (.slice x.1 2 x.2) 61 5 2 (lnC coL)]) _ (fun x c hc => one_mut hc) (by decide) rfl rfl rfl rfl (by kernel_rfl) (evl_of rfl) rfl (fun w1 hs => x_common hs (by (repeat (first | exact List.Mem.head _ | assumption | refine List.Mem.tail _ ?_))) (by (repeat (first | exact List.Mem.head _ | assumption | refine List.Mem.tail _ ?_)))) ?_
  rintro ⟨Bp, cp⟩ _
  (dsimp only [List.cons_append, List.nil_append]; apply ot_v tk)
  ((conv => whnf); (repeat ((first | (apply VNew.mk; intro g hg) | (apply VSt.mk; (focus ((repeat (first | (with_reducible exact At.here) | (with_reducible apply At.there))); done)); exact rfl)); (conv => whnf))))
  revert g hg; intro g22 hg22
  exact VJ.mk ((Bp, cp), g22) rfl ⟨rfl, rfl, rfl, rfl, rfl, rfl, rfl, rfl, rfl, rfl, rfl, rfl, rfl, rfl, rfl, rfl, rfl, rfl, rfl, rfl, trivial⟩ (by ((try dsimp only); repeat (first | exact Pick.nil | ((apply Pick.cons); (focus (repeat (first | exact Rem.here | apply Rem.there)); done)))))
 rintro ⟨⟨Bp, cp⟩, g22⟩
 refine tr_cut (fun x : SlX => ([(24, .slice x.1 3 x.2), (25, .int .i64 0), (22, .pointer (some ⟨g22, 0, none⟩)), (23, .int .i64 0), (20, .pointer (some ⟨g20, 0, none⟩)), (21, .int .i64 0), (19, .int .i64 5), (14, .int .i64 2), (15, .int .i64 1), (16, .int .i64 0), (13, .int .i64 28), (10, .pointer (some ⟨g10, 0, none⟩)), (11, .int .i64 0), (9, .int .i64 2), (6, .slice Bt 8 ct), (7, .int .i64 0), (4, .slice Bs 8 cs), (5, .int .i64 0), (1, .pointer (some ⟨g1, 0, none⟩)), (2, .pointer (some ⟨g2, 0, none⟩)), (3, .pointer (some ⟨g3, 0, none⟩)), (0, .bool false)], [.own (.slice x.1 3 x.2) 3 1 3 (i64s [4, 2, 3]), .own (.slice Bp 2 cp) 61 5 2 (lnC coL), .blk g22 24 [.slice Bp 2 cp], .own (.slice Bo 1 co) 61 5 1 (lnC onL), .blk g20 24 [.slice Bo 1 co], .own (.slice Bm 4 cm) 61 5 4 (lnC abL), .blk g10 24 [.slice Bm 4 cm], .own (.slice Bt 8 ct) 2 1 8 (i64s [0, 0, 30, 0, 0, 0, 0, 0]), .own (.slice Bs 8 cs) 2 1 8 (i64s [0, 0, 20, 0, 0, 0, 0, 0]), .blk g1 24 [.slice Ba 3 ca], .blk g2 24 [.slice Bb 3 cb], .blk g3 24 [.slice Bc 1 cc], .own (.slice Ba 3 ca) 61 5 3 (lnC threeL), .own (.slice Bb 3 cb) 61 5 3 (lnC otherL), .own (.slice Bc 1 cc) 61 5 1 (lnC wrongL)])) ?_ ?_
 ·(apply tr_v tk; (conv => whnf); (repeat ((apply VLdN.mk; (focus ((repeat (first | (with_reducible apply ldn_blk) | (with_reducible apply ldn_skip))); done)); exact rfl); (conv => whnf))); apply VCall.stop)
  refine ot_callT (X := SlX) (us := []) (vs := []) (fun x => .tuple #[.slice x.1 3 x.2, .int .i64 0]) (fun x => []) (fun x => [.own (.slice x.1 3 x.2) 3 1 3 (i64s [4, 2, 3])]) _ (fun x c hc => one_mut hc) (by decide) rfl rfl rfl rfl (by kernel_rfl) (evl_of rfl) rfl (fun w1 hs => x_seen hs (by (repeat (first | exact List.Mem.head _ | assumption | refine List.Mem.tail _ ?_)))) ?_
  rintro ⟨Bu, cu⟩ _
  (dsimp only [List.cons_append, List.nil_append]; apply ot_v tk)
  ((conv => whnf))
  exact VJ.mk (Bu, cu) rfl ⟨rfl, rfl, rfl, rfl, rfl, rfl, rfl, rfl, rfl, rfl, rfl, rfl, rfl, rfl, rfl, rfl, rfl, rfl, rfl, rfl, rfl, rfl, trivial⟩ (by ((try dsimp only); repeat (first | exact Pick.nil | ((apply Pick.cons); (focus (repeat (first | exact Rem.here | apply Rem.there)); done)))))
 rintro ⟨Bu, cu⟩
 refine tr_cut (fun x : SlX × Nat => ([(26, .pointer (some ⟨x.2, 0, none⟩)), (27, .int .i64 0), (24, .slice Bu 3 cu), (25, .int .i64 0), (22, .pointer (some ⟨g22, 0, none⟩)), (23, .int .i64 0), (20, .pointer (some ⟨g20, 0, none⟩)), (21, .int .i64 0), (19, .int .i64 5), (14, .int .i64 2), (15, .int .i64 1), (16, .int .i64 0), (13, .int .i64 28), (10, .pointer (some ⟨g10, 0, none⟩)), (11, .int .i64 0), (9, .int .i64 2), (6, .slice Bt 8 ct), (7, .int .i64 0), (4, .slice Bs 8 cs), (5, .int .i64 0), (1, .pointer (some ⟨g1, 0, none⟩)), (2, .pointer (some ⟨g2, 0, none⟩)), (3, .pointer (some ⟨g3, 0, none⟩)), (0, .bool false)], [.own (.slice x.1.1 1 x.1.2) 61 5 1 (lnC siL), .blk x.2 24 [.slice x.1.1 1 x.1.2], .own (.slice Bu 3 cu) 3 1 3 (i64s [4, 2, 3]), .own (.slice Bp 2 cp) 61 5 2 (lnC coL), .blk g22 24 [.slice Bp 2 cp], .own (.slice Bo 1 co) 61 5 1 (lnC onL), .blk g20 24 [.slice Bo 1 co], .own (.slice Bm 4 cm) 61 5 4 (lnC abL), .blk g10 24 [.slice Bm 4 cm], .own (.slice Bt 8 ct) 2 1 8 (i64s [0, 0, 30, 0, 0, 0, 0, 0]), .own (.slice Bs 8 cs) 2 1 8 (i64s [0, 0, 20, 0, 0, 0, 0, 0]), .blk g1 24 [.slice Ba 3 ca], .blk g2 24 [.slice Bb 3 cb], .blk g3 24 [.slice Bc 1 cc], .own (.slice Ba 3 ca) 61 5 3 (lnC threeL), .own (.slice Bb 3 cb) 61 5 3 (lnC otherL), .own (.slice Bc 1 cc) 61 5 1 (lnC wrongL)])) ?_ ?_
 ·(apply tr_v tk; (conv => whnf); (repeat ((first | (apply VStop.mk; refine tr_region_treeV (id := 12) (by kernel_rfl) [.blk g2 24 _] (by (repeat (first | exact sl0 _ | exact sl1 _ | refine sl2 _ ?_ | refine sl3 _ ?_))) [0] [1, 2, 3, 4, 5, 6, 7, 8, 9] [.rd] (fun i => [.wr, .cr, .wr, .cr, .wr, .wr, .wr, .cr, .wr, .wr].getD i .wr) _ rfl rfl (by kernel_rfl) ?_; apply ot_v tk) | (apply VLdN.mk; (focus ((repeat (first | (with_reducible apply ldn_blk) | (with_reducible apply ldn_skip))); done)); exact rfl)); (conv => whnf))))
  refine ox2 1 7 ?_ ?_
  ·(apply ot_v tk; (conv => whnf); (apply VNew.mk; intro g8 hg8; (conv => whnf)); refine sla ?_)
   refine ox2 2 7 ?_ ?_
   ·(refine ot_call_q rfl rfl rfl (by kernel_rfl) (evl_of rfl) (fun w1 hs => of_any _ _ _ w1) ?_; refine ot_nil ?_; refine sla ?_)
    refine ox2 3 7 ?_ ?_
    ·(refine ot_callT (X := SlX) (us := []) (vs := []) (fun x => .tuple #[.agg #[.slice x.1 1 x.2], .int .i64 0]) (fun x => []) (fun x => [.own (.slice x.1 1 x.2) 61 5 1 (lnC siL)]) _ (fun x c hc => one_mut hc) (by decide) rfl rfl rfl rfl (by kernel_rfl) (evl_of rfl) rfl (fun w1 hs => x_since hs (by (repeat (first | exact List.Mem.head _ | assumption | refine List.Mem.tail _ ?_))) (by (repeat (first | exact List.Mem.head _ | assumption | refine List.Mem.tail _ ?_)))) ?_; rintro ⟨Bn, cn⟩ _; dsimp only [List.cons_append, List.nil_append]; refine ot_nil ?_; refine sla ?_)
     refine ox2 4 7 ?_ ?_
     ·(apply ot_v tk; (conv => whnf); refine sla ?_)
      refine VT.mk (otx_anyV [5, 6, 7] (by kernel_rfl) (by decide) ?_)
      refine ⟨⟨by kernel_rfl, by decide, ?_⟩, ⟨by kernel_rfl, by decide, ?_⟩, ⟨by kernel_rfl, by decide, ?_⟩, trivial⟩
      ·(apply ot_v tk; (conv => whnf); refine sla ?_)
       refine ox2 6 7 ?_ ?_
       ·(apply ot_v tk; (conv => whnf); refine sla ?_)
        refine ox1 7 ?_
        (apply ot_v tk; (conv => whnf); (apply VNew.mk; intro g26 hg26; (conv => whnf)); refine sla ?_)
        refine ox1 8 ?_
        (apply ot_v tk; (conv => whnf); (apply VSt.mk; (focus (repeat (first | exact At.here | apply At.there)); done); exact rfl; (conv => whnf)); refine sla ?_)
        refine ox1 9 ?_
        (apply ot_v tk; (conv => whnf); refine sla ?_)
        refine VT.mk (otx_end ?_)
        (((conv => whnf)); exact VJ.mk ((Bn, cn), g26) rfl ⟨rfl, rfl, rfl, rfl, rfl, rfl, rfl, rfl, rfl, rfl, rfl, rfl, rfl, rfl, rfl, rfl, rfl, rfl, rfl, rfl, rfl, rfl, rfl, rfl, trivial⟩ (by ((try dsimp only); repeat (first | exact Pick.nil | ((apply Pick.cons); (focus (repeat (first | exact Rem.here | apply Rem.there)); done))))))
       ·(apply ot_v tk; (conv => whnf); (apply VNew.mk; intro g26 hg26; (conv => whnf)); refine sla ?_)
        refine ox2 6 8 ?_ ?_
        ·(apply ot_v tk; (conv => whnf); refine sla ?_)
         refine ox1 8 ?_
         (apply ot_v tk; (conv => whnf); (apply VSt.mk; (focus (repeat (first | exact At.here | apply At.there)); done); exact rfl; (conv => whnf)); refine sla ?_)
         refine ox1 9 ?_
         (apply ot_v tk; (conv => whnf); refine sla ?_)
         refine VT.mk (otx_end ?_)
         (((conv => whnf)); exact VJ.mk ((Bn, cn), g26) rfl ⟨rfl, rfl, rfl, rfl, rfl, rfl, rfl, rfl, rfl, rfl, rfl, rfl, rfl, rfl, rfl, rfl, rfl, rfl, rfl, rfl, rfl, rfl, rfl, rfl, trivial⟩ (by ((try dsimp only); repeat (first | exact Pick.nil | ((apply Pick.cons); (focus (repeat (first | exact Rem.here | apply Rem.there)); done))))))
        ·(apply ot_v tk; (conv => whnf); (apply VSt.mk; (focus (repeat (first | exact At.here | apply At.there)); done); exact rfl; (conv => whnf)); refine sla ?_)
         refine ox1 6 ?_
         (apply ot_v tk; (conv => whnf); refine sla ?_)
         refine ox1 9 ?_
         (apply ot_v tk; (conv => whnf); refine sla ?_)
         refine VT.mk (otx_end ?_)
         (((conv => whnf)); exact VJ.mk ((Bn, cn), g26) rfl ⟨rfl, rfl, rfl, rfl, rfl, rfl, rfl, rfl, rfl, rfl, rfl, rfl, rfl, rfl, rfl, rfl, rfl, rfl, rfl, rfl, rfl, rfl, rfl, rfl, trivial⟩ (by ((try dsimp only); repeat (first | exact Pick.nil | ((apply Pick.cons); (focus (repeat (first | exact Rem.here | apply Rem.there)); done))))))
      ·(apply ot_v tk; (conv => whnf); refine sla ?_)
       refine ox2 5 7 ?_ ?_
       ·(apply ot_v tk; (conv => whnf); refine sla ?_)
        refine ox1 7 ?_
        (apply ot_v tk; (conv => whnf); (apply VNew.mk; intro g26 hg26; (conv => whnf)); refine sla ?_)
        refine ox1 8 ?_
        (apply ot_v tk; (conv => whnf); (apply VSt.mk; (focus (repeat (first | exact At.here | apply At.there)); done); exact rfl; (conv => whnf)); refine sla ?_)
        refine ox1 9 ?_
        (apply ot_v tk; (conv => whnf); refine sla ?_)
        refine VT.mk (otx_end ?_)
        (((conv => whnf)); exact VJ.mk ((Bn, cn), g26) rfl ⟨rfl, rfl, rfl, rfl, rfl, rfl, rfl, rfl, rfl, rfl, rfl, rfl, rfl, rfl, rfl, rfl, rfl, rfl, rfl, rfl, rfl, rfl, rfl, rfl, trivial⟩ (by ((try dsimp only); repeat (first | exact Pick.nil | ((apply Pick.cons); (focus (repeat (first | exact Rem.here | apply Rem.there)); done))))))
       ·(apply ot_v tk; (conv => whnf); (apply VNew.mk; intro g26 hg26; (conv => whnf)); refine sla ?_)
        refine ox1 5 ?_
        (apply ot_v tk; (conv => whnf); refine sla ?_)
        refine ox1 8 ?_
        (apply ot_v tk; (conv => whnf); (apply VSt.mk; (focus (repeat (first | exact At.here | apply At.there)); done); exact rfl; (conv => whnf)); refine sla ?_)
        refine ox1 9 ?_
        (apply ot_v tk; (conv => whnf); refine sla ?_)
        refine VT.mk (otx_end ?_)
        (((conv => whnf)); exact VJ.mk ((Bn, cn), g26) rfl ⟨rfl, rfl, rfl, rfl, rfl, rfl, rfl, rfl, rfl, rfl, rfl, rfl, rfl, rfl, rfl, rfl, rfl, rfl, rfl, rfl, rfl, rfl, rfl, rfl, trivial⟩ (by ((try dsimp only); repeat (first | exact Pick.nil | ((apply Pick.cons); (focus (repeat (first | exact Rem.here | apply Rem.there)); done))))))
      ·(apply ot_v tk; (conv => whnf); (apply VNew.mk; intro g26 hg26; (conv => whnf)); refine sla ?_)
       refine ox2 5 6 ?_ ?_
       ·(apply ot_v tk; (conv => whnf); refine sla ?_)
        refine ox2 6 8 ?_ ?_
        ·(apply ot_v tk; (conv => whnf); refine sla ?_)
         refine ox1 8 ?_
         (apply ot_v tk; (conv => whnf); (apply VSt.mk; (focus (repeat (first | exact At.here | apply At.there)); done); exact rfl; (conv => whnf)); refine sla ?_)
         refine ox1 9 ?_
         (apply ot_v tk; (conv => whnf); refine sla ?_)
         refine VT.mk (otx_end ?_)
         (((conv => whnf)); exact VJ.mk ((Bn, cn), g26) rfl ⟨rfl, rfl, rfl, rfl, rfl, rfl, rfl, rfl, rfl, rfl, rfl, rfl, rfl, rfl, rfl, rfl, rfl, rfl, rfl, rfl, rfl, rfl, rfl, rfl, trivial⟩ (by ((try dsimp only); repeat (first | exact Pick.nil | ((apply Pick.cons); (focus (repeat (first | exact Rem.here | apply Rem.there)); done))))))
        ·(apply ot_v tk; (conv => whnf); (apply VSt.mk; (focus (repeat (first | exact At.here | apply At.there)); done); exact rfl; (conv => whnf)); refine sla ?_)
         refine ox1 6 ?_
         (apply ot_v tk; (conv => whnf); refine sla ?_)
         refine ox1 9 ?_
         (apply ot_v tk; (conv => whnf); refine sla ?_)
         refine VT.mk (otx_end ?_)
         (((conv => whnf)); exact VJ.mk ((Bn, cn), g26) rfl ⟨rfl, rfl, rfl, rfl, rfl, rfl, rfl, rfl, rfl, rfl, rfl, rfl, rfl, rfl, rfl, rfl, rfl, rfl, rfl, rfl, rfl, rfl, rfl, rfl, trivial⟩ (by ((try dsimp only); repeat (first | exact Pick.nil | ((apply Pick.cons); (focus (repeat (first | exact Rem.here | apply Rem.there)); done))))))
       ·(apply ot_v tk; (conv => whnf); refine sla ?_)
        refine ox1 5 ?_
        (apply ot_v tk; (conv => whnf); refine sla ?_)
        refine ox1 8 ?_
        (apply ot_v tk; (conv => whnf); (apply VSt.mk; (focus (repeat (first | exact At.here | apply At.there)); done); exact rfl; (conv => whnf)); refine sla ?_)
        refine ox1 9 ?_
        (apply ot_v tk; (conv => whnf); refine sla ?_)
        refine VT.mk (otx_end ?_)
        (((conv => whnf)); exact VJ.mk ((Bn, cn), g26) rfl ⟨rfl, rfl, rfl, rfl, rfl, rfl, rfl, rfl, rfl, rfl, rfl, rfl, rfl, rfl, rfl, rfl, rfl, rfl, rfl, rfl, rfl, rfl, rfl, rfl, trivial⟩ (by ((try dsimp only); repeat (first | exact Pick.nil | ((apply Pick.cons); (focus (repeat (first | exact Rem.here | apply Rem.there)); done))))))
     ·(apply ot_v tk; (conv => whnf); (apply VNew.mk; intro g26 hg26; (conv => whnf)); refine sla ?_)
      refine ox1 4 ?_
      (apply ot_v tk; (conv => whnf); refine sla ?_)
      refine ox2 5 6 ?_ ?_
      ·(apply ot_v tk; (conv => whnf); refine sla ?_)
       refine ox2 6 8 ?_ ?_
       ·(apply ot_v tk; (conv => whnf); refine sla ?_)
        refine ox1 8 ?_
        (apply ot_v tk; (conv => whnf); (apply VSt.mk; (focus (repeat (first | exact At.here | apply At.there)); done); exact rfl; (conv => whnf)); refine sla ?_)
        refine ox1 9 ?_
        (apply ot_v tk; (conv => whnf); refine sla ?_)
        refine VT.mk (otx_end ?_)
        (((conv => whnf)); exact VJ.mk ((Bn, cn), g26) rfl ⟨rfl, rfl, rfl, rfl, rfl, rfl, rfl, rfl, rfl, rfl, rfl, rfl, rfl, rfl, rfl, rfl, rfl, rfl, rfl, rfl, rfl, rfl, rfl, rfl, trivial⟩ (by ((try dsimp only); repeat (first | exact Pick.nil | ((apply Pick.cons); (focus (repeat (first | exact Rem.here | apply Rem.there)); done))))))
       ·(apply ot_v tk; (conv => whnf); (apply VSt.mk; (focus (repeat (first | exact At.here | apply At.there)); done); exact rfl; (conv => whnf)); refine sla ?_)
        refine ox1 6 ?_
        (apply ot_v tk; (conv => whnf); refine sla ?_)
        refine ox1 9 ?_
        (apply ot_v tk; (conv => whnf); refine sla ?_)
        refine VT.mk (otx_end ?_)
        (((conv => whnf)); exact VJ.mk ((Bn, cn), g26) rfl ⟨rfl, rfl, rfl, rfl, rfl, rfl, rfl, rfl, rfl, rfl, rfl, rfl, rfl, rfl, rfl, rfl, rfl, rfl, rfl, rfl, rfl, rfl, rfl, rfl, trivial⟩ (by ((try dsimp only); repeat (first | exact Pick.nil | ((apply Pick.cons); (focus (repeat (first | exact Rem.here | apply Rem.there)); done))))))
      ·(apply ot_v tk; (conv => whnf); refine sla ?_)
       refine ox1 5 ?_
       (apply ot_v tk; (conv => whnf); refine sla ?_)
       refine ox1 8 ?_
       (apply ot_v tk; (conv => whnf); (apply VSt.mk; (focus (repeat (first | exact At.here | apply At.there)); done); exact rfl; (conv => whnf)); refine sla ?_)
       refine ox1 9 ?_
       (apply ot_v tk; (conv => whnf); refine sla ?_)
       refine VT.mk (otx_end ?_)
       (((conv => whnf)); exact VJ.mk ((Bn, cn), g26) rfl ⟨rfl, rfl, rfl, rfl, rfl, rfl, rfl, rfl, rfl, rfl, rfl, rfl, rfl, rfl, rfl, rfl, rfl, rfl, rfl, rfl, rfl, rfl, rfl, rfl, trivial⟩ (by ((try dsimp only); repeat (first | exact Pick.nil | ((apply Pick.cons); (focus (repeat (first | exact Rem.here | apply Rem.there)); done))))))
    ·(apply ot_v tk; (conv => whnf); (apply VNew.mk; intro g26 hg26; (conv => whnf)); refine sla ?_)
     refine ox1 3 ?_
     (refine ot_callT (X := SlX) (us := []) (vs := []) (fun x => .tuple #[.agg #[.slice x.1 1 x.2], .int .i64 0]) (fun x => []) (fun x => [.own (.slice x.1 1 x.2) 61 5 1 (lnC siL)]) _ (fun x c hc => one_mut hc) (by decide) rfl rfl rfl rfl (by kernel_rfl) (evl_of rfl) rfl (fun w1 hs => x_since hs (by (repeat (first | exact List.Mem.head _ | assumption | refine List.Mem.tail _ ?_))) (by (repeat (first | exact List.Mem.head _ | assumption | refine List.Mem.tail _ ?_)))) ?_; rintro ⟨Bn, cn⟩ _; dsimp only [List.cons_append, List.nil_append]; refine ot_nil ?_; refine sla ?_)
     refine ox1 4 ?_
     (apply ot_v tk; (conv => whnf); refine sla ?_)
     refine ox2 5 6 ?_ ?_
     ·(apply ot_v tk; (conv => whnf); refine sla ?_)
      refine ox2 6 8 ?_ ?_
      ·(apply ot_v tk; (conv => whnf); refine sla ?_)
       refine ox1 8 ?_
       (apply ot_v tk; (conv => whnf); (apply VSt.mk; (focus (repeat (first | exact At.here | apply At.there)); done); exact rfl; (conv => whnf)); refine sla ?_)
       refine ox1 9 ?_
       (apply ot_v tk; (conv => whnf); refine sla ?_)
       refine VT.mk (otx_end ?_)
       (((conv => whnf)); exact VJ.mk ((Bn, cn), g26) rfl ⟨rfl, rfl, rfl, rfl, rfl, rfl, rfl, rfl, rfl, rfl, rfl, rfl, rfl, rfl, rfl, rfl, rfl, rfl, rfl, rfl, rfl, rfl, rfl, rfl, trivial⟩ (by ((try dsimp only); repeat (first | exact Pick.nil | ((apply Pick.cons); (focus (repeat (first | exact Rem.here | apply Rem.there)); done))))))
      ·(apply ot_v tk; (conv => whnf); (apply VSt.mk; (focus (repeat (first | exact At.here | apply At.there)); done); exact rfl; (conv => whnf)); refine sla ?_)
       refine ox1 6 ?_
       (apply ot_v tk; (conv => whnf); refine sla ?_)
       refine ox1 9 ?_
       (apply ot_v tk; (conv => whnf); refine sla ?_)
       refine VT.mk (otx_end ?_)
       (((conv => whnf)); exact VJ.mk ((Bn, cn), g26) rfl ⟨rfl, rfl, rfl, rfl, rfl, rfl, rfl, rfl, rfl, rfl, rfl, rfl, rfl, rfl, rfl, rfl, rfl, rfl, rfl, rfl, rfl, rfl, rfl, rfl, trivial⟩ (by ((try dsimp only); repeat (first | exact Pick.nil | ((apply Pick.cons); (focus (repeat (first | exact Rem.here | apply Rem.there)); done))))))
     ·(apply ot_v tk; (conv => whnf); refine sla ?_)
      refine ox1 5 ?_
      (apply ot_v tk; (conv => whnf); refine sla ?_)
      refine ox1 8 ?_
      (apply ot_v tk; (conv => whnf); (apply VSt.mk; (focus (repeat (first | exact At.here | apply At.there)); done); exact rfl; (conv => whnf)); refine sla ?_)
      refine ox1 9 ?_
      (apply ot_v tk; (conv => whnf); refine sla ?_)
      refine VT.mk (otx_end ?_)
      (((conv => whnf)); exact VJ.mk ((Bn, cn), g26) rfl ⟨rfl, rfl, rfl, rfl, rfl, rfl, rfl, rfl, rfl, rfl, rfl, rfl, rfl, rfl, rfl, rfl, rfl, rfl, rfl, rfl, rfl, rfl, rfl, rfl, trivial⟩ (by ((try dsimp only); repeat (first | exact Pick.nil | ((apply Pick.cons); (focus (repeat (first | exact Rem.here | apply Rem.there)); done))))))
   ·(apply ot_v tk; (conv => whnf); (apply VNew.mk; intro g26 hg26; (conv => whnf)); refine sla ?_)
    refine ox1 2 ?_
    (refine ot_call_q rfl rfl rfl (by kernel_rfl) (evl_of rfl) (fun w1 hs => of_any _ _ _ w1) ?_; refine ot_nil ?_; refine sla ?_)
    refine ox1 3 ?_
    (refine ot_callT (X := SlX) (us := []) (vs := []) (fun x => .tuple #[.agg #[.slice x.1 1 x.2], .int .i64 0]) (fun x => []) (fun x => [.own (.slice x.1 1 x.2) 61 5 1 (lnC siL)]) _ (fun x c hc => one_mut hc) (by decide) rfl rfl rfl rfl (by kernel_rfl) (evl_of rfl) rfl (fun w1 hs => x_since hs (by (repeat (first | exact List.Mem.head _ | assumption | refine List.Mem.tail _ ?_))) (by (repeat (first | exact List.Mem.head _ | assumption | refine List.Mem.tail _ ?_)))) ?_; rintro ⟨Bn, cn⟩ _; dsimp only [List.cons_append, List.nil_append]; refine ot_nil ?_; refine sla ?_)
    refine ox1 4 ?_
    (apply ot_v tk; (conv => whnf); refine sla ?_)
    refine ox2 5 6 ?_ ?_
    ·(apply ot_v tk; (conv => whnf); refine sla ?_)
     refine ox2 6 8 ?_ ?_
     ·(apply ot_v tk; (conv => whnf); refine sla ?_)
      refine ox1 8 ?_
      (apply ot_v tk; (conv => whnf); (apply VSt.mk; (focus (repeat (first | exact At.here | apply At.there)); done); exact rfl; (conv => whnf)); refine sla ?_)
      refine ox1 9 ?_
      (apply ot_v tk; (conv => whnf); refine sla ?_)
      refine VT.mk (otx_end ?_)
      (((conv => whnf)); exact VJ.mk ((Bn, cn), g26) rfl ⟨rfl, rfl, rfl, rfl, rfl, rfl, rfl, rfl, rfl, rfl, rfl, rfl, rfl, rfl, rfl, rfl, rfl, rfl, rfl, rfl, rfl, rfl, rfl, rfl, trivial⟩ (by ((try dsimp only); repeat (first | exact Pick.nil | ((apply Pick.cons); (focus (repeat (first | exact Rem.here | apply Rem.there)); done))))))
     ·(apply ot_v tk; (conv => whnf); (apply VSt.mk; (focus (repeat (first | exact At.here | apply At.there)); done); exact rfl; (conv => whnf)); refine sla ?_)
      refine ox1 6 ?_
      (apply ot_v tk; (conv => whnf); refine sla ?_)
      refine ox1 9 ?_
      (apply ot_v tk; (conv => whnf); refine sla ?_)
      refine VT.mk (otx_end ?_)
      (((conv => whnf)); exact VJ.mk ((Bn, cn), g26) rfl ⟨rfl, rfl, rfl, rfl, rfl, rfl, rfl, rfl, rfl, rfl, rfl, rfl, rfl, rfl, rfl, rfl, rfl, rfl, rfl, rfl, rfl, rfl, rfl, rfl, trivial⟩ (by ((try dsimp only); repeat (first | exact Pick.nil | ((apply Pick.cons); (focus (repeat (first | exact Rem.here | apply Rem.there)); done))))))
    ·(apply ot_v tk; (conv => whnf); refine sla ?_)
     refine ox1 5 ?_
     (apply ot_v tk; (conv => whnf); refine sla ?_)
     refine ox1 8 ?_
     (apply ot_v tk; (conv => whnf); (apply VSt.mk; (focus (repeat (first | exact At.here | apply At.there)); done); exact rfl; (conv => whnf)); refine sla ?_)
     refine ox1 9 ?_
     (apply ot_v tk; (conv => whnf); refine sla ?_)
     refine VT.mk (otx_end ?_)
     (((conv => whnf)); exact VJ.mk ((Bn, cn), g26) rfl ⟨rfl, rfl, rfl, rfl, rfl, rfl, rfl, rfl, rfl, rfl, rfl, rfl, rfl, rfl, rfl, rfl, rfl, rfl, rfl, rfl, rfl, rfl, rfl, rfl, trivial⟩ (by ((try dsimp only); repeat (first | exact Pick.nil | ((apply Pick.cons); (focus (repeat (first | exact Rem.here | apply Rem.there)); done))))))
  ·(apply ot_v tk; (conv => whnf); (apply VNew.mk; intro g26 hg26; (conv => whnf)); refine sla ?_)
   refine ox1 1 ?_
   (apply ot_v tk; (conv => whnf); (apply VNew.mk; intro g8 hg8; (conv => whnf)); refine sla ?_)
   refine ox1 2 ?_
   (refine ot_call_q rfl rfl rfl (by kernel_rfl) (evl_of rfl) (fun w1 hs => of_any _ _ _ w1) ?_; refine ot_nil ?_; refine sla ?_)
   refine ox1 3 ?_
   (refine ot_callT (X := SlX) (us := []) (vs := []) (fun x => .tuple #[.agg #[.slice x.1 1 x.2], .int .i64 0]) (fun x => []) (fun x => [.own (.slice x.1 1 x.2) 61 5 1 (lnC siL)]) _ (fun x c hc => one_mut hc) (by decide) rfl rfl rfl rfl (by kernel_rfl) (evl_of rfl) rfl (fun w1 hs => x_since hs (by (repeat (first | exact List.Mem.head _ | assumption | refine List.Mem.tail _ ?_))) (by (repeat (first | exact List.Mem.head _ | assumption | refine List.Mem.tail _ ?_)))) ?_; rintro ⟨Bn, cn⟩ _; dsimp only [List.cons_append, List.nil_append]; refine ot_nil ?_; refine sla ?_)
   refine ox1 4 ?_
   (apply ot_v tk; (conv => whnf); refine sla ?_)
   refine ox2 5 6 ?_ ?_
   ·(apply ot_v tk; (conv => whnf); refine sla ?_)
    refine ox2 6 8 ?_ ?_
    ·(apply ot_v tk; (conv => whnf); refine sla ?_)
     refine ox1 8 ?_
     (apply ot_v tk; (conv => whnf); (apply VSt.mk; (focus (repeat (first | exact At.here | apply At.there)); done); exact rfl; (conv => whnf)); refine sla ?_)
     refine ox1 9 ?_
     (apply ot_v tk; (conv => whnf); refine sla ?_)
     refine VT.mk (otx_end ?_)
     (((conv => whnf)); exact VJ.mk ((Bn, cn), g26) rfl ⟨rfl, rfl, rfl, rfl, rfl, rfl, rfl, rfl, rfl, rfl, rfl, rfl, rfl, rfl, rfl, rfl, rfl, rfl, rfl, rfl, rfl, rfl, rfl, rfl, trivial⟩ (by ((try dsimp only); repeat (first | exact Pick.nil | ((apply Pick.cons); (focus (repeat (first | exact Rem.here | apply Rem.there)); done))))))
    ·(apply ot_v tk; (conv => whnf); (apply VSt.mk; (focus (repeat (first | exact At.here | apply At.there)); done); exact rfl; (conv => whnf)); refine sla ?_)
     refine ox1 6 ?_
     (apply ot_v tk; (conv => whnf); refine sla ?_)
     refine ox1 9 ?_
     (apply ot_v tk; (conv => whnf); refine sla ?_)
     refine VT.mk (otx_end ?_)
     (((conv => whnf)); exact VJ.mk ((Bn, cn), g26) rfl ⟨rfl, rfl, rfl, rfl, rfl, rfl, rfl, rfl, rfl, rfl, rfl, rfl, rfl, rfl, rfl, rfl, rfl, rfl, rfl, rfl, rfl, rfl, rfl, rfl, trivial⟩ (by ((try dsimp only); repeat (first | exact Pick.nil | ((apply Pick.cons); (focus (repeat (first | exact Rem.here | apply Rem.there)); done))))))
   ·(apply ot_v tk; (conv => whnf); refine sla ?_)
    refine ox1 5 ?_
    (apply ot_v tk; (conv => whnf); refine sla ?_)
    refine ox1 8 ?_
    (apply ot_v tk; (conv => whnf); (apply VSt.mk; (focus (repeat (first | exact At.here | apply At.there)); done); exact rfl; (conv => whnf)); refine sla ?_)
    refine ox1 9 ?_
    (apply ot_v tk; (conv => whnf); refine sla ?_)
    refine VT.mk (otx_end ?_)
    (((conv => whnf)); exact VJ.mk ((Bn, cn), g26) rfl ⟨rfl, rfl, rfl, rfl, rfl, rfl, rfl, rfl, rfl, rfl, rfl, rfl, rfl, rfl, rfl, rfl, rfl, rfl, rfl, rfl, rfl, rfl, rfl, rfl, trivial⟩ (by ((try dsimp only); repeat (first | exact Pick.nil | ((apply Pick.cons); (focus (repeat (first | exact Rem.here | apply Rem.there)); done))))))
 rintro ⟨⟨Bn, cn⟩, g26⟩
 refine tr_cut (fun x : Unit => ([(29, .int .i64 15), (26, .pointer (some ⟨g26, 0, none⟩)), (27, .int .i64 0), (24, .slice Bu 3 cu), (25, .int .i64 0), (22, .pointer (some ⟨g22, 0, none⟩)), (23, .int .i64 0), (20, .pointer (some ⟨g20, 0, none⟩)), (21, .int .i64 0), (19, .int .i64 5), (14, .int .i64 2), (15, .int .i64 1), (16, .int .i64 0), (13, .int .i64 28), (10, .pointer (some ⟨g10, 0, none⟩)), (11, .int .i64 0), (9, .int .i64 2), (6, .slice Bt 8 ct), (7, .int .i64 0), (4, .slice Bs 8 cs), (5, .int .i64 0), (1, .pointer (some ⟨g1, 0, none⟩)), (2, .pointer (some ⟨g2, 0, none⟩)), (3, .pointer (some ⟨g3, 0, none⟩)), (0, .bool false)], [.own (.slice Bn 1 cn) 61 5 1 (lnC siL), .blk g26 24 [.slice Bn 1 cn], .own (.slice Bu 3 cu) 3 1 3 (i64s [4, 2, 3]), .own (.slice Bp 2 cp) 61 5 2 (lnC coL), .blk g22 24 [.slice Bp 2 cp], .own (.slice Bo 1 co) 61 5 1 (lnC onL), .blk g20 24 [.slice Bo 1 co], .own (.slice Bm 4 cm) 61 5 4 (lnC abL), .blk g10 24 [.slice Bm 4 cm], .own (.slice Bt 8 ct) 2 1 8 (i64s [0, 0, 30, 0, 0, 0, 0, 0]), .own (.slice Bs 8 cs) 2 1 8 (i64s [0, 0, 20, 0, 0, 0, 0, 0]), .blk g1 24 [.slice Ba 3 ca], .blk g2 24 [.slice Bb 3 cb], .blk g3 24 [.slice Bc 1 cc], .own (.slice Ba 3 ca) 61 5 3 (lnC threeL), .own (.slice Bb 3 cb) 61 5 3 (lnC otherL), .own (.slice Bc 1 cc) 61 5 1 (lnC wrongL)])) ?_ ?_
 ·(apply tr_v tk; (conv => whnf); (repeat ((first | (apply VStop.mk; refine tr_region_treeV (id := 13) (by kernel_rfl) [.blk g2 24 _] (by (repeat (first | exact sl0 _ | exact sl1 _ | refine sl2 _ ?_ | refine sl3 _ ?_))) [0] [1, 2, 3, 4, 5, 6, 7, 8, 9] [.rd] (fun i => [.wr, .cr, .wr, .wr, .wr, .wr, .wr, .cr, .wr, .wr].getD i .wr) _ rfl rfl (by kernel_rfl) ?_; apply ot_v tk) | (apply VLdN.mk; (focus ((repeat (first | (with_reducible apply ldn_blk) | (with_reducible apply ldn_skip))); done)); exact rfl)); (conv => whnf))))
  refine ox2 1 7 ?_ ?_
  ·(apply ot_v tk; (conv => whnf); (apply VNew.mk; intro g8 hg8; (conv => whnf)); refine sla ?_)
   refine ox2 2 7 ?_ ?_
   ·(refine ot_call_q rfl rfl rfl (by kernel_rfl) (evl_of rfl) (fun w1 hs => of_any _ _ _ w1) ?_; refine ot_nil ?_; refine sla ?_)
    refine ox2 3 7 ?_ ?_
    ·(refine ot_call_q rfl rfl rfl (by kernel_rfl) (evl_of rfl) (fun w1 hs => x_sinceL hs (by (repeat (first | exact List.Mem.head _ | assumption | refine List.Mem.tail _ ?_))) (by (repeat (first | exact List.Mem.head _ | assumption | refine List.Mem.tail _ ?_)))) ?_; refine ot_nil ?_; refine sla ?_)
     refine ox2 4 7 ?_ ?_
     ·(apply ot_v tk; (conv => whnf); refine sla ?_)
      refine VT.mk (otx_anyV [5, 6, 7] (by kernel_rfl) (by decide) ?_)
      refine ⟨⟨by kernel_rfl, by decide, ?_⟩, ⟨by kernel_rfl, by decide, ?_⟩, ⟨by kernel_rfl, by decide, ?_⟩, trivial⟩
      ·(apply ot_v tk; (conv => whnf); refine sla ?_)
       refine ox2 6 7 ?_ ?_
       ·(apply ot_v tk; (conv => whnf); refine sla ?_)
        refine ox1 7 ?_
        (apply ot_v tk; (conv => whnf); (apply VNew.mk; intro g9 hg9; (conv => whnf)); refine sla ?_)
        refine ox1 8 ?_
        (apply ot_v tk; (conv => whnf); (apply VSt.mk; (focus (repeat (first | exact At.here | apply At.there)); done); exact rfl; (conv => whnf)); refine sla ?_)
        refine ox1 9 ?_
        (apply ot_v tk; (conv => whnf); refine sla ?_)
        refine VT.mk (otx_end ?_)
        (((conv => whnf)); exact VJ.mk () rfl ⟨rfl, rfl, rfl, rfl, rfl, rfl, rfl, rfl, rfl, rfl, rfl, rfl, rfl, rfl, rfl, rfl, rfl, rfl, rfl, rfl, rfl, rfl, rfl, rfl, rfl, trivial⟩ (by ((try dsimp only); repeat (first | exact Pick.nil | ((apply Pick.cons); (focus (repeat (first | exact Rem.here | apply Rem.there)); done))))))
       ·(apply ot_v tk; (conv => whnf); (apply VNew.mk; intro g9 hg9; (conv => whnf)); refine sla ?_)
        refine ox2 6 8 ?_ ?_
        ·(apply ot_v tk; (conv => whnf); refine sla ?_)
         refine ox1 8 ?_
         (apply ot_v tk; (conv => whnf); (apply VSt.mk; (focus (repeat (first | exact At.here | apply At.there)); done); exact rfl; (conv => whnf)); refine sla ?_)
         refine ox1 9 ?_
         (apply ot_v tk; (conv => whnf); refine sla ?_)
         refine VT.mk (otx_end ?_)
         (((conv => whnf)); exact VJ.mk () rfl ⟨rfl, rfl, rfl, rfl, rfl, rfl, rfl, rfl, rfl, rfl, rfl, rfl, rfl, rfl, rfl, rfl, rfl, rfl, rfl, rfl, rfl, rfl, rfl, rfl, rfl, trivial⟩ (by ((try dsimp only); repeat (first | exact Pick.nil | ((apply Pick.cons); (focus (repeat (first | exact Rem.here | apply Rem.there)); done))))))
        ·(apply ot_v tk; (conv => whnf); (apply VSt.mk; (focus (repeat (first | exact At.here | apply At.there)); done); exact rfl; (conv => whnf)); refine sla ?_)
         refine ox1 6 ?_
         (apply ot_v tk; (conv => whnf); refine sla ?_)
         refine ox1 9 ?_
         (apply ot_v tk; (conv => whnf); refine sla ?_)
         refine VT.mk (otx_end ?_)
         (((conv => whnf)); exact VJ.mk () rfl ⟨rfl, rfl, rfl, rfl, rfl, rfl, rfl, rfl, rfl, rfl, rfl, rfl, rfl, rfl, rfl, rfl, rfl, rfl, rfl, rfl, rfl, rfl, rfl, rfl, rfl, trivial⟩ (by ((try dsimp only); repeat (first | exact Pick.nil | ((apply Pick.cons); (focus (repeat (first | exact Rem.here | apply Rem.there)); done))))))
      ·(apply ot_v tk; (conv => whnf); refine sla ?_)
       refine ox2 5 7 ?_ ?_
       ·(apply ot_v tk; (conv => whnf); refine sla ?_)
        refine ox1 7 ?_
        (apply ot_v tk; (conv => whnf); (apply VNew.mk; intro g9 hg9; (conv => whnf)); refine sla ?_)
        refine ox1 8 ?_
        (apply ot_v tk; (conv => whnf); (apply VSt.mk; (focus (repeat (first | exact At.here | apply At.there)); done); exact rfl; (conv => whnf)); refine sla ?_)
        refine ox1 9 ?_
        (apply ot_v tk; (conv => whnf); refine sla ?_)
        refine VT.mk (otx_end ?_)
        (((conv => whnf)); exact VJ.mk () rfl ⟨rfl, rfl, rfl, rfl, rfl, rfl, rfl, rfl, rfl, rfl, rfl, rfl, rfl, rfl, rfl, rfl, rfl, rfl, rfl, rfl, rfl, rfl, rfl, rfl, rfl, trivial⟩ (by ((try dsimp only); repeat (first | exact Pick.nil | ((apply Pick.cons); (focus (repeat (first | exact Rem.here | apply Rem.there)); done))))))
       ·(apply ot_v tk; (conv => whnf); (apply VNew.mk; intro g9 hg9; (conv => whnf)); refine sla ?_)
        refine ox1 5 ?_
        (apply ot_v tk; (conv => whnf); refine sla ?_)
        refine ox1 8 ?_
        (apply ot_v tk; (conv => whnf); (apply VSt.mk; (focus (repeat (first | exact At.here | apply At.there)); done); exact rfl; (conv => whnf)); refine sla ?_)
        refine ox1 9 ?_
        (apply ot_v tk; (conv => whnf); refine sla ?_)
        refine VT.mk (otx_end ?_)
        (((conv => whnf)); exact VJ.mk () rfl ⟨rfl, rfl, rfl, rfl, rfl, rfl, rfl, rfl, rfl, rfl, rfl, rfl, rfl, rfl, rfl, rfl, rfl, rfl, rfl, rfl, rfl, rfl, rfl, rfl, rfl, trivial⟩ (by ((try dsimp only); repeat (first | exact Pick.nil | ((apply Pick.cons); (focus (repeat (first | exact Rem.here | apply Rem.there)); done))))))
      ·(apply ot_v tk; (conv => whnf); (apply VNew.mk; intro g9 hg9; (conv => whnf)); refine sla ?_)
       refine ox2 5 6 ?_ ?_
       ·(apply ot_v tk; (conv => whnf); refine sla ?_)
        refine ox2 6 8 ?_ ?_
        ·(apply ot_v tk; (conv => whnf); refine sla ?_)
         refine ox1 8 ?_
         (apply ot_v tk; (conv => whnf); (apply VSt.mk; (focus (repeat (first | exact At.here | apply At.there)); done); exact rfl; (conv => whnf)); refine sla ?_)
         refine ox1 9 ?_
         (apply ot_v tk; (conv => whnf); refine sla ?_)
         refine VT.mk (otx_end ?_)
         (((conv => whnf)); exact VJ.mk () rfl ⟨rfl, rfl, rfl, rfl, rfl, rfl, rfl, rfl, rfl, rfl, rfl, rfl, rfl, rfl, rfl, rfl, rfl, rfl, rfl, rfl, rfl, rfl, rfl, rfl, rfl, trivial⟩ (by ((try dsimp only); repeat (first | exact Pick.nil | ((apply Pick.cons); (focus (repeat (first | exact Rem.here | apply Rem.there)); done))))))
        ·(apply ot_v tk; (conv => whnf); (apply VSt.mk; (focus (repeat (first | exact At.here | apply At.there)); done); exact rfl; (conv => whnf)); refine sla ?_)
         refine ox1 6 ?_
         (apply ot_v tk; (conv => whnf); refine sla ?_)
         refine ox1 9 ?_
         (apply ot_v tk; (conv => whnf); refine sla ?_)
         refine VT.mk (otx_end ?_)
         (((conv => whnf)); exact VJ.mk () rfl ⟨rfl, rfl, rfl, rfl, rfl, rfl, rfl, rfl, rfl, rfl, rfl, rfl, rfl, rfl, rfl, rfl, rfl, rfl, rfl, rfl, rfl, rfl, rfl, rfl, rfl, trivial⟩ (by ((try dsimp only); repeat (first | exact Pick.nil | ((apply Pick.cons); (focus (repeat (first | exact Rem.here | apply Rem.there)); done))))))
       ·(apply ot_v tk; (conv => whnf); refine sla ?_)
        refine ox1 5 ?_
        (apply ot_v tk; (conv => whnf); refine sla ?_)
        refine ox1 8 ?_
        (apply ot_v tk; (conv => whnf); (apply VSt.mk; (focus (repeat (first | exact At.here | apply At.there)); done); exact rfl; (conv => whnf)); refine sla ?_)
        refine ox1 9 ?_
        (apply ot_v tk; (conv => whnf); refine sla ?_)
        refine VT.mk (otx_end ?_)
        (((conv => whnf)); exact VJ.mk () rfl ⟨rfl, rfl, rfl, rfl, rfl, rfl, rfl, rfl, rfl, rfl, rfl, rfl, rfl, rfl, rfl, rfl, rfl, rfl, rfl, rfl, rfl, rfl, rfl, rfl, rfl, trivial⟩ (by ((try dsimp only); repeat (first | exact Pick.nil | ((apply Pick.cons); (focus (repeat (first | exact Rem.here | apply Rem.there)); done))))))
     ·(apply ot_v tk; (conv => whnf); (apply VNew.mk; intro g9 hg9; (conv => whnf)); refine sla ?_)
      refine ox1 4 ?_
      (apply ot_v tk; (conv => whnf); refine sla ?_)
      refine ox2 5 6 ?_ ?_
      ·(apply ot_v tk; (conv => whnf); refine sla ?_)
       refine ox2 6 8 ?_ ?_
       ·(apply ot_v tk; (conv => whnf); refine sla ?_)
        refine ox1 8 ?_
        (apply ot_v tk; (conv => whnf); (apply VSt.mk; (focus (repeat (first | exact At.here | apply At.there)); done); exact rfl; (conv => whnf)); refine sla ?_)
        refine ox1 9 ?_
        (apply ot_v tk; (conv => whnf); refine sla ?_)
        refine VT.mk (otx_end ?_)
        (((conv => whnf)); exact VJ.mk () rfl ⟨rfl, rfl, rfl, rfl, rfl, rfl, rfl, rfl, rfl, rfl, rfl, rfl, rfl, rfl, rfl, rfl, rfl, rfl, rfl, rfl, rfl, rfl, rfl, rfl, rfl, trivial⟩ (by ((try dsimp only); repeat (first | exact Pick.nil | ((apply Pick.cons); (focus (repeat (first | exact Rem.here | apply Rem.there)); done))))))
       ·(apply ot_v tk; (conv => whnf); (apply VSt.mk; (focus (repeat (first | exact At.here | apply At.there)); done); exact rfl; (conv => whnf)); refine sla ?_)
        refine ox1 6 ?_
        (apply ot_v tk; (conv => whnf); refine sla ?_)
        refine ox1 9 ?_
        (apply ot_v tk; (conv => whnf); refine sla ?_)
        refine VT.mk (otx_end ?_)
        (((conv => whnf)); exact VJ.mk () rfl ⟨rfl, rfl, rfl, rfl, rfl, rfl, rfl, rfl, rfl, rfl, rfl, rfl, rfl, rfl, rfl, rfl, rfl, rfl, rfl, rfl, rfl, rfl, rfl, rfl, rfl, trivial⟩ (by ((try dsimp only); repeat (first | exact Pick.nil | ((apply Pick.cons); (focus (repeat (first | exact Rem.here | apply Rem.there)); done))))))
      ·(apply ot_v tk; (conv => whnf); refine sla ?_)
       refine ox1 5 ?_
       (apply ot_v tk; (conv => whnf); refine sla ?_)
       refine ox1 8 ?_
       (apply ot_v tk; (conv => whnf); (apply VSt.mk; (focus (repeat (first | exact At.here | apply At.there)); done); exact rfl; (conv => whnf)); refine sla ?_)
       refine ox1 9 ?_
       (apply ot_v tk; (conv => whnf); refine sla ?_)
       refine VT.mk (otx_end ?_)
       (((conv => whnf)); exact VJ.mk () rfl ⟨rfl, rfl, rfl, rfl, rfl, rfl, rfl, rfl, rfl, rfl, rfl, rfl, rfl, rfl, rfl, rfl, rfl, rfl, rfl, rfl, rfl, rfl, rfl, rfl, rfl, trivial⟩ (by ((try dsimp only); repeat (first | exact Pick.nil | ((apply Pick.cons); (focus (repeat (first | exact Rem.here | apply Rem.there)); done))))))
    ·(apply ot_v tk; (conv => whnf); (apply VNew.mk; intro g9 hg9; (conv => whnf)); refine sla ?_)
     refine ox1 3 ?_
     (refine ot_call_q rfl rfl rfl (by kernel_rfl) (evl_of rfl) (fun w1 hs => x_sinceL hs (by (repeat (first | exact List.Mem.head _ | assumption | refine List.Mem.tail _ ?_))) (by (repeat (first | exact List.Mem.head _ | assumption | refine List.Mem.tail _ ?_)))) ?_; refine ot_nil ?_; refine sla ?_)
     refine ox1 4 ?_
     (apply ot_v tk; (conv => whnf); refine sla ?_)
     refine ox2 5 6 ?_ ?_
     ·(apply ot_v tk; (conv => whnf); refine sla ?_)
      refine ox2 6 8 ?_ ?_
      ·(apply ot_v tk; (conv => whnf); refine sla ?_)
       refine ox1 8 ?_
       (apply ot_v tk; (conv => whnf); (apply VSt.mk; (focus (repeat (first | exact At.here | apply At.there)); done); exact rfl; (conv => whnf)); refine sla ?_)
       refine ox1 9 ?_
       (apply ot_v tk; (conv => whnf); refine sla ?_)
       refine VT.mk (otx_end ?_)
       (((conv => whnf)); exact VJ.mk () rfl ⟨rfl, rfl, rfl, rfl, rfl, rfl, rfl, rfl, rfl, rfl, rfl, rfl, rfl, rfl, rfl, rfl, rfl, rfl, rfl, rfl, rfl, rfl, rfl, rfl, rfl, trivial⟩ (by ((try dsimp only); repeat (first | exact Pick.nil | ((apply Pick.cons); (focus (repeat (first | exact Rem.here | apply Rem.there)); done))))))
      ·(apply ot_v tk; (conv => whnf); (apply VSt.mk; (focus (repeat (first | exact At.here | apply At.there)); done); exact rfl; (conv => whnf)); refine sla ?_)
       refine ox1 6 ?_
       (apply ot_v tk; (conv => whnf); refine sla ?_)
       refine ox1 9 ?_
       (apply ot_v tk; (conv => whnf); refine sla ?_)
       refine VT.mk (otx_end ?_)
       (((conv => whnf)); exact VJ.mk () rfl ⟨rfl, rfl, rfl, rfl, rfl, rfl, rfl, rfl, rfl, rfl, rfl, rfl, rfl, rfl, rfl, rfl, rfl, rfl, rfl, rfl, rfl, rfl, rfl, rfl, rfl, trivial⟩ (by ((try dsimp only); repeat (first | exact Pick.nil | ((apply Pick.cons); (focus (repeat (first | exact Rem.here | apply Rem.there)); done))))))
     ·(apply ot_v tk; (conv => whnf); refine sla ?_)
      refine ox1 5 ?_
      (apply ot_v tk; (conv => whnf); refine sla ?_)
      refine ox1 8 ?_
      (apply ot_v tk; (conv => whnf); (apply VSt.mk; (focus (repeat (first | exact At.here | apply At.there)); done); exact rfl; (conv => whnf)); refine sla ?_)
      refine ox1 9 ?_
      (apply ot_v tk; (conv => whnf); refine sla ?_)
      refine VT.mk (otx_end ?_)
      (((conv => whnf)); exact VJ.mk () rfl ⟨rfl, rfl, rfl, rfl, rfl, rfl, rfl, rfl, rfl, rfl, rfl, rfl, rfl, rfl, rfl, rfl, rfl, rfl, rfl, rfl, rfl, rfl, rfl, rfl, rfl, trivial⟩ (by ((try dsimp only); repeat (first | exact Pick.nil | ((apply Pick.cons); (focus (repeat (first | exact Rem.here | apply Rem.there)); done))))))
   ·(apply ot_v tk; (conv => whnf); (apply VNew.mk; intro g9 hg9; (conv => whnf)); refine sla ?_)
    refine ox1 2 ?_
    (refine ot_call_q rfl rfl rfl (by kernel_rfl) (evl_of rfl) (fun w1 hs => of_any _ _ _ w1) ?_; refine ot_nil ?_; refine sla ?_)
    refine ox1 3 ?_
    (refine ot_call_q rfl rfl rfl (by kernel_rfl) (evl_of rfl) (fun w1 hs => x_sinceL hs (by (repeat (first | exact List.Mem.head _ | assumption | refine List.Mem.tail _ ?_))) (by (repeat (first | exact List.Mem.head _ | assumption | refine List.Mem.tail _ ?_)))) ?_; refine ot_nil ?_; refine sla ?_)
    refine ox1 4 ?_
    (apply ot_v tk; (conv => whnf); refine sla ?_)
    refine ox2 5 6 ?_ ?_
    ·(apply ot_v tk; (conv => whnf); refine sla ?_)
     refine ox2 6 8 ?_ ?_
     ·(apply ot_v tk; (conv => whnf); refine sla ?_)
      refine ox1 8 ?_
      (apply ot_v tk; (conv => whnf); (apply VSt.mk; (focus (repeat (first | exact At.here | apply At.there)); done); exact rfl; (conv => whnf)); refine sla ?_)
      refine ox1 9 ?_
      (apply ot_v tk; (conv => whnf); refine sla ?_)
      refine VT.mk (otx_end ?_)
      (((conv => whnf)); exact VJ.mk () rfl ⟨rfl, rfl, rfl, rfl, rfl, rfl, rfl, rfl, rfl, rfl, rfl, rfl, rfl, rfl, rfl, rfl, rfl, rfl, rfl, rfl, rfl, rfl, rfl, rfl, rfl, trivial⟩ (by ((try dsimp only); repeat (first | exact Pick.nil | ((apply Pick.cons); (focus (repeat (first | exact Rem.here | apply Rem.there)); done))))))
     ·(apply ot_v tk; (conv => whnf); (apply VSt.mk; (focus (repeat (first | exact At.here | apply At.there)); done); exact rfl; (conv => whnf)); refine sla ?_)
      refine ox1 6 ?_
      (apply ot_v tk; (conv => whnf); refine sla ?_)
      refine ox1 9 ?_
      (apply ot_v tk; (conv => whnf); refine sla ?_)
      refine VT.mk (otx_end ?_)
      (((conv => whnf)); exact VJ.mk () rfl ⟨rfl, rfl, rfl, rfl, rfl, rfl, rfl, rfl, rfl, rfl, rfl, rfl, rfl, rfl, rfl, rfl, rfl, rfl, rfl, rfl, rfl, rfl, rfl, rfl, rfl, trivial⟩ (by ((try dsimp only); repeat (first | exact Pick.nil | ((apply Pick.cons); (focus (repeat (first | exact Rem.here | apply Rem.there)); done))))))
    ·(apply ot_v tk; (conv => whnf); refine sla ?_)
     refine ox1 5 ?_
     (apply ot_v tk; (conv => whnf); refine sla ?_)
     refine ox1 8 ?_
     (apply ot_v tk; (conv => whnf); (apply VSt.mk; (focus (repeat (first | exact At.here | apply At.there)); done); exact rfl; (conv => whnf)); refine sla ?_)
     refine ox1 9 ?_
     (apply ot_v tk; (conv => whnf); refine sla ?_)
     refine VT.mk (otx_end ?_)
     (((conv => whnf)); exact VJ.mk () rfl ⟨rfl, rfl, rfl, rfl, rfl, rfl, rfl, rfl, rfl, rfl, rfl, rfl, rfl, rfl, rfl, rfl, rfl, rfl, rfl, rfl, rfl, rfl, rfl, rfl, rfl, trivial⟩ (by ((try dsimp only); repeat (first | exact Pick.nil | ((apply Pick.cons); (focus (repeat (first | exact Rem.here | apply Rem.there)); done))))))
  ·(apply ot_v tk; (conv => whnf); (apply VNew.mk; intro g9 hg9; (conv => whnf)); refine sla ?_)
   refine ox1 1 ?_
   (apply ot_v tk; (conv => whnf); (apply VNew.mk; intro g8 hg8; (conv => whnf)); refine sla ?_)
   refine ox1 2 ?_
   (refine ot_call_q rfl rfl rfl (by kernel_rfl) (evl_of rfl) (fun w1 hs => of_any _ _ _ w1) ?_; refine ot_nil ?_; refine sla ?_)
   refine ox1 3 ?_
   (refine ot_call_q rfl rfl rfl (by kernel_rfl) (evl_of rfl) (fun w1 hs => x_sinceL hs (by (repeat (first | exact List.Mem.head _ | assumption | refine List.Mem.tail _ ?_))) (by (repeat (first | exact List.Mem.head _ | assumption | refine List.Mem.tail _ ?_)))) ?_; refine ot_nil ?_; refine sla ?_)
   refine ox1 4 ?_
   (apply ot_v tk; (conv => whnf); refine sla ?_)
   refine ox2 5 6 ?_ ?_
   ·(apply ot_v tk; (conv => whnf); refine sla ?_)
    refine ox2 6 8 ?_ ?_
    ·(apply ot_v tk; (conv => whnf); refine sla ?_)
     refine ox1 8 ?_
     (apply ot_v tk; (conv => whnf); (apply VSt.mk; (focus (repeat (first | exact At.here | apply At.there)); done); exact rfl; (conv => whnf)); refine sla ?_)
     refine ox1 9 ?_
     (apply ot_v tk; (conv => whnf); refine sla ?_)
     refine VT.mk (otx_end ?_)
     (((conv => whnf)); exact VJ.mk () rfl ⟨rfl, rfl, rfl, rfl, rfl, rfl, rfl, rfl, rfl, rfl, rfl, rfl, rfl, rfl, rfl, rfl, rfl, rfl, rfl, rfl, rfl, rfl, rfl, rfl, rfl, trivial⟩ (by ((try dsimp only); repeat (first | exact Pick.nil | ((apply Pick.cons); (focus (repeat (first | exact Rem.here | apply Rem.there)); done))))))
    ·(apply ot_v tk; (conv => whnf); (apply VSt.mk; (focus (repeat (first | exact At.here | apply At.there)); done); exact rfl; (conv => whnf)); refine sla ?_)
     refine ox1 6 ?_
     (apply ot_v tk; (conv => whnf); refine sla ?_)
     refine ox1 9 ?_
     (apply ot_v tk; (conv => whnf); refine sla ?_)
     refine VT.mk (otx_end ?_)
     (((conv => whnf)); exact VJ.mk () rfl ⟨rfl, rfl, rfl, rfl, rfl, rfl, rfl, rfl, rfl, rfl, rfl, rfl, rfl, rfl, rfl, rfl, rfl, rfl, rfl, rfl, rfl, rfl, rfl, rfl, rfl, trivial⟩ (by ((try dsimp only); repeat (first | exact Pick.nil | ((apply Pick.cons); (focus (repeat (first | exact Rem.here | apply Rem.there)); done))))))
   ·(apply ot_v tk; (conv => whnf); refine sla ?_)
    refine ox1 5 ?_
    (apply ot_v tk; (conv => whnf); refine sla ?_)
    refine ox1 8 ?_
    (apply ot_v tk; (conv => whnf); (apply VSt.mk; (focus (repeat (first | exact At.here | apply At.there)); done); exact rfl; (conv => whnf)); refine sla ?_)
    refine ox1 9 ?_
    (apply ot_v tk; (conv => whnf); refine sla ?_)
    refine VT.mk (otx_end ?_)
    (((conv => whnf)); exact VJ.mk () rfl ⟨rfl, rfl, rfl, rfl, rfl, rfl, rfl, rfl, rfl, rfl, rfl, rfl, rfl, rfl, rfl, rfl, rfl, rfl, rfl, rfl, rfl, rfl, rfl, rfl, rfl, trivial⟩ (by ((try dsimp only); repeat (first | exact Pick.nil | ((apply Pick.cons); (focus (repeat (first | exact Rem.here | apply Rem.there)); done))))))
 rintro _
 refine tr_cut (fun x : Unit => ([(31, .int .i64 3), (29, .int .i64 15), (26, .pointer (some ⟨g26, 0, none⟩)), (27, .int .i64 0), (24, .slice Bu 3 cu), (25, .int .i64 0), (22, .pointer (some ⟨g22, 0, none⟩)), (23, .int .i64 0), (20, .pointer (some ⟨g20, 0, none⟩)), (21, .int .i64 0), (19, .int .i64 5), (14, .int .i64 2), (15, .int .i64 1), (16, .int .i64 0), (13, .int .i64 28), (10, .pointer (some ⟨g10, 0, none⟩)), (11, .int .i64 0), (9, .int .i64 2), (6, .slice Bt 8 ct), (7, .int .i64 0), (4, .slice Bs 8 cs), (5, .int .i64 0), (1, .pointer (some ⟨g1, 0, none⟩)), (2, .pointer (some ⟨g2, 0, none⟩)), (3, .pointer (some ⟨g3, 0, none⟩)), (0, .bool false)], [.own (.slice Bn 1 cn) 61 5 1 (lnC siL), .blk g26 24 [.slice Bn 1 cn], .own (.slice Bu 3 cu) 3 1 3 (i64s [4, 2, 3]), .own (.slice Bp 2 cp) 61 5 2 (lnC coL), .blk g22 24 [.slice Bp 2 cp], .own (.slice Bo 1 co) 61 5 1 (lnC onL), .blk g20 24 [.slice Bo 1 co], .own (.slice Bm 4 cm) 61 5 4 (lnC abL), .blk g10 24 [.slice Bm 4 cm], .own (.slice Bt 8 ct) 2 1 8 (i64s [0, 0, 30, 0, 0, 0, 0, 0]), .own (.slice Bs 8 cs) 2 1 8 (i64s [0, 0, 20, 0, 0, 0, 0, 0]), .blk g1 24 [.slice Ba 3 ca], .blk g2 24 [.slice Bb 3 cb], .blk g3 24 [.slice Bc 1 cc], .own (.slice Ba 3 ca) 61 5 3 (lnC threeL), .own (.slice Bb 3 cb) 61 5 3 (lnC otherL), .own (.slice Bc 1 cc) 61 5 1 (lnC wrongL)])) ?_ ?_
 ·(apply tr_v tk; (conv => whnf); (repeat ((first | (apply VStop.mk; refine tr_region_treeV (id := 14) (by kernel_rfl) [.blk g2 24 _] (by (repeat (first | exact sl0 _ | exact sl1 _ | refine sl2 _ ?_ | refine sl3 _ ?_))) [0] [1, 2, 3, 4, 5, 6, 7, 8, 9] [.rd] (fun i => [.wr, .cr, .wr, .wr, .wr, .wr, .wr, .cr, .wr, .wr].getD i .wr) _ rfl rfl (by kernel_rfl) ?_; apply ot_v tk) | (apply VLdN.mk; (focus ((repeat (first | (with_reducible apply ldn_blk) | (with_reducible apply ldn_skip))); done)); exact rfl)); (conv => whnf))))
  refine ox2 1 7 ?_ ?_
  ·(apply ot_v tk; (conv => whnf); (apply VNew.mk; intro g8 hg8; (conv => whnf)); refine sla ?_)
   refine ox2 2 7 ?_ ?_
   ·(refine ot_call_q rfl rfl rfl (by kernel_rfl) (evl_of rfl) (fun w1 hs => of_any _ _ _ w1) ?_; refine ot_nil ?_; refine sla ?_)
    refine ox2 3 7 ?_ ?_
    ·(refine ot_call_q rfl rfl rfl (by kernel_rfl) (evl_of rfl) (fun w1 hs => x_sinceB hs (by (repeat (first | exact List.Mem.head _ | assumption | refine List.Mem.tail _ ?_))) (by (repeat (first | exact List.Mem.head _ | assumption | refine List.Mem.tail _ ?_)))) ?_; refine ot_nil ?_; refine sla ?_)
     refine ox2 4 7 ?_ ?_
     ·(apply ot_v tk; (conv => whnf); refine sla ?_)
      refine VT.mk (otx_anyV [5, 6, 7] (by kernel_rfl) (by decide) ?_)
      refine ⟨⟨by kernel_rfl, by decide, ?_⟩, ⟨by kernel_rfl, by decide, ?_⟩, ⟨by kernel_rfl, by decide, ?_⟩, trivial⟩
      ·(apply ot_v tk; (conv => whnf); refine sla ?_)
       refine ox2 6 7 ?_ ?_
       ·(apply ot_v tk; (conv => whnf); refine sla ?_)
        refine ox1 7 ?_
        (apply ot_v tk; (conv => whnf); (apply VNew.mk; intro g9 hg9; (conv => whnf)); refine sla ?_)
        refine ox1 8 ?_
        (apply ot_v tk; (conv => whnf); (apply VSt.mk; (focus (repeat (first | exact At.here | apply At.there)); done); exact rfl; (conv => whnf)); refine sla ?_)
        refine ox1 9 ?_
        (apply ot_v tk; (conv => whnf); refine sla ?_)
        refine VT.mk (otx_end ?_)
        (((conv => whnf)); exact VJ.mk () rfl ⟨rfl, rfl, rfl, rfl, rfl, rfl, rfl, rfl, rfl, rfl, rfl, rfl, rfl, rfl, rfl, rfl, rfl, rfl, rfl, rfl, rfl, rfl, rfl, rfl, rfl, rfl, trivial⟩ (by ((try dsimp only); repeat (first | exact Pick.nil | ((apply Pick.cons); (focus (repeat (first | exact Rem.here | apply Rem.there)); done))))))
       ·(apply ot_v tk; (conv => whnf); (apply VNew.mk; intro g9 hg9; (conv => whnf)); refine sla ?_)
        refine ox2 6 8 ?_ ?_
        ·(apply ot_v tk; (conv => whnf); refine sla ?_)
         refine ox1 8 ?_
         (apply ot_v tk; (conv => whnf); (apply VSt.mk; (focus (repeat (first | exact At.here | apply At.there)); done); exact rfl; (conv => whnf)); refine sla ?_)
         refine ox1 9 ?_
         (apply ot_v tk; (conv => whnf); refine sla ?_)
         refine VT.mk (otx_end ?_)
         (((conv => whnf)); exact VJ.mk () rfl ⟨rfl, rfl, rfl, rfl, rfl, rfl, rfl, rfl, rfl, rfl, rfl, rfl, rfl, rfl, rfl, rfl, rfl, rfl, rfl, rfl, rfl, rfl, rfl, rfl, rfl, rfl, trivial⟩ (by ((try dsimp only); repeat (first | exact Pick.nil | ((apply Pick.cons); (focus (repeat (first | exact Rem.here | apply Rem.there)); done))))))
        ·(apply ot_v tk; (conv => whnf); (apply VSt.mk; (focus (repeat (first | exact At.here | apply At.there)); done); exact rfl; (conv => whnf)); refine sla ?_)
         refine ox1 6 ?_
         (apply ot_v tk; (conv => whnf); refine sla ?_)
         refine ox1 9 ?_
         (apply ot_v tk; (conv => whnf); refine sla ?_)
         refine VT.mk (otx_end ?_)
         (((conv => whnf)); exact VJ.mk () rfl ⟨rfl, rfl, rfl, rfl, rfl, rfl, rfl, rfl, rfl, rfl, rfl, rfl, rfl, rfl, rfl, rfl, rfl, rfl, rfl, rfl, rfl, rfl, rfl, rfl, rfl, rfl, trivial⟩ (by ((try dsimp only); repeat (first | exact Pick.nil | ((apply Pick.cons); (focus (repeat (first | exact Rem.here | apply Rem.there)); done))))))
      ·(apply ot_v tk; (conv => whnf); refine sla ?_)
       refine ox2 5 7 ?_ ?_
       ·(apply ot_v tk; (conv => whnf); refine sla ?_)
        refine ox1 7 ?_
        (apply ot_v tk; (conv => whnf); (apply VNew.mk; intro g9 hg9; (conv => whnf)); refine sla ?_)
        refine ox1 8 ?_
        (apply ot_v tk; (conv => whnf); (apply VSt.mk; (focus (repeat (first | exact At.here | apply At.there)); done); exact rfl; (conv => whnf)); refine sla ?_)
        refine ox1 9 ?_
        (apply ot_v tk; (conv => whnf); refine sla ?_)
        refine VT.mk (otx_end ?_)
        (((conv => whnf)); exact VJ.mk () rfl ⟨rfl, rfl, rfl, rfl, rfl, rfl, rfl, rfl, rfl, rfl, rfl, rfl, rfl, rfl, rfl, rfl, rfl, rfl, rfl, rfl, rfl, rfl, rfl, rfl, rfl, rfl, trivial⟩ (by ((try dsimp only); repeat (first | exact Pick.nil | ((apply Pick.cons); (focus (repeat (first | exact Rem.here | apply Rem.there)); done))))))
       ·(apply ot_v tk; (conv => whnf); (apply VNew.mk; intro g9 hg9; (conv => whnf)); refine sla ?_)
        refine ox1 5 ?_
        (apply ot_v tk; (conv => whnf); refine sla ?_)
        refine ox1 8 ?_
        (apply ot_v tk; (conv => whnf); (apply VSt.mk; (focus (repeat (first | exact At.here | apply At.there)); done); exact rfl; (conv => whnf)); refine sla ?_)
        refine ox1 9 ?_
        (apply ot_v tk; (conv => whnf); refine sla ?_)
        refine VT.mk (otx_end ?_)
        (((conv => whnf)); exact VJ.mk () rfl ⟨rfl, rfl, rfl, rfl, rfl, rfl, rfl, rfl, rfl, rfl, rfl, rfl, rfl, rfl, rfl, rfl, rfl, rfl, rfl, rfl, rfl, rfl, rfl, rfl, rfl, rfl, trivial⟩ (by ((try dsimp only); repeat (first | exact Pick.nil | ((apply Pick.cons); (focus (repeat (first | exact Rem.here | apply Rem.there)); done))))))
      ·(apply ot_v tk; (conv => whnf); (apply VNew.mk; intro g9 hg9; (conv => whnf)); refine sla ?_)
       refine ox2 5 6 ?_ ?_
       ·(apply ot_v tk; (conv => whnf); refine sla ?_)
        refine ox2 6 8 ?_ ?_
        ·(apply ot_v tk; (conv => whnf); refine sla ?_)
         refine ox1 8 ?_
         (apply ot_v tk; (conv => whnf); (apply VSt.mk; (focus (repeat (first | exact At.here | apply At.there)); done); exact rfl; (conv => whnf)); refine sla ?_)
         refine ox1 9 ?_
         (apply ot_v tk; (conv => whnf); refine sla ?_)
         refine VT.mk (otx_end ?_)
         (((conv => whnf)); exact VJ.mk () rfl ⟨rfl, rfl, rfl, rfl, rfl, rfl, rfl, rfl, rfl, rfl, rfl, rfl, rfl, rfl, rfl, rfl, rfl, rfl, rfl, rfl, rfl, rfl, rfl, rfl, rfl, rfl, trivial⟩ (by ((try dsimp only); repeat (first | exact Pick.nil | ((apply Pick.cons); (focus (repeat (first | exact Rem.here | apply Rem.there)); done))))))
        ·(apply ot_v tk; (conv => whnf); (apply VSt.mk; (focus (repeat (first | exact At.here | apply At.there)); done); exact rfl; (conv => whnf)); refine sla ?_)
         refine ox1 6 ?_
         (apply ot_v tk; (conv => whnf); refine sla ?_)
         refine ox1 9 ?_
         (apply ot_v tk; (conv => whnf); refine sla ?_)
         refine VT.mk (otx_end ?_)
         (((conv => whnf)); exact VJ.mk () rfl ⟨rfl, rfl, rfl, rfl, rfl, rfl, rfl, rfl, rfl, rfl, rfl, rfl, rfl, rfl, rfl, rfl, rfl, rfl, rfl, rfl, rfl, rfl, rfl, rfl, rfl, rfl, trivial⟩ (by ((try dsimp only); repeat (first | exact Pick.nil | ((apply Pick.cons); (focus (repeat (first | exact Rem.here | apply Rem.there)); done))))))
       ·(apply ot_v tk; (conv => whnf); refine sla ?_)
        refine ox1 5 ?_
        (apply ot_v tk; (conv => whnf); refine sla ?_)
        refine ox1 8 ?_
        (apply ot_v tk; (conv => whnf); (apply VSt.mk; (focus (repeat (first | exact At.here | apply At.there)); done); exact rfl; (conv => whnf)); refine sla ?_)
        refine ox1 9 ?_
        (apply ot_v tk; (conv => whnf); refine sla ?_)
        refine VT.mk (otx_end ?_)
        (((conv => whnf)); exact VJ.mk () rfl ⟨rfl, rfl, rfl, rfl, rfl, rfl, rfl, rfl, rfl, rfl, rfl, rfl, rfl, rfl, rfl, rfl, rfl, rfl, rfl, rfl, rfl, rfl, rfl, rfl, rfl, rfl, trivial⟩ (by ((try dsimp only); repeat (first | exact Pick.nil | ((apply Pick.cons); (focus (repeat (first | exact Rem.here | apply Rem.there)); done))))))
     ·(apply ot_v tk; (conv => whnf); (apply VNew.mk; intro g9 hg9; (conv => whnf)); refine sla ?_)
      refine ox1 4 ?_
      (apply ot_v tk; (conv => whnf); refine sla ?_)
      refine ox2 5 6 ?_ ?_
      ·(apply ot_v tk; (conv => whnf); refine sla ?_)
       refine ox2 6 8 ?_ ?_
       ·(apply ot_v tk; (conv => whnf); refine sla ?_)
        refine ox1 8 ?_
        (apply ot_v tk; (conv => whnf); (apply VSt.mk; (focus (repeat (first | exact At.here | apply At.there)); done); exact rfl; (conv => whnf)); refine sla ?_)
        refine ox1 9 ?_
        (apply ot_v tk; (conv => whnf); refine sla ?_)
        refine VT.mk (otx_end ?_)
        (((conv => whnf)); exact VJ.mk () rfl ⟨rfl, rfl, rfl, rfl, rfl, rfl, rfl, rfl, rfl, rfl, rfl, rfl, rfl, rfl, rfl, rfl, rfl, rfl, rfl, rfl, rfl, rfl, rfl, rfl, rfl, rfl, trivial⟩ (by ((try dsimp only); repeat (first | exact Pick.nil | ((apply Pick.cons); (focus (repeat (first | exact Rem.here | apply Rem.there)); done))))))
       ·(apply ot_v tk; (conv => whnf); (apply VSt.mk; (focus (repeat (first | exact At.here | apply At.there)); done); exact rfl; (conv => whnf)); refine sla ?_)
        refine ox1 6 ?_
        (apply ot_v tk; (conv => whnf); refine sla ?_)
        refine ox1 9 ?_
        (apply ot_v tk; (conv => whnf); refine sla ?_)
        refine VT.mk (otx_end ?_)
        (((conv => whnf)); exact VJ.mk () rfl ⟨rfl, rfl, rfl, rfl, rfl, rfl, rfl, rfl, rfl, rfl, rfl, rfl, rfl, rfl, rfl, rfl, rfl, rfl, rfl, rfl, rfl, rfl, rfl, rfl, rfl, rfl, trivial⟩ (by ((try dsimp only); repeat (first | exact Pick.nil | ((apply Pick.cons); (focus (repeat (first | exact Rem.here | apply Rem.there)); done))))))
      ·(apply ot_v tk; (conv => whnf); refine sla ?_)
       refine ox1 5 ?_
       (apply ot_v tk; (conv => whnf); refine sla ?_)
       refine ox1 8 ?_
       (apply ot_v tk; (conv => whnf); (apply VSt.mk; (focus (repeat (first | exact At.here | apply At.there)); done); exact rfl; (conv => whnf)); refine sla ?_)
       refine ox1 9 ?_
       (apply ot_v tk; (conv => whnf); refine sla ?_)
       refine VT.mk (otx_end ?_)
       (((conv => whnf)); exact VJ.mk () rfl ⟨rfl, rfl, rfl, rfl, rfl, rfl, rfl, rfl, rfl, rfl, rfl, rfl, rfl, rfl, rfl, rfl, rfl, rfl, rfl, rfl, rfl, rfl, rfl, rfl, rfl, rfl, trivial⟩ (by ((try dsimp only); repeat (first | exact Pick.nil | ((apply Pick.cons); (focus (repeat (first | exact Rem.here | apply Rem.there)); done))))))
    ·(apply ot_v tk; (conv => whnf); (apply VNew.mk; intro g9 hg9; (conv => whnf)); refine sla ?_)
     refine ox1 3 ?_
     (refine ot_call_q rfl rfl rfl (by kernel_rfl) (evl_of rfl) (fun w1 hs => x_sinceB hs (by (repeat (first | exact List.Mem.head _ | assumption | refine List.Mem.tail _ ?_))) (by (repeat (first | exact List.Mem.head _ | assumption | refine List.Mem.tail _ ?_)))) ?_; refine ot_nil ?_; refine sla ?_)
     refine ox1 4 ?_
     (apply ot_v tk; (conv => whnf); refine sla ?_)
     refine ox2 5 6 ?_ ?_
     ·(apply ot_v tk; (conv => whnf); refine sla ?_)
      refine ox2 6 8 ?_ ?_
      ·(apply ot_v tk; (conv => whnf); refine sla ?_)
       refine ox1 8 ?_
       (apply ot_v tk; (conv => whnf); (apply VSt.mk; (focus (repeat (first | exact At.here | apply At.there)); done); exact rfl; (conv => whnf)); refine sla ?_)
       refine ox1 9 ?_
       (apply ot_v tk; (conv => whnf); refine sla ?_)
       refine VT.mk (otx_end ?_)
       (((conv => whnf)); exact VJ.mk () rfl ⟨rfl, rfl, rfl, rfl, rfl, rfl, rfl, rfl, rfl, rfl, rfl, rfl, rfl, rfl, rfl, rfl, rfl, rfl, rfl, rfl, rfl, rfl, rfl, rfl, rfl, rfl, trivial⟩ (by ((try dsimp only); repeat (first | exact Pick.nil | ((apply Pick.cons); (focus (repeat (first | exact Rem.here | apply Rem.there)); done))))))
      ·(apply ot_v tk; (conv => whnf); (apply VSt.mk; (focus (repeat (first | exact At.here | apply At.there)); done); exact rfl; (conv => whnf)); refine sla ?_)
       refine ox1 6 ?_
       (apply ot_v tk; (conv => whnf); refine sla ?_)
       refine ox1 9 ?_
       (apply ot_v tk; (conv => whnf); refine sla ?_)
       refine VT.mk (otx_end ?_)
       (((conv => whnf)); exact VJ.mk () rfl ⟨rfl, rfl, rfl, rfl, rfl, rfl, rfl, rfl, rfl, rfl, rfl, rfl, rfl, rfl, rfl, rfl, rfl, rfl, rfl, rfl, rfl, rfl, rfl, rfl, rfl, rfl, trivial⟩ (by ((try dsimp only); repeat (first | exact Pick.nil | ((apply Pick.cons); (focus (repeat (first | exact Rem.here | apply Rem.there)); done))))))
     ·(apply ot_v tk; (conv => whnf); refine sla ?_)
      refine ox1 5 ?_
      (apply ot_v tk; (conv => whnf); refine sla ?_)
      refine ox1 8 ?_
      (apply ot_v tk; (conv => whnf); (apply VSt.mk; (focus (repeat (first | exact At.here | apply At.there)); done); exact rfl; (conv => whnf)); refine sla ?_)
      refine ox1 9 ?_
      (apply ot_v tk; (conv => whnf); refine sla ?_)
      refine VT.mk (otx_end ?_)
      (((conv => whnf)); exact VJ.mk () rfl ⟨rfl, rfl, rfl, rfl, rfl, rfl, rfl, rfl, rfl, rfl, rfl, rfl, rfl, rfl, rfl, rfl, rfl, rfl, rfl, rfl, rfl, rfl, rfl, rfl, rfl, rfl, trivial⟩ (by ((try dsimp only); repeat (first | exact Pick.nil | ((apply Pick.cons); (focus (repeat (first | exact Rem.here | apply Rem.there)); done))))))
   ·(apply ot_v tk; (conv => whnf); (apply VNew.mk; intro g9 hg9; (conv => whnf)); refine sla ?_)
    refine ox1 2 ?_
    (refine ot_call_q rfl rfl rfl (by kernel_rfl) (evl_of rfl) (fun w1 hs => of_any _ _ _ w1) ?_; refine ot_nil ?_; refine sla ?_)
    refine ox1 3 ?_
    (refine ot_call_q rfl rfl rfl (by kernel_rfl) (evl_of rfl) (fun w1 hs => x_sinceB hs (by (repeat (first | exact List.Mem.head _ | assumption | refine List.Mem.tail _ ?_))) (by (repeat (first | exact List.Mem.head _ | assumption | refine List.Mem.tail _ ?_)))) ?_; refine ot_nil ?_; refine sla ?_)
    refine ox1 4 ?_
    (apply ot_v tk; (conv => whnf); refine sla ?_)
    refine ox2 5 6 ?_ ?_
    ·(apply ot_v tk; (conv => whnf); refine sla ?_)
     refine ox2 6 8 ?_ ?_
     ·(apply ot_v tk; (conv => whnf); refine sla ?_)
      refine ox1 8 ?_
      (apply ot_v tk; (conv => whnf); (apply VSt.mk; (focus (repeat (first | exact At.here | apply At.there)); done); exact rfl; (conv => whnf)); refine sla ?_)
      refine ox1 9 ?_
      (apply ot_v tk; (conv => whnf); refine sla ?_)
      refine VT.mk (otx_end ?_)
      (((conv => whnf)); exact VJ.mk () rfl ⟨rfl, rfl, rfl, rfl, rfl, rfl, rfl, rfl, rfl, rfl, rfl, rfl, rfl, rfl, rfl, rfl, rfl, rfl, rfl, rfl, rfl, rfl, rfl, rfl, rfl, rfl, trivial⟩ (by ((try dsimp only); repeat (first | exact Pick.nil | ((apply Pick.cons); (focus (repeat (first | exact Rem.here | apply Rem.there)); done))))))
     ·(apply ot_v tk; (conv => whnf); (apply VSt.mk; (focus (repeat (first | exact At.here | apply At.there)); done); exact rfl; (conv => whnf)); refine sla ?_)
      refine ox1 6 ?_
      (apply ot_v tk; (conv => whnf); refine sla ?_)
      refine ox1 9 ?_
      (apply ot_v tk; (conv => whnf); refine sla ?_)
      refine VT.mk (otx_end ?_)
      (((conv => whnf)); exact VJ.mk () rfl ⟨rfl, rfl, rfl, rfl, rfl, rfl, rfl, rfl, rfl, rfl, rfl, rfl, rfl, rfl, rfl, rfl, rfl, rfl, rfl, rfl, rfl, rfl, rfl, rfl, rfl, rfl, trivial⟩ (by ((try dsimp only); repeat (first | exact Pick.nil | ((apply Pick.cons); (focus (repeat (first | exact Rem.here | apply Rem.there)); done))))))
    ·(apply ot_v tk; (conv => whnf); refine sla ?_)
     refine ox1 5 ?_
     (apply ot_v tk; (conv => whnf); refine sla ?_)
     refine ox1 8 ?_
     (apply ot_v tk; (conv => whnf); (apply VSt.mk; (focus (repeat (first | exact At.here | apply At.there)); done); exact rfl; (conv => whnf)); refine sla ?_)
     refine ox1 9 ?_
     (apply ot_v tk; (conv => whnf); refine sla ?_)
     refine VT.mk (otx_end ?_)
     (((conv => whnf)); exact VJ.mk () rfl ⟨rfl, rfl, rfl, rfl, rfl, rfl, rfl, rfl, rfl, rfl, rfl, rfl, rfl, rfl, rfl, rfl, rfl, rfl, rfl, rfl, rfl, rfl, rfl, rfl, rfl, rfl, trivial⟩ (by ((try dsimp only); repeat (first | exact Pick.nil | ((apply Pick.cons); (focus (repeat (first | exact Rem.here | apply Rem.there)); done))))))
  ·(apply ot_v tk; (conv => whnf); (apply VNew.mk; intro g9 hg9; (conv => whnf)); refine sla ?_)
   refine ox1 1 ?_
   (apply ot_v tk; (conv => whnf); (apply VNew.mk; intro g8 hg8; (conv => whnf)); refine sla ?_)
   refine ox1 2 ?_
   (refine ot_call_q rfl rfl rfl (by kernel_rfl) (evl_of rfl) (fun w1 hs => of_any _ _ _ w1) ?_; refine ot_nil ?_; refine sla ?_)
   refine ox1 3 ?_
   (refine ot_call_q rfl rfl rfl (by kernel_rfl) (evl_of rfl) (fun w1 hs => x_sinceB hs (by (repeat (first | exact List.Mem.head _ | assumption | refine List.Mem.tail _ ?_))) (by (repeat (first | exact List.Mem.head _ | assumption | refine List.Mem.tail _ ?_)))) ?_; refine ot_nil ?_; refine sla ?_)
   refine ox1 4 ?_
   (apply ot_v tk; (conv => whnf); refine sla ?_)
   refine ox2 5 6 ?_ ?_
   ·(apply ot_v tk; (conv => whnf); refine sla ?_)
    refine ox2 6 8 ?_ ?_
    ·(apply ot_v tk; (conv => whnf); refine sla ?_)
     refine ox1 8 ?_
     (apply ot_v tk; (conv => whnf); (apply VSt.mk; (focus (repeat (first | exact At.here | apply At.there)); done); exact rfl; (conv => whnf)); refine sla ?_)
     refine ox1 9 ?_
     (apply ot_v tk; (conv => whnf); refine sla ?_)
     refine VT.mk (otx_end ?_)
     (((conv => whnf)); exact VJ.mk () rfl ⟨rfl, rfl, rfl, rfl, rfl, rfl, rfl, rfl, rfl, rfl, rfl, rfl, rfl, rfl, rfl, rfl, rfl, rfl, rfl, rfl, rfl, rfl, rfl, rfl, rfl, rfl, trivial⟩ (by ((try dsimp only); repeat (first | exact Pick.nil | ((apply Pick.cons); (focus (repeat (first | exact Rem.here | apply Rem.there)); done))))))
    ·(apply ot_v tk; (conv => whnf); (apply VSt.mk; (focus (repeat (first | exact At.here | apply At.there)); done); exact rfl; (conv => whnf)); refine sla ?_)
     refine ox1 6 ?_
     (apply ot_v tk; (conv => whnf); refine sla ?_)
     refine ox1 9 ?_
     (apply ot_v tk; (conv => whnf); refine sla ?_)
     refine VT.mk (otx_end ?_)
     (((conv => whnf)); exact VJ.mk () rfl ⟨rfl, rfl, rfl, rfl, rfl, rfl, rfl, rfl, rfl, rfl, rfl, rfl, rfl, rfl, rfl, rfl, rfl, rfl, rfl, rfl, rfl, rfl, rfl, rfl, rfl, rfl, trivial⟩ (by ((try dsimp only); repeat (first | exact Pick.nil | ((apply Pick.cons); (focus (repeat (first | exact Rem.here | apply Rem.there)); done))))))
   ·(apply ot_v tk; (conv => whnf); refine sla ?_)
    refine ox1 5 ?_
    (apply ot_v tk; (conv => whnf); refine sla ?_)
    refine ox1 8 ?_
    (apply ot_v tk; (conv => whnf); (apply VSt.mk; (focus (repeat (first | exact At.here | apply At.there)); done); exact rfl; (conv => whnf)); refine sla ?_)
    refine ox1 9 ?_
    (apply ot_v tk; (conv => whnf); refine sla ?_)
    refine VT.mk (otx_end ?_)
    (((conv => whnf)); exact VJ.mk () rfl ⟨rfl, rfl, rfl, rfl, rfl, rfl, rfl, rfl, rfl, rfl, rfl, rfl, rfl, rfl, rfl, rfl, rfl, rfl, rfl, rfl, rfl, rfl, rfl, rfl, rfl, rfl, trivial⟩ (by ((try dsimp only); repeat (first | exact Pick.nil | ((apply Pick.cons); (focus (repeat (first | exact Rem.here | apply Rem.there)); done))))))
 rintro _
 refine tr_cut (fun x : Unit => ([(32, .string (bs fileL)), (33, .int .i64 0), (31, .int .i64 3), (29, .int .i64 15), (26, .pointer (some ⟨g26, 0, none⟩)), (27, .int .i64 0), (24, .slice Bu 3 cu), (25, .int .i64 0), (22, .pointer (some ⟨g22, 0, none⟩)), (23, .int .i64 0), (20, .pointer (some ⟨g20, 0, none⟩)), (21, .int .i64 0), (19, .int .i64 5), (14, .int .i64 2), (15, .int .i64 1), (16, .int .i64 0), (13, .int .i64 28), (10, .pointer (some ⟨g10, 0, none⟩)), (11, .int .i64 0), (9, .int .i64 2), (6, .slice Bt 8 ct), (7, .int .i64 0), (4, .slice Bs 8 cs), (5, .int .i64 0), (1, .pointer (some ⟨g1, 0, none⟩)), (2, .pointer (some ⟨g2, 0, none⟩)), (3, .pointer (some ⟨g3, 0, none⟩)), (0, .bool false)], [.own (.slice Bn 1 cn) 61 5 1 (lnC siL), .blk g26 24 [.slice Bn 1 cn], .own (.slice Bu 3 cu) 3 1 3 (i64s [4, 2, 3]), .own (.slice Bp 2 cp) 61 5 2 (lnC coL), .blk g22 24 [.slice Bp 2 cp], .own (.slice Bo 1 co) 61 5 1 (lnC onL), .blk g20 24 [.slice Bo 1 co], .own (.slice Bm 4 cm) 61 5 4 (lnC abL), .blk g10 24 [.slice Bm 4 cm], .own (.slice Bt 8 ct) 2 1 8 (i64s [0, 0, 30, 0, 0, 0, 0, 0]), .own (.slice Bs 8 cs) 2 1 8 (i64s [0, 0, 20, 0, 0, 0, 0, 0]), .blk g1 24 [.slice Ba 3 ca], .blk g2 24 [.slice Bb 3 cb], .blk g3 24 [.slice Bc 1 cc], .own (.slice Ba 3 ca) 61 5 3 (lnC threeL), .own (.slice Bb 3 cb) 61 5 3 (lnC otherL), .own (.slice Bc 1 cc) 61 5 1 (lnC wrongL)])) ?_ ?_
 ·(apply tr_v tk; (conv => whnf); (repeat ((first | (apply VCall.q; kernel_rfl; (focus (intro w1 hs; first | ((with_reducible apply x_file hs hE); (repeat (first | exact List.Mem.head _ | assumption | refine List.Mem.tail _ ?_)))))) | (apply VLdN.mk; (focus ((repeat (first | (with_reducible apply ldn_blk) | (with_reducible apply ldn_skip))); done)); exact rfl)); (conv => whnf))))
  exact VJ.mk () rfl ⟨rfl, rfl, rfl, rfl, rfl, rfl, rfl, rfl, rfl, rfl, rfl, rfl, rfl, rfl, rfl, rfl, rfl, rfl, rfl, rfl, rfl, rfl, rfl, rfl, rfl, rfl, rfl, rfl, trivial⟩ (by ((try dsimp only); repeat (first | exact Pick.nil | ((apply Pick.cons); (focus (repeat (first | exact Rem.here | apply Rem.there)); done)))))
 rintro _
 refine tr_cut (fun x : SlX × Nat => ([(34, .pointer (some ⟨x.2, 0, none⟩)), (35, .int .i64 0), (32, .string (bs fileL)), (33, .int .i64 0), (31, .int .i64 3), (29, .int .i64 15), (26, .pointer (some ⟨g26, 0, none⟩)), (27, .int .i64 0), (24, .slice Bu 3 cu), (25, .int .i64 0), (22, .pointer (some ⟨g22, 0, none⟩)), (23, .int .i64 0), (20, .pointer (some ⟨g20, 0, none⟩)), (21, .int .i64 0), (19, .int .i64 5), (14, .int .i64 2), (15, .int .i64 1), (16, .int .i64 0), (13, .int .i64 28), (10, .pointer (some ⟨g10, 0, none⟩)), (11, .int .i64 0), (9, .int .i64 2), (6, .slice Bt 8 ct), (7, .int .i64 0), (4, .slice Bs 8 cs), (5, .int .i64 0), (1, .pointer (some ⟨g1, 0, none⟩)), (2, .pointer (some ⟨g2, 0, none⟩)), (3, .pointer (some ⟨g3, 0, none⟩)), (0, .bool false)], [.own (.slice x.1.1 3 x.1.2) 61 5 3 (lnC threeL), .blk x.2 24 [.slice x.1.1 3 x.1.2], .own (.slice Bn 1 cn) 61 5 1 (lnC siL), .blk g26 24 [.slice Bn 1 cn], .own (.slice Bu 3 cu) 3 1 3 (i64s [4, 2, 3]), .own (.slice Bp 2 cp) 61 5 2 (lnC coL), .blk g22 24 [.slice Bp 2 cp], .own (.slice Bo 1 co) 61 5 1 (lnC onL), .blk g20 24 [.slice Bo 1 co], .own (.slice Bm 4 cm) 61 5 4 (lnC abL), .blk g10 24 [.slice Bm 4 cm], .own (.slice Bt 8 ct) 2 1 8 (i64s [0, 0, 30, 0, 0, 0, 0, 0]), .own (.slice Bs 8 cs) 2 1 8 (i64s [0, 0, 20, 0, 0, 0, 0, 0]), .blk g1 24 [.slice Ba 3 ca], .blk g2 24 [.slice Bb 3 cb], .blk g3 24 [.slice Bc 1 cc], .own (.slice Ba 3 ca) 61 5 3 (lnC threeL), .own (.slice Bb 3 cb) 61 5 3 (lnC otherL), .own (.slice Bc 1 cc) 61 5 1 (lnC wrongL)])) ?_ ?_
 ·(apply tr_v tk; (conv => whnf); apply VCall.stop)
  refine ot_callT (X := SlX) (us := []) (vs := []) (fun x => .tuple #[.agg #[.slice x.1 3 x.2], .int .i64 0]) (fun x => []) (fun x => [.own (.slice x.1 3 x.2) 61 5 3 (lnC threeL)]) _ (fun x c hc => one_mut hc) (by decide) rfl rfl rfl rfl (by kernel_rfl) (evl_of rfl) rfl (fun w1 hs => x_load hs hE hM) ?_
  rintro ⟨Bl, cl⟩ _
  (dsimp only [List.cons_append, List.nil_append]; apply ot_v tk)
  ((conv => whnf); (repeat ((first | (apply VNew.mk; intro g hg) | (apply VSt.mk; (focus ((repeat (first | (with_reducible exact At.here) | (with_reducible apply At.there))); done)); exact rfl)); (conv => whnf))))
  revert g hg; intro g34 hg34
  exact VJ.mk ((Bl, cl), g34) rfl ⟨rfl, rfl, rfl, rfl, rfl, rfl, rfl, rfl, rfl, rfl, rfl, rfl, rfl, rfl, rfl, rfl, rfl, rfl, rfl, rfl, rfl, rfl, rfl, rfl, rfl, rfl, rfl, rfl, rfl, rfl, trivial⟩ (by ((try dsimp only); repeat (first | exact Pick.nil | ((apply Pick.cons); (focus (repeat (first | exact Rem.here | apply Rem.there)); done)))))
 rintro ⟨⟨Bl, cl⟩, g34⟩
 dsimp only
 (apply tr_v tk; (conv => whnf); (repeat ((first | ((first | apply VStop.mk | apply VCall.stop); refine tr_region_lex (id := 19) (by kernel_rfl) [.rd, .cr, .cr, .cr, .rd, .rd, .cr, .cr, .cr, .rd, .rd, .rd, .cr, .cr, .cr, .rd, .rd, .rd, .rd, .rd, .rd, .rd, .rd, .rd, .rd, .rd, .cr, .cr, .cr, .rd, .rd, .rd, .cr, .cr, .cr, .rd, .rd, .rd, .cr, .cr, .cr, .rd, .rd, .rd, .cr, .cr, .cr, .rd, .rd, .rd, .rd, .rd, .rd, .rd, .rd, .cr, .rd, .rd] rfl (by kernel_rfl) ?_; apply ot_v tk) | apply VBr.f | (apply v_f; omega) | (apply VNew.mk; intro g hg)); (conv => whnf))); apply VCall.stop)
 refine ot_callT (X := SlX) (us := []) (vs := []) (fun x => .slice x.1 8 x.2) (fun x => []) (fun x => [.own (.slice x.1 8 x.2) 2 1 8 (i64s [0, 0, 20, 0, 0, 0, 0, 0])]) _ (fun x c hc => one_mut hc) (by decide) rfl rfl rfl rfl (by kernel_rfl) (evl_of rfl) rfl (fun w1 hs => z_zs hs (by (repeat (first | exact List.Mem.head _ | assumption | refine List.Mem.tail _ ?_)))) ?_
 rintro ⟨Bzs, czs⟩ _
 (dsimp only [List.cons_append, List.nil_append]; apply ot_v tk)
 ((conv => whnf); apply VCall.stop)
 refine ot_call_q rfl rfl rfl (by kernel_rfl) (evl_of rfl) (fun w1 hs => longsN (l := [0, 0, 20, 0, 0, 0, 0, 0]) (A1 := Bs) (c1 := cs) (A2 := Bzs) (c2 := czs) hs (by (repeat (first | exact List.Mem.head _ | assumption | refine List.Mem.tail _ ?_))) (by (repeat (first | exact List.Mem.head _ | assumption | refine List.Mem.tail _ ?_))) rfl (by decide)) ?_
 apply ot_v tk
 ((conv => whnf); (repeat ((first | apply VBr.t | (apply VNew.mk; intro g hg)); (conv => whnf))); apply VCall.stop)
 refine ot_callT (X := SlX) (us := []) (vs := []) (fun x => .slice x.1 8 x.2) (fun x => []) (fun x => [.own (.slice x.1 8 x.2) 2 1 8 (i64s [0, 0, 30, 0, 0, 0, 0, 0])]) _ (fun x c hc => one_mut hc) (by decide) rfl rfl rfl rfl (by kernel_rfl) (evl_of rfl) rfl (fun w1 hs => z_zt hs (by (repeat (first | exact List.Mem.head _ | assumption | refine List.Mem.tail _ ?_)))) ?_
 rintro ⟨Bzt, czt⟩ _
 (dsimp only [List.cons_append, List.nil_append]; apply ot_v tk)
 ((conv => whnf); (repeat (apply VBr.t; (conv => whnf))); apply VCall.stop)
 refine ot_call_q rfl rfl rfl (by kernel_rfl) (evl_of rfl) (fun w1 hs => longsN (l := [0, 0, 30, 0, 0, 0, 0, 0]) (A1 := Bt) (c1 := ct) (A2 := Bzt) (c2 := czt) hs (by (repeat (first | exact List.Mem.head _ | assumption | refine List.Mem.tail _ ?_))) (by (repeat (first | exact List.Mem.head _ | assumption | refine List.Mem.tail _ ?_))) rfl (by decide)) ?_
 apply ot_v tk
 ((conv => whnf); (repeat ((first | (apply VLdN.mk; (focus ((repeat (first | (with_reducible apply ldn_blk) | (with_reducible apply ldn_skip))); done)); exact rfl) | apply VBr.t | (apply VNew.mk; intro g hg)); (conv => whnf))); apply VCall.stop)
 refine ot_callT (X := SlX) (us := []) (vs := []) (fun x => .agg #[.slice x.1 4 x.2]) (fun x => []) (fun x => [.own (.slice x.1 4 x.2) 61 5 4 (lnC abL)]) _ (fun x c hc => one_mut hc) (by decide) rfl rfl rfl rfl (by kernel_rfl) (evl_of rfl) rfl (fun w1 hs => z_zm hs (by (repeat (first | exact List.Mem.head _ | assumption | refine List.Mem.tail _ ?_)))) ?_
 rintro ⟨Bzm, czm⟩ _
 (dsimp only [List.cons_append, List.nil_append]; apply ot_v tk)
 ((conv => whnf); (repeat (apply VBr.t; (conv => whnf))); apply VCall.stop)
 refine ot_call_q rfl rfl rfl (by kernel_rfl) (evl_of rfl) (fun w1 hs => sameN (l := abL) (A1 := Bm) (c1 := cm) (A2 := Bzm) (c2 := czm) hs (by (repeat (first | exact List.Mem.head _ | assumption | refine List.Mem.tail _ ?_))) (by (repeat (first | exact List.Mem.head _ | assumption | refine List.Mem.tail _ ?_))) rfl (by decide)) ?_
 apply ot_v tk
 ((conv => whnf); (repeat ((first | (apply VLdN.mk; (focus ((repeat (first | (with_reducible apply ldn_blk) | (with_reducible apply ldn_skip))); done)); exact rfl) | apply VBr.t | (apply v_t; omega) | (apply VNew.mk; intro g hg)); (conv => whnf))); apply VCall.stop)
 refine ot_callT (X := SlX) (us := []) (vs := []) (fun x => .agg #[.slice x.1 1 x.2]) (fun x => []) (fun x => [.own (.slice x.1 1 x.2) 61 5 1 (lnC onL)]) _ (fun x c hc => one_mut hc) (by decide) rfl rfl rfl rfl (by kernel_rfl) (evl_of rfl) rfl (fun w1 hs => z_zo hs (by (repeat (first | exact List.Mem.head _ | assumption | refine List.Mem.tail _ ?_)))) ?_
 rintro ⟨Bzo, czo⟩ _
 (dsimp only [List.cons_append, List.nil_append]; apply ot_v tk)
 ((conv => whnf); (repeat (apply VBr.t; (conv => whnf))); apply VCall.stop)
 refine ot_call_q rfl rfl rfl (by kernel_rfl) (evl_of rfl) (fun w1 hs => sameN (l := onL) (A1 := Bo) (c1 := co) (A2 := Bzo) (c2 := czo) hs (by (repeat (first | exact List.Mem.head _ | assumption | refine List.Mem.tail _ ?_))) (by (repeat (first | exact List.Mem.head _ | assumption | refine List.Mem.tail _ ?_))) rfl (by decide)) ?_
 apply ot_v tk
 ((conv => whnf); (repeat ((first | (apply VLdN.mk; (focus ((repeat (first | (with_reducible apply ldn_blk) | (with_reducible apply ldn_skip))); done)); exact rfl) | apply VBr.t | (apply VNew.mk; intro g hg)); (conv => whnf))); apply VCall.stop)
 refine ot_callT (X := SlX) (us := []) (vs := []) (fun x => .agg #[.slice x.1 2 x.2]) (fun x => []) (fun x => [.own (.slice x.1 2 x.2) 61 5 2 (lnC coL)]) _ (fun x c hc => one_mut hc) (by decide) rfl rfl rfl rfl (by kernel_rfl) (evl_of rfl) rfl (fun w1 hs => z_zp hs (by (repeat (first | exact List.Mem.head _ | assumption | refine List.Mem.tail _ ?_)))) ?_
 rintro ⟨Bzp, czp⟩ _
 (dsimp only [List.cons_append, List.nil_append]; apply ot_v tk)
 ((conv => whnf); (repeat (apply VBr.t; (conv => whnf))); apply VCall.stop)
 refine ot_call_q rfl rfl rfl (by kernel_rfl) (evl_of rfl) (fun w1 hs => sameN (l := coL) (A1 := Bp) (c1 := cp) (A2 := Bzp) (c2 := czp) hs (by (repeat (first | exact List.Mem.head _ | assumption | refine List.Mem.tail _ ?_))) (by (repeat (first | exact List.Mem.head _ | assumption | refine List.Mem.tail _ ?_))) rfl (by decide)) ?_
 apply ot_v tk
 ((conv => whnf); (repeat ((first | (apply VCall.q; kernel_rfl; (focus (intro w1 hs; first | with_reducible apply of_any _ _ _ w1))) | apply VBr.t | (apply VNew.mk; intro g hg)); (conv => whnf))); apply VCall.stop)
 refine ot_call_q rfl rfl rfl (by kernel_rfl) (evl_of rfl) (fun w1 hs => intsN (l := [4, 2, 3]) (A1 := Bu) (c1 := cu) (g := g) (t := 3) hs (by (repeat (first | exact List.Mem.head _ | assumption | refine List.Mem.tail _ ?_))) (by (repeat (first | exact List.Mem.head _ | assumption | refine List.Mem.tail _ ?_))) rfl (by decide)) ?_
 apply ot_v tk
 ((conv => whnf); (repeat ((first | (apply VLdN.mk; (focus ((repeat (first | (with_reducible apply ldn_blk) | (with_reducible apply ldn_skip))); done)); exact rfl) | apply VBr.t | (apply VNew.mk; intro g hg)); (conv => whnf))); apply VCall.stop)
 refine ot_callT (X := SlX) (us := []) (vs := []) (fun x => .agg #[.slice x.1 1 x.2]) (fun x => []) (fun x => [.own (.slice x.1 1 x.2) 61 5 1 (lnC siL)]) _ (fun x c hc => one_mut hc) (by decide) rfl rfl rfl rfl (by kernel_rfl) (evl_of rfl) rfl (fun w1 hs => z_zn hs (by (repeat (first | exact List.Mem.head _ | assumption | refine List.Mem.tail _ ?_)))) ?_
 rintro ⟨Bzn, czn⟩ _
 (dsimp only [List.cons_append, List.nil_append]; apply ot_v tk)
 ((conv => whnf); (repeat (apply VBr.t; (conv => whnf))); apply VCall.stop)
 refine ot_call_q rfl rfl rfl (by kernel_rfl) (evl_of rfl) (fun w1 hs => sameN (l := siL) (A1 := Bn) (c1 := cn) (A2 := Bzn) (c2 := czn) hs (by (repeat (first | exact List.Mem.head _ | assumption | refine List.Mem.tail _ ?_))) (by (repeat (first | exact List.Mem.head _ | assumption | refine List.Mem.tail _ ?_))) rfl (by decide)) ?_
 apply ot_v tk
 ((conv => whnf); (repeat ((first | ((first | apply VStop.mk | apply VCall.stop); (refine ot_strq true (decide_eq_true rfl) rfl rfl rfl rfl rfl ?_); apply ot_v tk) | (apply VLdN.mk; (focus ((repeat (first | (with_reducible apply ldn_blk) | (with_reducible apply ldn_skip))); done)); exact rfl) | apply VBr.t); (conv => whnf))); apply VCall.stop)
 refine ot_call_q rfl rfl rfl (by kernel_rfl) (evl_of rfl) (fun w1 hs => sameN (l := threeL) (A1 := Bl) (c1 := cl) (A2 := Ba) (c2 := ca) hs (by (repeat (first | exact List.Mem.head _ | assumption | refine List.Mem.tail _ ?_))) (by (repeat (first | exact List.Mem.head _ | assumption | refine List.Mem.tail _ ?_))) rfl (by decide)) ?_
 apply ot_v tk
 ((conv => whnf); (repeat (apply VBr.t; (conv => whnf))))
 ((apply VRet.mk); refine ret1 (by first | exact .inl rfl | exact .inr rfl) rfl (by exact rv_tmp rfl) ?_; exact fun w h => ⟨rfl, h.base⟩)
end Go.Proofs.YtojeeindlijgkaaGreatDoor
