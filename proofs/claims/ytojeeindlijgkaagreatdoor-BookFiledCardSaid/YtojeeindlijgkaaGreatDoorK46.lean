/- A file is loaded as its book: lemmas for the rows of this seat. No conditions. -/
import Derived.Laws.StructEq
import Derived.Test.YtojeeindlijgkaaGreatDoorK40
set_option linter.all false
namespace Go.Proofs.YtojeeindlijgkaaGreatDoor
open Go.RowKit
/-! ## A file is loaded as its book -/
theorem load_file {l : List Ln} (hV : Valid l) (w : World) (hE : LayE w) (hM : MaxL w) : Calls Tryz.prog 40 #[.string (bs (fileF l).2)] w fun e w' => ∃ x : SlX, e = .returned (.tuple #[.agg #[.slice x.1 l.length x.2], .int .i64 0]) ∧ True ∧ St w ([] ++ [.own (.slice x.1 l.length x.2) 61 5 l.length (lnC l)]) w' := by
 obtain ⟨h1, h2⟩ := form_outs hV.rd
 have h2 : linesR (spl 10 [] (fileF l).2).dropLast = l := h2
 have hl := hV.file_len
 have := load_ok (fileF l).2 w (by omega) hE hM h1 (by rw [h2]) (by rw [h2]; exact chk_valid.2 hV)
 rw [h2] at this
 exact this
/-! ## The examples of BookKnown -/
def nineL : List Ln := [⟨999, 2, 2, 7, 1000⟩]
def nineT : List UInt8 := [57, 57, 57, 32, 50, 32, 115, 101, 116, 32, 55, 32, 49, 48, 48, 48, 32, 49, 49, 56, 48, 48, 10]
theorem vn : Valid nineL := chk_valid.1 (by decide)
theorem v0 : Valid [] := chk_valid.1 (by decide)
theorem itoa_three {a : Nat} (h1 : 100 ≤ a) (h : a < 1000) : Go.Lib.itoa (a : Int) = [dg (a / 10 / 10), dg (a / 10 % 10), dg (a % 10)] := by
 unfold Go.Lib.itoa
 rw [if_neg (by omega), Int.toNat_natCast, dec3 h1 h]
theorem itoa_four {a : Nat} (h1 : 1000 ≤ a) (h : a < 10000) : Go.Lib.itoa (a : Int) = [dg (a / 10 / 10 / 10), dg (a / 10 / 10 % 10), dg (a / 10 % 10), dg (a % 10)] := by
 unfold Go.Lib.itoa
 rw [if_neg (by omega), Int.toNat_natCast, dec4 h1 h]
theorem line9 : lineT ⟨999, 2, 2, 7, 1000⟩ = [57, 57, 57, 32, 50, 32, 115, 101, 116, 32, 55, 32, 49, 48, 48, 48] := by
 unfold lineT
 dsimp only
 rw [show (999 : Int) = ((999 : Nat) : Int) from rfl, show (2 : Int) = ((2 : Nat) : Int) from rfl, show (7 : Int) = ((7 : Nat) : Int) from rfl, show (1000 : Int) = ((1000 : Nat) : Int) from rfl, itoa_three (by decide) (by decide), itoa_dig (by decide), itoa_dig (by decide), itoa_four (by decide) (by decide)]
 rfl
theorem n_file : (fileF nineL).2 = nineT := by
 rw [fileF_eq]
 unfold nineL
 rw [outs, outs, outT, line9]
 decide
theorem a_at2 : fnC (stF 2 threeL) 8 = i64s [0, 0, 25, 0, 0, 0, 0, 0] := rfl
theorem a_at0 : fnC (stF 0 threeL) 8 = i64s [0, 0, 0, 0, 0, 0, 0, 0] := rfl
theorem aw_only : threeL.filter (partP wrongL false) = threeL := by decide
theorem a_seen : fnC (seenF threeL) 3 = i64s [4, 2, 0] := rfl
section
variable {A1 A2 A3 : Option Addr} {c1 c2 c3 : Nat} {A : List Chunk} {w0 w : World} (hs : St w0 A w)
include hs
theorem y_at2 (h : Chunk.own (.slice A1 3 c1) 61 5 3 (lnC threeL) ∈ A) : Calls Tryz.prog 19 #[.agg #[.slice A1 3 c1], .int .i64 2] w fun e w' => ∃ x : SlX, e = .returned (.tuple #[.slice x.1 8 x.2, .int .i64 0]) ∧ True ∧ St w ([] ++ [.own (.slice x.1 8 x.2) 2 1 8 (i64s [0, 0, 25, 0, 0, 0, 0, 0])]) w' := by
 rw [← a_at2]; exact at_ok A1 c1 threeL w (hs.own_rd h) (by decide) 2 va rfl
theorem y_at0 (h : Chunk.own (.slice A1 3 c1) 61 5 3 (lnC threeL) ∈ A) : Calls Tryz.prog 19 #[.agg #[.slice A1 3 c1], .int .i64 0] w fun e w' => ∃ x : SlX, e = .returned (.tuple #[.slice x.1 8 x.2, .int .i64 0]) ∧ True ∧ St w ([] ++ [.own (.slice x.1 8 x.2) 2 1 8 (i64s [0, 0, 0, 0, 0, 0, 0, 0])]) w' := by
 rw [← a_at0]; exact at_ok A1 c1 threeL w (hs.own_rd h) (by decide) 0 va rfl
theorem y_only (h1 : Chunk.own (.slice A1 3 c1) 61 5 3 (lnC threeL) ∈ A) (h2 : Chunk.own (.slice A2 1 c2) 61 5 1 (lnC wrongL) ∈ A) : Calls Tryz.prog 31 #[.agg #[.slice A1 3 c1], .agg #[.slice A2 1 c2]] w fun e w' => ∃ x : SlX, e = .returned (.tuple #[.agg #[.slice x.1 3 x.2], .int .i64 0]) ∧ True ∧ St w ([] ++ [.own (.slice x.1 3 x.2) 61 5 3 (lnC threeL)]) w' := by
 have := only_ok A1 c1 threeL A2 c2 wrongL w (hs.own_rd h1) (hs.own_rd h2) va vc
 rw [aw_only] at this
 exact this
theorem y_seen (h : Chunk.own (.slice A1 3 c1) 61 5 3 (lnC threeL) ∈ A) : Calls Tryz.prog 33 #[.agg #[.slice A1 3 c1]] w fun e w' => ∃ x : SlX, e = .returned (.tuple #[.slice x.1 3 x.2, .int .i64 0]) ∧ True ∧ St w ([] ++ [.own (.slice x.1 3 x.2) 3 1 3 (i64s [4, 2, 0])]) w' := by
 rw [← a_seen]; exact seen_ok A1 c1 threeL w (hs.own_rd h) va
theorem y_check (h : Chunk.own (.slice A1 3 c1) 61 5 3 (lnC threeL) ∈ A) : Calls Tryz.prog 21 #[.agg #[.slice A1 3 c1]] w fun e w' => e = .returned (.int .i64 0) ∧ Below w.heap.size w w' := by
 have := checkBook_any A1 c1 threeL w (hs.own_rd h) (by decide)
 rw [chk_valid.2 va] at this
 exact this
end
theorem reads_none (w : World) (sz : Nat) : Reads w w.heap.size sz none 0 [] := ⟨by simp, fun h => absurd h (by decide)⟩
theorem y_file (w : World) (hE : LayE w) : Calls Tryz.prog 38 #[.agg #[.slice none 0 0]] w fun e w' => e = .returned (.tuple #[.string (bs []), .int .i64 0]) ∧ Below w.heap.size w w' :=
 file_ok none 0 [] w (reads_none w 5) v0 hE.t10
theorem y_load (w : World) (hE : LayE w) (hM : MaxL w) : Calls Tryz.prog 40 #[.string (bs nineT)] w fun e w' => ∃ x : SlX, e = .returned (.tuple #[.agg #[.slice x.1 1 x.2], .int .i64 0]) ∧ True ∧ St w ([] ++ [.own (.slice x.1 1 x.2) 61 5 1 (lnC nineL)]) w' := by
 have := load_file vn w hE hM
 rw [n_file] at this
 exact this
theorem z_yt {g t : Nat} {A : List Chunk} {w0 w : World} (hs : St w0 A w) (hA : Chunk.blk g t (i64s [0, 0, 25]) ∈ A) : Calls Tryz.prog 49 #[.slice (some ⟨g, 0, none⟩) 3 3] w fun e w' => ∃ x : SlX, e = .returned (.slice x.1 8 x.2) ∧ True ∧ St w ([] ++ [.own (.slice x.1 8 x.2) 2 1 8 (i64s [0, 0, 25, 0, 0, 0, 0, 0])]) w' :=
 longsM [0, 0, 25] _ 3 rfl (by decide) rfl hs hA
theorem z_y0 {g t : Nat} {A : List Chunk} {w0 w : World} (hs : St w0 A w) (hA : Chunk.blk g t (i64s [0]) ∈ A) : Calls Tryz.prog 49 #[.slice (some ⟨g, 0, none⟩) 1 1] w fun e w' => ∃ x : SlX, e = .returned (.slice x.1 8 x.2) ∧ True ∧ St w ([] ++ [.own (.slice x.1 8 x.2) 2 1 8 (i64s [0, 0, 0, 0, 0, 0, 0, 0])]) w' :=
 longsM [0] _ 1 rfl (by decide) rfl hs hA
theorem z_yn {g t : Nat} {A : List Chunk} {w0 w : World} (hs : St w0 A w) (hA : Chunk.blk g t (i64s [999, 2, 2, 7, 1000]) ∈ A) : Calls Tryz.prog 51 #[.slice (some ⟨g, 0, none⟩) 5 5] w fun e w' => ∃ y : SlX, e = .returned (.agg #[.slice y.1 1 y.2]) ∧ True ∧ St w ([] ++ [.own (.slice y.1 1 y.2) 61 5 1 (lnC nineL)]) w' :=
 bookM [999, 2, 2, 7, 1000] _ 5 1 rfl rfl (by decide) rfl hs hA
end Go.Proofs.YtojeeindlijgkaaGreatDoor
