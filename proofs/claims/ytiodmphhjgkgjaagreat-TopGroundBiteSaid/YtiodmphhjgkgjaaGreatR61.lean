/- steps: lemmas for the rows of this seat. No conditions. -/
import Derived.ChangeKeysEq
import Derived.Laws.StructEq
import Derived.Laws.Externs
import Derived.Test.YtiodmphhjgkgjaaGreatZK
set_option linter.all false
namespace Go.Proofs.YtiodmphhjgkgjaaGreat
open Go.RowKit
def s61x0 : TL := .nil
def h61x0 : List AO := []
def s61x1 : TL := .cons 1 (.l 0 0 5 none 0) (.cons 2 (.l 1 0 2 none 0) (.cons 21 (.i .i64 19) (.cons 19 (.i .i64 0) (.cons 17 (.i .i64 3) (.cons 15 (.i .i64 19) (.cons 13 (.i .i64 0) (.cons 11 (.i .i64 15) (.cons 8 (.i .i64 6) (.cons 5 (.i .i64 0) (.cons 18 (.p 2 0) (.cons 4 (.p 3 0) (.cons 3 (.p 4 0) (.cons 12 (.p 5 0) (.cons 0 (.b false) (.nil)))))))))))))))
def h61x1 : List AO := [.cs 69 [.i .i64 10, .i .i64 30, .i .i64 20, .i .i64 35, .i .i64 40, .i .i64 90, .i .i64 30, .i .i64 50, .i .i64 20, .i .i64 60] (some 2), .cs 69 [.i .i64 10, .i .i64 50, .i .i64 30, .i .i64 20] (some 2), .cs 44 [.i .i64 20, .i .i64 1] none, .cs 44 [.i .i64 85, .i .i64 2] none, .cs 44 [.i .i64 25, .i .i64 1] none, .cs 44 [.i .i64 85, .i .i64 2] none]
def s61x2 : TL := .cons 1 (.l 0 0 5 none 0) (.cons 37 (.i .i64 0) (.cons 35 (.i .i64 0) (.cons 33 (.i .i64 0) (.cons 31 (.i .i64 0) (.cons 29 (.i .i64 3) (.cons 27 (.i .i64 16) (.cons 25 (.i .i64 0) (.cons 23 (.i .i64 0) (.cons 21 (.i .i64 19) (.cons 19 (.i .i64 0) (.cons 17 (.i .i64 3) (.cons 15 (.i .i64 19) (.cons 13 (.i .i64 0) (.cons 11 (.i .i64 15) (.cons 8 (.i .i64 6) (.cons 5 (.i .i64 0) (.cons 22 (.l 1 0 5 (some 5) 0) (.cons 30 (.p 2 0) (.cons 32 (.p 3 0) (.cons 2 (.l 4 0 2 none 0) (.cons 36 (.l 5 0 1 none 0) (.cons 34 (.l 6 0 4 (some 4) 0) (.cons 18 (.p 7 0) (.cons 4 (.p 8 0) (.cons 24 (.p 9 0) (.cons 3 (.p 10 0) (.cons 12 (.p 11 0) (.cons 0 (.b false) (.nil)))))))))))))))))))))))))))))
def h61x2 : List AO := [.cs 69 [.i .i64 10, .i .i64 30, .i .i64 20, .i .i64 35, .i .i64 40, .i .i64 90, .i .i64 30, .i .i64 50, .i .i64 20, .i .i64 60] (some 2), .cs 2 [.i .i64 0, .i .i64 5, .i .i64 0, .i .i64 5, .i .i64 0] none, .cs 206 [.i .i64 10, .i .i64 50, .i .i64 15] none, .cs 206 [.i .i64 1, .i .i64 20, .i .i64 0] none, .cs 69 [.i .i64 10, .i .i64 50, .i .i64 30, .i .i64 20] (some 2), .cs 3 [.i .i64 4] (some 1), .cs 3 [.i .i64 0, .i .i64 1, .i .i64 3, .i .i64 2] none, .cs 44 [.i .i64 20, .i .i64 1] none, .cs 44 [.i .i64 85, .i .i64 2] none, .cs 44 [.i .i64 85, .i .i64 2] none, .cs 44 [.i .i64 25, .i .i64 1] none, .cs 44 [.i .i64 85, .i .i64 2] none]
theorem g61x2 : GoF Tryz.X 61 18 s61x2 h61x2 := go_end Tryz.hX Tryz.hV (n := 60) (by kernel_rfl)
theorem g61x1 : GoF Tryz.X 61 10 s61x1 h61x1 := go_cut Tryz.hX Tryz.hV (n := 60) (j := 18) (r := [0, 91, 431, 484, 1, 745, 574, 2, 3, 178, 4, 5]) (ts' := s61x2) (l' := h61x2) (by kernel_rfl) (by kernel_rfl) g61x2
theorem g61x0 : GoF Tryz.X 61 0 s61x0 h61x0 := go_cut Tryz.hX Tryz.hV (n := 60) (j := 10) (r := [10, 15, 521, 93, 92, 333]) (ts' := s61x1) (l' := h61x1) (by kernel_rfl) (by kernel_rfl) g61x1
theorem run61 (w : World) : Calls Tryz.prog 61 #[] w (TrueR w) := go_all Tryz.hX (by kernel_rfl) (by kernel_rfl) g61x0 w
end Go.Proofs.YtiodmphhjgkgjaaGreat
