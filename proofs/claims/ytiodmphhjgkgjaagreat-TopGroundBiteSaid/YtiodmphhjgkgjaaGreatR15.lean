/- steps: lemmas for the rows of this seat. No conditions. -/
import Derived.ChangeKeysEq
import Derived.Laws.StructEq
import Derived.Laws.Externs
import Derived.Test.YtiodmphhjgkgjaaGreatZK
set_option linter.all false
namespace Go.Proofs.YtiodmphhjgkgjaaGreat
open Go.RowKit
def s15x0 : TL := .nil
def h15x0 : List AO := []
def s15x1 : TL := .cons 2 (.l 0 0 4 (some 4) 0) (.cons 1 (.l 1 0 7 (some 7) 0) (.cons 29 (.i .i64 0) (.cons 26 (.i .i64 0) (.cons 23 (.i .i64 5) (.cons 19 (.i .i64 0) (.cons 15 (.i .i64 2) (.cons 13 (.i .i64 0) (.cons 11 (.i .i64 15) (.cons 8 (.i .i64 21) (.cons 5 (.i .i64 0) (.cons 25 (.l 2 0 7 (some 7) 0) (.cons 28 (.l 3 0 7 (some 7) 0) (.cons 27 (.i .i64 3) (.cons 24 (.i .i64 1) (.cons 18 (.i .i64 3) (.cons 17 (.i .i64 2) (.cons 16 (.i .i64 1) (.cons 12 (.i .i64 2) (.cons 4 (.i .i64 3) (.cons 3 (.i .i64 1) (.cons 0 (.b false) (.nil))))))))))))))))))))))
def h15x1 : List AO := [.cs 2 [.i .i64 1, .i .i64 4, .i .i64 4, .i .i64 2] none, .cs 2 [.i .i64 2, .i .i64 5, .i .i64 3, .i .i64 8, .i .i64 6, .i .i64 7, .i .i64 1] none, .cs 2 [.i .i64 1, .i .i64 4, .i .i64 4, .i .i64 7, .i .i64 6, .i .i64 6, .i .i64 0] none, .cs 2 [.i .i64 2, .i .i64 3, .i .i64 3, .i .i64 8, .i .i64 6, .i .i64 6, .i .i64 1] none]
def s15x2 : TL := .cons 46 (.i .i64 0) (.cons 44 (.i .i64 5) (.cons 42 (.i .i64 3) (.cons 40 (.i .i64 0) (.cons 38 (.i .i64 3) (.cons 36 (.i .i64 0) (.cons 34 (.i .i64 0) (.cons 32 (.i .i64 0) (.cons 29 (.i .i64 0) (.cons 26 (.i .i64 0) (.cons 23 (.i .i64 5) (.cons 19 (.i .i64 0) (.cons 15 (.i .i64 2) (.cons 13 (.i .i64 0) (.cons 11 (.i .i64 15) (.cons 8 (.i .i64 21) (.cons 5 (.i .i64 0) (.cons 25 (.l 0 0 7 (some 7) 0) (.cons 1 (.l 1 0 7 (some 7) 0) (.cons 28 (.l 2 0 7 (some 7) 0) (.cons 45 (.i .i64 5) (.cons 39 (.i .i64 2) (.cons 35 (.l 3 0 2 none 0) (.cons 33 (.l 4 0 3 none 0) (.cons 30 (.i .i64 0) (.cons 27 (.i .i64 3) (.cons 24 (.i .i64 1) (.cons 18 (.i .i64 3) (.cons 17 (.i .i64 2) (.cons 16 (.i .i64 1) (.cons 12 (.i .i64 2) (.cons 4 (.i .i64 3) (.cons 3 (.i .i64 1) (.cons 0 (.b false) (.nil))))))))))))))))))))))))))))))))))
def h15x2 : List AO := [.cs 2 [.i .i64 1, .i .i64 4, .i .i64 4, .i .i64 7, .i .i64 6, .i .i64 6, .i .i64 0] none, .cs 2 [.i .i64 2, .i .i64 5, .i .i64 3, .i .i64 8, .i .i64 6, .i .i64 7, .i .i64 1] none, .cs 2 [.i .i64 2, .i .i64 3, .i .i64 3, .i .i64 8, .i .i64 6, .i .i64 6, .i .i64 1] none, .cs 3 [.i .i64 1, .i .i64 2] (some 1), .cs 3 [.i .i64 3, .i .i64 4, .i .i64 5] (some 1)]
theorem g15x2 : GoF Tryz.X 15 19 s15x2 h15x2 := go_end Tryz.hX Tryz.hV (n := 60) (by kernel_rfl)
theorem g15x1 : GoF Tryz.X 15 11 s15x1 h15x1 := go_cut Tryz.hX Tryz.hV (n := 60) (j := 19) (r := [2, 1, 3, 290, 277]) (ts' := s15x2) (l' := h15x2) (by kernel_rfl) (by kernel_rfl) g15x2
theorem g15x0 : GoF Tryz.X 15 0 s15x0 h15x0 := go_cut Tryz.hX Tryz.hV (n := 60) (j := 11) (r := [1, 0, 379, 1281]) (ts' := s15x1) (l' := h15x1) (by kernel_rfl) (by kernel_rfl) g15x1
theorem run15 (w : World) : Calls Tryz.prog 15 #[] w (TrueR w) := go_all Tryz.hX (by kernel_rfl) (by kernel_rfl) g15x0 w
end Go.Proofs.YtiodmphhjgkgjaaGreat
