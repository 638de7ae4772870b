/- Numbers as texts; the text of a line: lemmas for the rows of this seat. No conditions. -/
import Derived.Laws.StructEq
import Derived.Laws.IdiomStrings
import Derived.Laws.Strings2
import Derived.Laws.Strings3
import Derived.Lib.AppendStr
import Derived.Lib.Builder
import Derived.Lib.ItoaLen
import Derived.Test.YtojeeindlijgkaaGreatDoorLy
import Derived.Test.YtojeeindlijgkaaGreatDoorK19
set_option linter.all false
namespace Go.Proofs.YtojeeindlijgkaaGreatDoor
open Go.RowKit
/-! ## Numbers as texts; the text of a line -/
def T10 (w : World) : Prop := Go.Lib.TabIs Tryz.prog w "internal/strconv.uint64pow10" .u64 Go.Lib.pow10Tab
theorem tab_below {n : String} {k : IntKind} {zs : List Int} {w w' : World} (h : Go.Lib.TabIs Tryz.prog w n k zs) (hb : Below w.heap.size w w') : Go.Lib.TabIs Tryz.prog w' n k zs := by
 unfold Go.Lib.TabIs World.var? at h ⊢
 cases hg : Tryz.prog.globalNamed n with
 | none => rw [hg] at h; cases h
 | some g =>
  rw [hg] at h
  simp only [Option.bind_some] at h ⊢
  have hlt : g < w.heap.size := by
   rcases Nat.lt_or_ge g w.heap.size with h' | h'
   ·exact h'
   ·rw [Array.getElem?_eq_none h'] at h; cases h
  rw [hb.block g hlt]
  exact h
theorem T10.st {w w' : World} {A : List Chunk} (h : T10 w) (hs : St w A w') : T10 w' := tab_below h hs.base
theorem below_grow (w : World) (k : Nat) (os : Array Obj) : Below w.heap.size w (Go.Sort.grow (w.drewN k) os) where
 os := rfl
 tape := rfl
 output := rfl
 size := by show w.heap.size ≤ (w.heap ++ os).size; simp
 block := fun j hj => by
  show (w.heap ++ os)[j]? = w.heap[j]?
  rw [Array.getElem?_append_left hj]
theorem itoa_any (n : Int) (w : World) (hT : T10 w) (h0 : -9223372036854775808 ≤ n) (h1 : n ≤ 9223372036854775807) : Calls Tryz.prog 90 #[.int .i64 n] w fun e w' => e = .returned (.string (bs (Go.Lib.itoa n))) ∧ Below w.heap.size w w' :=
 (Tryz.strconv_Itoa n h0 h1 w hT).mono fun e w' ⟨he, k, os, hw⟩ => ⟨he, hw ▸ below_grow w k os⟩
theorem fmt_any (n : Int) (w : World) (hT : T10 w) (h0 : -9223372036854775808 ≤ n) (h1 : n ≤ 9223372036854775807) : Calls Tryz.prog 102 #[.int .i64 n, .int .i64 10] w fun e w' => e = .returned (.string (bs (Go.Lib.itoa n))) ∧ Below w.heap.size w w' :=
 (Tryz.strconv_FormatInt_10 n h0 h1 w hT).mono fun e w' ⟨he, k, os, hw⟩ => ⟨he, hw ▸ below_grow w k os⟩
def wordT (kd : Int) : List UInt8 := if kd = 2 then [115, 101, 116] else [97, 100, 100]
/-- A line without its sum. -/
def lineT (x : Ln) : List UInt8 := Go.Lib.itoa x.st ++ [32] ++ Go.Lib.itoa x.ck ++ [32] ++ wordT x.kd ++ [32] ++ Go.Lib.itoa x.th ++ [32] ++ Go.Lib.itoa x.vl
structure LnSm (x : Ln) : Prop where
 st : -1000000 ≤ x.st ∧ x.st ≤ 1000000
 ck : -1000000 ≤ x.ck ∧ x.ck ≤ 1000000
 th : -1000000 ≤ x.th ∧ x.th ≤ 1000000
 vl : -1000000 ≤ x.vl ∧ x.vl ≤ 1000000
theorem LnOk.sm {x : Ln} (h : LnOk x) : LnSm x := ⟨by have := h.st; omega, by have := h.ck; omega, by have := h.th; omega, by have := h.vl; omega⟩
theorem itoa_len {n : Int} (h : -1000000 ≤ n ∧ n ≤ 1000000) : (Go.Lib.itoa n).length ≤ 21 := Go.Lib.itoa_length_le n (by omega) (by omega)
theorem lineT_len {x : Ln} (h : LnSm x) : (lineT x).length ≤ 100 := by
 have h1 := itoa_len h.st
 have h2 := itoa_len h.ck
 have h3 := itoa_len h.th
 have h4 := itoa_len h.vl
 have h5 : (wordT x.kd).length ≤ 3 := by unfold wordT; split <;> simp
 unfold lineT
 simp only [List.length_append, List.length_cons, List.length_nil]
 omega
set_option maxHeartbeats 1000000 in
set_option maxRecDepth 20000 in
theorem refText_any (x : Ln) (hx : LnSm x) (w : World) (hT : T10 w) : Calls Tryz.prog 79 #[lnV x] w fun e w' => e = .returned (.string (bs (lineT x))) ∧ Below w.heap.size w w' := by
 obtain ⟨st, ck, kd, th, vl⟩ := x
 have h1 := itoa_len hx.st
 have h2 := itoa_len hx.ck
 have h3 := itoa_len hx.th
 have h4 := itoa_len hx.vl
 have k1 := fun w1 h => itoa_any st w1 h (by have := hx.st; dsimp only at this; omega) (by have := hx.st; dsimp only at this; omega)
 have k2 := fun w1 h => itoa_any ck w1 h (by have := hx.ck; dsimp only at this; omega) (by have := hx.ck; dsimp only at this; omega)
 have k3 := fun w1 h => itoa_any th w1 h (by have := hx.th; dsimp only at this; omega) (by have := hx.th; dsimp only at this; omega)
 have k4 := fun w1 h => fmt_any vl w1 h (by have := hx.vl; dsimp only at this; omega) (by have := hx.vl; dsimp only at this; omega)
 clear hx
 unfold lineT lnV wordT
 dsimp only at *
 generalize Go.Lib.itoa st = a1 at *
 generalize Go.Lib.itoa ck = a2 at *
 generalize Go.Lib.itoa th = a3 at *
 generalize Go.Lib.itoa vl = a4 at *
 by_cases e : kd = 2
 ·rw [if_pos e]
  refine fn_v tk (n := 28) (A := []) Tryz.func79 rfl rfl (Nat.le_of_ble_eq_true rfl) (St.nil (Below.refl _ _)) ?_
  ((conv => whnf); (repeat ((first | ((first | apply VStop.mk | apply VCall.stop); (first | refine tr_region_lex (id := 4) (by kernel_rfl) [.rd, .rd, .rd, .rd, .rd, .rd, .rd, .rd, .rd, .rd, .rd, .rd, .rd, .rd, .rd, .rd, .rd, .rd, .rd, .rd, .rd, .rd] rfl (by kernel_rfl) ?_ | (refine ot_sadd (by (try simp only [List.length_append, List.length_cons, List.length_nil]); omega) rfl rfl rfl rfl rfl ?_)); apply ot_v tk) | (apply VCall.q; kernel_rfl; (focus (intro w1 hs; first | with_reducible apply k1 w1 (hT.st hs) | with_reducible apply k2 w1 (hT.st hs) | with_reducible apply k3 w1 (hT.st hs) | with_reducible apply k4 w1 (hT.st hs)))) | (apply VLd.mk; (focus ((repeat (first | ((with_reducible apply ld_blk); exact rfl) | (with_reducible apply ld_skip))); done))) | apply VBr.t | (apply v_t; omega) | (apply VNew.mk; intro g hg)); (conv => whnf))))
  ((apply VRet.mk); refine ret1 (by first | exact .inl rfl | exact .inr rfl) rfl (by exact rv_tmp rfl) ?_; exact fun w h => ⟨rfl, h.base⟩)
 ·rw [if_neg e]
  refine fn_v tk (n := 28) (A := []) Tryz.func79 rfl rfl (Nat.le_of_ble_eq_true rfl) (St.nil (Below.refl _ _)) ?_
  ((conv => whnf); (repeat ((first | ((first | apply VStop.mk | apply VCall.stop); (first | refine tr_region_lex (id := 4) (by kernel_rfl) [.rd, .rd, .rd, .rd, .rd, .rd, .rd, .rd, .rd, .rd, .rd, .rd, .rd, .rd, .rd, .rd, .rd, .rd, .rd, .rd, .rd, .rd] rfl (by kernel_rfl) ?_ | (refine ot_sadd (by (try simp only [List.length_append, List.length_cons, List.length_nil]); omega) rfl rfl rfl rfl rfl ?_)); apply ot_v tk) | (apply VCall.q; kernel_rfl; (focus (intro w1 hs; first | with_reducible apply k1 w1 (hT.st hs) | with_reducible apply k2 w1 (hT.st hs) | with_reducible apply k3 w1 (hT.st hs) | with_reducible apply k4 w1 (hT.st hs)))) | (apply VLd.mk; (focus ((repeat (first | ((with_reducible apply ld_blk); exact rfl) | (with_reducible apply ld_skip))); done))) | apply VBr.f | (apply v_f; omega) | (apply VNew.mk; intro g hg)); (conv => whnf))))
  ((apply VRet.mk); refine ret1 (by first | exact .inl rfl | exact .inr rfl) rfl (by exact rv_tmp rfl) ?_; exact fun w h => ⟨rfl, h.base⟩)
theorem join5 (a b c d e : List UInt8) : Go.Lib.join [a, b, c, d, e] [32] = a ++ [32] ++ b ++ [32] ++ c ++ [32] ++ d ++ [32] ++ e := by
 simp [Go.Lib.join, List.intercalate, List.intersperse]
theorem join_mem {a b c d e : List UInt8} (hl : a.length + b.length + c.length + d.length + e.length ≤ 1000) {g t : Nat} {A : List Chunk} {w0 w : World} (hs : St w0 A w) (hm : Chunk.blk g t [.string (bs a), .string (bs b), .string (bs c), .string (bs d), .string (bs e)] ∈ A) :
  Calls Tryz.prog 105 #[.slice (some ⟨g, 0, none⟩) 5 5, .string (bs [32])] w fun e' w' => e' = .returned (.string (bs (a ++ [32] ++ b ++ [32] ++ c ++ [32] ++ d ++ [32] ++ e))) ∧ Below w.heap.size w w' := by
 have hb := (hs.all _ hm).2
 have hj : Go.Lib.join ([bs a, bs b, bs c, bs d, bs e].map (·.data.toList)) (bs [32]).data.toList = a ++ [32] ++ b ++ [32] ++ c ++ [32] ++ d ++ [32] ++ e := by
  simp only [List.map_cons, List.map_nil, bs_data]
  exact join5 a b c d e
 have := Tryz.strings_Join g 0 5 [bs a, bs b, bs c, bs d, bs e] (bs [32]) w (fun j x hx => by
  rw [Nat.zero_add]
  have hv : ([.string (bs a), .string (bs b), .string (bs c), .string (bs d), .string (bs e)] : List Value)[j]? = some (.string x) := by
   have := congrArg (Option.map Value.string) hx
   rw [← List.getElem?_map] at this
   exact this
  exact cell_blk hm hv w hs) hb.lt (by simp) (by simp) (by rw [hj]; simp only [List.length_append, List.length_cons, List.length_nil]; omega)
 rw [hj] at this
 exact this
set_option maxHeartbeats 1000000 in
set_option maxRecDepth 20000 in
theorem text88_any (x : Ln) (hx : LnSm x) (w : World) (hT : T10 w) : Calls Tryz.prog 88 #[lnV x] w fun e w' => e = .returned (.string (bs (lineT x))) ∧ Below w.heap.size w w' := by
 obtain ⟨st, ck, kd, th, vl⟩ := x
 have h1 := itoa_len hx.st
 have h2 := itoa_len hx.ck
 have h3 := itoa_len hx.th
 have h4 := itoa_len hx.vl
 have k1 := fun w1 h => itoa_any st w1 h (by have := hx.st; dsimp only at this; omega) (by have := hx.st; dsimp only at this; omega)
 have k2 := fun w1 h => itoa_any ck w1 h (by have := hx.ck; dsimp only at this; omega) (by have := hx.ck; dsimp only at this; omega)
 have k3 := fun w1 h => itoa_any th w1 h (by have := hx.th; dsimp only at this; omega) (by have := hx.th; dsimp only at this; omega)
 have k4 := fun w1 h => fmt_any vl w1 h (by have := hx.vl; dsimp only at this; omega) (by have := hx.vl; dsimp only at this; omega)
 clear hx
 unfold lineT lnV wordT
 dsimp only at *
 generalize Go.Lib.itoa st = a1 at *
 generalize Go.Lib.itoa ck = a2 at *
 generalize Go.Lib.itoa th = a3 at *
 generalize Go.Lib.itoa vl = a4 at *
 by_cases e : kd = 2
 ·rw [if_pos e]
  have kj := fun {g t : Nat} {A : List Chunk} {w0 w1 : World} (hs : St w0 A w1) hm => join_mem (a := a1) (b := a2) (c := [115, 101, 116]) (d := a3) (e := a4) (by simp; omega) (g := g) (t := t) hs hm
  refine fn_v tk (n := 22) (A := []) Tryz.func88 rfl rfl (Nat.le_of_ble_eq_true rfl) (St.nil (Below.refl _ _)) ?_
  ((conv => whnf); (repeat ((first | ((first | apply VStop.mk | apply VCall.stop); refine tr_region_lex (id := 4) (by kernel_rfl) [.rd, .rd, .rd, .rd, .rd, .rd, .rd, .rd, .rd, .rd, .rd, .rd, .rd, .cr, .rd, .rd] rfl (by kernel_rfl) ?_; apply ot_v tk) | (apply VCall.q; kernel_rfl; (focus (intro w1 hs; first | with_reducible apply k1 w1 (hT.st hs) | with_reducible apply k2 w1 (hT.st hs) | with_reducible apply k3 w1 (hT.st hs) | with_reducible apply k4 w1 (hT.st hs)))) | (apply VLd.mk; (focus ((repeat (first | ((with_reducible apply ld_blk); exact rfl) | (with_reducible apply ld_skip))); done))) | apply VBr.t | (apply v_t; omega) | (apply VNew.mk; intro g hg)); (conv => whnf))); apply VCall.stop)
  refine ot_call_q rfl rfl rfl (by kernel_rfl) (evl_of rfl) (fun w1 hs => kj hs (.head _)) ?_
  apply ot_v tk
  ((conv => whnf))
  ((apply VRet.mk); refine ret1 (by first | exact .inl rfl | exact .inr rfl) rfl (by exact rv_tmp rfl) ?_; exact fun w h => ⟨rfl, h.base⟩)
 ·rw [if_neg e]
  have kj := fun {g t : Nat} {A : List Chunk} {w0 w1 : World} (hs : St w0 A w1) hm => join_mem (a := a1) (b := a2) (c := [97, 100, 100]) (d := a3) (e := a4) (by simp; omega) (g := g) (t := t) hs hm
  refine fn_v tk (n := 22) (A := []) Tryz.func88 rfl rfl (Nat.le_of_ble_eq_true rfl) (St.nil (Below.refl _ _)) ?_
  ((conv => whnf); (repeat ((first | ((first | apply VStop.mk | apply VCall.stop); refine tr_region_lex (id := 4) (by kernel_rfl) [.rd, .rd, .rd, .rd, .rd, .rd, .rd, .rd, .rd, .rd, .rd, .rd, .rd, .cr, .rd, .rd] rfl (by kernel_rfl) ?_; apply ot_v tk) | (apply VCall.q; kernel_rfl; (focus (intro w1 hs; first | with_reducible apply k1 w1 (hT.st hs) | with_reducible apply k2 w1 (hT.st hs) | with_reducible apply k3 w1 (hT.st hs) | with_reducible apply k4 w1 (hT.st hs)))) | (apply VLd.mk; (focus ((repeat (first | ((with_reducible apply ld_blk); exact rfl) | (with_reducible apply ld_skip))); done))) | apply VBr.f | (apply v_f; omega) | (apply VNew.mk; intro g hg)); (conv => whnf))); apply VCall.stop)
  refine ot_call_q rfl rfl rfl (by kernel_rfl) (evl_of rfl) (fun w1 hs => kj hs (.head _)) ?_
  apply ot_v tk
  ((conv => whnf))
  ((apply VRet.mk); refine ret1 (by first | exact .inl rfl | exact .inr rfl) rfl (by exact rv_tmp rfl) ?_; exact fun w h => ⟨rfl, h.base⟩)
/-! ## Five digits -/
def dig (k n : Nat) : UInt8 := UInt8.ofNat (48 + n / 10 ^ k % 10)
def f5 (n : Nat) : List UInt8 := [dig 4 n, dig 3 n, dig 2 n, dig 1 n, dig 0 n]
def pad5 (s : List UInt8) : List UInt8 := List.replicate (5 - s.length) 48 ++ s
theorem pad5_long {s : List UInt8} (h : 5 ≤ s.length) : pad5 s = s := by
 unfold pad5
 rw [show 5 - s.length = 0 by omega]; rfl
theorem pad5_cons {s : List UInt8} (h : s.length < 5) : pad5 (48 :: s) = pad5 s := by
 unfold pad5
 rw [show 5 - s.length = (5 - (48 :: s).length) + 1 by simp; omega, List.replicate_succ', List.append_assoc]; rfl
theorem dec_small {u : Nat} (h : u < 10) : Go.Lib.decDigits u = [UInt8.ofNat (48 + u)] := by rw [Go.Lib.decDigits, dif_pos h]
theorem dec_big {u : Nat} (h : ¬u < 10) : Go.Lib.decDigits u = Go.Lib.decDigits (u / 10) ++ [UInt8.ofNat (48 + u % 10)] := by rw [Go.Lib.decDigits, dif_neg h]
theorem dec_six {n : Nat} (h : n < 100000) : Go.Lib.decDigits (100000 + n) = 49 :: f5 n := by
 rw [dec_big (by omega), dec_big (by omega), dec_big (by omega), dec_big (by omega), dec_big (by omega), dec_small (by omega)]
 unfold f5 dig
 have e5 : (100000 + n) / 10 / 10 / 10 / 10 / 10 = 1 := by omega
 have e4 : (100000 + n) / 10 / 10 / 10 / 10 % 10 = n / 10 ^ 4 % 10 := by omega
 have e3 : (100000 + n) / 10 / 10 / 10 % 10 = n / 10 ^ 3 % 10 := by omega
 have e2 : (100000 + n) / 10 / 10 % 10 = n / 10 ^ 2 % 10 := by omega
 have e1 : (100000 + n) / 10 % 10 = n / 10 ^ 1 % 10 := by omega
 have e0 : (100000 + n) % 10 = n / 10 ^ 0 % 10 := by omega
 rw [e5, e4, e3, e2, e1, e0]
 rfl
theorem pad_dec {n : Nat} (h : n < 100000) : pad5 (Go.Lib.decDigits n) = f5 n := by
 unfold f5 dig
 by_cases h1 : n < 10
 ·have e4 : n / 10 ^ 4 % 10 = 0 := by omega
  have e3 : n / 10 ^ 3 % 10 = 0 := by omega
  have e2 : n / 10 ^ 2 % 10 = 0 := by omega
  have e1 : n / 10 ^ 1 % 10 = 0 := by omega
  have e0 : n / 10 ^ 0 % 10 = n := by omega
  rw [dec_small h1, e4, e3, e2, e1, e0]; rfl
 rw [dec_big h1]
 by_cases h2 : n / 10 < 10
 ·have e4 : n / 10 ^ 4 % 10 = 0 := by omega
  have e3 : n / 10 ^ 3 % 10 = 0 := by omega
  have e2 : n / 10 ^ 2 % 10 = 0 := by omega
  have e1 : n / 10 ^ 1 % 10 = n / 10 := by omega
  have e0 : n / 10 ^ 0 % 10 = n % 10 := by omega
  rw [dec_small h2, e4, e3, e2, e1, e0]; rfl
 rw [dec_big h2]
 by_cases h3 : n / 10 / 10 < 10
 ·have e4 : n / 10 ^ 4 % 10 = 0 := by omega
  have e3 : n / 10 ^ 3 % 10 = 0 := by omega
  have e2 : n / 10 ^ 2 % 10 = n / 10 / 10 := by omega
  have e1 : n / 10 ^ 1 % 10 = n / 10 % 10 := by omega
  have e0 : n / 10 ^ 0 % 10 = n % 10 := by omega
  rw [dec_small h3, e4, e3, e2, e1, e0]; rfl
 rw [dec_big h3]
 by_cases h4 : n / 10 / 10 / 10 < 10
 ·have e4 : n / 10 ^ 4 % 10 = 0 := by omega
  have e3 : n / 10 ^ 3 % 10 = n / 10 / 10 / 10 := by omega
  have e2 : n / 10 ^ 2 % 10 = n / 10 / 10 % 10 := by omega
  have e1 : n / 10 ^ 1 % 10 = n / 10 % 10 := by omega
  have e0 : n / 10 ^ 0 % 10 = n % 10 := by omega
  rw [dec_small h4, e4, e3, e2, e1, e0]; rfl
 rw [dec_big h4, dec_small (show n / 10 / 10 / 10 / 10 < 10 by omega)]
 have e4 : n / 10 ^ 4 % 10 = n / 10 / 10 / 10 / 10 := by omega
 have e3 : n / 10 ^ 3 % 10 = n / 10 / 10 / 10 % 10 := by omega
 have e2 : n / 10 ^ 2 % 10 = n / 10 / 10 % 10 := by omega
 have e1 : n / 10 ^ 1 % 10 = n / 10 % 10 := by omega
 have e0 : n / 10 ^ 0 % 10 = n % 10 := by omega
 rw [e4, e3, e2, e1, e0]; rfl
theorem itoa_nat (n : Nat) : Go.Lib.itoa (n : Int) = Go.Lib.decDigits n := by unfold Go.Lib.itoa; rw [if_neg (by omega)]; rfl
set_option maxRecDepth 20000 in
theorem five_any (n : Nat) (hn : n < 100000) (w : World) (hT : T10 w) : Calls Tryz.prog 80 #[.int .i64 (n : Int)] w fun e w' => e = .returned (.string (bs (f5 n))) ∧ Below w.heap.size w w' := by
 have k1 := fun w1 h => itoa_any (n : Int) w1 h (by omega) (by omega)
 have hp := pad_dec hn
 rw [itoa_nat] at k1
 generalize Go.Lib.decDigits n = s0 at *
 rw [← hp]
 refine fn_v tk (n := 12) (A := []) Tryz.func80 rfl rfl (Nat.le_of_ble_eq_true rfl) (St.nil (Below.refl _ _)) ?_
 ((conv => whnf); (repeat ((apply VCall.q; kernel_rfl; (focus (intro w1 hs; first | with_reducible apply k1 w1 (hT.st hs)))); (conv => whnf))); apply VStop.mk)
 refine v_loop (fun gm ds ts A => ds = [] ∧ A = [] ∧ ∃ s : List UInt8, gm = 5 - s.length ∧ pad5 s = pad5 s0 ∧ ts = [(3, .string (bs s))]) (5 - s0.length) (l := [(3, _)]) (B := []) ?_ (List.nil_sublist _) ⟨rfl, rfl, s0, rfl, rfl, rfl⟩ ?_
 ·exact ⟨rfl, trivial⟩
 rintro gm ds ts A ⟨rfl, rfl, s, rfl, hs, rfl⟩
 by_cases hlt : s.length < 5
 ·(apply tr_v tk; (conv => whnf); (repeat ((first | (apply VStop.mk; (first | (refine ot_slen Tryz.underlying9 rfl rfl rfl rfl ?_) | (refine ot_sadd (l := [48]) (by simp only [List.length_cons, List.length_nil]; omega) rfl rfl rfl rfl rfl ?_)); apply ot_v tk) | apply VBr.t | (apply v_t; omega)); (conv => whnf))))
  exact v_rnd (5 - (48 :: s).length) (by simp; omega) (l := [(3, _)]) (B := []) ⟨rfl, trivial⟩ (List.nil_sublist _) ⟨rfl, rfl, 48 :: s, rfl, (pad5_cons hlt).trans hs, rfl⟩
 ·rw [← hs, pad5_long (by omega)]
  (apply tr_v tk; (conv => whnf); (repeat ((first | (apply VStop.mk; (refine ot_slen Tryz.underlying9 rfl rfl rfl rfl ?_); apply ot_v tk) | apply VBr.f | (apply v_f; omega)); (conv => whnf))))
  ((apply VRet.mk); refine ret1 (by first | exact .inl rfl | exact .inr rfl) rfl (by exact rv_tmp rfl) ?_; exact fun w h => ⟨rfl, h.base⟩)
theorem string_any (gb m c : Nat) (B : Option Addr) (p : Value) (l : List UInt8) (hp : p = .pointer none ∨ p = .pointer (some ⟨gb, 0, none⟩)) {A : List Chunk} {w0 w : World} (hs : St w0 A w) (h1 : Chunk.blk gb 120 [p, .slice B m c] ∈ A) (h2 : Chunk.own (.slice B m c) 5 1 m (byV l) ∈ A) :
  Calls Tryz.prog 92 #[.pointer (some ⟨gb, 0, none⟩)] w fun e w' => e = .returned (.string (bs l)) ∧ Below w0.heap.size w w' := by
 have a1 := hs.all _ h1
 have a2 : w.ownsRow w0.heap.size 5 1 (.slice B m c) m (byV l) := hs.all _ h2
 have hb : w.heap[gb]? = some (.cells #[p, .slice B m c] 120 (0, 0)) := a1.2
 have hm : (byV l).length = m := by have := a2.1; omega
 have hne : (Value.slice B m c).ownBlock ≠ some gb := by
  rcases a2.2 with ⟨e, _⟩ | ⟨g, cap, cur, e, _, hg, _⟩
  ·rw [e]; exact fun h => by cases h
  ·rw [e]
   intro h
   have hgg : g = gb := by simpa [Value.ownBlock] using h
   subst hgg
   rw [hb] at hg
   cases hg
 have hat : Go.Lib.BuilderAt 120 5 w0.heap.size gb p (byV l) w := ⟨a1.1, _, hb, by rw [hm]; exact a2, hne⟩
 refine Tryz.Builder_String_any w0.heap.size gb l w ?_ hs.base.size
 rcases hp with rfl | rfl
 ·exact .inl hat
 ·exact .inr hat
/-! ## The file of lines -/
def outT (n : Int) (x : Ln) : List UInt8 := lineT x ++ [32] ++ f5 (sumT n (lineT x)).toNat ++ [10]
def fileF (l : List Ln) : Int × List UInt8 := l.foldl (fun p x => (sumT p.1 (lineT x), p.2 ++ outT p.1 x)) (0, [])
theorem fileF_step {l : List Ln} {j : Nat} (h : j < l.length) : fileF (l.take (j + 1)) = (sumT (fileF (l.take j)).1 (lineT (lnAt l j)), (fileF (l.take j)).2 ++ outT (fileF (l.take j)).1 (lnAt l j)) := by
 unfold fileF
 rw [List.take_succ_eq_append_getElem h, List.foldl_append, lnAt_get h]; rfl
theorem fileF_bd (l : List Ln) : ∀ j, j ≤ l.length → 0 ≤ (fileF (l.take j)).1 ∧ (fileF (l.take j)).1 ≤ 65520
 | 0, _ => by simp [fileF]
 | j + 1, h => by
  rw [fileF_step (by omega)]
  exact sumT_bd _ _ (fileF_bd l j (by omega))
theorem outT_len (n : Int) {x : Ln} (hx : LnSm x) : (outT n x).length ≤ 107 := by
 have := lineT_len hx
 unfold outT
 simp [f5]
 omega
theorem fileF_len {l : List Ln} (hl : ∀ j, j < l.length → LnSm (lnAt l j)) : ∀ j, j ≤ l.length → (fileF (l.take j)).2.length ≤ 107 * j
 | 0, _ => by simp [fileF]
 | j + 1, h => by
  have ih := fileF_len hl j (by omega)
  have := outT_len (fileF (l.take j)).1 (hl j (by omega))
  rw [fileF_step (by omega), List.length_append]
  omega
set_option maxHeartbeats 1000000 in
set_option maxRecDepth 20000 in
theorem file74_any (B : Option Addr) (c : Nat) (l : List Ln) (w : World) (h : BookR w B l) (hl : ∀ j, j < l.length → LnSm (lnAt l j)) (hm : l.length ≤ 1000) (hT : T10 w) : Calls Tryz.prog 74 #[.slice B l.length c] w fun e w' => e = .returned (.string (bs (fileF l).2)) ∧ Below w.heap.size w w' := by
 refine fn_v tk (n := 32) (A := []) Tryz.func74 rfl rfl (Nat.le_of_ble_eq_true rfl) (St.nil (Below.refl _ _)) ?_
 ((conv => whnf); (repeat ((apply VNew.mk; intro g hg); (conv => whnf))); apply VStop.mk)
 revert g hg
 intro gb hgb
 refine tr_own_nil 5 1 ?_
 refine tr_perm (List.Perm.swap _ _ _) ?_
 refine v_loop (fun gm ds ts A => ds = [] ∧ ∃ (j : Nat) (p : Value) (Bx : Option Addr) (cx : Nat), j + gm = l.length ∧ (p = .pointer none ∨ p = .pointer (some ⟨gb, 0, none⟩)) ∧ A = [.blk gb 120 [p, .slice Bx (fileF (l.take j)).2.length cx], .own (.slice Bx (fileF (l.take j)).2.length cx) 5 1 (fileF (l.take j)).2.length (byV (fileF (l.take j)).2)] ∧ ts = [(3, .pointer (some ⟨gb, 0, none⟩)), (4, .int .i64 (fileF (l.take j)).1), (9, .slice B l.length c), (10, .int .i64 (l.length : Int)), (11, .int .i64 (j : Int))]) l.length (l := [(3, _), (4, _), (9, _), (10, _), (11, _)]) (B := _) ?_ (List.Sublist.refl _) ⟨rfl, 0, .pointer none, none, 0, by omega, .inl rfl, rfl, rfl⟩ ?_
 ·exact ⟨rfl, rfl, rfl, rfl, rfl, trivial⟩
 rintro gm ds ts A ⟨rfl, j, p, Bx, cx, hj, hp, rfl, rfl⟩
 by_cases hlt : j < l.length
 ·obtain ⟨b, o, rfl⟩ := book_addr h hlt
  have c1 := fun A => ln_cells h hlt A
  have hsm := hl j hlt
  have k1 := fun w1 h => text88_any (lnAt l j) hsm w1 h
  have hst := fileF_step hlt
  have hbd := fileF_bd l j (by omega)
  have hln := fileF_len hl j (by omega)
  have hll := lineT_len hsm
  have hol := outT_len (fileF (l.take j)).1 hsm
  unfold lnL at c1
  unfold lnV at k1
  unfold outT at hst hol
  generalize lnAt l j = x at *
  generalize lineT x = t at *
  generalize fileF (l.take j) = F at *
  obtain ⟨n, T⟩ := F
  dsimp only at *
  have k2 := fun w1 => sum89_any n t w1 hbd (by omega)
  have hsb := sumT_bd t n hbd
  generalize sumT n t = n' at *
  obtain ⟨N, rfl⟩ : ∃ N : Nat, n' = N := ⟨n'.toNat, by omega⟩
  have k3 := fun w1 h => itoa_any (100000 + (N : Int)) w1 h (by omega) (by omega)
  have hdr : Go.Lib.itoa (100000 + (N : Int)) = 49 :: f5 N := by rw [show (100000 : Int) + N = ((100000 + N : Nat) : Int) by omega, itoa_nat, dec_six (by omega)]
  rw [hdr] at k3
  rw [Int.toNat_natCast] at hst hol
  have hd5 : (f5 N).length = 5 := rfl
  generalize f5 N = d5 at *
  (apply tr_v tk; (conv => whnf); (repeat ((first | ((first | apply VStop.mk | apply VCall.stop); (first | (refine ot_sadd (by simp only [List.length_append, List.length_cons, List.length_nil, List.drop_succ_cons, List.drop_zero]; omega) rfl rfl rfl rfl rfl ?_) | (refine ot_sfrom (l := 49 :: d5) (i := 1) (by simp) Tryz.underlying9 rfl rfl rfl rfl rfl ?_)); apply ot_v tk) | (apply VLdN.mk; exact c1 _; exact rfl) | (apply VIx.mk (j := j); exact rfl; omega) | (apply VCall.q; kernel_rfl; (focus (intro w1 hs; first | with_reducible apply k1 w1 (hT.st hs) | with_reducible apply k2 w1 | with_reducible apply k3 w1 (hT.st hs)))) | (apply VLdN.mk; (focus ((repeat (first | (with_reducible apply ldn_blk) | (with_reducible apply ldn_skip))); done)); exact rfl) | (apply VRng.mk; omega) | apply VBr.t | (apply v_t; omega) | (apply VNew.mk; intro g hg) | (apply VSt.mk; (focus ((repeat (first | (with_reducible exact At.here) | (with_reducible apply At.there))); done)); exact rfl)); (conv => whnf))); apply VCall.stop)
  refine ot_callW (X := SlX) (us := []) (vs := []) (fun _ => .tuple #[.int .i64 ((t ++ [32] ++ d5 ++ [10] : List UInt8).length : Int), .nilIface]) (fun x' => .blk g 61 [.int .i64 x.st, .int .i64 x.ck, .int .i64 x.kd, .int .i64 x.th, .int .i64 x.vl] :: .blk gb 120 [.pointer (some ⟨gb, 0, none⟩), .slice x'.1 (T.length + (t ++ [32] ++ d5 ++ [10] : List UInt8).length) x'.2] :: .own (.slice x'.1 (T.length + (t ++ [32] ++ d5 ++ [10] : List UInt8).length) x'.2) 5 1 (T.length + (t ++ [32] ++ d5 ++ [10] : List UInt8).length) (byV T ++ byV (t ++ [32] ++ d5 ++ [10] : List UInt8)) :: []) (fun _ => True) rfl rfl rfl rfl rfl (by kernel_rfl) (evl_of rfl) rfl (fun w1 hs => write_any gb T.length cx Bx (byV T) p (t ++ [32] ++ d5 ++ [10] : List UInt8) hp (by omega) hs) (fun x' _ => ?_)
  apply ot_v tk
  ((conv => whnf); (repeat ((apply VRng.mk; omega); (conv => whnf))))
  have e1 : (T ++ (t ++ [32] ++ d5 ++ [10])).length = T.length + (t ++ [32] ++ d5 ++ [10]).length := List.length_append
  have e2 : byV (T ++ (t ++ [32] ++ d5 ++ [10])) = byV T ++ byV (t ++ [32] ++ d5 ++ [10]) := List.map_append
  exact v_rnd (gm - 1) (by omega) (l := [(3, _), (4, _), (9, _), (10, _), (11, _)]) (B := _) ⟨rfl, rfl, rfl, rfl, rfl, trivial⟩ (.cons _ (List.Sublist.refl _)) ⟨rfl, j + 1, .pointer (some ⟨gb, 0, none⟩), x'.1, x'.2, by omega, .inr rfl, by rw [hst]; dsimp only; rw [e1, e2], by rw [hst]; rfl⟩
 obtain rfl : j = l.length := by omega
 rw [List.take_length]
 (apply tr_v tk; (conv => whnf); (repeat ((first | apply VBr.f | (apply v_f; omega)); (conv => whnf))); apply VCall.stop)
 refine ot_callW (X := Unit) (us := []) (vs := []) (fun _ => .string (bs (fileF l).2)) (fun _ => []) (fun _ => True) rfl rfl rfl rfl rfl (by kernel_rfl) (evl_of rfl) rfl (fun w1 hs => (string_any gb _ cx Bx p (fileF l).2 hp hs (.head _) (.tail _ (.head _))).mono fun e w' hr => ⟨(), hr.1, trivial, St.nil (hs.base.trans hr.2)⟩) (fun _ _ => ?_)
 apply ot_v tk
 ((conv => whnf))
 ((apply VRet.mk); refine ret1 (by first | exact .inl rfl | exact .inr rfl) rfl (by exact rv_tmp rfl) ?_; exact fun w h => ⟨rfl, h.base⟩)
end Go.Proofs.YtojeeindlijgkaaGreatDoor
