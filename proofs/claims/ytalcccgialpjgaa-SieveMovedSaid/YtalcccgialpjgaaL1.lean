/- Numbers given, plainly: lemmas for the rows of this seat. No conditions. -/
import Derived.Test.YtalcccgialpjgaaM3
import Derived.Test.YtalcccgialpjgaaN28
import Derived.Test.YtalcccgialpjgaaL0
set_option linter.all false
namespace Go.Proofs.Ytalcccgialpjgaa
open Go.RowKit
/-! ## Numbers given, plainly -/
section
variable {R C : List R2} {X : List (List R2)}
/-! ### Numbers given -/
theorem nAt_givL {m n : Nat} {by_ : List Int} {i k : Nat} (hi : i < n) (hk : k < m) : nAt (givL m X by_ n) i k = givN m X by_ i k := by
 unfold nAt givL
 rw [map_range_at _ hi]
 show (givR m X by_ i m)[k]?.getD 0 = _
 unfold givR
 rw [map_range_at _ hk]; rfl
theorem givL_len (m n : Nat) (by_ : List Int) : (givL m X by_ n).length = n := map_range_len _ n
theorem givL_rows {m n : Nat} {by_ : List Int} : ∀ s ∈ givL m X by_ n, s.length = m := fun s hs => by
 unfold givL at hs
 obtain ⟨a, _, rfl⟩ := List.mem_map.1 hs
 exact map_range_len _ _
theorem giv_in (hV : Valid R C X) (by_ : List Int) : ∀ i k, i < R.length → k < C.length → (xAt X i k).1 ≤ nAt (givL C.length X by_ R.length) i k ∧ nAt (givL C.length X by_ R.length) i k ≤ (xAt X i k).2 := fun i k hi hk => by
 rw [nAt_givL hi hk]
 have := hV.rX hi hk
 unfold givN
 have h1 := Int.emod_nonneg (gvB by_ (i * C.length + k)) (show (xAt X i k).2 - (xAt X i k).1 + 1 ≠ 0 by omega)
 have h2 := Int.emod_lt_of_pos (gvB by_ (i * C.length + k)) (show 0 < (xAt X i k).2 - (xAt X i k).1 + 1 by omega)
 omega
end
/-! ## Cells of what a law has made -/
theorem sb {α : Type} {A B : List α} (h : A.Sublist B := by ((repeat refine List.Sublist.cons _ ?_); first | exact List.Sublist.refl _ | exact List.sublist_append_left _ _ | exact List.Sublist.trans (List.sublist_append_left _ _) (List.sublist_append_left _ _) | exact List.Sublist.trans (List.sublist_append_left _ _) (List.Sublist.trans (List.sublist_append_left _ _) (List.sublist_append_left _ _)))) : A.Sublist B := h
section
variable (RA : Option Addr) (rc : Nat) (CA : Option Addr) (cc : Nat) (XA : Option Addr) (xc : Nat) (R C : List R2) (X : List (List R2)) (w : World) (hT : TabR w RA CA XA R C X)
include hT
theorem refCheck_numX (hV : Valid R C X) {L : List (List Int)} (hl : L.length = R.length) (hs : ∀ s ∈ L, s.length = C.length) {NA : Option Addr} {nc : Nat} (hN : NestR w 1 NA (nestI L)) {z : Int} (hz : chkTru R C X L = z) : Calls Try.prog 22 #[tabV RA rc CA cc XA xc R C X, .slice NA R.length nc] w fun e w' => e = .returned (.int .i64 z) ∧ Below w.heap.size w w' := by
 have hf := hV.fits hl hs
 have := refTruth_any RA rc CA cc XA xc R C X w hT NA nc L hN hV.fit hf.1 hf.2
 rw [hl, hz] at this
 exact this
end
section
variable (RA : Option Addr) (rc : Nat) (CA : Option Addr) (cc : Nat) (XA : Option Addr) (xc : Nat) (R C : List R2) (X : List (List R2)) (w : World) (hT : TabR w RA CA XA R C X)
include hT
theorem given_anyN (hV : Valid R C X) (BA : Option Addr) (bc : Nat) (by_ : List Int) (hby : Reads w w.heap.size 1 BA by_.length (by_.map (Value.int .u8))) (hb20 : by_.length ≤ 1000) (hb : ∀ z ∈ by_, 0 ≤ z ∧ z ≤ 255) :
  Calls Try.prog 44 #[tabV RA rc CA cc XA xc R C X, .slice BA by_.length bc] w fun e w' => ∃ x : NumX, e = .returned (.slice x.x.1 R.length x.x.2) ∧ x.xs.length = R.length ∧ St w ([] ++ numCh R.length (givL C.length X by_ R.length) x) w' := given_any RA rc CA cc XA xc R C X w hT hV BA bc by_ hby hb20 hb
end
theorem nestI_at {L : List (List Int)} {j : Nat} (h : j < L.length) : (nestI L)[j]'(by rw [nestI_len]; exact h) = (L[j].length, i64s L[j]) := by unfold nestI; rw [List.getElem_map]
theorem num_some {w0 w : World} {A : List Chunk} (hs : St w0 A w) {n m : Nat} {L : List (List Int)} (x : NumX) (hl : L.length = n) (hr : ∀ s ∈ L, s.length = m) (hx : x.xs.length = n) {i k : Nat} (hi : i < n) (hk : k < m) (h : ∀ {d : Chunk}, d ∈ numCh n L x → d ∈ A) :
  ∃ xb yb c, x.x.1 = some ⟨xb, 0, none⟩ ∧ ∃ vs row, .own (.slice (some ⟨xb, 0, none⟩) n x.x.2) 66 1 n vs ∈ numCh n L x ∧ vs[i]? = some (.slice (some ⟨yb, 0, none⟩) m c) ∧ .own (.slice (some ⟨yb, 0, none⟩) m c) 2 1 m row ∈ numCh n L x ∧ row[k]? = some (.int .i64 (nAt L i k)) := by
 subst hl
 have hiN : i < (nestI L).length := by rw [nestI_len]; exact hi
 have hxN : x.xs.length = (nestI L).length := by rw [nestI_len]; exact hx
 obtain ⟨xb, hxb⟩ := own_some hs (h (.head _)) (by omega)
 have h1 := nsCh_mem (e := 2) (sz := 1) hxN hiN
 have h2 := nsVs_get hxN hiN
 rw [nestI_at hi] at h1 h2
 have e1 := hr L[i] (List.getElem_mem hi)
 unfold nsC at h1
 unfold nsV at h2
 dsimp only at h1 h2
 rw [e1] at h1 h2
 obtain ⟨yb, hyb⟩ := own_some hs (h (.tail _ h1)) (by omega)
 rw [hyb] at h1 h2
 refine ⟨xb, yb, _, hxb, _, _, ?_, h2, .tail _ h1, ?_⟩
 ·rw [← hxb]; exact .head _
 ·unfold i64s nAt
  rw [List.getElem?_map, List.getElem?_eq_getElem hi, Option.getD_some, List.getElem?_eq_getElem (by omega)]; rfl
theorem tab_some {w0 w : World} {A : List Chunk} (hs : St w0 A w) {R C : List R2} {X : List (List R2)} {n m : Nat} (x : TabX) (hl : X.length = n) (hr : ∀ s ∈ X, s.length = m) (hx : x.xs.length = X.length) {i k : Nat} (hi : i < n) (hk : k < m) (h : ∀ {d : Chunk}, d ∈ tabCh R C X x → d ∈ A) :
  ∃ xb yb c, x.x.1 = some ⟨xb, 0, none⟩ ∧ ∃ vs row, .own (.slice (some ⟨xb, 0, none⟩) n x.x.2) 22 1 n vs ∈ tabCh R C X x ∧ vs[i]? = some (.slice (some ⟨yb, 0, none⟩) m c) ∧ .own (.slice (some ⟨yb, 0, none⟩) m c) 37 2 m row ∈ tabCh R C X x ∧ row[k * 2]? = some (.int .i64 (xAt X i k).1) ∧ row[k * 2 + 1]? = some (.int .i64 (xAt X i k).2) := by
 subst hl
 have hiN : i < (nestR X).length := by rw [nestR_length]; exact hi
 have hxN : x.xs.length = (nestR X).length := by rw [nestR_length]; exact hx
 have m0 : Chunk.own (.slice x.x.1 X.length x.x.2) 22 1 X.length (nsVs x.xs (nestR X)) ∈ tabCh R C X x := .tail _ (.tail _ (.head _))
 obtain ⟨xb, hxb⟩ := own_some hs (h m0) (by omega)
 have h1 := nsCh_mem (e := 37) (sz := 2) hxN hiN
 have h2 := nsVs_get hxN hiN
 rw [nestR_at hi] at h1 h2
 have e1 := hr X[i] (List.getElem_mem hi)
 unfold nsC at h1
 unfold nsV at h2
 dsimp only at h1 h2
 rw [e1] at h1 h2
 have m1 := (show _ ∈ tabCh R C X x from .tail _ (.tail _ (.tail _ h1)))
 obtain ⟨yb, hyb⟩ := own_some hs (h m1) (by omega)
 rw [hyb] at h2 m1
 have hg := fun j hj => rgC_get X[i] k (by omega) j hj
 have ex : rAt X[i] k = xAt X i k := by unfold xAt; rw [List.getElem?_eq_getElem hi]; rfl
 refine ⟨xb, yb, _, hxb, _, _, ?_, h2, m1, ?_, ?_⟩
 ·rw [← hxb]; exact m0
 ·have := hg 0 (by decide)
  rw [ex] at this
  exact this
 ·have := hg 1 (by decide)
  rw [ex] at this
  exact this
theorem tab_rows {w0 w : World} {A : List Chunk} (hs : St w0 A w) {R C : List R2} {X : List (List R2)} (x : TabX) {i k : Nat} (hi : i < R.length) (hk : k < C.length) (h : ∀ {d : Chunk}, d ∈ tabCh R C X x → d ∈ A) :
  (∃ rb, x.r.1 = some ⟨rb, 0, none⟩) ∧ ∃ cb, x.c.1 = some ⟨cb, 0, none⟩ :=
 ⟨own_some hs (h (.head _)) (by omega), own_some hs (h (.tail _ (.head _))) (by omega)⟩
theorem rowC_get {l : List R2} {i : Nat} (hi : i < l.length) : (rgC l)[i * 2]? = some (.int .i64 (rAt l i).1) ∧ (rgC l)[i * 2 + 1]? = some (.int .i64 (rAt l i).2) :=
 ⟨rgC_get l i hi 0 (by decide), rgC_get l i hi 1 (by decide)⟩
/-- A byte, over a length. -/
theorem byte_mod (b n : Nat) (hn : 1 ≤ n) : ∃ i, i < n ∧ Int.tmod (b : Int) (n : Int) = (i : Int) := ⟨b % n, Nat.mod_lt _ (by omega), by rw [Int.tmod_eq_emod_of_nonneg (by omega)]; simp⟩
theorem byte_modI (b : Nat) {n : Int} (hn : 1 ≤ n) : ∃ t, 0 ≤ t ∧ t < n ∧ Int.tmod (b : Int) n = t := ⟨(b : Int) % n, Int.emod_nonneg _ (by omega), Int.emod_lt_of_pos _ (by omega), Int.tmod_eq_emod_of_nonneg (by omega)⟩
end Go.Proofs.Ytalcccgialpjgaa
