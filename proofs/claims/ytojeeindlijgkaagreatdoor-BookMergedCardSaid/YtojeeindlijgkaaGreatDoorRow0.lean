/- What the rows condition gives, and a world that meets it: lemmas for the rows of this seat. No conditions. -/
import Derived.Test.YtojeeindlijgkaaGreatDoorRows
import Derived.Handed
import Derived.HandedShaped
import Derived.LaidMore
import Derived.LaidHandle
import Derived.MakeChecks
import Derived.Lib.LaidTab
import Derived.Stop.LaidErr
import Derived.ProofKit
import Derived.Lib.SmallJoins
import Derived.SizedLaws
import Derived.Deep.SlicePairs
import Derived.Test.YtojeeindlijgkaaGreatDoorK28
import Derived.Test.YtojeeindlijgkaaGreatDoorK30
set_option linter.all false
namespace Go.Proofs.YtojeeindlijgkaaGreatDoor
open Go.RowKit
/-! ## What the rows' condition gives, and a world that meets it -/
section
open Go.ChangeShapes Go.WideShapes Go.RowKit
variable {H : Type} {enc : TypeId × Value → H}
theorem handed_both {a : Assume} {C : Checked} {os : Os} {f : FuncId} {fn : Func} {s : ChangeSpec} {conds : List PathCond} {apart fresh handsOn again : Bool} {X : World → Array Value → Prop}
    (hX : ∀ (w w' : World) (args : Array Value), w.heap = w'.heap → X w args → X w' args)
    (own : ownKnob C.prog.godebug = none) (started : os.Started) (noInit : C.prog.inits.idxOf? f = none) (hfn : C.prog.funcs[f]? = some fn)
    (witness : ∃ (w : World) (tape : Tape) (i : Input), w.os = os ∧ (w.forCall tape i).Shaped C.prog ∧ i.vars = [] ∧ Input.okWide C.prog (w.forCall tape i) .any w.heap.size f i ∧
      ((s.pre enc C.prog fn conds apart (w.forCall tape i).memory i.args ∧ X (w.forCall tape i).memory i.args) ∧ sizedMet enc C.prog fn (OpenSpec.ofChange s) apart (w.forCall tape i).memory i.args) ∧ a.holds C.prog (lone (Frame.enter C.prog f i.args .normal) [] (w.forCall tape i)))
    (contract : ∀ (W : World) (base : Nat) (args : Array Value) (ds gs : List (DataW H)) (before : List MemPlace),
      (∀ (j : Nat) t v, fn.params[j]? = some t → args[j]? = some v → Value.okWide C.prog W .any base t v) →
      DataW.Whole enc C.prog fn.params.toList s.vars apart W args.toList ds gs before → X W args → W.ShapedOpen C.prog →
      Calls C.prog f args W fun e W' => ∃ v, e = .returned v ∧ s.post enc C.prog fn apart fresh handsOn again W args v W') :
    ReturnsInHanded a C os f .any (fun w args => (s.pre enc C.prog fn conds apart w args ∧ X w args) ∧ sizedMet enc C.prog fn (OpenSpec.ofChange s) apart w args) (s.post enc C.prog fn apart fresh handsOn again) := by
  refine returnsInHanded_of_calls own started noInit witness ?_
  intro w tape i _ hsh _ hok hpre _
  obtain ⟨_, _, _, fn', hfn', _, _, _, _, hval⟩ := hok
  have e : fn' = fn := Option.some.inj (hfn'.symm.trans hfn)
  subst e
  obtain ⟨⟨⟨ds, gs, before, hw, _⟩, hx⟩, _⟩ := hpre
  have hw' := DataW.Whole.of_heap (w' := w.forCall tape i) (by rfl) hw
  refine (contract (w.forCall tape i) w.heap.size i.args ds gs before hval hw' (hX _ _ _ (by rfl) hx) hsh).mono fun e W' ⟨v, he, hp⟩ => ?_
  subst he
  exact ChangeSpec.post_blind hp
end
def laidL : List (String × DataW Unit) := [("math/bits.deBruijn32tab", Rows.laid_math_bits_deBruijn32tab), ("math/bits.deBruijn64tab", Rows.laid_math_bits_deBruijn64tab), ("internal/strconv.uint64pow10", Rows.laid_internal_strconv_uint64pow10), ("unicode/utf8.acceptRanges", Rows.laid_unicode_utf8_acceptRanges), ("strconv.ErrRange", Rows.laid_strconv_ErrRange), ("strconv.ErrSyntax", Rows.laid_strconv_ErrSyntax), ("unicode/utf8.first", Rows.laid_unicode_utf8_first)]
theorem max_of {W : World} (h : W.ShapedOpen Tryz.prog) : MaxL W :=
  Go.Proofs.cell_of_shapedOpen_int (zero := #[.int .i64 0]) (t := 3) h (of_decide_eq_true (by kernel_rfl)) (by kernel_rfl) rfl (by kernel_rfl) (by kernel_rfl) Tryz.underlying3
theorem Tryz.own : ownKnob Tryz.prog.godebug = none := by kernel_rfl
theorem Tryz.laidOut : laidOutB Tryz.prog = true := by kernel_rfl
set_option maxRecDepth 100000 in
theorem t10_of {W : World} (h : laidMet Tryz.prog laidL W) : T10 W :=
  Go.Lib.tabIs_of_head (g := 1) (t := 172) (n := 20) (by kernel_rfl) (by kernel_rfl) Tryz.underlying172 Tryz.underlying12 (by kernel_rfl) (by kernel_rfl) h.tail.tail
theorem err_of {n nm : String} {d : DataW Unit} {r : List (String × DataW Unit)} {W : World} {g : Nat} {ti : TypeId} {ms : Array (String × TypeId)} (h : laidMet Tryz.prog ((n, .iface nm d) :: r) W)
    (hg : Tryz.prog.globalNamed n = some g) (ht : (Tryz.prog.globals[g]?).map (·.type) = some ti) (hi : Tryz.prog.underlying ti = some (.interface ms)) : ∃ tp p, W.var? Tryz.prog n = some #[.iface tp p] := by
  obtain ⟨ps, ⟨g0, t0, cs0, f0, p0, q0, hg0, ht0, hv0, hd0, _, _⟩, _, _⟩ := h
  obtain rfl := Option.some.inj (hg.symm.trans hg0)
  obtain rfl := Option.some.inj (ht.symm.trans ht0)
  obtain ⟨l0⟩ := cs0
  obtain ⟨_, u, v, e, _, _⟩ := iface_of_trod hi hd0
  have e : l0 = [.iface u v] := e
  subst e
  exact ⟨u, v, hv0⟩
set_option maxRecDepth 100000 in
theorem lay_of {W : World} (h : laidMetH Tryz.prog laidL W) : LayE W := by
  rw [MakeChecks.laidMetH_plain _ _ _ (by kernel_rfl)] at h
  exact ⟨t10_of h, err_of (g := 4) (ti := 122) h.tail.tail.tail.tail.tail (by kernel_rfl) (by kernel_rfl) Tryz.underlying122, err_of (g := 5) (ti := 122) h.tail.tail.tail.tail (by kernel_rfl) (by kernel_rfl) Tryz.underlying122⟩
/-- A world that meets the condition: the heap that the door leaves, and the pinned table. -/
noncomputable def laidW (os : Os) : World :=
  let w0 := World.doorLaid Tryz.prog 400 os
  { w0 with heap := w0.heap.modify 2 fun
      | .cells _ t frozen => .cells (List.map (fun z : Nat => Value.int .u8 (z : Int)) Go.Pinned.utf8FirstZ).toArray t frozen
      | o => o }
set_option maxRecDepth 100000 in
theorem laidW_met (os : Os) (args : Array Value) : laidMetH Tryz.prog laidL ((laidW os).forCall (fun _ _ => 0) ⟨#[], args, []⟩).memory :=
  laidMetH_of_parts3 (fuel := 8) (laidMet_of_run' 8 (by kernel_rfl) (by kernel_rfl)) (by kernel_rfl) (by kernel_rfl)
set_option maxRecDepth 100000 in
theorem laidW_shaped (os : Os) (args : Array Value) : ((laidW os).forCall (fun _ _ => 0) ⟨#[], args, []⟩).Shaped Tryz.prog := World.shaped_of_RefB (by kernel_rfl) (by kernel_rfl)
/-! ## From an argument as data to what the walks read -/
section
open Go.ChangeShapes Go.WideShapes Go.ChangeAt Go.RowKit Go.Deep Go.Joins
variable {H : Type} {enc : TypeId × Value → H} {P : Program} {W : World} {base : Nat}
theorem getD_range {α : Type} (f : Nat → α) (n k : Nat) (hk : k < n) : ((List.range n).map f)[k]? = some (f k) := by
  rw [List.getElem?_map, List.getElem?_range hk]; rfl
/-- A line, in its cells. -/
theorem line_in {t : TypeId} {f0 f1 f2 f3 f4 : Field} {fuel : Nat} {cs : List Value} {x : DataW H × List MemPlace} (ht : P.underlying t = some (.struct #[f0, f1, f2, f3, f4])) (ce : P.cellsOf t = 5) (o0 : f0.offset = 0) (o1 : f1.offset = 1) (o2 : f2.offset = 2) (o3 : f3.offset = 3) (o4 : f4.offset = 4)
    (c0 : P.cellsOf f0.type = 1) (c1 : P.cellsOf f1.type = 1) (c2 : P.cellsOf f2.type = 1) (c3 : P.cellsOf f3.type = 1) (c4 : P.cellsOf f4.type = 1)
    (k0 : P.underlying f0.type = some (.int .i64)) (k1 : P.underlying f1.type = some (.int .i64)) (k2 : P.underlying f2.type = some (.int .i64)) (k3 : P.underlying f3.type = some (.int .i64)) (k4 : P.underlying f4.type = some (.int .i64))
    (h : DataW.trod enc P W 0 (fun _ => true) true fuel t cs = some x) : ∃ q : Ln, cs = lnL q := by
  obtain ⟨xs, n, _, rfl, hl, hlen, hf⟩ := DataW.trod_struct ht h
  rw [ce] at hl
  match xs, hlen, cs, hl with
  | [y0, y1, y2, y3, y4], _, [a, b, c, d, e], _ =>
    have h0 := hf 0 f0 rfl
    have h1 := hf 1 f1 rfl
    have h2 := hf 2 f2 rfl
    have h3 := hf 3 f3 rfl
    have h4 := hf 4 f4 rfl
    simp [o0, c0] at h0
    simp [o1, c1] at h1
    simp [o2, c2] at h2
    simp [o3, c3] at h3
    simp [o4, c4] at h4
    obtain ⟨q0, e0, _, _⟩ := DataW.trod_int k0 h0
    obtain ⟨q1, e1, _, _⟩ := DataW.trod_int k1 h1
    obtain ⟨q2, e2, _, _⟩ := DataW.trod_int k2 h2
    obtain ⟨q3, e3, _, _⟩ := DataW.trod_int k3 h3
    obtain ⟨q4, e4, _, _⟩ := DataW.trod_int k4 h4
    simp only [List.cons.injEq, and_true] at e0 e1 e2 e3 e4
    subst e0 e1 e2 e3 e4
    exact ⟨⟨q0, q1, q2, q3, q4⟩, rfl⟩
/-- Lines, as the walks read them. -/
theorem lines_in {t e : TypeId} {fuel : Nat} {v : Value} {x : DataW H × List MemPlace} (ht : P.underlying t = some (.slice e)) (ce : P.cellsOf e = 5) (hsd : ∀ {fuel cs x}, DataW.trod enc P W 0 (fun _ => true) true fuel e cs = some x → ∃ q : Ln, cs = lnL q)
    (h : DataW.trod enc P W 0 (fun _ => true) true fuel t [v] = some x) : ∃ (B : Option Addr) (c : Nat) (xs : List Ln), v = .slice B xs.length c ∧ BookR W B xs ∧ xs.length ≤ maxLen ∧ xs.length ≤ c := by
  rcases open_slice ht h with ⟨hcs, _⟩ | ⟨a, len, cap, m, n, D, Pl, hcs, _, hl, hm, hmm, _, hx⟩
  · simp only [List.cons.injEq, and_true] at hcs
    subst hcs
    exact ⟨none, 0, [], rfl, ⟨rfl, fun h => absurd h (by decide)⟩, Nat.zero_le _, Nat.zero_le _⟩
  · simp only [List.cons.injEq, and_true] at hcs
    subst hcs
    have hlm : len ≤ m := by rw [hmm]; simp; omega
    have each : ∀ i, i < len → ∃ q : Ln, ∀ j, j < 5 → W.cell? (a.add (i * 5 + j)) = (lnL q)[j]? := fun i hi => by
      obtain ⟨cs', h1, h2⟩ := hx i (by omega)
      rw [ce] at h1
      obtain ⟨_, hlen, hcell⟩ := World.cells?_some h1
      obtain ⟨q, rfl⟩ := hsd h2
      refine ⟨q, fun j hj => ?_⟩
      have := hcell j hj
      rwa [add_add] at this
    haveI : Inhabited Ln := ⟨⟨0, 0, 0, 0, 0⟩⟩
    obtain ⟨q, hq⟩ := choose_lt each
    have hln : ((List.range len).map q).length = len := by simp
    refine ⟨some a, cap, (List.range len).map q, by rw [hln], ⟨by rw [lnC_length], fun hn => ?_⟩, by rw [hln]; omega, by rw [hln]; omega⟩
    rw [hln] at hn
    obtain ⟨b, off, spot⟩ := a
    have hc0 := hq 0 hn 0 (by decide)
    have hspot : spot = none := by simpa [Addr.add] using World.cell?_spot hc0
    subst hspot
    refine ⟨b, off, rfl, World.block_lt_of_cell? _ _ hc0, fun j u hu => ?_⟩
    have hjl := (List.getElem?_eq_some_iff.1 hu).1
    rw [lnC_length, hln] at hjl
    have h3 := hq (j / 5) (by omega) (j % 5) (by omega)
    have h4 := lnC_get ((List.range len).map q) (j / 5) (by rw [hln]; omega) (j % 5) (by omega)
    have e1 : j / 5 * 5 + j % 5 = j := by omega
    rw [e1] at h3 h4
    rw [show lnAt ((List.range len).map q) (j / 5) = q (j / 5) by unfold lnAt; rw [getD_range _ _ _ (by omega)]; rfl, hu] at h4
    rw [Addr.add_none] at h3
    rw [h3, ← h4]
end
section
open Go.ChangeShapes Go.WideShapes Go.ChangeAt Go.RowKit Go.Deep Go.Joins
variable {H : Type} {enc : TypeId × Value → H} {W : World}
set_option maxRecDepth 100000 in
/-- A book, as the walks read it. -/
theorem book_in {base : Nat} {v : Value} {d : DataW H} {p : List MemPlace} (hv : Value.okWide Tryz.prog W .any base 24 v) (h : DataW.Trod enc Tryz.prog W 0 (fun _ => true) true 24 v d p) :
    ∃ (B : Option Addr) (c : Nat) (l : List Ln), v = .agg #[.slice B l.length c] ∧ BookR W B l ∧ l.length ≤ maxLen ∧ l.length ≤ c := by
  obtain ⟨cs, rfl, hsz⟩ := okWide_struct Tryz.underlying24 hv
  have k24 : Tryz.prog.cellsOf 24 = 1 := by kernel_rfl
  obtain ⟨c0, rfl⟩ : ∃ c0, cs = #[c0] := by
    obtain ⟨l⟩ := cs
    have hsz : l.length = 1 := hsz.trans k24
    match l, hsz with
    | [a], _ => exact ⟨a, rfl⟩
  obtain ⟨fuel, hf⟩ := h
  obtain ⟨y0, n, _, _, h0⟩ := trod_struct1 Tryz.underlying24 hf
  have k22 : Tryz.prog.cellsOf 22 = 1 := by kernel_rfl
  simp [Value.cells, k22] at h0
  have k61 : Tryz.prog.cellsOf 61 = 5 := by kernel_rfl
  have k3 : Tryz.prog.cellsOf 3 = 1 := by kernel_rfl
  have k2 : Tryz.prog.cellsOf 2 = 1 := by kernel_rfl
  obtain ⟨B, c, xs, rfl, h1, h2, h3⟩ := lines_in Tryz.underlying22 k61 (fun hh => line_in Tryz.underlying61 k61 rfl rfl rfl rfl rfl k3 k3 k3 k3 k2 Tryz.underlying3 Tryz.underlying3 Tryz.underlying3 Tryz.underlying3 Tryz.underlying2 hh) h0
  exact ⟨B, c, xs, rfl, h1, h2, h3⟩
end
section
open Go.ChangeShapes Go.WideShapes Go.ChangeAt Go.RowKit Go.Deep Go.Joins
variable {H : Type} {enc : TypeId × Value → H} {W : World}
set_option maxRecDepth 100000 in
/-- A list of numbers, as the walks read it. -/
theorem ints_in {base : Nat} {v : Value} {d : DataW H} {p : List MemPlace} (hv : Value.okWide Tryz.prog W .any base 40 v) (h : DataW.Trod enc Tryz.prog W 0 (fun _ => true) true 40 v d p) :
    ∃ (B : Option Addr) (c : Nat) (xs : List Int), v = .slice B xs.length c ∧ Reads W W.heap.size 1 B xs.length (i64s xs) ∧ xs.length ≤ maxLen := by
  obtain ⟨a0, len, cap, rfl⟩ := okWide_slice Tryz.underlying40 hv
  obtain ⟨fuel, hf⟩ := h
  have hc : Tryz.prog.cellsOf 3 = 1 := by kernel_rfl
  rcases open_ints Tryz.underlying40 Tryz.underlying3 hc hf with ⟨hcs, _⟩ | ⟨a, len', cap', zs, hcs, _, hl, hm, hz, _, hcell, hw⟩
  · cases hcs
    exact ⟨none, 0, [], rfl, Reads.none_, Nat.zero_le _⟩
  · cases hcs
    simp only [if_true] at hz
    have hlz : (zs.take len).length = len := by simp; omega
    refine ⟨some a, cap, zs.take len, by rw [hlz], ⟨by simp [i64s], fun hn => ?_⟩, by rw [hlz]; omega⟩
    have hn : 0 < zs.length := by simp at hn; omega
    obtain ⟨b, off, spot⟩ := a
    have hspot : spot = none := by simpa [Addr.add] using World.cell?_spot (hcell 0 hn)
    subst hspot
    refine ⟨b, off, rfl, World.block_lt_of_cell? _ _ (hcell 0 hn), fun j u hu => ?_⟩
    have hjl := (List.getElem?_eq_some_iff.1 hu).1
    simp only [i64s, List.length_map, List.length_take] at hjl
    have hc := hcell j (by omega)
    rw [Addr.add_none] at hc
    rw [hc]
    simp only [i64s, List.getElem?_map] at hu
    rw [List.getElem?_take_of_lt (by omega), List.getElem?_eq_getElem (by omega)] at hu
    simp only [Option.map_some, Option.some.injEq] at hu
    rw [← hu, List.getD_eq_getElem?_getD, List.getElem?_eq_getElem (by omega)]; rfl
end
theorem u8_nat {z : Int} (h : (Lit.int .u8 z).wf = true) : ∃ b : Nat, z = (b : Int) ∧ b < 256 := by
  have e1 : IntKind.u8.min = 0 := rfl
  have e2 : IntKind.u8.max = 255 := rfl
  have : 0 ≤ z ∧ z ≤ 255 := by simpa [Lit.wf, e1, e2] using h
  exact ⟨z.toNat, by omega, by omega⟩
theorem u16_nat {z : Int} (h : (Lit.int .u16 z).wf = true) : ∃ b : Nat, z = (b : Int) ∧ b < 65536 := by
  have e1 : IntKind.u16.min = 0 := rfl
  have e2 : IntKind.u16.max = 65535 := rfl
  have : 0 ≤ z ∧ z ≤ 65535 := by simpa [Lit.wf, e1, e2] using h
  exact ⟨z.toNat, by omega, by omega⟩
theorem u32_nat {z : Int} (h : (Lit.int .u32 z).wf = true) : ∃ b : Nat, z = (b : Int) ∧ b < 4294967296 := by
  have e1 : IntKind.u32.min = 0 := rfl
  have e2 : IntKind.u32.max = 4294967295 := rfl
  have : 0 ≤ z ∧ z ≤ 4294967295 := by simpa [Lit.wf, e1, e2] using h
  exact ⟨z.toNat, by omega, by omega⟩
section
open Go.ChangeShapes Go.RowKit
variable {H : Type} {enc : TypeId × Value → H} {P : Program} {w : World} {base : Nat} {spare : Nat → Bool} {held : Bool}
theorem trodAll_none0 {args : Array Value} {ds : List (DataW H)} {ps : List MemPlace} (h : DataW.TrodAll enc P w base spare held [] args.toList ds ps) : args = #[] ∧ ds = [] ∧ ps = [] := by
  obtain ⟨h1, h2, h3⟩ := trodAll_nil h
  exact ⟨by cases args; simp_all, h2, h3⟩
theorem trodAll_mk0 : DataW.TrodAll enc P w base spare held [] [] [] [] := rfl
end
end Go.Proofs.YtojeeindlijgkaaGreatDoor
