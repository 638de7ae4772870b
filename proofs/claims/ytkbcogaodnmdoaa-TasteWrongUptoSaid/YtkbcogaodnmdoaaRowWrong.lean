/- Proved: the law TasteWrong returns true for every input of bulk at most 1048576: what Wrong tells is what can be wrong. Conditions: none beside the statement's own bound. -/
import Derived.Test.YtkbcogaodnmdoaaRows
import Derived.Test.YtkbcogaodnmdoaaRow0
import Derived.Test.YtkbcogaodnmdoaaK11
import Derived.ProofKit
import Derived.Deep.SlicePairs
import Derived.Lib.SmallJoins
import Derived.SizedLaws
import Derived.OpenShut
import Derived.JoinedCond
set_option linter.all false
namespace Go.Proofs.Ytkbcogaodnmdoaa
open Go.RowKit
/- Proved: the law TasteWrong returns true for every input of bulk at most 1048576: what Wrong tells is what can be wrong. Conditions: none beside the statement's own bound. -/
/-! ## What the bound gives -/
section
open Go.ChangeShapes Go.WideShapes Go.ChangeAt Go.RowKit Go.Deep Go.Joins
theorem bulk_one {H : Type} (d : DataW H) : 1 ≤ Rows.uptoBulk d := by
  cases d with
  | lit l => cases l <;> simp [Rows.uptoBulk]
  | nil => simp [Rows.uptoBulk]
  | ptr d => simp [Rows.uptoBulk]
  | slice elems spare => simp [Rows.uptoBulk]
  | agg parts => simp [Rows.uptoBulk]
  | iface t d => simp [Rows.uptoBulk]
  | map entries => simp [Rows.uptoBulk]
  | held h => simp [Rows.uptoBulk]
theorem bulk_append {H : Type} (l r : List (DataW H)) : Rows.uptoBulkAll (l ++ r) = Rows.uptoBulkAll l + Rows.uptoBulkAll r := by
  induction l with
  | nil => simp [Rows.uptoBulkAll]
  | cons x l ih => simp only [List.cons_append, Rows.uptoBulkAll, ih]; omega
theorem bulk_range {H : Type} (D : Nat → DataW H) (f : Nat → Nat) : ∀ n, (∀ i, i < n → f i ≤ Rows.uptoBulk (D i)) → ((List.range n).map f).sum ≤ Rows.uptoBulkAll ((List.range n).map D)
  | 0, _ => by simp
  | n + 1, h => by
    have := bulk_range D f n fun i hi => h i (by omega)
    have h1 := h n (by omega)
    rw [List.range_succ, List.map_append, List.map_append, bulk_append, List.sum_append]
    simp only [List.map_cons, List.map_nil, List.sum_cons, List.sum_nil, Rows.uptoBulkAll]
    omega
theorem sum_const (c : Nat) : ∀ n, ((List.range n).map fun _ => c).sum = n * c
  | 0 => by simp
  | n + 1 => by
    rw [List.range_succ, List.map_append, List.sum_append, sum_const c n]
    simp only [List.map_cons, List.map_nil, List.sum_cons, List.sum_nil]
    rw [Nat.add_mul]; omega
variable {H : Type} {enc : TypeId × Value → H} {P : Program} {W : World} {base : Nat} {spare : Nat → Bool} {held : Bool}
theorem taste_bulk {t : TypeId} {f0 f1 : Field} {fuel : Nat} {cs : List Value} {x : DataW H × List MemPlace} (ht : P.underlying t = some (.struct #[f0, f1])) (h : DataW.trod enc P W 0 (fun _ => true) true fuel t cs = some x) : 3 ≤ Rows.uptoBulk x.1 := by
  obtain ⟨y0, y1, n, rfl, _⟩ := trod_struct2 ht h
  have h0 := bulk_one y0.1
  have h1 := bulk_one y1.1
  simp only [Rows.uptoBulk, Rows.uptoBulkAll]
  omega
/-- A sitting, as the walks read it. -/
theorem sitting_in2 {t e : TypeId} {fuel : Nat} {v : Value} {x : DataW H × List MemPlace} (ht : P.underlying t = some (.slice e)) (ce : P.cellsOf e = 3) (hsd : ∀ {fuel cs x}, DataW.trod enc P W 0 (fun _ => true) true fuel e cs = some x → (∃ q : T3, cs = saidL q) ∧ 3 ≤ Rows.uptoBulk x.1)
    (h : DataW.trod enc P W 0 (fun _ => true) true fuel t [v] = some x) : ∃ (B : Option Addr) (c : Nat) (xs : List T3), v = .slice B xs.length c ∧ Reads W W.heap.size 3 B xs.length (saidCells xs) ∧ xs.length ≤ maxLen ∧ xs.length * 3 ≤ Rows.uptoBulk x.1 := by
  rcases open_slice ht h with ⟨hcs, _⟩ | ⟨a, len, cap, m, n, D, Pl, hcs, _, hl, hm, hmm, rfl, hx⟩
  · simp only [List.cons.injEq, and_true] at hcs
    subst hcs
    exact ⟨none, 0, [], rfl, ⟨rfl, fun h => absurd h (by decide)⟩, Nat.zero_le _, Nat.zero_le _⟩
  · simp only [List.cons.injEq, and_true] at hcs
    subst hcs
    have hlm : len ≤ m := by rw [hmm]; simp; omega
    have each : ∀ i, i < len → ∃ q : T3, ∀ j, j < 3 → W.cell? (a.add (i * 3 + j)) = (saidL q)[j]? := fun i hi => by
      obtain ⟨cs', h1, h2⟩ := hx i (by omega)
      rw [ce] at h1
      obtain ⟨_, hlen, hcell⟩ := World.cells?_some h1
      obtain ⟨⟨q, rfl⟩, _⟩ := hsd h2
      refine ⟨q, fun j hj => ?_⟩
      have := hcell j hj
      rwa [add_add] at this
    obtain ⟨q, hq⟩ := choose_lt each
    have hln : ((List.range len).map q).length = len := by simp
    have hbk := bulk_range D (fun _ => 3) len fun i hi => by
      obtain ⟨cs', _, h2⟩ := hx i (by omega)
      exact (hsd h2).2
    rw [sum_const] at hbk
    refine ⟨some a, cap, (List.range len).map q, by rw [hln], ⟨by rw [saidCells_length], fun hn => ?_⟩, by rw [hln]; omega, by rw [hln]; simp only [Rows.uptoBulk]; omega⟩
    rw [hln] at hn
    obtain ⟨b, off, spot⟩ := a
    have hc0 := hq 0 hn 0 (by decide)
    have hspot : spot = none := by simpa [Addr.add] using World.cell?_spot hc0
    subst hspot
    refine ⟨b, off, rfl, World.block_lt_of_cell? _ _ hc0, fun j u hu => ?_⟩
    have hjl := (List.getElem?_eq_some_iff.1 hu).1
    rw [saidCells_length, hln] at hjl
    have h3 := hq (j / 3) (by omega) (j % 3) (by omega)
    have h4 := saidCells_get ((List.range len).map q) (j / 3) (by rw [hln]; omega) (j % 3) (by omega)
    have e1 : j / 3 * 3 + j % 3 = j := by omega
    rw [e1] at h3 h4
    rw [getD_range _ _ _ (by omega), Option.getD_some, hu] at h4
    rw [Addr.add_none] at h3
    rw [h3, ← h4]
/-- Sittings, as the walks read them. -/
theorem nest_in2 {t e : TypeId} {fuel : Nat} {v : Value} {x : DataW H × List MemPlace} (ht : P.underlying t = some (.slice e)) (ce : P.cellsOf e = 1) (hst : ∀ {fuel v x}, DataW.trod enc P W 0 (fun _ => true) true fuel e [v] = some x → ∃ (B : Option Addr) (c : Nat) (xs : List T3), v = .slice B xs.length c ∧ Reads W W.heap.size 3 B xs.length (saidCells xs) ∧ xs.length ≤ maxLen ∧ xs.length * 3 ≤ Rows.uptoBulk x.1)
    (h : DataW.trod enc P W 0 (fun _ => true) true fuel t [v] = some x) : ∃ (A : Option Addr) (c : Nat) (S : List (List T3)), v = .slice A S.length c ∧ NestR W 3 A (nestOf S) ∧ (∀ s ∈ S, s.length ≤ maxLen) ∧ S.length ≤ maxLen ∧ S.length ≤ Rows.uptoBulk x.1 ∧ S.flatten.length * 3 ≤ Rows.uptoBulk x.1 := by
  rcases open_slice ht h with ⟨hcs, _⟩ | ⟨a, len, cap, m, n, D, Pl, hcs, _, hl, hm, hmm, rfl, hx⟩
  · simp only [List.cons.injEq, and_true] at hcs
    subst hcs
    exact ⟨none, 0, [], rfl, ⟨[], ⟨rfl, fun h => absurd h (by decide)⟩, fun i hi => absurd hi (by simp [nestOf])⟩, (fun s hs => by cases hs), Nat.zero_le _, Nat.zero_le _, Nat.zero_le _⟩
  · simp only [List.cons.injEq, and_true] at hcs
    subst hcs
    have hlm : len ≤ m := by rw [hmm]; simp; omega
    have each : ∀ i, i < len → ∃ q : Option Addr × Nat × List T3, W.cell? (a.add i) = some (.slice q.1 q.2.2.length q.2.1) ∧ Reads W W.heap.size 3 q.1 q.2.2.length (saidCells q.2.2) ∧ q.2.2.length ≤ maxLen ∧ q.2.2.length * 3 ≤ Rows.uptoBulk (D i) := fun i hi => by
      obtain ⟨cs', h1, h2⟩ := hx i (by omega)
      rw [ce] at h1
      obtain ⟨_, hlen, hcell⟩ := World.cells?_some h1
      match cs', hlen with
      | [u], _ =>
        obtain ⟨B, c, xs, rfl, h3, h4, h5⟩ := hst h2
        refine ⟨(B, c, xs), ?_, h3, h4, h5⟩
        have := hcell 0 (by decide)
        rw [add_add, Nat.mul_one, Nat.add_zero] at this
        exact this
    obtain ⟨q, hq⟩ := choose_lt each
    have hln : ((List.range len).map fun i => (q i).2.2).length = len := by simp
    have hlN : (nestOf ((List.range len).map fun i => (q i).2.2)).length = len := by simp [nestOf]
    refine ⟨some a, cap, (List.range len).map fun i => (q i).2.2, by rw [hln], ⟨(List.range len).map fun i => .slice (q i).1 (q i).2.2.length (q i).2.1, ⟨by rw [hlN]; simp, fun hn => ?_⟩, fun i hi => ?_⟩, fun s hs => ?_, by rw [hln]; omega, ?_, ?_⟩
    · rw [hlN] at hn
      obtain ⟨b, off, spot⟩ := a
      have hc0 := (hq 0 hn).1
      have hspot : spot = none := by simpa [Addr.add] using World.cell?_spot hc0
      subst hspot
      refine ⟨b, off, rfl, World.block_lt_of_cell? _ _ hc0, fun j u hu => ?_⟩
      have hjl := (List.getElem?_eq_some_iff.1 hu).1
      simp at hjl
      rw [getD_range _ _ _ hjl] at hu
      have := (hq j hjl).1
      rw [Addr.add_none] at this
      rw [this, hu]
    · rw [hlN] at hi
      have h1 := hq i hi
      refine ⟨(q i).1, (q i).2.1, ?_, ?_⟩
      · rw [getD_range _ _ _ hi]; simp [nestOf]
      · simpa [nestOf] using h1.2.1
    · obtain ⟨i, hi, rfl⟩ := List.mem_map.1 hs
      exact (hq i (List.mem_range.1 hi)).2.2.1
    · have hb1 := bulk_range D (fun _ => 1) len fun i _ => bulk_one _
      rw [sum_const] at hb1
      rw [hln]
      simp only [Rows.uptoBulk]
      omega
    · have hb3 := bulk_range D (fun i => (q i).2.2.length * 3) len fun i hi => (hq i hi).2.2.2
      have e : ∀ n, ((List.range n).map fun i => (q i).2.2.length * 3).sum = ((List.range n).map fun i => (q i).2.2).flatten.length * 3 := by
        intro n
        induction n with
        | zero => simp
        | succ n ih =>
          rw [List.range_succ, List.map_append, List.sum_append, ih, List.map_append, List.flatten_append, List.length_append]
          simp only [List.map_cons, List.map_nil, List.sum_cons, List.sum_nil, List.flatten_cons, List.flatten_nil, List.append_nil]
          omega
      rw [e] at hb3
      simp only [Rows.uptoBulk]
      omega
end
section
open Go.ChangeShapes Go.WideShapes Go.ChangeAt Go.RowKit Go.Deep Go.Joins
variable {H : Type} {enc : TypeId × Value → H} {W : World}
set_option maxRecDepth 100000 in
/-- A book, as the walks read it. -/
theorem book_in2 {base : Nat} {v : Value} {d : DataW H} {p : List MemPlace} (hv : Value.okWide Try.prog W .any base 26 v) (h : DataW.Trod enc Try.prog W 0 (fun _ => true) true 26 v d p) :
    ∃ (rlo rhi lots : Int) (A : Option Addr) (c : Nat) (S : List (List T3)), v = bookV rlo rhi lots A S.length c ∧ NestR W 3 A (nestOf S) ∧ (∀ s ∈ S, s.length ≤ maxLen) ∧ S.length ≤ maxLen ∧ S.length ≤ Rows.uptoBulk d ∧ S.flatten.length * 3 ≤ Rows.uptoBulk d := by
  obtain ⟨cs, rfl, hsz⟩ := okWide_struct Try.underlying26 hv
  obtain ⟨c0, c1, c2, c3, rfl⟩ : ∃ c0 c1 c2 c3, cs = #[c0, c1, c2, c3] := by
    have h4 : cs.size = 4 := hsz.trans (by kernel_rfl)
    obtain ⟨l⟩ := cs
    match l, h4 with
    | [a, b, c, d], _ => exact ⟨a, b, c, d, rfl⟩
  obtain ⟨fuel, hf⟩ := h
  obtain ⟨y0, y1, y2, n, hdx, _, h0, h1, h2⟩ := trod_struct3 Try.underlying26 hf
  have k23 : Try.prog.cellsOf 23 = 2 := by kernel_rfl
  have k3 : Try.prog.cellsOf 3 = 1 := by kernel_rfl
  have k2 : Try.prog.cellsOf 2 = 1 := by kernel_rfl
  have k24 : Try.prog.cellsOf 24 = 1 := by kernel_rfl
  simp [Value.cells, k23] at h0
  simp [Value.cells, k3] at h1
  simp [Value.cells, k24] at h2
  obtain ⟨z0, z1, m, _, _, g0, g1⟩ := trod_struct2 Try.underlying23 h0
  simp [k2] at g0 g1
  obtain ⟨a, e0, _, _⟩ := DataW.trod_int Try.underlying2 g0
  obtain ⟨b, e1, _, _⟩ := DataW.trod_int Try.underlying2 g1
  obtain ⟨l, e2, _, _⟩ := DataW.trod_int Try.underlying3 h1
  simp only [List.cons.injEq, and_true] at e0 e1 e2
  subst e0 e1 e2
  obtain ⟨A, c, S, rfl, hN, hm, hn, hb1, hb2⟩ := nest_in2 Try.underlying24 (by kernel_rfl) (fun h => sitting_in2 Try.underlying55 (by kernel_rfl) (fun h => ⟨said_in Try.underlying67 (by kernel_rfl) rfl rfl k3 k23 Try.underlying3 rfl Try.underlying23 rfl rfl k2 k2 Try.underlying2 Try.underlying2 h, taste_bulk Try.underlying67 h⟩) h) h2
  have hdd : Rows.uptoBulk y2.1 ≤ Rows.uptoBulk d := by
    have : d = .agg [y0.1, y1.1, y2.1] := congrArg Prod.fst hdx
    rw [this]
    simp only [Rows.uptoBulk, Rows.uptoBulkAll]
    omega
  exact ⟨a, b, l, A, c, S, rfl, hN, hm, hn, by omega, by omega⟩
end
open Go.ChangeShapes Go.WideShapes Go.ChangeAt Go.RowKit Go.Deep Go.Joins
set_option maxRecDepth 100000 in
theorem tasteWrong_contract (H : Type) (enc : TypeId × Value → H) (W : World) (base : Nat) (args : Array Value) (ds gs : List (DataW H)) (before : List MemPlace)
    (hval0 : ∀ (j : Nat) t v, Try.f17.params[j]? = some t → args[j]? = some v → Value.okWide Try.prog W .any base t v)
    (hW : DataW.Whole enc Try.prog Try.f17.params.toList Rows.tasteWrongSpec.vars false W args.toList ds gs before) (hk : Rows.uptoSmall H (ds ++ gs) = true) :
    Calls Try.prog 17 args W fun e W' => ∃ v, e = .returned v ∧ Rows.tasteWrongSpec.post enc Try.prog Try.f17 false true false false W args v W' := by
  have hval : ∀ (j : Nat) t v, Try.f17.params[j]? = some t → args[j]? = some v → Value.okWide Try.prog W .any base t v := hval0
  have hW' := hW
  obtain ⟨p, q, hA0, hV, rfl, _, _⟩ := hW
  have hA : DataW.TrodAll enc Try.prog W 0 (fun _ => true) true Try.f17.params.toList args.toList ds p := hA0
  rw [Try.params17] at hA hval
  obtain ⟨v0, v1, d0, d1, p0, p1, rfl, rfl, rfl, h0, h1⟩ := trodAll_two hA
  obtain ⟨rfl, rfl⟩ := trodVars_none hV
  have h0k := h0
  have h1k := h1
  clear hA0 hval0
  simp only [List.append_nil] at hW' hk
  have hlt : ∀ x ∈ p0 ++ p1, x.block < W.heap.size := fun x hx => hW'.lt x (by simpa using hx)
  obtain ⟨r0, q0, l0, A0, c0, S0, rfl, hN0, hm0, hn0, hb1, hb2⟩ := book_in2 (hval 0 26 v0 rfl rfl) h0
  obtain ⟨z1, rfl, rfl, rfl, w1⟩ := open_int Try.underlying5 (hval 1 5 v1 rfl rfl) h1
  have hbb : Rows.uptoBulkAll _ ≤ 1048576 := of_decide_eq_true hk
  simp only [Rows.uptoBulkAll] at hbb
  refine (tasteWrong_any r0 q0 l0 A0 c0 S0 W hN0 hm0 (by omega) (by omega) z1 (u8_in w1)).mono fun e W' ⟨he, hb⟩ => ?_
  subst he
  exact ⟨_, rfl, _, _, _, [], _, [], hW', trodAll_mk1 (shut_bool Try.underlying4 true), trodAll_mk2 (Below.trod Try.laidOut (by kernel_rfl) (of_decide_eq_true (by kernel_rfl)) h0k hb (fun x hx => hlt x (by simp [hx]))) (Below.trod Try.laidOut (by kernel_rfl) (of_decide_eq_true (by kernel_rfl)) h1k hb (fun x hx => absurd hx (by simp))), rfl, hb.frame _, fun h => by cases h⟩
set_option maxRecDepth 100000 in
theorem tasteWrong_lifted (os : Os) (started : os.Started) (H : Type) (enc : TypeId × Value → H) (F : Stop.Interp) :
    ReturnsInHanded {} Try.checked os 17 .any ((Rows.OpenSpec.upto Rows.tasteWrongSpec).pre6 enc Try.prog Try.f17 Rows.tasteWrongUptoRow.domain false) (((Rows.OpenSpec.upto Rows.tasteWrongSpec).at F).post enc Try.prog Try.f17 false true false false) := by
  refine returnsInHanded_of_cond (C := Try.checked) (s := Rows.OpenSpec.upto Rows.tasteWrongSpec) (k := Rows.uptoSmall) rfl Try.own started (by kernel_rfl) Try.func17
    (OpenSpec.witness (enc := enc) (C := Try.checked) (s := Rows.OpenSpec.upto Rows.tasteWrongSpec) (k := Rows.uptoSmall) rfl false ⟨#[], #[.agg #[.int .i64 0, .int .i64 0, .int .i64 0, .slice none 0 0], .int .u8 0], []⟩ 8 (by kernel_rfl) (by kernel_rfl) (by kernel_rfl)
      (x := ([.agg [.agg [.lit (.int .i64 0), .lit (.int .i64 0)], .lit (.int .i64 0), .nil], .lit (.int .u8 0)], [], [])) (by kernel_rfl) rfl (by kernel_rfl)) ?_
  intro W base args ds gs before hval hW _ hk _
  exact tasteWrong_contract H enc W base args ds gs before hval hW hk
theorem tasteWrong_holds : Rows.TasteWrongUptoSaid :=
  OpenClaim.holds_of_cond 17 Try.f17 rfl rfl rfl rfl rfl rfl rfl ⟨rfl, rfl, rfl, rfl, rfl⟩ rfl rfl rfl rfl rfl (by kernel_rfl) Try.func17 (by kernel_rfl)
    (of_decide_eq_true (by kernel_rfl)) (by unfold Func.isWrapper; first | (rw [if_pos (by decide +kernel)]; kernel_rfl) | (rw [if_neg (by decide +kernel)]; exact ⟨rfl, rfl⟩))
    (fun os started H enc _ F => tasteWrong_lifted os started H enc F)
end Go.Proofs.Ytkbcogaodnmdoaa
