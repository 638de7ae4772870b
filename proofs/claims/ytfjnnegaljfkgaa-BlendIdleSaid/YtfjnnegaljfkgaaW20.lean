/- Layer 3, blends: steps: lemmas for the rows of this seat. No conditions. -/
import Derived.Test.YtfjnnegaljfkgaaProg
import Derived.Test.YtfjnnegaljfkgaaBase
import Derived.Test.YtfjnnegaljfkgaaPlain
import Derived.Test.YtfjnnegaljfkgaaWA
import Derived.Test.YtfjnnegaljfkgaaSeg
import Derived.Test.YtfjnnegaljfkgaaKeys
import Derived.Deep.MidRow
set_option linter.all false
namespace Go.Proofs.Ytfjnnegaljfkgaa
open Go.RowKit
theorem w64 (n : Int) (h : -9223372036854775808 ≤ n ∧ n ≤ 9223372036854775807) : wrap64 n = n := by unfold wrap64; omega
/-- A corner, as a value. -/
def cornerV (c : Corner) : Value := .agg #[.int .i64 c.1, .int .i64 c.2.1, .int .i64 c.2.2]
set_option maxHeartbeats 1000000 in
theorem below_any (a b c : Corner) (ha : okCorner a) (hb : okCorner b) (hc : okCorner c) (w : World) :
    Calls Try.prog 84 #[cornerV a, cornerV b, cornerV c] w fun e w' => e = .returned (.bool (belowC a b c)) ∧ Below w.heap.size w w' := by
  obtain ⟨a1, a2, a3⟩ := a
  obtain ⟨b1, b2, b3⟩ := b
  obtain ⟨c1, c2, c3⟩ := c
  simp only [okCorner] at ha hb hc
  unfold cornerV belowC
  dsimp only
  go_enter Try.func84, Try.ntmps84
  go_wp2
  have bd : ∀ x y : Int, -1001 ≤ x → x ≤ 1001 → -100 ≤ y → y ≤ 100 → -100100 ≤ x * y ∧ x * y ≤ 100100 := by
    intro x y h1 h2 h3 h4
    have h5 : (x * y).natAbs ≤ 1001 * 100 := by
      rw [Int.natAbs_mul]
      exact Nat.mul_le_mul (by omega) (by omega)
    omega
  have e1 := bd (b2 - a2) (c1 - a1) (by omega) (by omega) (by omega) (by omega)
  have e2 := bd (c2 - a2) (b1 - a1) (by omega) (by omega) (by omega) (by omega)
  rw [w64 ((b2 - a2) * (c1 - a1)) (by omega), w64 ((c2 - a2) * (b1 - a1)) (by omega)]
  clear bd e1 e2
  exact bodyPost_ret (by simp [results, Try.results84, go_sem]) rfl ⟨rfl, (((Below.refl _ _).alloc (by simp) _).alloc (by simp) _).alloc (by simp; omega) _⟩
/-- The first index of each lot, as the map's entries. -/
def entries (F : List ((Int × Int) × Nat)) : List ((Int × Int) × Value) := F.map (fun p => (p.1, .int .i64 p.2))
theorem entries_look (F : List ((Int × Int) × Nat)) (l : Int × Int) : (lookL (entries F) l).getD (.int .i64 0) = .int .i64 (firstIn F l) ∧ (lookL (entries F) l).isSome = F.any (fun p => decide (p.1 = l)) := by
  induction F with
  | nil => exact ⟨rfl, rfl⟩
  | cons p F ih =>
    unfold lookL entries firstIn at *
    simp only [List.map_cons, List.find?_cons, List.any_cons]
    cases h : decide (p.1 = l)
    · simpa using ih
    · simp
theorem entries_any (F : List ((Int × Int) × Nat)) (l : Int × Int) : (entries F).any (fun p => decide (p.1 = l)) = F.any (fun p => decide (p.1 = l)) := by
  simp [entries, List.any_map, Function.comp_def]
theorem entries_kept (xs : List (Int × Int)) (k : Nat) (h : (firstUpto xs k).any (fun p => decide (p.1 = lotAt xs k)) = true) : firstUpto xs (k + 1) = firstUpto xs k := by
  simp only [firstUpto, h, if_true]
theorem entries_put (xs : List (Int × Int)) (k : Nat) (h : (firstUpto xs k).any (fun p => decide (p.1 = lotAt xs k)) = false) : entries (firstUpto xs (k + 1)) = putL (entries (firstUpto xs k)) (lotAt xs k) (.int .i64 k) := by
  unfold putL
  rw [entries_any, h]
  simp only [firstUpto, h, entries]
  simp
theorem Blk.range {w : World} {g : Nat} {v c : Value} {L : List Int} {t : TypeId} (h : Blk w g t (shelfCells v L c)) : w.rangeAt g 1 (i64s L) := by
  intro j u hu
  rw [h.cell (1 + j), ← hu]
  have hj : j < (i64s L).length := by
    rcases Nat.lt_or_ge j (i64s L).length with hlt | hge
    · exact hlt
    · rw [List.getElem?_eq_none hge] at hu; cases hu
  rw [Nat.add_comm]
  simp [shelfCells, List.getElem?_append, hj]
theorem Reads.triple {w : World} {B n : Nat} {A : Option Addr} {l : List Corner} (h : Reads w B 3 A n (tripleCells l)) {k : Nat} (hk : k < n) :
    ∃ b o, A = some ⟨b, o, none⟩ ∧ b < B ∧ w.cell? ⟨b, o + k * 3, none⟩ = some (.int .i64 (l[k]?.getD (0, 0, 0)).1) ∧ w.cell? ⟨b, o + k * 3 + 1, none⟩ = some (.int .i64 (l[k]?.getD (0, 0, 0)).2.1) ∧ w.cell? ⟨b, o + k * 3 + 2, none⟩ = some (.int .i64 (l[k]?.getD (0, 0, 0)).2.2) := by
  obtain ⟨b, o, e, hb, hc⟩ := h.2 (by omega)
  have hl : l.length = n := by have := h.1; rw [tripleCells_length] at this; omega
  obtain ⟨h1, h2, h3⟩ := tripleCells_get l k (by omega)
  exact ⟨b, o, e, hb, hc _ _ h1, by rw [Nat.add_assoc]; exact hc _ _ h2, by rw [Nat.add_assoc]; exact hc _ _ h3⟩
/-- Does the last corner go? -/
def topGoes (nx : Corner) : List Corner → Bool
  | q :: p :: _ => !belowC p q nx
  | _ => false
theorem popAll_stop (nx : Corner) : ∀ st, topGoes nx st = false → popAll nx st = st := by
  intro st h
  rcases st with _ | ⟨q, _ | ⟨p, r⟩⟩
  · rfl
  · rfl
  · have : belowC p q nx = true := by simpa [topGoes] using h
    simp [popAll, this]
theorem popAll_go (nx : Corner) : ∀ st, topGoes nx st = true → ∃ q l, st = q :: l ∧ popAll nx st = popAll nx l := by
  intro st h
  rcases st with _ | ⟨q, _ | ⟨p, r⟩⟩
  · cases h
  · cases h
  · have : belowC p q nx = false := by simpa [topGoes] using h
    exact ⟨q, p :: r, rfl, by simp [popAll, this]⟩
theorem topGoes_short (nx : Corner) (st : List Corner) (h : ¬ 1 < st.length) : topGoes nx st = false := by
  rcases st with _ | ⟨q, _ | ⟨p, r⟩⟩
  · rfl
  · rfl
  · simp at h
theorem own_form {w : World} {base : Nat} {e : TypeId} {size : Nat} {A : Option Addr} {c n : Nat} {xs : List Value} (h : w.ownsRow base e size (.slice A (n + 1) c) (n + 1) xs) : ∃ g, A = some ⟨g, 0, none⟩ := by
  rcases h.2 with ⟨h0, _⟩ | ⟨g, cap, cur, hv, _⟩
  · cases h0
  · cases hv; exact ⟨g, rfl⟩
/-- A shelf of lots, in memory, at block g. -/
def ShelfIs (w : World) (g : Nat) (A : Option Addr) (c : Nat) (xs : List (Int × Int)) : Prop :=
  ∃ A3 c3, Blk w g 111 (shelfCells (.slice A xs.length c) (leastOf xs) (.slice A3 (chainOf xs).length c3)) ∧ Reads w w.heap.size 3 A3 (chainOf xs).length (tripleCells (chainOf xs)) ∧ (∀ b o, A3 = some ⟨b, o, none⟩ → g < b) ∧ (chainOf xs).length ≤ c3
theorem chainOf_length (xs : List (Int × Int)) : (chainOf xs).length ≤ 101 := by
  unfold chainOf; rw [List.length_reverse]; exact chainUpto_length _ _ _
/-- A new shelf is handed back. -/
def ShelfRet (A : Option Addr) (c : Nat) (xs : List (Int × Int)) (w0 : World) (e : Ending) (w' : World) : Prop :=
  e = .returned (.pointer (some ⟨w0.heap.size, 0, none⟩)) ∧ ShelfIs w' w0.heap.size A c xs ∧ Below w0.heap.size w0 w'
/-- append onto a row of the call's own, as one step of a region that draws. -/
theorem step_append_own {P : Program} {ops : Array Oper} {o : Oper} {a : Act} {w : World} {K : Act → World → Prop} {Q : Exit → Act → World → Prop} {E : Prop} (hgd : o.guard = none) (s x : Operand) (t : TypeId)
    (ho : o.op = .call { callee := .builtin .append, args := #[s, x], argTypes := #[t, t] })
    (base : Nat) (e : TypeId) (i : TypeInfo) (z : Value) (size bytes : Nat) (ht : P.underlying t = some (.slice e)) (hi : P.info? e = some i) (hz : i.zero = some z)
    (hsize : i.size = size) (hby : i.bytes = bytes) (hzs : z.cells.size = size) (hsz : 0 < size)
    (v : Value) (n : Nat) (xs : List Value) (hs : a.eval s = v) (hown : w.ownsRow base e size v n xs)
    (ad : Addr) (m c : Nat) (news : List Value) (hx : a.eval x = .slice (some ad) m c) (hl : news.length = m * size) (hnews : ∀ j u, news[j]? = some u → w.cell? (ad.add j) = some u) (h1 : ∀ u ∈ news, u.oneCell' = true)
    (h63 : n + m ≤ maxLen) (hbytes : (n + m) * bytes ≤ 140737488355328) (hbase : base ≤ w.heap.size)
    (hK : ∀ v' w', w'.ownsRow base e size v' (n + m) (xs ++ news) → w.grownBy w' v.ownBlock → K (a.put o.dst v') w') : if Region.wanted o (yielded ops a.tmps) = true then Oper.wp P o a w K Q else E := by
  rw [if_pos (by simp [Region.wanted, hgd])]
  exact wp_append_own w s x t ho base e i z size bytes ht hi hz hsize hby hzs hsz v n xs hs hown ad m c news hx hl hnews h1 h63 hbytes hbase fun v' w' h2 h3 _ => hK v' w' h2 h3
theorem Try.info83 : (Try.prog.info? 83).map (fun i => (i.zero, i.size, i.bytes)) = some (some (.agg #[.int .i64 0, .int .i64 0, .int .i64 0]), 3, 24) := by kernel_rfl
end Go.Proofs.Ytfjnnegaljfkgaa
