/- Layer 3, blends: steps: lemmas for the rows of this seat. No conditions. -/
import Derived.Test.YtfjnnegaljfkgaaProg
import Derived.Test.YtfjnnegaljfkgaaBase
import Derived.Test.YtfjnnegaljfkgaaPlain
import Derived.Test.YtfjnnegaljfkgaaSeg
set_option linter.all false
namespace Go.Proofs.Ytfjnnegaljfkgaa
open Go.RowKit
section
variable {P : Program}
theorem run_part_int {t : TypeId} {k : IntKind} (h : P.underlying t = some (.int k)) (cs : Array Value) (i : Nat) (w : World) (v : Value) (hv : cs[i]? = some v) : (part t cs i).run P w = .ok v w := by
  simp [part, isAgg, run_underlying h, hv]
theorem run_checkKey_int {t : TypeId} {k : IntKind} (h : P.underlying t = some (.int k)) (e : Bool) (n : Nat) (v : Value) (w : World) : (Instr.checkKey e (n + 1) t v).run P w = .ok () w := by
  simp [Instr.checkKey, run_underlying h]
theorem pairKeys {t : TypeId} {f0 f1 : Field} {k0 k1 : IntKind} (h : P.underlying t = some (.struct #[f0, f1])) (h0 : P.underlying f0.type = some (.int k0)) (h1 : P.underlying f1.type = some (.int k1))
    (o0 : f0.offset = 0) (o1 : f1.offset = 1) (n0 : f0.name ≠ "_") (n1 : f1.name ≠ "_") (hp : P.stoodInHeld t = false) : KeyEnc P t (fun p : Int × Int => .agg #[.int k0 p.1, .int k1 p.2]) where
  eq := fun x y w => by
    obtain ⟨a, b⟩ := x
    obtain ⟨c, d⟩ := y
    have hf : (P.fieldsOf t).toList = [f0, f1] := by simp [Program.fieldsOf, h]
    have hs := run_equalIn_struct (P := P) w 9999 t #[.int k0 a, .int k1 b] #[.int k0 c, .int k1 d] (by simp [Program.fieldsOf, h]) hp
    simp only [Op.equal, Op.maxDepth]
    rw [hs, hf]
    have p0 : ∀ (u v : Int) w, (part f0.type #[.int k0 u, .int k1 v] 0).run P w = .ok (.int k0 u) w := fun u v w => run_part_int h0 _ 0 _ _ rfl
    have p1 : ∀ (u v : Int) w, (part f1.type #[.int k0 u, .int k1 v] 1).run P w = .ok (.int k1 v) w := fun u v w => run_part_int h1 _ 1 _ _ rfl
    have q0 : ∀ (u v : Int) w, (Op.equalIn 9999 f0.type (.int k0 u) (.int k0 v)).run P w = .ok (u == v) w := fun u v w => run_equalIn_int w 9998 _ _ _ _ _ h0
    have q1 : ∀ (u v : Int) w, (Op.equalIn 9999 f1.type (.int k1 u) (.int k1 v)).run P w = .ok (u == v) w := fun u v w => run_equalIn_int w 9998 _ _ _ _ _ h1
    simp only [Op.eqFields, n0, n1, ne_eq, not_false_eq_true, if_true, o0, o1, Sem.run_bind, p0, q0, Result.andThen_ok]
    by_cases e1 : a = c
    · by_cases e2 : b = d
      · simp [e1, e2, p1, q1]
      · simp [e1, e2, p1, q1]
    · simp [e1]
  now := fun kd x y hk => by
    rw [h] at hk
    cases hk
    left; rfl
  check := fun e x w => by
    have c0 : ∀ w, (Instr.checkKey e 9999 f0.type (.int k0 x.1)).run P w = .ok () w := fun w => run_checkKey_int h0 e 9998 _ w
    have c1 : ∀ w, (Instr.checkKey e 9999 f1.type (.int k1 x.2)).run P w = .ok () w := fun w => run_checkKey_int h1 e 9998 _ w
    have p0 : ∀ (u v : Int) w, (part f0.type #[.int k0 u, .int k1 v] 0).run P w = .ok (.int k0 u) w := fun u v w => run_part_int h0 _ 0 _ _ rfl
    have p1 : ∀ (u v : Int) w, (part f1.type #[.int k0 u, .int k1 v] 1).run P w = .ok (.int k1 v) w := fun u v w => run_part_int h1 _ 1 _ _ rfl
    unfold Instr.checkKey
    simp only [Sem.run_bind, run_underlying h, Result.andThen_ok]
    rw [← Array.forIn_toList]
    simp only [List.forIn_cons, List.forIn_nil, n0, n1, ne_eq, not_false_eq_true, if_true, Sem.run_bind, o0, o1, p0, p1, Result.andThen_ok, c0, c1, Sem.run_pure]
  stays := fun x => by simp [Instr.sameBits]
  has := ⟨_, h⟩
end

theorem Try.lotKeys : KeyEnc Try.prog 67 (fun p : Int × Int => .agg #[.int .i64 p.1, .int .i64 p.2]) :=
  pairKeys Try.underlying67 Try.underlying2 Try.underlying2 rfl rfl (by decide) (by decide) (by kernel_rfl)
theorem Try.zero3 : ∀ w, (zeroValue 3).run Try.prog w = .ok (.int .i64 0) w := fun w => by kernel_rfl
theorem wpList_makeMap {P : Program} {ops : Array Oper} {rest : List Oper} {o : Oper} {a : Act} {w : World} {Q : Exit → Act → World → Prop} (hg : o.guard = none) (t : TypeId) (hop : o.op = Op.makeMap t none)
    (hK : wpList P ops Q rest (a.put o.dst (.map (some w.heap.size))) (w.alloc (.map #[] 0))) : wpList P ops Q (o :: rest) a w :=
  wpList_run hg _ (by simp only [execOp, hop, Sem.run_bind, run_makeMap, Result.andThen_ok]; rfl) hK
theorem run_index_ints {P : Program} {w : World} {t e : TypeId} {n : Nat} (ht : P.underlying t = some (.array n e)) (he : P.underlying e = some (.int .i64)) (hs : (P.info? e).map (·.size) = some 1)
    (L : List Int) (k : Nat) (hk : k < n) (hL : L.length = n) : (Instr.index t (.agg (i64s L).toArray) (.int .i64 k)).run P w = .ok (.int .i64 (L[k]?.getD 0)) w := by
  have h1 : (sizeOf e).run P w = .ok 1 w := by
    cases hq : P.info? e with
    | none => simp [hq] at hs
    | some i => have : i.size = 1 := by simpa [hq] using hs
                simp [sizeOf, typeInfo, hq, this, Sem.run_bind, Sem.run_pure]
  have h2 : (part e (i64s L).toArray k).run P w = .ok (.int .i64 (L[k]?.getD 0)) w :=
    run_part_int he _ _ _ _ (by simp [i64s, List.getElem?_eq_getElem (hL ▸ hk)])
  have h3 : (0 : Int) ≤ k ∧ (k : Int) < n := by omega
  have h4 : (asIntOf (.int .i64 (k : Int))).run P w = .ok (.i64, (k : Int)) w := rfl
  simp only [Instr.index, Sem.run_bind, h4, run_underlying ht, Result.andThen_ok, h3, and_self, if_true, h1, Int.toNat_natCast, Nat.mul_one, h2]
theorem wpList_index_ints {P : Program} {ops : Array Oper} {rest : List Oper} {o : Oper} {a : Act} {w : World} {Q : Exit → Act → World → Prop} (hg : o.guard = none) (x i : Operand) (t : TypeId) (hop : o.op = Op.index t x i)
    {e : TypeId} {n : Nat} (ht : P.underlying t = some (.array n e)) (he : P.underlying e = some (.int .i64)) (hs : (P.info? e).map (·.size) = some 1) (L : List Int) (k : Nat) (hk : k < n) (hL : L.length = n)
    (hx : a.eval x = .agg (i64s L).toArray) (hi : a.eval i = .int .i64 k) (hK : wpList P ops Q rest (a.put o.dst (.int .i64 (L[k]?.getD 0))) w) : wpList P ops Q (o :: rest) a w :=
  wpList_run hg _ (by simp only [execOp, hop, hx, hi, Sem.run_bind, run_index_ints ht he hs L k hk hL]; rfl) hK
end Go.Proofs.Ytfjnnegaljfkgaa
