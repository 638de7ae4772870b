/- steps: lemmas for the rows of this seat. No conditions. -/
import Derived.Test.YtalcccgialpjgaaMaps
set_option linter.all false
namespace Go.Proofs.Ytalcccgialpjgaa
open Go.RowKit
section
variable {P : Program}
theorem run_part_int {t : TypeId} {k : IntKind} (h : P.underlying t = some (.int k)) (cs : Array Value) (i : Nat) (w : World) (v : Value) (hv : cs[i]? = some v) : (part t cs i).run P w = .ok v w := by
  simp [part, isAgg, run_underlying h, hv]
theorem run_checkKey_int {t : TypeId} {k : IntKind} (h : P.underlying t = some (.int k)) (e : Bool) (n : Nat) (v : Value) (w : World) : (Instr.checkKey e (n + 1) t v).run P w = .ok () w := by
  simp [Instr.checkKey, run_underlying h]
theorem pairKeys {t : TypeId} {f0 f1 : Field} {k0 k1 : IntKind} (h : P.underlying t = some (.struct #[f0, f1])) (h0 : P.underlying f0.type = some (.int k0)) (h1 : P.underlying f1.type = some (.int k1))
    (o0 : f0.offset = 0) (o1 : f1.offset = 1) (n0 : f0.name ≠ "_") (n1 : f1.name ≠ "_") (hp : P.stoodInHeld t = false) : KeyEnc P t (fun p : Int × Int => .agg #[.int k0 p.1, .int k1 p.2]) where
  eq := fun x y w => by
    obtain ⟨a, b⟩ := x
    obtain ⟨c, d⟩ := y
    have hf : (P.fieldsOf t).toList = [f0, f1] := by simp [Program.fieldsOf, h]
    have hs := run_equalIn_struct (P := P) w 9999 t #[.int k0 a, .int k1 b] #[.int k0 c, .int k1 d] (by simp [Program.fieldsOf, h]) hp
    simp only [Op.equal, Op.maxDepth]
    rw [hs, hf]
    have p0 : ∀ (u v : Int) w, (part f0.type #[.int k0 u, .int k1 v] 0).run P w = .ok (.int k0 u) w := fun u v w => run_part_int h0 _ 0 _ _ rfl
    have p1 : ∀ (u v : Int) w, (part f1.type #[.int k0 u, .int k1 v] 1).run P w = .ok (.int k1 v) w := fun u v w => run_part_int h1 _ 1 _ _ rfl
    have q0 : ∀ (u v : Int) w, (Op.equalIn 9999 f0.type (.int k0 u) (.int k0 v)).run P w = .ok (u == v) w := fun u v w => run_equalIn_int w 9998 _ _ _ _ _ h0
    have q1 : ∀ (u v : Int) w, (Op.equalIn 9999 f1.type (.int k1 u) (.int k1 v)).run P w = .ok (u == v) w := fun u v w => run_equalIn_int w 9998 _ _ _ _ _ h1
    simp only [Op.eqFields, n0, n1, ne_eq, not_false_eq_true, if_true, o0, o1, Sem.run_bind, p0, q0, Result.andThen_ok]
    by_cases e1 : a = c
    · by_cases e2 : b = d
      · simp [e1, e2, p1, q1]
      · simp [e1, e2, p1, q1]
    · simp [e1]
  now := fun kd x y hk => by
    rw [h] at hk
    cases hk
    left; rfl
  check := fun e x w => by
    have c0 : ∀ w, (Instr.checkKey e 9999 f0.type (.int k0 x.1)).run P w = .ok () w := fun w => run_checkKey_int h0 e 9998 _ w
    have c1 : ∀ w, (Instr.checkKey e 9999 f1.type (.int k1 x.2)).run P w = .ok () w := fun w => run_checkKey_int h1 e 9998 _ w
    have p0 : ∀ (u v : Int) w, (part f0.type #[.int k0 u, .int k1 v] 0).run P w = .ok (.int k0 u) w := fun u v w => run_part_int h0 _ 0 _ _ rfl
    have p1 : ∀ (u v : Int) w, (part f1.type #[.int k0 u, .int k1 v] 1).run P w = .ok (.int k1 v) w := fun u v w => run_part_int h1 _ 1 _ _ rfl
    unfold Instr.checkKey
    simp only [Sem.run_bind, run_underlying h, Result.andThen_ok]
    rw [← Array.forIn_toList]
    simp only [List.forIn_cons, List.forIn_nil, n0, n1, ne_eq, not_false_eq_true, if_true, Sem.run_bind, o0, o1, p0, p1, Result.andThen_ok, c0, c1, Sem.run_pure]
  stays := fun x => by simp [Instr.sameBits]
  has := ⟨_, h⟩
end
end Go.Proofs.Ytalcccgialpjgaa
