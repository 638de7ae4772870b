/- summed: lemmas for the rows of this seat. No conditions. -/
import Derived.Test.YtalcccgialpjgaaN15
set_option linter.all false
namespace Go.Proofs.Ytalcccgialpjgaa
open Go.RowKit
/-! ## summed -/
section
variable {P : Program} {w0 : World} {n : Nat} {ds : List Deferred} {ops : List Oper} {o : Oper} {os : List Oper} {ks : List Kind} {ts : TS} {A : List Chunk} {K : TS → List Chunk → Prop} {d : Tmp} {x : Operand} {xs : Array Operand} {ats : Array TypeId} {f : FuncId} {us bs vs avs : List Value}
/-- A call that makes memory, part of which is laid behind. -/
theorem ot_callT {X : Type} (v : X → Value) (H T : X → List Chunk) (p : X → Prop) (hm : ∀ x, ∀ c ∈ H x ++ T x, c.mut = true) (hh : ks.headD .wr ≠ .rd) (hop : o.op = .call { callee := .value x, args := xs, argTypes := ats }) (hd : o.dst = some d) (hw : wantB ops ts o = some true) (hf : evT ts x = some (.func (.func f) us.toArray vs.toArray)) (hb : hasBody P f = true) (ha : EvL ts xs.toList bs) (hl : us ++ bs ++ vs = avs)
  (hc : ∀ w, St w0 A w → Calls P f avs.toArray w fun e w' => ∃ x, e = .returned (v x) ∧ p x ∧ St w (H x ++ T x) w') (hk : ∀ x, p x → OT P w0 n ds ops os ks.tail ((d, v x) :: ts) (H x ++ (A ++ T x)) K) : OT P w0 n ds ops (o :: os) ks ts A K := by
 subst hl
 refine ot_cr hh fun a w hh => ?_
 unfold wpV
 rw [if_pos (wantB_spec hh hw)]
 refine callv_upV hh hop hf hb ha ((hc w hh.st).mono fun e w' hr => ?_)
 obtain ⟨x, rfl, hp, hr⟩ := hr
 refine ⟨_, rfl, _, fun _ => hr.base, (hh.st.join hr (hm x)).perm ?_, by rw [hd]; exact hk x hp⟩
 rw [List.append_assoc]
 exact List.perm_append_comm.append_left _
end
theorem rgC_put {l : List R2} {j : Nat} (r : R2) (h : j < l.length) : setMany (rgC l) (0 + j * 2) [.int .i64 r.1, .int .i64 r.2] = rgC (l.set j r) := by
 rw [Nat.zero_add]; exact rgC_set l j r h
end Go.Proofs.Ytalcccgialpjgaa
