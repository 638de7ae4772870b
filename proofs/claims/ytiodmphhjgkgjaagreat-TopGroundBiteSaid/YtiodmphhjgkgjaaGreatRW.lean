/- Calls of functions that are known to come to true: lemmas for the rows of this seat. No conditions. -/
import Derived.ChangeKeysEq
import Derived.Laws.StructEq
import Derived.Laws.Externs
import Derived.Test.YtiodmphhjgkgjaaGreatP10
import Derived.Test.YtiodmphhjgkgjaaGreatR59
import Derived.Test.YtiodmphhjgkgjaaGreatR60
import Derived.Test.YtiodmphhjgkgjaaGreatR61
import Derived.Test.YtiodmphhjgkgjaaGreatR15
import Derived.Test.YtiodmphhjgkgjaaGreatR29
set_option linter.all false
namespace Go.Proofs.YtiodmphhjgkgjaaGreat
open Go.RowKit
/-! ## Calls of functions that are known to come to `true` -/
noncomputable def clK (ks : List Nat) (f : Nat) (vs : List AV) : HM AV := fun s => if vs.isEmpty && ks.any (Nat.beq f) then .ok (.b true) s else .no
theorem clK_ok {P : Program} {ks : List Nat} (h : ∀ f, f ∈ ks → hasBody P f = true ∧ ∀ w, Calls P f #[] w (TrueR w)) : CallOK P (clK ks) where
  lm := fun f vs => by
    cases hc : (vs.isEmpty && ks.any (Nat.beq f)) with
    | true =>
      rw [show clK ks f vs = hp (.b true) from funext fun s => by unfold clK; rw [hc]; rfl]
      exact LM.pure _
    | false =>
      rw [show clK ks f vs = hn from funext fun s => by unfold clK; rw [hc]; rfl]
      exact LM.fail
  ok := fun {f vs s v s'} hr ρ w w0 hf hd hz => by
    unfold clK at hr
    cases hc : (vs.isEmpty && ks.any (Nat.beq f)) with
    | false => rw [hc] at hr; cases hr
    | true =>
      rw [hc] at hr
      obtain ⟨rfl, rfl⟩ : AV.b true = v ∧ s = s' := by
        simp only [if_true] at hr
        injection hr with a b
        exact ⟨a, b⟩
      rw [Bool.and_eq_true] at hc
      obtain ⟨h1, h2⟩ := hc
      obtain rfl : vs = [] := List.isEmpty_iff.1 h1
      obtain ⟨g, hg, e⟩ := List.any_eq_true.1 h2
      obtain rfl : f = g := Nat.eq_of_beq_eq_true e
      obtain ⟨k1, k2⟩ := h f hg
      refine ⟨k1, Calls.mono (k2 w) fun e w' ⟨e1, e2⟩ => ⟨ρ, Env.le.refl ρ, fun _ _ => rfl, ?_, trivial, hz.grow e2⟩⟩
      rw [e1]; rfl
theorem ylN_ok {P : Program} : YieldOK P (fun _ _ => hn) := ⟨fun _ _ => LM.fail, fun h => by cases h⟩
/-- A closed call by known ones. -/
theorem known_true {X : Cx} (hX : CxOK X) (hV : CxOV X) {ks : List Nat} (hk : ∀ f, f ∈ ks → hasBody X.P f = true ∧ ∀ w, Calls X.P f #[] w (TrueR w)) {f : Nat} (h : isTrue (zCall X (clK ks) (fun _ _ => hn) f [] hp0) = true) (w : World) : Calls X.P f #[] w (TrueR w) := by
  cases hr : zCall X (clK ks) (fun _ _ => hn) f [] hp0 with
  | no => rw [hr] at h; cases h
  | ok v s' =>
    rw [hr] at h
    cases v <;> first | (cases h; done) | skip
    rename_i x
    obtain rfl : x = true := h
    have hgt : ∀ m, hp0.gt m = none := fun m => by
      rw [Hp.gt_eq]
      split
      · exact HT.get_hz m
      · rfl
    obtain ⟨_, c⟩ := (zCall_ok hX hV (clK_ok hk) ylN_ok).ok hr (ρ := ⟨fun _ => none, fun _ => 0, fun _ _ => none⟩) (w := w) (w0 := w) (fun _ _ _ => rfl) trivial ⟨Below.refl _ _, fun m o hm => (by rw [hgt] at hm; cases hm), fun m _ o _ _ _ hm => (by rw [hgt] at hm; cases hm)⟩
    refine Calls.mono c fun e w' ⟨ρ', _, _, h3, _, h5⟩ => ⟨?_, h5.base⟩
    simpa [cv] using h3
theorem w28 (h59 : ∀ w, Calls Tryz.prog 59 #[] w (TrueR w)) (h60 : ∀ w, Calls Tryz.prog 60 #[] w (TrueR w)) (h61 : ∀ w, Calls Tryz.prog 61 #[] w (TrueR w)) (w : World) : Calls Tryz.prog 28 #[] w (TrueR w) := known_true Tryz.hX Tryz.hV (ks := [59, 60, 61]) (fun f hf => by
  simp only [List.mem_cons, List.not_mem_nil, or_false] at hf
  rcases hf with rfl | rfl | rfl
  · exact ⟨by kernel_rfl, h59⟩
  · exact ⟨by kernel_rfl, h60⟩
  · exact ⟨by kernel_rfl, h61⟩) (by kernel_rfl) w
theorem w14 (h28 : ∀ w, Calls Tryz.prog 28 #[] w (TrueR w)) (h29 : ∀ w, Calls Tryz.prog 29 #[] w (TrueR w)) (w : World) : Calls Tryz.prog 14 #[] w (TrueR w) := known_true Tryz.hX Tryz.hV (ks := [28, 29]) (fun f hf => by
  simp only [List.mem_cons, List.not_mem_nil, or_false] at hf
  rcases hf with rfl | rfl
  · exact ⟨by kernel_rfl, h28⟩
  · exact ⟨by kernel_rfl, h29⟩) (by kernel_rfl) w
theorem w6 (h14 : ∀ w, Calls Tryz.prog 14 #[] w (TrueR w)) (h15 : ∀ w, Calls Tryz.prog 15 #[] w (TrueR w)) (w : World) : Calls Tryz.prog 6 #[] w (TrueR w) := known_true Tryz.hX Tryz.hV (ks := [14, 15]) (fun f hf => by
  simp only [List.mem_cons, List.not_mem_nil, or_false] at hf
  rcases hf with rfl | rfl
  · exact ⟨by kernel_rfl, h14⟩
  · exact ⟨by kernel_rfl, h15⟩) (by kernel_rfl) w
/-- The examples of all layers up to 5 are right. -/
theorem works6 : WorksR 6 := w6 (w14 (w28 run59 run60 run61) run29) run15
end Go.Proofs.YtiodmphhjgkgjaaGreat
