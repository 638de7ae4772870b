/- What makes memory, in any order; then writes, one behind the other: lemmas for the rows of this seat. No conditions. -/
import Derived.WalkKit
import Derived.WalkSpells
import Derived.WalkLawsBesides
import Derived.Lib.Hide
import Derived.Deep.AppendLies
import Derived.Deep.Draws
import Derived.Maps.AppendAt
import Derived.RegionTactic
import Derived.OwnWalk
import Derived.Deep.QuietTactic
import Derived.BigQuiet
import Derived.Deep.DeepFit
import Derived.Deep.LoopGhost
import Derived.Deep.DeepMust
import Derived.Deep.DeepCutAuto
import Derived.StillTail
import Derived.Deep.Quiet
import Derived.Deep.RegionHeld3
import Derived.Deep.RegionWith
import Derived.Deep.RegionLaw
import Derived.Maps.OwnOps
import Derived.Maps.OwnSet
import Derived.Maps.OwnRows
import Derived.Maps.RangeWalk
import Derived.Carry
import Derived.Test.YtkbcogaodnmdoaaBase
import Derived.Test.YtkbcogaodnmdoaaS1
import Derived.Test.YtkbcogaodnmdoaaS5
import Derived.Test.YtkbcogaodnmdoaaS12
import Derived.Test.YtkbcogaodnmdoaaS14
import Derived.Test.YtkbcogaodnmdoaaV
import Derived.Test.YtkbcogaodnmdoaaV2
import Derived.Test.YtkbcogaodnmdoaaV3
import Derived.Test.YtkbcogaodnmdoaaV4
import Derived.Test.YtkbcogaodnmdoaaV5
set_option linter.all false
namespace Go.Proofs.Ytkbcogaodnmdoaa
open Go.RowKit
/-! ## What makes memory, in any order; then writes, one behind the other -/
section
variable {P : Program} {w0 : World} {n : Nat} {ds : List Deferred} {ops : List Oper} {K : TS → List Chunk → Prop}
/-- What is in one list of slots is in another. -/
def subS (l ts : TS) : Prop := ∀ t v, look l t = some v → look ts t = some v
theorem Gn.weak {k : Bool} {o : Oper} {ts l : TS} {A B : List Chunk} {N : Value → List Chunk → Prop} (hl : subS l ts) (hB : ∀ w, St w0 A w → St w0 B w) (h : Gn P w0 n ds ops k o l B N) : Gn P w0 n ds ops k o ts A N :=
  fun a w hd => h a w ⟨hd.size, fun t v hv => hd.slots t v (hl t v hv), hd.ds, hB w hd.st⟩
theorem subS_put {d : Option Tmp} {v : Value} {l ts : TS} (h : subS l ts) : subS (putT l d v) (putT ts d v) := by
  cases d with
  | none => exact h
  | some d =>
    intro t u hu
    by_cases e : t = d
    · subst e
      simp only [putT, look] at hu ⊢
      rw [show Nat.beq t t = true from Nat.beq_refl t] at hu ⊢
      exact hu
    · rw [putT, look_cons_ne e] at hu ⊢
      exact h t u hu
theorem subT_append {a b ts : TS} : subT a ts → subT b ts → subT (a ++ b) ts := by
  induction a with
  | nil => exact fun _ h => h
  | cons p a ih => exact fun h1 h2 => ⟨h1.1, ih h1.2 h2⟩
theorem dep_done {D done : List Nat} (hc : certB ops D = true) (hl : ∀ i ∈ done, ∀ e ∈ (nthO ops i).after.toList, Region.binds .any e = true → e.on ∈ done) {r : Nat} (hr : r < ops.length) :
    ∀ i, i < ops.length → (∀ e ∈ (nthO ops i).after.toList, Region.binds .any e = true → e.on ∈ done) → depB D i r = true → r ∈ done := by
  intro i
  induction i using Nat.strongRecOn with
  | _ i ih =>
    intro hi ha hd
    obtain ⟨e, he, hb, hlt, h⟩ := certB_spec hc hi hr hd
    have he' : e ∈ (nthO ops i).after.toList := by simpa using he
    rcases h with rfl | h
    · exact ha e he' hb
    · exact ih e.on hlt (by omega) (hl _ (ha e he' hb)) h
theorem otx_of2 {A0 : List Chunk} {kd : Nat → Kind} {D T0 : List Nat} (I : List Nat → TS → List Chunk → Prop)
    (step : ∀ done i ts A, (∀ e ∈ (nthO ops i).after.toList, Region.binds .any e = true → e.on ∈ done) → i ∈ T0 → i ∉ done → i < ops.length → I done ts A → OT P w0 n ds ops [nthO ops i] [kd i] ts A fun ts' A' => A0.Sublist A' ∧ I (done ++ [i]) ts' A')
    (hK : ∀ done ts A, (∀ i ∈ T0, i ∈ done) → I done ts A → K ts A) :
    ∀ (F done todo : List Nat) (ts : TS) (A : List Chunk), treeAll ops D kd F done todo = true → (∀ i ∈ T0, i ∈ done ∨ i ∈ todo) → (∀ i ∈ todo, i ∈ T0) → I done ts A → OTX P w0 n ds ops A0 kd D F done todo ts A K
  | [], done, todo, ts, A, ht, hc, hs, hI => by
    rw [treeAll] at ht
    obtain rfl : todo = [] := by simpa using ht
    exact ⟨rfl, hK done ts A (fun i hi => by rcases hc i hi with h | h; exact h; cases h) hI⟩
  | _ :: F, done, todo, ts, A, ht, hc, hs, hI => by
    rw [treeAll, Bool.and_eq_true] at ht
    obtain ⟨h1, h2⟩ := ht
    refine ⟨by simpa using h1, allP_of fun i hi => ?_⟩
    have h3 := List.all_eq_true.1 h2 i hi
    rw [Bool.and_eq_true, Bool.and_eq_true] at h3
    obtain ⟨⟨h4, h5⟩, h6⟩ := h3
    obtain ⟨hit, hfr⟩ := List.mem_filter.1 hi
    have h4' := h4
    simp only [treeB, Bool.and_eq_true] at h4'
    obtain ⟨⟨⟨⟨⟨b1, b2⟩, _⟩, _⟩, _⟩, _⟩ := h4'
    refine ⟨⟨h4, fun e => by rw [e] at h5; cases h5⟩, ot_mono (fun ts' A' q => ⟨q.1, ?_⟩) (step done i ts A (fun e he hb => ?_) (hs i hit) (by simpa using b2) (Nat.le_of_ble_eq_true b1) hI)⟩
    · refine otx_of2 I step hK F (done ++ [i]) (todo.erase i) ts' A' h6 (fun j hj => ?_) (fun j hj => hs j (List.mem_of_mem_erase hj)) q.2
      rcases hc j hj with h | h
      · exact .inl (List.mem_append_left _ h)
      · by_cases e : j = i
        · exact .inl (List.mem_append_right _ (by rw [e]; exact .head _))
        · exact .inr ((List.mem_erase_of_ne e).2 h)
    · have := List.all_eq_true.1 hfr e he
      rw [hb] at this
      simpa using this
end
/-- Each waits for all ahead of it, and writes. -/
def chainB (D : List Nat) (kd : Nat → Kind) : List Nat → List Nat → Bool
  | _, [] => true
  | prev, i :: t => prev.all (depB D i ·) && (match kd i with | .wr => true | _ => false) && chainB D kd (prev ++ [i]) t
theorem chainB_spec {D : List Nat} {kd : Nat → Kind} : ∀ {pre prev : List Nat} {i : Nat} {post : List Nat}, chainB D kd prev (pre ++ i :: post) = true → (∀ j ∈ prev ++ pre, depB D i j = true) ∧ kd i = .wr
  | [], prev, i, post, h => by
    simp only [List.nil_append, chainB, Bool.and_eq_true] at h
    refine ⟨fun j hj => List.all_eq_true.1 h.1.1 j (by simpa using hj), ?_⟩
    have := h.1.2
    cases hk : kd i with
    | wr => rfl
    | rd => rw [hk] at this; cases this
    | cr => rw [hk] at this; cases this
  | p :: pre, prev, i, post, h => by
    simp only [List.cons_append, chainB, Bool.and_eq_true] at h
    have := chainB_spec h.2
    simpa using this
def makeB (l : List Oper) (D : List Nat) (kd : Nat → Kind) (R M C : List Nat) : Bool :=
  (R.all fun i => (nthO l i).after.toList.all fun e => !Region.binds .any e || R.contains e.on) && chainB D kd M C && treeAll l D kd (M ++ C) R (M ++ C) && certB l D
section
variable {P : Program} {w0 : World} {n : Nat} {r : Option Nat} {ds : List Deferred} {ts : TS} {A : List Chunk} {Q : PostT}
def FactX {X : Type} (dst : Nat → Tmp) (fact : Nat → X → Value × List Chunk) (i : Nat) (ts : TS) (A : List Chunk) : Prop := ∃ x, look ts (dst i) = some (fact i x).1 ∧ ∀ c ∈ (fact i x).2, c ∈ A
theorem perm_flatMap {α β : Type} (f : α → List β) {a b : List α} (h : a.Perm b) : (a.flatMap f).Perm (b.flatMap f) := by
  induction h with
  | nil => exact .refl _
  | cons x _ ih => rw [List.flatMap_cons, List.flatMap_cons]; exact ih.append_left _
  | swap x y l =>
    rw [List.flatMap_cons, List.flatMap_cons, List.flatMap_cons, List.flatMap_cons, ← List.append_assoc, ← List.append_assoc]
    exact List.perm_append_comm.append_right _
  | trans _ _ h1 h2 => exact h1.trans h2
theorem perm_of_mem : ∀ {a b : List Nat}, a.Nodup → b.Nodup → (∀ x, x ∈ a ↔ x ∈ b) → a.Perm b
  | [], b, _, _, h => by
    obtain rfl : b = [] := List.eq_nil_iff_forall_not_mem.2 fun x hx => by have := (h x).2 hx; cases this
    exact .refl _
  | x :: a, b, ha, hb, h => by
    obtain ⟨b1, b2, rfl⟩ := List.append_of_mem ((h x).1 (.head _))
    obtain ⟨h1, h2⟩ := List.nodup_cons.1 ha
    rw [List.nodup_append] at hb
    obtain ⟨h3, h4, h5⟩ := hb
    obtain ⟨h6, h7⟩ := List.nodup_cons.1 h4
    refine .trans (.cons x (perm_of_mem h2 (b := b1 ++ b2) ?_ fun y => ?_)) List.perm_middle.symm
    · rw [List.nodup_append]
      exact ⟨h3, h7, fun y hy z hz => h5 y hy z (.tail _ hz)⟩
    · constructor
      · intro hy
        have := (h y).1 (.tail _ hy)
        rw [List.mem_append] at this ⊢
        rcases this with q | q
        · exact .inl q
        · rcases List.mem_cons.1 q with rfl | q
          · exact absurd hy h1
          · exact .inr q
      · intro hy
        have : y ∈ x :: a := (h y).2 (by
          rw [List.mem_append] at hy ⊢
          exact hy.imp id (.tail _))
        rcases List.mem_cons.1 this with rfl | q
        · rcases List.mem_append.1 hy with q | q
          · exact absurd rfl (h5 y q y (.head _))
          · exact absurd q h6
        · exact q
/-- Reads ahead; what makes memory, in any order; then writes, one behind the other. -/
theorem tr_region_make {X : Type} [Inhabited X] {id : Nat} {l : List Oper} (hm : P.follows .mixedOrders = true) (A0 : List Chunk) (hA0 : A0.Sublist A) (R M C : List Nat) (ks : List Kind) (kd : Nat → Kind) (D : List Nat) (hD : (Region.before l.toArray).toList = D) (hd : dstOk n l = true) (hb : treeR l R (M ++ C) ks = true) (hmk : makeB l D kd R M C = true) (hnd : (M ++ C).Nodup)
    (dst : Nat → Tmp) (base : TS) (fact : Nat → X → Value × List Chunk) (hdb : dstB l M dst base = true)
    (h : OT P w0 n ds l (pick l R) ks ts A0 fun ts _ => subT base ts)
    (step : allP M fun i => ∀ ts A, subT base ts → A0.Sublist A → allP (depsL l M i) (fun j => FactX dst fact j ts A) →
      OT P w0 n ds l [nthO l i] [kd i] ts A fun ts' A' => ∃ x, ts' = (dst i, (fact i x).1) :: ts ∧ A' = (fact i x).2 ++ A)
    (hk : ∀ xs : Nat → X, OTL P w0 n ds l A0 (pick l C) [] ((M.map fun i => (dst i, (fact i (xs i)).1)) ++ base) (M.flatMap (fun i => (fact i (xs i)).2) ++ A) fun ts A => VK (∀ ts' A', subS ts ts' → (∀ w, St w0 A' w → St w0 A w) → Q .normal ds ts' A')) : Tr P r w0 n (.region id l.toArray true) ds ts A Q := by
  simp only [makeB, Bool.and_eq_true] at hmk
  obtain ⟨⟨⟨m1, m2⟩, m3⟩, m4⟩ := hmk
  have hb' := hb
  simp only [treeR, Bool.and_eq_true] at hb'
  obtain ⟨_, h9⟩ := hb'
  have hTl : ∀ i ∈ M ++ C, i < l.length ∧ i ∉ R := fun i hi => by
    have := List.all_eq_true.1 h9 i hi
    rw [Bool.and_eq_true] at this
    exact ⟨Nat.le_of_ble_eq_true this.1, by simpa using this.2⟩
  have hdb' := fun i (hi : i ∈ M) => List.all_eq_true.1 hdb i hi
  have hne : ∀ i ∈ M, ∀ j ∈ M, j ≠ i → dst j ≠ dst i := fun i hi j hj hji e => by
    have := hdb' i hi
    rw [Bool.and_eq_true, Bool.and_eq_true] at this
    have h2 := List.all_eq_true.1 this.1.2 j hj
    rw [Bool.or_eq_true] at h2
    rcases h2 with h2 | h2
    · exact hji (Nat.eq_of_beq_eq_true h2).symm
    · rw [e] at h2
      simp at h2
  have hbs : ∀ i ∈ M, ∀ p ∈ base, p.1 ≠ dst i := fun i hi p hp e => by
    have := hdb' i hi
    rw [Bool.and_eq_true] at this
    have h2 := List.all_eq_true.1 this.2 p hp
    rw [e] at h2
    simp at h2
  obtain ⟨hnM, hnC, hMC⟩ := List.nodup_append.1 hnd
  refine tr_region_tree hm A0 hA0 R (M ++ C) ks kd D hD hd hb (ot_mono (fun ts1 A1 hb1 => ?_) h)
  -- what is known of what makes memory
  let MI : List Nat → TS → List Chunk → Prop := fun done ts' A' => A0.Sublist A' ∧ subT base ts' ∧ ∃ (xs : Nat → X) (dm : List Nat), dm.Nodup ∧ (∀ i, i ∈ dm ↔ i ∈ M ∧ i ∈ done) ∧ (∀ i ∈ dm, look ts' (dst i) = some (fact i (xs i)).1) ∧ A' = dm.flatMap (fun i => (fact i (xs i)).2) ++ A
  have full : ∀ done ts' A', (∀ i ∈ M, i ∈ done) → MI done ts' A' → ∃ ts0 A0', subS ts0 ts' ∧ (∀ w, St w0 A' w → St w0 A0' w) ∧ OTL P w0 n ds l A0 (pick l C) [] ts0 A0' fun ts A => VK (∀ ts' A', subS ts ts' → (∀ w, St w0 A' w → St w0 A w) → Q .normal ds ts' A') := by
    rintro done ts' A' hM ⟨_, q2, xs, dm, q3, q4, q5, rfl⟩
    refine ⟨_, _, subT_spec (subT_append (a := M.map fun i => (dst i, (fact i (xs i)).1)) ?_ q2), fun w hs => hs.perm ((perm_flatMap _ (perm_of_mem q3 hnM fun x => by rw [q4]; exact ⟨fun q => q.1, fun q => ⟨q, hM x q⟩⟩)).append_right _), hk xs⟩
    have : ∀ N : List Nat, (∀ i ∈ N, i ∈ M) → subT (N.map fun i => (dst i, (fact i (xs i)).1)) ts' := by
      intro N
      induction N with
      | nil => exact fun _ => trivial
      | cons i N ih => exact fun hN => ⟨q5 i ((q4 i).2 ⟨hN i (.head _), hM i (hN i (.head _))⟩), ih fun j hj => hN j (.tail _ hj)⟩
    exact this M fun i hi => hi
  have clo : ∀ (done : List Nat) (i : Nat), (∀ i ∈ done, ∀ e ∈ (nthO l i).after.toList, Region.binds .any e = true → e.on ∈ done) → (∀ e ∈ (nthO l i).after.toList, Region.binds .any e = true → e.on ∈ done) → ∀ j ∈ done ++ [i], ∀ e ∈ (nthO l j).after.toList, Region.binds .any e = true → e.on ∈ done ++ [i] := fun done i h1 h2 j hj e he hb => by
    rcases List.mem_append.1 hj with hj | hj
    · exact List.mem_append_left _ (h1 j hj e he hb)
    · rw [List.mem_singleton] at hj; subst hj
      exact List.mem_append_left _ (h2 e he hb)
  refine otx_of2 (T0 := M ++ C) (fun done ts' A' => (∀ i ∈ done, ∀ e ∈ (nthO l i).after.toList, Region.binds .any e = true → e.on ∈ done) ∧ ∃ pre post, C = pre ++ post ∧ (∀ x ∈ pre, x ∈ done) ∧ (∀ x ∈ post, x ∉ done) ∧ (pre = [] → MI done ts' A') ∧ (pre ≠ [] → (∀ i ∈ M, i ∈ done) ∧ ∃ ts0, subS ts0 ts' ∧ OTL P w0 n ds l A0 (pick l post) [] ts0 A' fun ts A => VK (∀ ts' A', subS ts ts' → (∀ w, St w0 A' w → St w0 A w) → Q .normal ds ts' A'))) ?_ ?_ (M ++ C) R (M ++ C) ts1 A m3 (fun i hi => .inr hi) (fun i hi => hi)
    ⟨fun i hi e he hb => by
      have := List.all_eq_true.1 (List.all_eq_true.1 m1 i hi) e he
      rw [hb] at this
      simpa using this, [], C, rfl, (fun x hx => by cases hx), (fun x hx => (hTl x (List.mem_append_right _ hx)).2), (fun _ => ⟨hA0, hb1, default, [], .nil, (fun i => ⟨fun q => by (cases q), fun q => absurd q.2 (hTl i (List.mem_append_left _ q.1)).2⟩), (fun i hi => by cases hi), rfl⟩), fun q => absurd rfl q⟩
  · rintro done i ts' A' hdep hi hin hil ⟨hcl, pre, post, hC, hp1, hp2, hp3, hp4⟩
    rcases List.mem_append.1 hi with hiM | hiC
    · -- one that makes memory
      have hpre : pre = [] := Decidable.byContradiction fun q => hin ((hp4 q).1 i hiM)
      obtain ⟨q1, q2, xs, dm, q3, q4, q5, rfl⟩ := hp3 hpre
      refine ot_mono ?_ (allP_mem step hiM ts' _ q2 q1 (allP_of fun j hj => ?_))
      · rintro ts2 A2 ⟨x, rfl, rfl⟩
        have hidm : i ∉ dm := fun q => hin ((q4 i).1 q).2
        have hs2 : A0.Sublist ((fact i x).2 ++ (dm.flatMap (fun i => (fact i (xs i)).2) ++ A)) := q1.trans (List.sublist_append_right _ _)
        refine ⟨hs2, clo done i hcl hdep, pre, post, hC, fun y hy => List.mem_append_left _ (hp1 y hy), fun y hy q => ?_, fun _ => ⟨hs2, subT_cons (hbs i hiM) q2, fun j => if j = i then x else xs j, i :: dm, List.nodup_cons.2 ⟨hidm, q3⟩, fun j => ?_, fun j hj => ?_, ?_⟩, fun q => absurd hpre q⟩
        · rcases List.mem_append.1 q with q | q
          · exact hp2 y hy q
          · rw [List.mem_singleton] at q; subst q
            exact hMC y hiM y (by rw [hC]; exact List.mem_append_right _ hy) rfl
        · rw [List.mem_cons, List.mem_append, List.mem_singleton, q4 j]
          constructor
          · rintro (rfl | q)
            · exact ⟨hiM, .inr rfl⟩
            · exact ⟨q.1, .inl q.2⟩
          · rintro ⟨q, q' | rfl⟩
            · exact .inr ⟨q, q'⟩
            · exact .inl rfl
        · dsimp only
          rcases List.mem_cons.1 hj with rfl | hj
          · rw [if_pos rfl]; simp [look]
          · have hji : j ≠ i := fun e => hidm (e ▸ hj)
            rw [if_neg hji, look_cons_ne (hne i hiM j ((q4 j).1 hj).1 hji)]
            exact q5 j hj
        · dsimp only
          rw [List.flatMap_cons, if_pos rfl, List.append_assoc]
          congr 2
          have : ∀ N : List Nat, (∀ j ∈ N, j ∈ dm) → N.flatMap (fun i => (fact i (xs i)).2) = N.flatMap fun j => (fact j (if j = i then x else xs j)).2 := by
            intro N
            induction N with
            | nil => exact fun _ => rfl
            | cons j N ih =>
              intro hN
              rw [List.flatMap_cons, List.flatMap_cons, ih fun y hy => hN y (.tail _ hy), if_neg (show ¬ j = i from fun e => hidm (e ▸ hN j (.head _)))]
          exact this dm fun j hj => hj
      · obtain ⟨e, he, rfl⟩ := List.mem_map.1 hj
        obtain ⟨he1, he2⟩ := List.mem_filter.1 he
        rw [Bool.and_eq_true] at he2
        have hjm : e.on ∈ dm := (q4 _).2 ⟨by simpa using he2.2, hdep e he1 he2.1⟩
        exact ⟨xs e.on, q5 _ hjm, fun c hc => List.mem_append_left _ (List.mem_flatMap.2 ⟨_, hjm, hc⟩)⟩
    · -- one of the writes
      have hip : i ∈ post := by
        rw [hC] at hiC
        rcases List.mem_append.1 hiC with q | q
        · exact absurd (hp1 i q) hin
        · exact q
      cases post with
      | nil => cases hip
      | cons i' post' =>
        have hii : i = i' := Decidable.byContradiction fun hne' => by
          obtain ⟨p1, p2, hpp⟩ := List.append_of_mem hip
          cases p1 with
          | nil => rw [List.nil_append] at hpp; cases hpp; exact hne' rfl
          | cons y p1 =>
            rw [List.cons_append] at hpp
            obtain ⟨rfl, rfl⟩ := List.cons.inj hpp
            have h1 := (chainB_spec (pre := pre ++ i' :: p1) (i := i) (post := p2) (by rw [hC] at m2; simpa using m2)).1 i' (by simp)
            exact hp2 i' (.head _) (dep_done m4 hcl (hTl i' (by rw [hC]; simp)).1 i hil hdep h1)
        subst hii
        obtain ⟨c1, c2⟩ := chainB_spec (pre := pre) (i := i) (post := post') (by rw [hC] at m2; exact m2)
        have hMd : ∀ j ∈ M, j ∈ done := fun j hj => dep_done m4 hcl (hTl j (List.mem_append_left _ hj)).1 i hil hdep (c1 j (List.mem_append_left _ hj))
        have hst : ∃ ts0 A0', subS ts0 ts' ∧ (∀ w, St w0 A' w → St w0 A0' w) ∧ OTL P w0 n ds l A0 (pick l (i :: post')) [] ts0 A0' fun ts A => VK (∀ ts' A', subS ts ts' → (∀ w, St w0 A' w → St w0 A w) → Q .normal ds ts' A') := by
          cases pre with
          | nil =>
            rw [List.nil_append] at hC
            rw [← hC]
            exact full done ts' A' hMd (hp3 rfl)
          | cons y pre =>
            obtain ⟨_, ts0, g1, g2⟩ := hp4 (by simp)
            exact ⟨ts0, A', g1, fun w hs => hs, g2⟩
        obtain ⟨ts0, A0', g1, g2, g3⟩ := hst
        have g4 : Gn P w0 n ds l false (nthO l i) ts0 A0' fun v A' => A0.Sublist A' ∧ OTL P w0 n ds l A0 (pick l post') [] (putT ts0 (nthO l i).dst v) A' fun ts A => VK (∀ ts' A', subS ts ts' → (∀ w, St w0 A' w → St w0 A w) → Q .normal ds ts' A') := by
          simp only [pick, OTL, OT, List.headD_cons, List.headD_nil] at g3
          exact g3
        have g5 := Gn.weak g1 g2 g4
        rw [c2]
        simp only [OT, List.headD_cons]
        refine Gn.mono g5 fun v A2 q => ⟨q.1, clo done i hcl hdep, pre ++ [i], post', by rw [hC]; simp, fun x hx => ?_, fun x hx q' => ?_, fun q => absurd q (by simp), fun _ => ⟨fun j hj => List.mem_append_left _ (hMd j hj), _, subS_put g1, q.2⟩⟩
        · rcases List.mem_append.1 hx with hx | hx
          · exact List.mem_append_left _ (hp1 x hx)
          · exact List.mem_append_right _ hx
        · rcases List.mem_append.1 q' with q' | q'
          · exact hp2 x (.tail _ hx) q'
          · rw [List.mem_singleton] at q'; subst q'
            rw [hC] at hnC
            have := (List.nodup_append.1 hnC).2.1
            exact (List.nodup_cons.1 this).1 hx
  · rintro done ts' A' hall ⟨hcl, pre, post, hC, hp1, hp2, hp3, hp4⟩
    have hpost : post = [] := List.eq_nil_iff_forall_not_mem.2 fun x hx => hp2 x hx (hall x (List.mem_append_right _ (by rw [hC]; exact List.mem_append_right _ hx)))
    subst hpost
    have hMd : ∀ j ∈ M, j ∈ done := fun j hj => hall j (List.mem_append_left _ hj)
    cases hpr : pre with
    | nil =>
      obtain ⟨ts0, A0', g1, g2, g3⟩ := full done ts' A' hMd (hp3 hpr)
      rw [hC, hpr] at g3
      have g4 : VK (∀ ts'' A'', subS ts0 ts'' → (∀ w, St w0 A'' w → St w0 A0' w) → Q .normal ds ts'' A'') := g3
      cases g4 with
      | mk g4 => exact g4 ts' A' g1 g2
    | cons y pre' =>
      obtain ⟨_, ts0, g1, g2⟩ := hp4 (by rw [hpr]; simp)
      have g4 : VK (∀ ts'' A'', subS ts0 ts'' → (∀ w, St w0 A'' w → St w0 A' w) → Q .normal ds ts'' A'') := g2
      cases g4 with
      | mk g4 => exact g4 ts' A' g1 fun w hs => hs
theorem tr_weakS {l : TS} {B : List Chunk} {c : Code} (hl : subS l ts) (hB : ∀ w, St w0 A w → St w0 B w) (h : Tr P r w0 n c ds l B Q) : Tr P r w0 n c ds ts A Q :=
  fun m a w hh => h m a w ⟨hh.size, fun t v hv => hh.slots t v (hl t v hv), hh.ds, hB w hh.st⟩
end
/-! ## Cells stored into a row of one's own -/
section
variable {P : Program} {tab : TT} {w0 : World} {n : Nat} {ds : List Deferred} {ops : List Oper} {o : Oper} {os : List Oper} {ks : List Kind} {ts : TS} {A A' : List Chunk} {K : TS → List Chunk → Prop} {x y : Operand} {t : TypeId} {i : TI} {g off : Nat}
theorem take_mid (cl vs : List Value) (q : Nat) (h : off + vs.length ≤ q) (hq : q ≤ cl.length) : (cl.take off ++ vs ++ cl.drop (off + vs.length)).take q = (cl.take q).take off ++ vs ++ (cl.take q).drop (off + vs.length) := by
  refine List.ext_getElem? fun k => ?_
  simp only [List.getElem?_take, List.getElem?_append, List.length_append, List.length_take, List.getElem?_drop]
  have e1 : min off cl.length = off := by omega
  have e2 : min off (min q cl.length) = off := by omega
  rw [e1, e2]
  by_cases h1 : k < off
  · simp [h1, show k < q by omega, show k < off + vs.length by omega]
  · by_cases h2 : k < off + vs.length
    · simp [h1, h2, show k < q by omega]
    · have e3 : off + vs.length + (k - (off + vs.length)) = k := by omega
      by_cases h3 : k < q
      · simp [h2, h3, e3]
      · simp [h2, h3, e3]
theorem ot_storeN_own {v : Value} {xs vs : List Value} {bt sz m cap : Nat} (hT : TabOk P tab) (hh : ks.headD .wr = .wr) (hop : o.op = .store t x y) (hd : o.dst = none) (hw : wantB ops ts o = some true) (hx : evT ts x = some (.pointer (some ⟨g, off, none⟩))) (hy : evT ts y = some v)
    (hi : lookI tab t = some i) (hc : v.cells.toList = vs) (hl : vs.length = i.size) (h1 : vs.all Value.oneCell' = true) (hu : Upd (.own (.slice (some ⟨g, 0, none⟩) m cap) bt sz m xs) (.own (.slice (some ⟨g, 0, none⟩) m cap) bt sz m (setMany xs off vs)) A A') (hlen : off + vs.length ≤ m * sz) (h0 : 0 < vs.length)
    (hk : OT P w0 n ds ops os ks.tail ts A' K) : OT P w0 n ds ops (o :: os) ks ts A K := by
  refine ot_wrote hh hd hw (fun a w hh => ?_) hk
  have h1 : ∀ u ∈ vs, u.oneCell' = true := by simpa using h1
  have hb := hh.st.all _ hu.mem
  obtain ⟨hxl, h | ⟨g', cap', cur, he, h2, h3, h4, h5, h6, h7⟩⟩ := hb
  · cases h.1
  · cases he
    have hmc : m * sz ≤ cur.size := by rw [h6]; exact Nat.mul_le_mul_right _ h4
    have hst := run_storeCells_at P g off bt vs 0 cur w h3 (by omega) h1
    simp only [Nat.add_zero] at hst
    refine ⟨w.setRow g (cur.toList.take off ++ vs ++ cur.toList.drop (off + vs.length)).toArray, ?_, hh.st.upd hu rfl grown_setRow ?_ fun b hb => .inl hb⟩
    rotate_left
    · have e1 : (cur.toList.take off ++ vs ++ cur.toList.drop (off + vs.length)).take (m * sz) = setMany xs off vs := by
        rw [take_mid _ _ _ hlen (by simpa using hmc), setMany_eq _ _ _ (by omega), h7]
      refine ⟨?_, .inr ⟨g, cap, _, rfl, h2, setRow_heap w g cur _ bt _ h3, h4, h5, ?_, ?_⟩⟩
      · rw [setMany_eq _ _ _ (by omega)]; simp; omega
      · simp; omega
      · exact e1
    · have hcs : v.cells.size = i.size := by rw [← hl, ← hc]; simp
      simp [execOp, hop, hh.ev hx, hh.ev hy, Instr.storeAt, Instr.sureAddr, storeVar, (hT t i hi).sz, hcs, hc, hst]
end
end Go.Proofs.Ytkbcogaodnmdoaa
