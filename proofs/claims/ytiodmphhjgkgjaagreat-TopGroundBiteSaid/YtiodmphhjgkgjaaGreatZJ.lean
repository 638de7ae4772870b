/- What the context says of keys: lemmas for the rows of this seat. No conditions. -/
import Derived.ChangeKeysEq
import Derived.Laws.StructEq
import Derived.Laws.Externs
import Derived.Test.YtiodmphhjgkgjaaGreatTab
import Derived.Test.YtiodmphhjgkgjaaGreatZI
set_option linter.all false
namespace Go.Proofs.YtiodmphhjgkgjaaGreat
open Go.RowKit
/-! ## What the context says of keys -/
def kk2 : KD := .fl [.i .i64, .i .i64]
theorem ck_ints : ∀ (n : Nat) (xs : List AV), ckM (List.replicate n (.i .i64)) xs = true → ∃ l : List Int, l.length = n ∧ xs = l.map (.i .i64)
  | 0, xs, h => by cases xs <;> simp [ckM] at h; exact ⟨[], rfl, rfl⟩
  | n + 1, xs, h => by
    rw [List.replicate_succ] at h
    cases xs with
    | nil => simp [ckM] at h
    | cons x xs =>
      obtain ⟨k, a, rfl⟩ : ∃ k a, x = .i k a := by cases x <;> first | exact ⟨_, _, rfl⟩ | (exfalso; simp [ckM] at h)
      simp only [ckM] at h
      split at h
      · rename_i hk
        have e1 := knd_inj hk
        subst e1
        obtain ⟨l, h3, h4⟩ := ck_ints n xs h
        exact ⟨a :: l, by simp [h3], by rw [h4]; rfl⟩
      · cases h
theorem kk2_form (k : KK kk2) : ∃ a b, k.1 = .g [.i .i64 a, .i .i64 b] := by
  obtain ⟨v, hv⟩ := k
  obtain ⟨l, rfl⟩ : ∃ l, v = .g l := by cases v <;> simp [keyB, kk2] at hv <;> exact ⟨_, rfl⟩
  simp only [keyB, kk2] at hv
  obtain ⟨l, h1, rfl⟩ := ck_ints 2 l hv
  rcases l with _ | ⟨a, _ | ⟨b, _ | ⟨c, l⟩⟩⟩ <;> simp at h1
  exact ⟨a, b, rfl⟩
theorem kk2_pair : ∃ g : KK kk2 → Int × Int, (∀ k : KK kk2, k.1 = .g [.i .i64 (g k).1, .i .i64 (g k).2]) ∧ ∀ x y, g x = g y → x = y := by
  have hf : ∀ k : KK kk2, ∃ p : Int × Int, k.1 = .g [.i .i64 p.1, .i .i64 p.2] := fun k => by
    obtain ⟨a, b, h⟩ := kk2_form k
    exact ⟨(a, b), h⟩
  obtain ⟨g, hg⟩ := Classical.axiomOfChoice hf
  exact ⟨g, hg, fun x y h => Subtype.ext ((hg x).trans (Eq.trans (by rw [h]) (hg y).symm))⟩
theorem KeyEnc.pull {P : Program} {t : TypeId} {κ κ' : Type} [DecidableEq κ] [DecidableEq κ'] {enc : κ → Value} {enc' : κ' → Value} (K : KeyEnc P t enc) (g : κ' → κ) (hi : ∀ x y, g x = g y → x = y) (he : ∀ k, enc' k = enc (g k)) : KeyEnc P t enc' where
  eq := fun x y w => by
    rw [he, he, K.eq]
    congr 1
    exact decide_eq_decide.2 ⟨hi x y, fun h => by rw [h]⟩
  now := fun kd x y hk => by
    rw [he, he]
    have e : decide (x = y) = decide (g x = g y) := decide_eq_decide.2 ⟨fun h => by rw [h], hi x y⟩
    rw [e]
    exact K.now kd _ _ hk
  check := fun e x w => by rw [he]; exact K.check e _ w
  stays := fun x => by rw [he]; exact K.stays _
  has := K.has
theorem kk2_key {P : Program} {t : TypeId} (K : KeyEnc P t (fun p : Int × Int => .agg #[.int .i64 p.1, .int .i64 p.2])) (ρ : Env) : KeyEnc P t (enK ρ kk2) := by
  obtain ⟨g, h1, h2⟩ := kk2_pair
  refine K.pull g h2 fun k => ?_
  unfold enK
  rw [h1 k]
  simp [cv, cvL]
theorem int_key {P : Program} {t : TypeId} (h : P.underlying t = some (.int .i64)) (ρ : Env) : KeyEnc P t (enK ρ (.nt .i64)) := by
  have hf : ∀ k : KK (.nt .i64), ∃ n, k.1 = .i .i64 n := fun k => by
    obtain ⟨v, hv⟩ := k
    obtain ⟨k, n, rfl⟩ : ∃ k n, v = .i k n := by cases v <;> simp [keyB] at hv <;> exact ⟨_, _, rfl⟩
    simp only [keyB] at hv
    obtain rfl := knd_inj hv
    exact ⟨n, rfl⟩
  have K : KeyEnc P t (fun n : Int => .int .i64 n) := {
    eq := fun x y w => by
      have := run_equalIn_int (P := P) w 9999 t .i64 .i64 x y h
      simp only [Op.equal, Op.maxDepth]
      rw [this]
      rw [Bool.beq_eq_decide_eq]
    now := fun kd x y hk => by
      rw [h] at hk
      cases hk
      right
      simp only [Instr.sameNow, if_true]
      rw [Bool.beq_eq_decide_eq]
    check := fun e x w => run_checkKey_int h e 9999 _ w
    stays := fun x => by simp [Instr.sameBits]
    has := ⟨_, h⟩ }
  obtain ⟨g, hg⟩ := Classical.axiomOfChoice hf
  refine K.pull g (fun x y e => Subtype.ext ((hg x).trans (Eq.trans (by rw [e]) (hg y).symm))) fun k => ?_
  have := hg k
  show cv ρ k.val = _
  rw [show k.val = AV.i .i64 (g k) from this]
  simp [cv]
theorem zsame_ints : ∀ (l m : List Int), zsame (l.map (.i .i64)) (m.map (.i .i64)) = decide (l = m)
  | [], [] => rfl
  | [], _ :: _ => rfl
  | _ :: _, [] => rfl
  | a :: l, b :: m => by
    simp only [List.map_cons, zsame]
    rw [zsame_ints l m, zeq_eq]
    by_cases h : a = b
    · subst h; simp
    · simp [h]
theorem eqItems_all {P : Program} {d : Nat} {e : TypeId} (he : P.underlying e = some (.int .i64)) {xs ys : List Int} (w : World) : ∀ (is : List Nat), (∀ i ∈ is, i < xs.length ∧ i < ys.length) →
    (Op.eqItems (d + 1) e 1 (xs.map (Value.int .i64)).toArray (ys.map (Value.int .i64)).toArray is).run P w = .ok (is.all fun i => decide (xs[i]? = ys[i]?)) w
  | [], _ => rfl
  | i :: is, hi => by
    obtain ⟨h1, h2⟩ := hi i (.head _)
    have g1 : (part e (xs.map (Value.int .i64)).toArray (i * 1)).run P w = .ok (.int .i64 xs[i]) w := run_part_int he _ _ w _ (by rw [Nat.mul_one]; simp [h1])
    have g2 : (part e (ys.map (Value.int .i64)).toArray (i * 1)).run P w = .ok (.int .i64 ys[i]) w := run_part_int he _ _ w _ (by rw [Nat.mul_one]; simp [h2])
    have g3 := run_equalIn_int (P := P) (w := w) d e .i64 .i64 xs[i] ys[i] he
    simp only [Op.eqItems, Sem.run_bind, g1, g2, g3, Result.andThen_ok]
    have ih := eqItems_all (d := d) he w is (fun x hx => hi x (.tail _ hx))
    by_cases hij : xs[i] = ys[i]
    · simp [hij, ih, h1, h2]
    · simp [hij, h1, h2]
theorem flatInts {P : Program} {t e : TypeId} {n : Nat} (hu : P.underlying t = some (.array n e)) (he : P.underlying e = some (.int .i64)) (hi : (P.info? e).isSome = true) (hc : P.cellsOf e = 1) (hg : P.eqGuardType P.depth t = false) : FlatKey P t (List.replicate n (.i .i64)) where
  eq := fun xs ys hx hy ρ w => by
    obtain ⟨l, h1, rfl⟩ := ck_ints n xs hx
    obtain ⟨m, h2, rfl⟩ := ck_ints n ys hy
    obtain ⟨i, hi⟩ := Option.isSome_iff_exists.1 hi
    have ec : ∀ l : List Int, cvL ρ (l.map (.i .i64)) = l.map (Value.int .i64) := fun l => by
      rw [cvL_eq, List.map_map]
      exact List.map_congr_left fun x _ => by simp [cv]
    rw [ec, ec]
    show (Op.equalIn (9999 + 1) t _ _).run P w = _
    rw [run_equalIn_array w 9999 _ _ hu hi, hc, zsame_ints]
    rw [eqItems_all (d := 9998) he w _ (fun i hi => by rw [List.mem_range] at hi; omega)]
    congr 1
    rw [Bool.eq_iff_iff, List.all_eq_true, decide_eq_true_eq]
    constructor
    · intro h
      apply List.ext_getElem?
      intro i
      by_cases hi : i < n
      · exact of_decide_eq_true (h i (List.mem_range.2 hi))
      · rw [List.getElem?_eq_none (by omega), List.getElem?_eq_none (by omega)]
    · rintro rfl i _; simp
  guard := hg
theorem flatPair {P : Program} {t : TypeId} (K : KeyEnc P t (fun p : Int × Int => .agg #[.int .i64 p.1, .int .i64 p.2])) (hg : P.eqGuardType P.depth t = false) : FlatKey P t [.i .i64, .i .i64] where
  eq := fun xs ys hx hy ρ w => by
    obtain ⟨l, h1, rfl⟩ := ck_ints 2 xs hx
    obtain ⟨m, h2, rfl⟩ := ck_ints 2 ys hy
    rcases l with _ | ⟨a, _ | ⟨b, _ | ⟨c, l⟩⟩⟩ <;> simp at h1
    rcases m with _ | ⟨a', _ | ⟨b', _ | ⟨c', l⟩⟩⟩ <;> simp at h2
    have := K.eq (a, b) (a', b') w
    rw [zsame_ints]
    simp only [List.map_cons, List.map_nil, cvL, cv]
    rw [this]
    congr 1
    simp
  guard := hg
def lkN {α : Type} (t : Nat) (l : List (Nat × α)) : Option α := match l with
  | [] => none
  | (u, a) :: l => match Nat.beq u t with
    | true => some a
    | false => lkN t l
theorem lkN_all {α : Type} {Q : Nat → α → Prop} : ∀ {l : List (Nat × α)}, (∀ p ∈ l, Q p.1 p.2) → ∀ {t : Nat} {a : α}, lkN t l = some a → Q t a
  | [], _, t, a, h => by cases h
  | (u, b) :: l, hl, t, a, h => by
    simp only [lkN] at h
    split at h
    · rename_i hb
      injection h with h
      subst h
      have := Nat.eq_of_beq_eq_true hb
      subst this
      exact hl _ (.head _)
    · exact lkN_all (fun p hp => hl p (.tail _ hp)) h
theorem Tryz.pk29 : KeyEnc Tryz.prog 29 (fun p : Int × Int => .agg #[.int .i64 p.1, .int .i64 p.2]) := pairKeys Tryz.underlying29 (by kernel_rfl) (by kernel_rfl) rfl rfl (by decide) (by decide) (by kernel_rfl)
theorem Tryz.pk30 : KeyEnc Tryz.prog 30 (fun p : Int × Int => .agg #[.int .i64 p.1, .int .i64 p.2]) := pairKeys Tryz.underlying30 (by kernel_rfl) (by kernel_rfl) rfl rfl (by decide) (by decide) (by kernel_rfl)
theorem Tryz.pk43 : KeyEnc Tryz.prog 43 (fun p : Int × Int => .agg #[.int .i64 p.1, .int .i64 p.2]) := pairKeys Tryz.underlying43 (by kernel_rfl) (by kernel_rfl) rfl rfl (by decide) (by decide) (by kernel_rfl)
theorem Tryz.pk44 : KeyEnc Tryz.prog 44 (fun p : Int × Int => .agg #[.int .i64 p.1, .int .i64 p.2]) := pairKeys Tryz.underlying44 (by kernel_rfl) (by kernel_rfl) rfl rfl (by decide) (by decide) (by kernel_rfl)
theorem Tryz.pk68 : KeyEnc Tryz.prog 68 (fun p : Int × Int => .agg #[.int .i64 p.1, .int .i64 p.2]) := pairKeys Tryz.underlying68 (by kernel_rfl) (by kernel_rfl) rfl rfl (by decide) (by decide) (by kernel_rfl)
theorem Tryz.pk69 : KeyEnc Tryz.prog 69 (fun p : Int × Int => .agg #[.int .i64 p.1, .int .i64 p.2]) := pairKeys Tryz.underlying69 (by kernel_rfl) (by kernel_rfl) rfl rfl (by decide) (by decide) (by kernel_rfl)
theorem Tryz.pk150 : KeyEnc Tryz.prog 150 (fun p : Int × Int => .agg #[.int .i64 p.1, .int .i64 p.2]) := pairKeys Tryz.underlying150 (by kernel_rfl) (by kernel_rfl) rfl rfl (by decide) (by decide) (by kernel_rfl)
theorem Tryz.pk151 : KeyEnc Tryz.prog 151 (fun p : Int × Int => .agg #[.int .i64 p.1, .int .i64 p.2]) := pairKeys Tryz.underlying151 (by kernel_rfl) (by kernel_rfl) rfl rfl (by decide) (by decide) (by kernel_rfl)
theorem Tryz.pk218 : KeyEnc Tryz.prog 218 (fun p : Int × Int => .agg #[.int .i64 p.1, .int .i64 p.2]) := pairKeys Tryz.underlying218 (by kernel_rfl) (by kernel_rfl) rfl rfl (by decide) (by decide) (by kernel_rfl)
theorem Tryz.pk219 : KeyEnc Tryz.prog 219 (fun p : Int × Int => .agg #[.int .i64 p.1, .int .i64 p.2]) := pairKeys Tryz.underlying219 (by kernel_rfl) (by kernel_rfl) rfl rfl (by decide) (by decide) (by kernel_rfl)
theorem Tryz.pk257 : KeyEnc Tryz.prog 257 (fun p : Int × Int => .agg #[.int .i64 p.1, .int .i64 p.2]) := pairKeys Tryz.underlying257 (by kernel_rfl) (by kernel_rfl) rfl rfl (by decide) (by decide) (by kernel_rfl)
theorem Tryz.pk258 : KeyEnc Tryz.prog 258 (fun p : Int × Int => .agg #[.int .i64 p.1, .int .i64 p.2]) := pairKeys Tryz.underlying258 (by kernel_rfl) (by kernel_rfl) rfl rfl (by decide) (by decide) (by kernel_rfl)
theorem Tryz.pk290 : KeyEnc Tryz.prog 290 (fun p : Int × Int => .agg #[.int .i64 p.1, .int .i64 p.2]) := pairKeys Tryz.underlying290 (by kernel_rfl) (by kernel_rfl) rfl rfl (by decide) (by decide) (by kernel_rfl)
theorem Tryz.pk291 : KeyEnc Tryz.prog 291 (fun p : Int × Int => .agg #[.int .i64 p.1, .int .i64 p.2]) := pairKeys Tryz.underlying291 (by kernel_rfl) (by kernel_rfl) rfl rfl (by decide) (by decide) (by kernel_rfl)
theorem Tryz.fl29 : FlatKey Tryz.prog 29 [.i .i64, .i .i64] := flatPair Tryz.pk29 (by kernel_rfl)
theorem Tryz.fl30 : FlatKey Tryz.prog 30 [.i .i64, .i .i64] := flatPair Tryz.pk30 (by kernel_rfl)
theorem Tryz.fl43 : FlatKey Tryz.prog 43 [.i .i64, .i .i64] := flatPair Tryz.pk43 (by kernel_rfl)
theorem Tryz.fl44 : FlatKey Tryz.prog 44 [.i .i64, .i .i64] := flatPair Tryz.pk44 (by kernel_rfl)
theorem Tryz.fl68 : FlatKey Tryz.prog 68 [.i .i64, .i .i64] := flatPair Tryz.pk68 (by kernel_rfl)
theorem Tryz.fl69 : FlatKey Tryz.prog 69 [.i .i64, .i .i64] := flatPair Tryz.pk69 (by kernel_rfl)
theorem Tryz.fl111 : FlatKey Tryz.prog 111 (List.replicate 101 (.i .i64)) := flatInts Tryz.underlying111 (by kernel_rfl) (by kernel_rfl) (by kernel_rfl) (by kernel_rfl)
theorem Tryz.fl112 : FlatKey Tryz.prog 112 (List.replicate 101 (.i .i64)) := flatInts Tryz.underlying112 (by kernel_rfl) (by kernel_rfl) (by kernel_rfl) (by kernel_rfl)
theorem Tryz.fl150 : FlatKey Tryz.prog 150 [.i .i64, .i .i64] := flatPair Tryz.pk150 (by kernel_rfl)
theorem Tryz.fl151 : FlatKey Tryz.prog 151 [.i .i64, .i .i64] := flatPair Tryz.pk151 (by kernel_rfl)
theorem Tryz.fl218 : FlatKey Tryz.prog 218 [.i .i64, .i .i64] := flatPair Tryz.pk218 (by kernel_rfl)
theorem Tryz.fl219 : FlatKey Tryz.prog 219 [.i .i64, .i .i64] := flatPair Tryz.pk219 (by kernel_rfl)
theorem Tryz.fl227 : FlatKey Tryz.prog 227 (List.replicate 10 (.i .i64)) := flatInts Tryz.underlying227 (by kernel_rfl) (by kernel_rfl) (by kernel_rfl) (by kernel_rfl)
theorem Tryz.fl228 : FlatKey Tryz.prog 228 (List.replicate 10 (.i .i64)) := flatInts Tryz.underlying228 (by kernel_rfl) (by kernel_rfl) (by kernel_rfl) (by kernel_rfl)
theorem Tryz.fl240 : FlatKey Tryz.prog 240 (List.replicate 12 (.i .i64)) := flatInts Tryz.underlying240 (by kernel_rfl) (by kernel_rfl) (by kernel_rfl) (by kernel_rfl)
theorem Tryz.fl241 : FlatKey Tryz.prog 241 (List.replicate 12 (.i .i64)) := flatInts Tryz.underlying241 (by kernel_rfl) (by kernel_rfl) (by kernel_rfl) (by kernel_rfl)
theorem Tryz.fl257 : FlatKey Tryz.prog 257 [.i .i64, .i .i64] := flatPair Tryz.pk257 (by kernel_rfl)
theorem Tryz.fl258 : FlatKey Tryz.prog 258 [.i .i64, .i .i64] := flatPair Tryz.pk258 (by kernel_rfl)
theorem Tryz.fl264 : FlatKey Tryz.prog 264 (List.replicate 19 (.i .i64)) := flatInts Tryz.underlying264 (by kernel_rfl) (by kernel_rfl) (by kernel_rfl) (by kernel_rfl)
theorem Tryz.fl265 : FlatKey Tryz.prog 265 (List.replicate 19 (.i .i64)) := flatInts Tryz.underlying265 (by kernel_rfl) (by kernel_rfl) (by kernel_rfl) (by kernel_rfl)
theorem Tryz.fl280 : FlatKey Tryz.prog 280 (List.replicate 42 (.i .i64)) := flatInts Tryz.underlying280 (by kernel_rfl) (by kernel_rfl) (by kernel_rfl) (by kernel_rfl)
theorem Tryz.fl281 : FlatKey Tryz.prog 281 (List.replicate 42 (.i .i64)) := flatInts Tryz.underlying281 (by kernel_rfl) (by kernel_rfl) (by kernel_rfl) (by kernel_rfl)
theorem Tryz.fl290 : FlatKey Tryz.prog 290 [.i .i64, .i .i64] := flatPair Tryz.pk290 (by kernel_rfl)
theorem Tryz.fl291 : FlatKey Tryz.prog 291 [.i .i64, .i .i64] := flatPair Tryz.pk291 (by kernel_rfl)
theorem Tryz.fl326 : FlatKey Tryz.prog 326 (List.replicate 19 (.i .i64)) := flatInts Tryz.underlying326 (by kernel_rfl) (by kernel_rfl) (by kernel_rfl) (by kernel_rfl)
theorem Tryz.fl327 : FlatKey Tryz.prog 327 (List.replicate 19 (.i .i64)) := flatInts Tryz.underlying327 (by kernel_rfl) (by kernel_rfl) (by kernel_rfl) (by kernel_rfl)
def Tryz.fkL : List (Nat × List CK) := [(29, [.i .i64, .i .i64]), (30, [.i .i64, .i .i64]), (43, [.i .i64, .i .i64]), (44, [.i .i64, .i .i64]), (68, [.i .i64, .i .i64]), (69, [.i .i64, .i .i64]), (111, List.replicate 101 (.i .i64)), (112, List.replicate 101 (.i .i64)), (150, [.i .i64, .i .i64]), (151, [.i .i64, .i .i64]), (218, [.i .i64, .i .i64]), (219, [.i .i64, .i .i64]), (227, List.replicate 10 (.i .i64)), (228, List.replicate 10 (.i .i64)), (240, List.replicate 12 (.i .i64)), (241, List.replicate 12 (.i .i64)), (257, [.i .i64, .i .i64]), (258, [.i .i64, .i .i64]), (264, List.replicate 19 (.i .i64)), (265, List.replicate 19 (.i .i64)), (280, List.replicate 42 (.i .i64)), (281, List.replicate 42 (.i .i64)), (290, [.i .i64, .i .i64]), (291, [.i .i64, .i .i64]), (326, List.replicate 19 (.i .i64)), (327, List.replicate 19 (.i .i64))]
def Tryz.kfL : List (Nat × KD) := [(3, .nt .i64), (69, .fl [.i .i64, .i .i64]), (151, .fl [.i .i64, .i .i64]), (219, .fl [.i .i64, .i .i64]), (258, .fl [.i .i64, .i .i64]), (291, .fl [.i .i64, .i .i64])]
theorem Tryz.fkOk : ∀ t ks, lkN t Tryz.fkL = some ks → FlatKey Tryz.prog t ks := fun t ks h => lkN_all (Q := fun t ks => FlatKey Tryz.prog t ks) (fun p hp => by
  simp only [Tryz.fkL, List.mem_cons, List.not_mem_nil, or_false] at hp
  rcases hp with rfl | rfl | rfl | rfl | rfl | rfl | rfl | rfl | rfl | rfl | rfl | rfl | rfl | rfl | rfl | rfl | rfl | rfl | rfl | rfl | rfl | rfl | rfl | rfl | rfl | rfl
  · exact Tryz.fl29
  · exact Tryz.fl30
  · exact Tryz.fl43
  · exact Tryz.fl44
  · exact Tryz.fl68
  · exact Tryz.fl69
  · exact Tryz.fl111
  · exact Tryz.fl112
  · exact Tryz.fl150
  · exact Tryz.fl151
  · exact Tryz.fl218
  · exact Tryz.fl219
  · exact Tryz.fl227
  · exact Tryz.fl228
  · exact Tryz.fl240
  · exact Tryz.fl241
  · exact Tryz.fl257
  · exact Tryz.fl258
  · exact Tryz.fl264
  · exact Tryz.fl265
  · exact Tryz.fl280
  · exact Tryz.fl281
  · exact Tryz.fl290
  · exact Tryz.fl291
  · exact Tryz.fl326
  · exact Tryz.fl327) h
theorem Tryz.kfOk : ∀ t kd, lkN t Tryz.kfL = some kd → ∀ ρ, KeyEnc Tryz.prog t (enK ρ kd) := fun t kd h => lkN_all (Q := fun t kd => ∀ ρ, KeyEnc Tryz.prog t (enK ρ kd)) (fun p hp => by
  simp only [Tryz.kfL, List.mem_cons, List.not_mem_nil, or_false] at hp
  rcases hp with rfl | rfl | rfl | rfl | rfl | rfl
  · exact fun ρ => int_key (by kernel_rfl) ρ
  · exact fun ρ => kk2_key Tryz.pk69 ρ
  · exact fun ρ => kk2_key Tryz.pk151 ρ
  · exact fun ρ => kk2_key Tryz.pk219 ρ
  · exact fun ρ => kk2_key Tryz.pk258 ρ
  · exact fun ρ => kk2_key Tryz.pk291 ρ) h
theorem Tryz.fo5 : Tryz.prog.funcs[5]? = some Tryz.f5 ∧ hasBody Tryz.prog 5 = true := ⟨by kernel_rfl, by kernel_rfl⟩
theorem Tryz.fo6 : Tryz.prog.funcs[6]? = some Tryz.f6 ∧ hasBody Tryz.prog 6 = true := ⟨by kernel_rfl, by kernel_rfl⟩
theorem Tryz.fo7 : Tryz.prog.funcs[7]? = some Tryz.f7 ∧ hasBody Tryz.prog 7 = true := ⟨by kernel_rfl, by kernel_rfl⟩
theorem Tryz.fo9 : Tryz.prog.funcs[9]? = some Tryz.f9 ∧ hasBody Tryz.prog 9 = true := ⟨by kernel_rfl, by kernel_rfl⟩
theorem Tryz.fo11 : Tryz.prog.funcs[11]? = some Tryz.f11 ∧ hasBody Tryz.prog 11 = true := ⟨by kernel_rfl, by kernel_rfl⟩
theorem Tryz.fo12 : Tryz.prog.funcs[12]? = some Tryz.f12 ∧ hasBody Tryz.prog 12 = true := ⟨by kernel_rfl, by kernel_rfl⟩
theorem Tryz.fo13 : Tryz.prog.funcs[13]? = some Tryz.f13 ∧ hasBody Tryz.prog 13 = true := ⟨by kernel_rfl, by kernel_rfl⟩
theorem Tryz.fo14 : Tryz.prog.funcs[14]? = some Tryz.f14 ∧ hasBody Tryz.prog 14 = true := ⟨by kernel_rfl, by kernel_rfl⟩
theorem Tryz.fo15 : Tryz.prog.funcs[15]? = some Tryz.f15 ∧ hasBody Tryz.prog 15 = true := ⟨by kernel_rfl, by kernel_rfl⟩
theorem Tryz.fo16 : Tryz.prog.funcs[16]? = some Tryz.f16 ∧ hasBody Tryz.prog 16 = true := ⟨by kernel_rfl, by kernel_rfl⟩
theorem Tryz.fo17 : Tryz.prog.funcs[17]? = some Tryz.f17 ∧ hasBody Tryz.prog 17 = true := ⟨by kernel_rfl, by kernel_rfl⟩
theorem Tryz.fo18 : Tryz.prog.funcs[18]? = some Tryz.f18 ∧ hasBody Tryz.prog 18 = true := ⟨by kernel_rfl, by kernel_rfl⟩
theorem Tryz.fo19 : Tryz.prog.funcs[19]? = some Tryz.f19 ∧ hasBody Tryz.prog 19 = true := ⟨by kernel_rfl, by kernel_rfl⟩
theorem Tryz.fo20 : Tryz.prog.funcs[20]? = some Tryz.f20 ∧ hasBody Tryz.prog 20 = true := ⟨by kernel_rfl, by kernel_rfl⟩
theorem Tryz.fo21 : Tryz.prog.funcs[21]? = some Tryz.f21 ∧ hasBody Tryz.prog 21 = true := ⟨by kernel_rfl, by kernel_rfl⟩
theorem Tryz.fo22 : Tryz.prog.funcs[22]? = some Tryz.f22 ∧ hasBody Tryz.prog 22 = true := ⟨by kernel_rfl, by kernel_rfl⟩
theorem Tryz.fo23 : Tryz.prog.funcs[23]? = some Tryz.f23 ∧ hasBody Tryz.prog 23 = true := ⟨by kernel_rfl, by kernel_rfl⟩
theorem Tryz.fo24 : Tryz.prog.funcs[24]? = some Tryz.f24 ∧ hasBody Tryz.prog 24 = true := ⟨by kernel_rfl, by kernel_rfl⟩
theorem Tryz.fo25 : Tryz.prog.funcs[25]? = some Tryz.f25 ∧ hasBody Tryz.prog 25 = true := ⟨by kernel_rfl, by kernel_rfl⟩
theorem Tryz.fo26 : Tryz.prog.funcs[26]? = some Tryz.f26 ∧ hasBody Tryz.prog 26 = true := ⟨by kernel_rfl, by kernel_rfl⟩
theorem Tryz.fo27 : Tryz.prog.funcs[27]? = some Tryz.f27 ∧ hasBody Tryz.prog 27 = true := ⟨by kernel_rfl, by kernel_rfl⟩
theorem Tryz.fo28 : Tryz.prog.funcs[28]? = some Tryz.f28 ∧ hasBody Tryz.prog 28 = true := ⟨by kernel_rfl, by kernel_rfl⟩
theorem Tryz.fo29 : Tryz.prog.funcs[29]? = some Tryz.f29 ∧ hasBody Tryz.prog 29 = true := ⟨by kernel_rfl, by kernel_rfl⟩
theorem Tryz.fo30 : Tryz.prog.funcs[30]? = some Tryz.f30 ∧ hasBody Tryz.prog 30 = true := ⟨by kernel_rfl, by kernel_rfl⟩
theorem Tryz.fo31 : Tryz.prog.funcs[31]? = some Tryz.f31 ∧ hasBody Tryz.prog 31 = true := ⟨by kernel_rfl, by kernel_rfl⟩
theorem Tryz.fo32 : Tryz.prog.funcs[32]? = some Tryz.f32 ∧ hasBody Tryz.prog 32 = true := ⟨by kernel_rfl, by kernel_rfl⟩
theorem Tryz.fo33 : Tryz.prog.funcs[33]? = some Tryz.f33 ∧ hasBody Tryz.prog 33 = true := ⟨by kernel_rfl, by kernel_rfl⟩
theorem Tryz.fo34 : Tryz.prog.funcs[34]? = some Tryz.f34 ∧ hasBody Tryz.prog 34 = true := ⟨by kernel_rfl, by kernel_rfl⟩
theorem Tryz.fo35 : Tryz.prog.funcs[35]? = some Tryz.f35 ∧ hasBody Tryz.prog 35 = true := ⟨by kernel_rfl, by kernel_rfl⟩
theorem Tryz.fo36 : Tryz.prog.funcs[36]? = some Tryz.f36 ∧ hasBody Tryz.prog 36 = true := ⟨by kernel_rfl, by kernel_rfl⟩
theorem Tryz.fo37 : Tryz.prog.funcs[37]? = some Tryz.f37 ∧ hasBody Tryz.prog 37 = true := ⟨by kernel_rfl, by kernel_rfl⟩
theorem Tryz.fo38 : Tryz.prog.funcs[38]? = some Tryz.f38 ∧ hasBody Tryz.prog 38 = true := ⟨by kernel_rfl, by kernel_rfl⟩
theorem Tryz.fo39 : Tryz.prog.funcs[39]? = some Tryz.f39 ∧ hasBody Tryz.prog 39 = true := ⟨by kernel_rfl, by kernel_rfl⟩
theorem Tryz.fo40 : Tryz.prog.funcs[40]? = some Tryz.f40 ∧ hasBody Tryz.prog 40 = true := ⟨by kernel_rfl, by kernel_rfl⟩
theorem Tryz.fo41 : Tryz.prog.funcs[41]? = some Tryz.f41 ∧ hasBody Tryz.prog 41 = true := ⟨by kernel_rfl, by kernel_rfl⟩
theorem Tryz.fo42 : Tryz.prog.funcs[42]? = some Tryz.f42 ∧ hasBody Tryz.prog 42 = true := ⟨by kernel_rfl, by kernel_rfl⟩
theorem Tryz.fo43 : Tryz.prog.funcs[43]? = some Tryz.f43 ∧ hasBody Tryz.prog 43 = true := ⟨by kernel_rfl, by kernel_rfl⟩
theorem Tryz.fo44 : Tryz.prog.funcs[44]? = some Tryz.f44 ∧ hasBody Tryz.prog 44 = true := ⟨by kernel_rfl, by kernel_rfl⟩
theorem Tryz.fo45 : Tryz.prog.funcs[45]? = some Tryz.f45 ∧ hasBody Tryz.prog 45 = true := ⟨by kernel_rfl, by kernel_rfl⟩
theorem Tryz.fo46 : Tryz.prog.funcs[46]? = some Tryz.f46 ∧ hasBody Tryz.prog 46 = true := ⟨by kernel_rfl, by kernel_rfl⟩
theorem Tryz.fo47 : Tryz.prog.funcs[47]? = some Tryz.f47 ∧ hasBody Tryz.prog 47 = true := ⟨by kernel_rfl, by kernel_rfl⟩
theorem Tryz.fo48 : Tryz.prog.funcs[48]? = some Tryz.f48 ∧ hasBody Tryz.prog 48 = true := ⟨by kernel_rfl, by kernel_rfl⟩
theorem Tryz.fo49 : Tryz.prog.funcs[49]? = some Tryz.f49 ∧ hasBody Tryz.prog 49 = true := ⟨by kernel_rfl, by kernel_rfl⟩
theorem Tryz.fo50 : Tryz.prog.funcs[50]? = some Tryz.f50 ∧ hasBody Tryz.prog 50 = true := ⟨by kernel_rfl, by kernel_rfl⟩
theorem Tryz.fo51 : Tryz.prog.funcs[51]? = some Tryz.f51 ∧ hasBody Tryz.prog 51 = true := ⟨by kernel_rfl, by kernel_rfl⟩
theorem Tryz.fo52 : Tryz.prog.funcs[52]? = some Tryz.f52 ∧ hasBody Tryz.prog 52 = true := ⟨by kernel_rfl, by kernel_rfl⟩
theorem Tryz.fo53 : Tryz.prog.funcs[53]? = some Tryz.f53 ∧ hasBody Tryz.prog 53 = true := ⟨by kernel_rfl, by kernel_rfl⟩
theorem Tryz.fo54 : Tryz.prog.funcs[54]? = some Tryz.f54 ∧ hasBody Tryz.prog 54 = true := ⟨by kernel_rfl, by kernel_rfl⟩
theorem Tryz.fo55 : Tryz.prog.funcs[55]? = some Tryz.f55 ∧ hasBody Tryz.prog 55 = true := ⟨by kernel_rfl, by kernel_rfl⟩
theorem Tryz.fo56 : Tryz.prog.funcs[56]? = some Tryz.f56 ∧ hasBody Tryz.prog 56 = true := ⟨by kernel_rfl, by kernel_rfl⟩
theorem Tryz.fo57 : Tryz.prog.funcs[57]? = some Tryz.f57 ∧ hasBody Tryz.prog 57 = true := ⟨by kernel_rfl, by kernel_rfl⟩
theorem Tryz.fo58 : Tryz.prog.funcs[58]? = some Tryz.f58 ∧ hasBody Tryz.prog 58 = true := ⟨by kernel_rfl, by kernel_rfl⟩
theorem Tryz.fo59 : Tryz.prog.funcs[59]? = some Tryz.f59 ∧ hasBody Tryz.prog 59 = true := ⟨by kernel_rfl, by kernel_rfl⟩
theorem Tryz.fo60 : Tryz.prog.funcs[60]? = some Tryz.f60 ∧ hasBody Tryz.prog 60 = true := ⟨by kernel_rfl, by kernel_rfl⟩
theorem Tryz.fo61 : Tryz.prog.funcs[61]? = some Tryz.f61 ∧ hasBody Tryz.prog 61 = true := ⟨by kernel_rfl, by kernel_rfl⟩
theorem Tryz.fo62 : Tryz.prog.funcs[62]? = some Tryz.f62 ∧ hasBody Tryz.prog 62 = true := ⟨by kernel_rfl, by kernel_rfl⟩
theorem Tryz.fo63 : Tryz.prog.funcs[63]? = some Tryz.f63 ∧ hasBody Tryz.prog 63 = true := ⟨by kernel_rfl, by kernel_rfl⟩
theorem Tryz.fo64 : Tryz.prog.funcs[64]? = some Tryz.f64 ∧ hasBody Tryz.prog 64 = true := ⟨by kernel_rfl, by kernel_rfl⟩
theorem Tryz.fo65 : Tryz.prog.funcs[65]? = some Tryz.f65 ∧ hasBody Tryz.prog 65 = true := ⟨by kernel_rfl, by kernel_rfl⟩
theorem Tryz.fo66 : Tryz.prog.funcs[66]? = some Tryz.f66 ∧ hasBody Tryz.prog 66 = true := ⟨by kernel_rfl, by kernel_rfl⟩
theorem Tryz.fo67 : Tryz.prog.funcs[67]? = some Tryz.f67 ∧ hasBody Tryz.prog 67 = true := ⟨by kernel_rfl, by kernel_rfl⟩
theorem Tryz.fo68 : Tryz.prog.funcs[68]? = some Tryz.f68 ∧ hasBody Tryz.prog 68 = true := ⟨by kernel_rfl, by kernel_rfl⟩
theorem Tryz.fo69 : Tryz.prog.funcs[69]? = some Tryz.f69 ∧ hasBody Tryz.prog 69 = true := ⟨by kernel_rfl, by kernel_rfl⟩
theorem Tryz.fo70 : Tryz.prog.funcs[70]? = some Tryz.f70 ∧ hasBody Tryz.prog 70 = true := ⟨by kernel_rfl, by kernel_rfl⟩
theorem Tryz.fo71 : Tryz.prog.funcs[71]? = some Tryz.f71 ∧ hasBody Tryz.prog 71 = true := ⟨by kernel_rfl, by kernel_rfl⟩
theorem Tryz.fo72 : Tryz.prog.funcs[72]? = some Tryz.f72 ∧ hasBody Tryz.prog 72 = true := ⟨by kernel_rfl, by kernel_rfl⟩
theorem Tryz.fo73 : Tryz.prog.funcs[73]? = some Tryz.f73 ∧ hasBody Tryz.prog 73 = true := ⟨by kernel_rfl, by kernel_rfl⟩
theorem Tryz.fo74 : Tryz.prog.funcs[74]? = some Tryz.f74 ∧ hasBody Tryz.prog 74 = true := ⟨by kernel_rfl, by kernel_rfl⟩
theorem Tryz.fo75 : Tryz.prog.funcs[75]? = some Tryz.f75 ∧ hasBody Tryz.prog 75 = true := ⟨by kernel_rfl, by kernel_rfl⟩
theorem Tryz.fo76 : Tryz.prog.funcs[76]? = some Tryz.f76 ∧ hasBody Tryz.prog 76 = true := ⟨by kernel_rfl, by kernel_rfl⟩
theorem Tryz.fo77 : Tryz.prog.funcs[77]? = some Tryz.f77 ∧ hasBody Tryz.prog 77 = true := ⟨by kernel_rfl, by kernel_rfl⟩
theorem Tryz.fo78 : Tryz.prog.funcs[78]? = some Tryz.f78 ∧ hasBody Tryz.prog 78 = true := ⟨by kernel_rfl, by kernel_rfl⟩
theorem Tryz.fo79 : Tryz.prog.funcs[79]? = some Tryz.f79 ∧ hasBody Tryz.prog 79 = true := ⟨by kernel_rfl, by kernel_rfl⟩
theorem Tryz.fo80 : Tryz.prog.funcs[80]? = some Tryz.f80 ∧ hasBody Tryz.prog 80 = true := ⟨by kernel_rfl, by kernel_rfl⟩
theorem Tryz.fo81 : Tryz.prog.funcs[81]? = some Tryz.f81 ∧ hasBody Tryz.prog 81 = true := ⟨by kernel_rfl, by kernel_rfl⟩
theorem Tryz.fo82 : Tryz.prog.funcs[82]? = some Tryz.f82 ∧ hasBody Tryz.prog 82 = true := ⟨by kernel_rfl, by kernel_rfl⟩
theorem Tryz.fo83 : Tryz.prog.funcs[83]? = some Tryz.f83 ∧ hasBody Tryz.prog 83 = true := ⟨by kernel_rfl, by kernel_rfl⟩
theorem Tryz.fo84 : Tryz.prog.funcs[84]? = some Tryz.f84 ∧ hasBody Tryz.prog 84 = true := ⟨by kernel_rfl, by kernel_rfl⟩
theorem Tryz.fo85 : Tryz.prog.funcs[85]? = some Tryz.f85 ∧ hasBody Tryz.prog 85 = true := ⟨by kernel_rfl, by kernel_rfl⟩
theorem Tryz.fo86 : Tryz.prog.funcs[86]? = some Tryz.f86 ∧ hasBody Tryz.prog 86 = true := ⟨by kernel_rfl, by kernel_rfl⟩
theorem Tryz.fo87 : Tryz.prog.funcs[87]? = some Tryz.f87 ∧ hasBody Tryz.prog 87 = true := ⟨by kernel_rfl, by kernel_rfl⟩
theorem Tryz.fo88 : Tryz.prog.funcs[88]? = some Tryz.f88 ∧ hasBody Tryz.prog 88 = true := ⟨by kernel_rfl, by kernel_rfl⟩
theorem Tryz.fo89 : Tryz.prog.funcs[89]? = some Tryz.f89 ∧ hasBody Tryz.prog 89 = true := ⟨by kernel_rfl, by kernel_rfl⟩
theorem Tryz.fo90 : Tryz.prog.funcs[90]? = some Tryz.f90 ∧ hasBody Tryz.prog 90 = true := ⟨by kernel_rfl, by kernel_rfl⟩
theorem Tryz.fo91 : Tryz.prog.funcs[91]? = some Tryz.f91 ∧ hasBody Tryz.prog 91 = true := ⟨by kernel_rfl, by kernel_rfl⟩
theorem Tryz.fo92 : Tryz.prog.funcs[92]? = some Tryz.f92 ∧ hasBody Tryz.prog 92 = true := ⟨by kernel_rfl, by kernel_rfl⟩
theorem Tryz.fo93 : Tryz.prog.funcs[93]? = some Tryz.f93 ∧ hasBody Tryz.prog 93 = true := ⟨by kernel_rfl, by kernel_rfl⟩
theorem Tryz.fo94 : Tryz.prog.funcs[94]? = some Tryz.f94 ∧ hasBody Tryz.prog 94 = true := ⟨by kernel_rfl, by kernel_rfl⟩
theorem Tryz.fo95 : Tryz.prog.funcs[95]? = some Tryz.f95 ∧ hasBody Tryz.prog 95 = true := ⟨by kernel_rfl, by kernel_rfl⟩
theorem Tryz.fo96 : Tryz.prog.funcs[96]? = some Tryz.f96 ∧ hasBody Tryz.prog 96 = true := ⟨by kernel_rfl, by kernel_rfl⟩
theorem Tryz.fo97 : Tryz.prog.funcs[97]? = some Tryz.f97 ∧ hasBody Tryz.prog 97 = true := ⟨by kernel_rfl, by kernel_rfl⟩
theorem Tryz.fo98 : Tryz.prog.funcs[98]? = some Tryz.f98 ∧ hasBody Tryz.prog 98 = true := ⟨by kernel_rfl, by kernel_rfl⟩
theorem Tryz.fo99 : Tryz.prog.funcs[99]? = some Tryz.f99 ∧ hasBody Tryz.prog 99 = true := ⟨by kernel_rfl, by kernel_rfl⟩
theorem Tryz.fo100 : Tryz.prog.funcs[100]? = some Tryz.f100 ∧ hasBody Tryz.prog 100 = true := ⟨by kernel_rfl, by kernel_rfl⟩
theorem Tryz.fo101 : Tryz.prog.funcs[101]? = some Tryz.f101 ∧ hasBody Tryz.prog 101 = true := ⟨by kernel_rfl, by kernel_rfl⟩
theorem Tryz.fo102 : Tryz.prog.funcs[102]? = some Tryz.f102 ∧ hasBody Tryz.prog 102 = true := ⟨by kernel_rfl, by kernel_rfl⟩
theorem Tryz.fo103 : Tryz.prog.funcs[103]? = some Tryz.f103 ∧ hasBody Tryz.prog 103 = true := ⟨by kernel_rfl, by kernel_rfl⟩
theorem Tryz.fo104 : Tryz.prog.funcs[104]? = some Tryz.f104 ∧ hasBody Tryz.prog 104 = true := ⟨by kernel_rfl, by kernel_rfl⟩
theorem Tryz.fo105 : Tryz.prog.funcs[105]? = some Tryz.f105 ∧ hasBody Tryz.prog 105 = true := ⟨by kernel_rfl, by kernel_rfl⟩
theorem Tryz.fo106 : Tryz.prog.funcs[106]? = some Tryz.f106 ∧ hasBody Tryz.prog 106 = true := ⟨by kernel_rfl, by kernel_rfl⟩
theorem Tryz.fo107 : Tryz.prog.funcs[107]? = some Tryz.f107 ∧ hasBody Tryz.prog 107 = true := ⟨by kernel_rfl, by kernel_rfl⟩
theorem Tryz.fo108 : Tryz.prog.funcs[108]? = some Tryz.f108 ∧ hasBody Tryz.prog 108 = true := ⟨by kernel_rfl, by kernel_rfl⟩
theorem Tryz.fo109 : Tryz.prog.funcs[109]? = some Tryz.f109 ∧ hasBody Tryz.prog 109 = true := ⟨by kernel_rfl, by kernel_rfl⟩
theorem Tryz.fo110 : Tryz.prog.funcs[110]? = some Tryz.f110 ∧ hasBody Tryz.prog 110 = true := ⟨by kernel_rfl, by kernel_rfl⟩
theorem Tryz.fo111 : Tryz.prog.funcs[111]? = some Tryz.f111 ∧ hasBody Tryz.prog 111 = true := ⟨by kernel_rfl, by kernel_rfl⟩
theorem Tryz.fo112 : Tryz.prog.funcs[112]? = some Tryz.f112 ∧ hasBody Tryz.prog 112 = true := ⟨by kernel_rfl, by kernel_rfl⟩
theorem Tryz.fo113 : Tryz.prog.funcs[113]? = some Tryz.f113 ∧ hasBody Tryz.prog 113 = true := ⟨by kernel_rfl, by kernel_rfl⟩
theorem Tryz.fo114 : Tryz.prog.funcs[114]? = some Tryz.f114 ∧ hasBody Tryz.prog 114 = true := ⟨by kernel_rfl, by kernel_rfl⟩
theorem Tryz.fo115 : Tryz.prog.funcs[115]? = some Tryz.f115 ∧ hasBody Tryz.prog 115 = true := ⟨by kernel_rfl, by kernel_rfl⟩
theorem Tryz.fo116 : Tryz.prog.funcs[116]? = some Tryz.f116 ∧ hasBody Tryz.prog 116 = true := ⟨by kernel_rfl, by kernel_rfl⟩
theorem Tryz.fo117 : Tryz.prog.funcs[117]? = some Tryz.f117 ∧ hasBody Tryz.prog 117 = true := ⟨by kernel_rfl, by kernel_rfl⟩
theorem Tryz.fo118 : Tryz.prog.funcs[118]? = some Tryz.f118 ∧ hasBody Tryz.prog 118 = true := ⟨by kernel_rfl, by kernel_rfl⟩
theorem Tryz.fo119 : Tryz.prog.funcs[119]? = some Tryz.f119 ∧ hasBody Tryz.prog 119 = true := ⟨by kernel_rfl, by kernel_rfl⟩
theorem Tryz.fo120 : Tryz.prog.funcs[120]? = some Tryz.f120 ∧ hasBody Tryz.prog 120 = true := ⟨by kernel_rfl, by kernel_rfl⟩
theorem Tryz.fo121 : Tryz.prog.funcs[121]? = some Tryz.f121 ∧ hasBody Tryz.prog 121 = true := ⟨by kernel_rfl, by kernel_rfl⟩
theorem Tryz.fo122 : Tryz.prog.funcs[122]? = some Tryz.f122 ∧ hasBody Tryz.prog 122 = true := ⟨by kernel_rfl, by kernel_rfl⟩
theorem Tryz.fo123 : Tryz.prog.funcs[123]? = some Tryz.f123 ∧ hasBody Tryz.prog 123 = true := ⟨by kernel_rfl, by kernel_rfl⟩
theorem Tryz.fo124 : Tryz.prog.funcs[124]? = some Tryz.f124 ∧ hasBody Tryz.prog 124 = true := ⟨by kernel_rfl, by kernel_rfl⟩
theorem Tryz.fo125 : Tryz.prog.funcs[125]? = some Tryz.f125 ∧ hasBody Tryz.prog 125 = true := ⟨by kernel_rfl, by kernel_rfl⟩
theorem Tryz.fo126 : Tryz.prog.funcs[126]? = some Tryz.f126 ∧ hasBody Tryz.prog 126 = true := ⟨by kernel_rfl, by kernel_rfl⟩
theorem Tryz.fo127 : Tryz.prog.funcs[127]? = some Tryz.f127 ∧ hasBody Tryz.prog 127 = true := ⟨by kernel_rfl, by kernel_rfl⟩
theorem Tryz.fo128 : Tryz.prog.funcs[128]? = some Tryz.f128 ∧ hasBody Tryz.prog 128 = true := ⟨by kernel_rfl, by kernel_rfl⟩
theorem Tryz.fo129 : Tryz.prog.funcs[129]? = some Tryz.f129 ∧ hasBody Tryz.prog 129 = true := ⟨by kernel_rfl, by kernel_rfl⟩
theorem Tryz.fo130 : Tryz.prog.funcs[130]? = some Tryz.f130 ∧ hasBody Tryz.prog 130 = true := ⟨by kernel_rfl, by kernel_rfl⟩
theorem Tryz.fo131 : Tryz.prog.funcs[131]? = some Tryz.f131 ∧ hasBody Tryz.prog 131 = true := ⟨by kernel_rfl, by kernel_rfl⟩
theorem Tryz.fo132 : Tryz.prog.funcs[132]? = some Tryz.f132 ∧ hasBody Tryz.prog 132 = true := ⟨by kernel_rfl, by kernel_rfl⟩
theorem Tryz.fo133 : Tryz.prog.funcs[133]? = some Tryz.f133 ∧ hasBody Tryz.prog 133 = true := ⟨by kernel_rfl, by kernel_rfl⟩
theorem Tryz.fo134 : Tryz.prog.funcs[134]? = some Tryz.f134 ∧ hasBody Tryz.prog 134 = true := ⟨by kernel_rfl, by kernel_rfl⟩
theorem Tryz.fo135 : Tryz.prog.funcs[135]? = some Tryz.f135 ∧ hasBody Tryz.prog 135 = true := ⟨by kernel_rfl, by kernel_rfl⟩
theorem Tryz.fo136 : Tryz.prog.funcs[136]? = some Tryz.f136 ∧ hasBody Tryz.prog 136 = true := ⟨by kernel_rfl, by kernel_rfl⟩
theorem Tryz.fo137 : Tryz.prog.funcs[137]? = some Tryz.f137 ∧ hasBody Tryz.prog 137 = true := ⟨by kernel_rfl, by kernel_rfl⟩
theorem Tryz.fo138 : Tryz.prog.funcs[138]? = some Tryz.f138 ∧ hasBody Tryz.prog 138 = true := ⟨by kernel_rfl, by kernel_rfl⟩
theorem Tryz.fo139 : Tryz.prog.funcs[139]? = some Tryz.f139 ∧ hasBody Tryz.prog 139 = true := ⟨by kernel_rfl, by kernel_rfl⟩
theorem Tryz.fo140 : Tryz.prog.funcs[140]? = some Tryz.f140 ∧ hasBody Tryz.prog 140 = true := ⟨by kernel_rfl, by kernel_rfl⟩
theorem Tryz.fo141 : Tryz.prog.funcs[141]? = some Tryz.f141 ∧ hasBody Tryz.prog 141 = true := ⟨by kernel_rfl, by kernel_rfl⟩
theorem Tryz.fo142 : Tryz.prog.funcs[142]? = some Tryz.f142 ∧ hasBody Tryz.prog 142 = true := ⟨by kernel_rfl, by kernel_rfl⟩
theorem Tryz.fo143 : Tryz.prog.funcs[143]? = some Tryz.f143 ∧ hasBody Tryz.prog 143 = true := ⟨by kernel_rfl, by kernel_rfl⟩
theorem Tryz.fo144 : Tryz.prog.funcs[144]? = some Tryz.f144 ∧ hasBody Tryz.prog 144 = true := ⟨by kernel_rfl, by kernel_rfl⟩
theorem Tryz.fo145 : Tryz.prog.funcs[145]? = some Tryz.f145 ∧ hasBody Tryz.prog 145 = true := ⟨by kernel_rfl, by kernel_rfl⟩
theorem Tryz.fo146 : Tryz.prog.funcs[146]? = some Tryz.f146 ∧ hasBody Tryz.prog 146 = true := ⟨by kernel_rfl, by kernel_rfl⟩
theorem Tryz.fo147 : Tryz.prog.funcs[147]? = some Tryz.f147 ∧ hasBody Tryz.prog 147 = true := ⟨by kernel_rfl, by kernel_rfl⟩
theorem Tryz.fo148 : Tryz.prog.funcs[148]? = some Tryz.f148 ∧ hasBody Tryz.prog 148 = true := ⟨by kernel_rfl, by kernel_rfl⟩
theorem Tryz.fo149 : Tryz.prog.funcs[149]? = some Tryz.f149 ∧ hasBody Tryz.prog 149 = true := ⟨by kernel_rfl, by kernel_rfl⟩
theorem Tryz.fo150 : Tryz.prog.funcs[150]? = some Tryz.f150 ∧ hasBody Tryz.prog 150 = true := ⟨by kernel_rfl, by kernel_rfl⟩
theorem Tryz.fo151 : Tryz.prog.funcs[151]? = some Tryz.f151 ∧ hasBody Tryz.prog 151 = true := ⟨by kernel_rfl, by kernel_rfl⟩
theorem Tryz.fo152 : Tryz.prog.funcs[152]? = some Tryz.f152 ∧ hasBody Tryz.prog 152 = true := ⟨by kernel_rfl, by kernel_rfl⟩
theorem Tryz.fo153 : Tryz.prog.funcs[153]? = some Tryz.f153 ∧ hasBody Tryz.prog 153 = true := ⟨by kernel_rfl, by kernel_rfl⟩
theorem Tryz.fo154 : Tryz.prog.funcs[154]? = some Tryz.f154 ∧ hasBody Tryz.prog 154 = true := ⟨by kernel_rfl, by kernel_rfl⟩
theorem Tryz.fo155 : Tryz.prog.funcs[155]? = some Tryz.f155 ∧ hasBody Tryz.prog 155 = true := ⟨by kernel_rfl, by kernel_rfl⟩
theorem Tryz.fo156 : Tryz.prog.funcs[156]? = some Tryz.f156 ∧ hasBody Tryz.prog 156 = true := ⟨by kernel_rfl, by kernel_rfl⟩
theorem Tryz.fo157 : Tryz.prog.funcs[157]? = some Tryz.f157 ∧ hasBody Tryz.prog 157 = true := ⟨by kernel_rfl, by kernel_rfl⟩
theorem Tryz.fo158 : Tryz.prog.funcs[158]? = some Tryz.f158 ∧ hasBody Tryz.prog 158 = true := ⟨by kernel_rfl, by kernel_rfl⟩
theorem Tryz.fo159 : Tryz.prog.funcs[159]? = some Tryz.f159 ∧ hasBody Tryz.prog 159 = true := ⟨by kernel_rfl, by kernel_rfl⟩
theorem Tryz.fo160 : Tryz.prog.funcs[160]? = some Tryz.f160 ∧ hasBody Tryz.prog 160 = true := ⟨by kernel_rfl, by kernel_rfl⟩
theorem Tryz.fo161 : Tryz.prog.funcs[161]? = some Tryz.f161 ∧ hasBody Tryz.prog 161 = true := ⟨by kernel_rfl, by kernel_rfl⟩
theorem Tryz.fo162 : Tryz.prog.funcs[162]? = some Tryz.f162 ∧ hasBody Tryz.prog 162 = true := ⟨by kernel_rfl, by kernel_rfl⟩
theorem Tryz.fo163 : Tryz.prog.funcs[163]? = some Tryz.f163 ∧ hasBody Tryz.prog 163 = true := ⟨by kernel_rfl, by kernel_rfl⟩
theorem Tryz.fo164 : Tryz.prog.funcs[164]? = some Tryz.f164 ∧ hasBody Tryz.prog 164 = true := ⟨by kernel_rfl, by kernel_rfl⟩
theorem Tryz.fo165 : Tryz.prog.funcs[165]? = some Tryz.f165 ∧ hasBody Tryz.prog 165 = true := ⟨by kernel_rfl, by kernel_rfl⟩
theorem Tryz.fo166 : Tryz.prog.funcs[166]? = some Tryz.f166 ∧ hasBody Tryz.prog 166 = true := ⟨by kernel_rfl, by kernel_rfl⟩
theorem Tryz.fo167 : Tryz.prog.funcs[167]? = some Tryz.f167 ∧ hasBody Tryz.prog 167 = true := ⟨by kernel_rfl, by kernel_rfl⟩
theorem Tryz.fo168 : Tryz.prog.funcs[168]? = some Tryz.f168 ∧ hasBody Tryz.prog 168 = true := ⟨by kernel_rfl, by kernel_rfl⟩
theorem Tryz.fo169 : Tryz.prog.funcs[169]? = some Tryz.f169 ∧ hasBody Tryz.prog 169 = true := ⟨by kernel_rfl, by kernel_rfl⟩
theorem Tryz.fo170 : Tryz.prog.funcs[170]? = some Tryz.f170 ∧ hasBody Tryz.prog 170 = true := ⟨by kernel_rfl, by kernel_rfl⟩
theorem Tryz.fo171 : Tryz.prog.funcs[171]? = some Tryz.f171 ∧ hasBody Tryz.prog 171 = true := ⟨by kernel_rfl, by kernel_rfl⟩
theorem Tryz.fo172 : Tryz.prog.funcs[172]? = some Tryz.f172 ∧ hasBody Tryz.prog 172 = true := ⟨by kernel_rfl, by kernel_rfl⟩
theorem Tryz.fo173 : Tryz.prog.funcs[173]? = some Tryz.f173 ∧ hasBody Tryz.prog 173 = true := ⟨by kernel_rfl, by kernel_rfl⟩
theorem Tryz.fo174 : Tryz.prog.funcs[174]? = some Tryz.f174 ∧ hasBody Tryz.prog 174 = true := ⟨by kernel_rfl, by kernel_rfl⟩
theorem Tryz.fo175 : Tryz.prog.funcs[175]? = some Tryz.f175 ∧ hasBody Tryz.prog 175 = true := ⟨by kernel_rfl, by kernel_rfl⟩
theorem Tryz.fo176 : Tryz.prog.funcs[176]? = some Tryz.f176 ∧ hasBody Tryz.prog 176 = true := ⟨by kernel_rfl, by kernel_rfl⟩
theorem Tryz.fo177 : Tryz.prog.funcs[177]? = some Tryz.f177 ∧ hasBody Tryz.prog 177 = true := ⟨by kernel_rfl, by kernel_rfl⟩
theorem Tryz.fo178 : Tryz.prog.funcs[178]? = some Tryz.f178 ∧ hasBody Tryz.prog 178 = true := ⟨by kernel_rfl, by kernel_rfl⟩
theorem Tryz.fo179 : Tryz.prog.funcs[179]? = some Tryz.f179 ∧ hasBody Tryz.prog 179 = true := ⟨by kernel_rfl, by kernel_rfl⟩
theorem Tryz.fo180 : Tryz.prog.funcs[180]? = some Tryz.f180 ∧ hasBody Tryz.prog 180 = true := ⟨by kernel_rfl, by kernel_rfl⟩
theorem Tryz.fo181 : Tryz.prog.funcs[181]? = some Tryz.f181 ∧ hasBody Tryz.prog 181 = true := ⟨by kernel_rfl, by kernel_rfl⟩
theorem Tryz.fo182 : Tryz.prog.funcs[182]? = some Tryz.f182 ∧ hasBody Tryz.prog 182 = true := ⟨by kernel_rfl, by kernel_rfl⟩
theorem Tryz.fo183 : Tryz.prog.funcs[183]? = some Tryz.f183 ∧ hasBody Tryz.prog 183 = true := ⟨by kernel_rfl, by kernel_rfl⟩
theorem Tryz.fo184 : Tryz.prog.funcs[184]? = some Tryz.f184 ∧ hasBody Tryz.prog 184 = true := ⟨by kernel_rfl, by kernel_rfl⟩
theorem Tryz.fo185 : Tryz.prog.funcs[185]? = some Tryz.f185 ∧ hasBody Tryz.prog 185 = true := ⟨by kernel_rfl, by kernel_rfl⟩
theorem Tryz.fo186 : Tryz.prog.funcs[186]? = some Tryz.f186 ∧ hasBody Tryz.prog 186 = true := ⟨by kernel_rfl, by kernel_rfl⟩
theorem Tryz.fo187 : Tryz.prog.funcs[187]? = some Tryz.f187 ∧ hasBody Tryz.prog 187 = true := ⟨by kernel_rfl, by kernel_rfl⟩
theorem Tryz.fo188 : Tryz.prog.funcs[188]? = some Tryz.f188 ∧ hasBody Tryz.prog 188 = true := ⟨by kernel_rfl, by kernel_rfl⟩
theorem Tryz.fo189 : Tryz.prog.funcs[189]? = some Tryz.f189 ∧ hasBody Tryz.prog 189 = true := ⟨by kernel_rfl, by kernel_rfl⟩
theorem Tryz.fo190 : Tryz.prog.funcs[190]? = some Tryz.f190 ∧ hasBody Tryz.prog 190 = true := ⟨by kernel_rfl, by kernel_rfl⟩
theorem Tryz.fo191 : Tryz.prog.funcs[191]? = some Tryz.f191 ∧ hasBody Tryz.prog 191 = true := ⟨by kernel_rfl, by kernel_rfl⟩
theorem Tryz.fo192 : Tryz.prog.funcs[192]? = some Tryz.f192 ∧ hasBody Tryz.prog 192 = true := ⟨by kernel_rfl, by kernel_rfl⟩
theorem Tryz.fo193 : Tryz.prog.funcs[193]? = some Tryz.f193 ∧ hasBody Tryz.prog 193 = true := ⟨by kernel_rfl, by kernel_rfl⟩
theorem Tryz.fo194 : Tryz.prog.funcs[194]? = some Tryz.f194 ∧ hasBody Tryz.prog 194 = true := ⟨by kernel_rfl, by kernel_rfl⟩
theorem Tryz.fo195 : Tryz.prog.funcs[195]? = some Tryz.f195 ∧ hasBody Tryz.prog 195 = true := ⟨by kernel_rfl, by kernel_rfl⟩
theorem Tryz.fo196 : Tryz.prog.funcs[196]? = some Tryz.f196 ∧ hasBody Tryz.prog 196 = true := ⟨by kernel_rfl, by kernel_rfl⟩
theorem Tryz.fo197 : Tryz.prog.funcs[197]? = some Tryz.f197 ∧ hasBody Tryz.prog 197 = true := ⟨by kernel_rfl, by kernel_rfl⟩
theorem Tryz.fo198 : Tryz.prog.funcs[198]? = some Tryz.f198 ∧ hasBody Tryz.prog 198 = true := ⟨by kernel_rfl, by kernel_rfl⟩
theorem Tryz.fo199 : Tryz.prog.funcs[199]? = some Tryz.f199 ∧ hasBody Tryz.prog 199 = true := ⟨by kernel_rfl, by kernel_rfl⟩
theorem Tryz.fo200 : Tryz.prog.funcs[200]? = some Tryz.f200 ∧ hasBody Tryz.prog 200 = true := ⟨by kernel_rfl, by kernel_rfl⟩
theorem Tryz.fo201 : Tryz.prog.funcs[201]? = some Tryz.f201 ∧ hasBody Tryz.prog 201 = true := ⟨by kernel_rfl, by kernel_rfl⟩
theorem Tryz.fo202 : Tryz.prog.funcs[202]? = some Tryz.f202 ∧ hasBody Tryz.prog 202 = true := ⟨by kernel_rfl, by kernel_rfl⟩
theorem Tryz.fo203 : Tryz.prog.funcs[203]? = some Tryz.f203 ∧ hasBody Tryz.prog 203 = true := ⟨by kernel_rfl, by kernel_rfl⟩
theorem Tryz.fo204 : Tryz.prog.funcs[204]? = some Tryz.f204 ∧ hasBody Tryz.prog 204 = true := ⟨by kernel_rfl, by kernel_rfl⟩
theorem Tryz.fo205 : Tryz.prog.funcs[205]? = some Tryz.f205 ∧ hasBody Tryz.prog 205 = true := ⟨by kernel_rfl, by kernel_rfl⟩
theorem Tryz.fo206 : Tryz.prog.funcs[206]? = some Tryz.f206 ∧ hasBody Tryz.prog 206 = true := ⟨by kernel_rfl, by kernel_rfl⟩
theorem Tryz.fo207 : Tryz.prog.funcs[207]? = some Tryz.f207 ∧ hasBody Tryz.prog 207 = true := ⟨by kernel_rfl, by kernel_rfl⟩
theorem Tryz.fo208 : Tryz.prog.funcs[208]? = some Tryz.f208 ∧ hasBody Tryz.prog 208 = true := ⟨by kernel_rfl, by kernel_rfl⟩
theorem Tryz.fo209 : Tryz.prog.funcs[209]? = some Tryz.f209 ∧ hasBody Tryz.prog 209 = true := ⟨by kernel_rfl, by kernel_rfl⟩
theorem Tryz.fo210 : Tryz.prog.funcs[210]? = some Tryz.f210 ∧ hasBody Tryz.prog 210 = true := ⟨by kernel_rfl, by kernel_rfl⟩
theorem Tryz.fo211 : Tryz.prog.funcs[211]? = some Tryz.f211 ∧ hasBody Tryz.prog 211 = true := ⟨by kernel_rfl, by kernel_rfl⟩
theorem Tryz.fo212 : Tryz.prog.funcs[212]? = some Tryz.f212 ∧ hasBody Tryz.prog 212 = true := ⟨by kernel_rfl, by kernel_rfl⟩
theorem Tryz.fo213 : Tryz.prog.funcs[213]? = some Tryz.f213 ∧ hasBody Tryz.prog 213 = true := ⟨by kernel_rfl, by kernel_rfl⟩
theorem Tryz.fo214 : Tryz.prog.funcs[214]? = some Tryz.f214 ∧ hasBody Tryz.prog 214 = true := ⟨by kernel_rfl, by kernel_rfl⟩
theorem Tryz.fo215 : Tryz.prog.funcs[215]? = some Tryz.f215 ∧ hasBody Tryz.prog 215 = true := ⟨by kernel_rfl, by kernel_rfl⟩
theorem Tryz.fo216 : Tryz.prog.funcs[216]? = some Tryz.f216 ∧ hasBody Tryz.prog 216 = true := ⟨by kernel_rfl, by kernel_rfl⟩
theorem Tryz.fo217 : Tryz.prog.funcs[217]? = some Tryz.f217 ∧ hasBody Tryz.prog 217 = true := ⟨by kernel_rfl, by kernel_rfl⟩
theorem Tryz.fo218 : Tryz.prog.funcs[218]? = some Tryz.f218 ∧ hasBody Tryz.prog 218 = true := ⟨by kernel_rfl, by kernel_rfl⟩
theorem Tryz.fo219 : Tryz.prog.funcs[219]? = some Tryz.f219 ∧ hasBody Tryz.prog 219 = true := ⟨by kernel_rfl, by kernel_rfl⟩
theorem Tryz.fo220 : Tryz.prog.funcs[220]? = some Tryz.f220 ∧ hasBody Tryz.prog 220 = true := ⟨by kernel_rfl, by kernel_rfl⟩
theorem Tryz.fo221 : Tryz.prog.funcs[221]? = some Tryz.f221 ∧ hasBody Tryz.prog 221 = true := ⟨by kernel_rfl, by kernel_rfl⟩
theorem Tryz.fo222 : Tryz.prog.funcs[222]? = some Tryz.f222 ∧ hasBody Tryz.prog 222 = true := ⟨by kernel_rfl, by kernel_rfl⟩
theorem Tryz.fo223 : Tryz.prog.funcs[223]? = some Tryz.f223 ∧ hasBody Tryz.prog 223 = true := ⟨by kernel_rfl, by kernel_rfl⟩
theorem Tryz.fo224 : Tryz.prog.funcs[224]? = some Tryz.f224 ∧ hasBody Tryz.prog 224 = true := ⟨by kernel_rfl, by kernel_rfl⟩
theorem Tryz.fo225 : Tryz.prog.funcs[225]? = some Tryz.f225 ∧ hasBody Tryz.prog 225 = true := ⟨by kernel_rfl, by kernel_rfl⟩
theorem Tryz.fo226 : Tryz.prog.funcs[226]? = some Tryz.f226 ∧ hasBody Tryz.prog 226 = true := ⟨by kernel_rfl, by kernel_rfl⟩
theorem Tryz.fo227 : Tryz.prog.funcs[227]? = some Tryz.f227 ∧ hasBody Tryz.prog 227 = true := ⟨by kernel_rfl, by kernel_rfl⟩
theorem Tryz.fo228 : Tryz.prog.funcs[228]? = some Tryz.f228 ∧ hasBody Tryz.prog 228 = true := ⟨by kernel_rfl, by kernel_rfl⟩
theorem Tryz.fo229 : Tryz.prog.funcs[229]? = some Tryz.f229 ∧ hasBody Tryz.prog 229 = true := ⟨by kernel_rfl, by kernel_rfl⟩
theorem Tryz.fo230 : Tryz.prog.funcs[230]? = some Tryz.f230 ∧ hasBody Tryz.prog 230 = true := ⟨by kernel_rfl, by kernel_rfl⟩
theorem Tryz.fo231 : Tryz.prog.funcs[231]? = some Tryz.f231 ∧ hasBody Tryz.prog 231 = true := ⟨by kernel_rfl, by kernel_rfl⟩
theorem Tryz.fo232 : Tryz.prog.funcs[232]? = some Tryz.f232 ∧ hasBody Tryz.prog 232 = true := ⟨by kernel_rfl, by kernel_rfl⟩
theorem Tryz.fo233 : Tryz.prog.funcs[233]? = some Tryz.f233 ∧ hasBody Tryz.prog 233 = true := ⟨by kernel_rfl, by kernel_rfl⟩
theorem Tryz.fo234 : Tryz.prog.funcs[234]? = some Tryz.f234 ∧ hasBody Tryz.prog 234 = true := ⟨by kernel_rfl, by kernel_rfl⟩
theorem Tryz.fo235 : Tryz.prog.funcs[235]? = some Tryz.f235 ∧ hasBody Tryz.prog 235 = true := ⟨by kernel_rfl, by kernel_rfl⟩
theorem Tryz.fo236 : Tryz.prog.funcs[236]? = some Tryz.f236 ∧ hasBody Tryz.prog 236 = true := ⟨by kernel_rfl, by kernel_rfl⟩
theorem Tryz.fo237 : Tryz.prog.funcs[237]? = some Tryz.f237 ∧ hasBody Tryz.prog 237 = true := ⟨by kernel_rfl, by kernel_rfl⟩
theorem Tryz.fo238 : Tryz.prog.funcs[238]? = some Tryz.f238 ∧ hasBody Tryz.prog 238 = true := ⟨by kernel_rfl, by kernel_rfl⟩
theorem Tryz.fo239 : Tryz.prog.funcs[239]? = some Tryz.f239 ∧ hasBody Tryz.prog 239 = true := ⟨by kernel_rfl, by kernel_rfl⟩
theorem Tryz.fo240 : Tryz.prog.funcs[240]? = some Tryz.f240 ∧ hasBody Tryz.prog 240 = true := ⟨by kernel_rfl, by kernel_rfl⟩
theorem Tryz.fo241 : Tryz.prog.funcs[241]? = some Tryz.f241 ∧ hasBody Tryz.prog 241 = true := ⟨by kernel_rfl, by kernel_rfl⟩
theorem Tryz.fo242 : Tryz.prog.funcs[242]? = some Tryz.f242 ∧ hasBody Tryz.prog 242 = true := ⟨by kernel_rfl, by kernel_rfl⟩
theorem Tryz.fo243 : Tryz.prog.funcs[243]? = some Tryz.f243 ∧ hasBody Tryz.prog 243 = true := ⟨by kernel_rfl, by kernel_rfl⟩
theorem Tryz.fo244 : Tryz.prog.funcs[244]? = some Tryz.f244 ∧ hasBody Tryz.prog 244 = true := ⟨by kernel_rfl, by kernel_rfl⟩
theorem Tryz.fo245 : Tryz.prog.funcs[245]? = some Tryz.f245 ∧ hasBody Tryz.prog 245 = true := ⟨by kernel_rfl, by kernel_rfl⟩
theorem Tryz.fo246 : Tryz.prog.funcs[246]? = some Tryz.f246 ∧ hasBody Tryz.prog 246 = true := ⟨by kernel_rfl, by kernel_rfl⟩
theorem Tryz.fo247 : Tryz.prog.funcs[247]? = some Tryz.f247 ∧ hasBody Tryz.prog 247 = true := ⟨by kernel_rfl, by kernel_rfl⟩
theorem Tryz.fo248 : Tryz.prog.funcs[248]? = some Tryz.f248 ∧ hasBody Tryz.prog 248 = true := ⟨by kernel_rfl, by kernel_rfl⟩
theorem Tryz.fo249 : Tryz.prog.funcs[249]? = some Tryz.f249 ∧ hasBody Tryz.prog 249 = true := ⟨by kernel_rfl, by kernel_rfl⟩
theorem Tryz.fo250 : Tryz.prog.funcs[250]? = some Tryz.f250 ∧ hasBody Tryz.prog 250 = true := ⟨by kernel_rfl, by kernel_rfl⟩
theorem Tryz.fo251 : Tryz.prog.funcs[251]? = some Tryz.f251 ∧ hasBody Tryz.prog 251 = true := ⟨by kernel_rfl, by kernel_rfl⟩
theorem Tryz.fo252 : Tryz.prog.funcs[252]? = some Tryz.f252 ∧ hasBody Tryz.prog 252 = true := ⟨by kernel_rfl, by kernel_rfl⟩
theorem Tryz.fo253 : Tryz.prog.funcs[253]? = some Tryz.f253 ∧ hasBody Tryz.prog 253 = true := ⟨by kernel_rfl, by kernel_rfl⟩
theorem Tryz.fo254 : Tryz.prog.funcs[254]? = some Tryz.f254 ∧ hasBody Tryz.prog 254 = true := ⟨by kernel_rfl, by kernel_rfl⟩
theorem Tryz.fo255 : Tryz.prog.funcs[255]? = some Tryz.f255 ∧ hasBody Tryz.prog 255 = true := ⟨by kernel_rfl, by kernel_rfl⟩
theorem Tryz.fo256 : Tryz.prog.funcs[256]? = some Tryz.f256 ∧ hasBody Tryz.prog 256 = true := ⟨by kernel_rfl, by kernel_rfl⟩
theorem Tryz.fo257 : Tryz.prog.funcs[257]? = some Tryz.f257 ∧ hasBody Tryz.prog 257 = true := ⟨by kernel_rfl, by kernel_rfl⟩
theorem Tryz.fo258 : Tryz.prog.funcs[258]? = some Tryz.f258 ∧ hasBody Tryz.prog 258 = true := ⟨by kernel_rfl, by kernel_rfl⟩
theorem Tryz.fo259 : Tryz.prog.funcs[259]? = some Tryz.f259 ∧ hasBody Tryz.prog 259 = true := ⟨by kernel_rfl, by kernel_rfl⟩
theorem Tryz.fo260 : Tryz.prog.funcs[260]? = some Tryz.f260 ∧ hasBody Tryz.prog 260 = true := ⟨by kernel_rfl, by kernel_rfl⟩
theorem Tryz.fo261 : Tryz.prog.funcs[261]? = some Tryz.f261 ∧ hasBody Tryz.prog 261 = true := ⟨by kernel_rfl, by kernel_rfl⟩
theorem Tryz.fo262 : Tryz.prog.funcs[262]? = some Tryz.f262 ∧ hasBody Tryz.prog 262 = true := ⟨by kernel_rfl, by kernel_rfl⟩
theorem Tryz.fo263 : Tryz.prog.funcs[263]? = some Tryz.f263 ∧ hasBody Tryz.prog 263 = true := ⟨by kernel_rfl, by kernel_rfl⟩
theorem Tryz.fo264 : Tryz.prog.funcs[264]? = some Tryz.f264 ∧ hasBody Tryz.prog 264 = true := ⟨by kernel_rfl, by kernel_rfl⟩
theorem Tryz.fo265 : Tryz.prog.funcs[265]? = some Tryz.f265 ∧ hasBody Tryz.prog 265 = true := ⟨by kernel_rfl, by kernel_rfl⟩
theorem Tryz.fo266 : Tryz.prog.funcs[266]? = some Tryz.f266 ∧ hasBody Tryz.prog 266 = true := ⟨by kernel_rfl, by kernel_rfl⟩
theorem Tryz.fo267 : Tryz.prog.funcs[267]? = some Tryz.f267 ∧ hasBody Tryz.prog 267 = true := ⟨by kernel_rfl, by kernel_rfl⟩
theorem Tryz.fo268 : Tryz.prog.funcs[268]? = some Tryz.f268 ∧ hasBody Tryz.prog 268 = true := ⟨by kernel_rfl, by kernel_rfl⟩
theorem Tryz.fo269 : Tryz.prog.funcs[269]? = some Tryz.f269 ∧ hasBody Tryz.prog 269 = true := ⟨by kernel_rfl, by kernel_rfl⟩
theorem Tryz.fo270 : Tryz.prog.funcs[270]? = some Tryz.f270 ∧ hasBody Tryz.prog 270 = true := ⟨by kernel_rfl, by kernel_rfl⟩
theorem Tryz.fo271 : Tryz.prog.funcs[271]? = some Tryz.f271 ∧ hasBody Tryz.prog 271 = true := ⟨by kernel_rfl, by kernel_rfl⟩
theorem Tryz.fo272 : Tryz.prog.funcs[272]? = some Tryz.f272 ∧ hasBody Tryz.prog 272 = true := ⟨by kernel_rfl, by kernel_rfl⟩
theorem Tryz.fo273 : Tryz.prog.funcs[273]? = some Tryz.f273 ∧ hasBody Tryz.prog 273 = true := ⟨by kernel_rfl, by kernel_rfl⟩
theorem Tryz.fo274 : Tryz.prog.funcs[274]? = some Tryz.f274 ∧ hasBody Tryz.prog 274 = true := ⟨by kernel_rfl, by kernel_rfl⟩
theorem Tryz.fo275 : Tryz.prog.funcs[275]? = some Tryz.f275 ∧ hasBody Tryz.prog 275 = true := ⟨by kernel_rfl, by kernel_rfl⟩
theorem Tryz.fo276 : Tryz.prog.funcs[276]? = some Tryz.f276 ∧ hasBody Tryz.prog 276 = true := ⟨by kernel_rfl, by kernel_rfl⟩
theorem Tryz.fo277 : Tryz.prog.funcs[277]? = some Tryz.f277 ∧ hasBody Tryz.prog 277 = true := ⟨by kernel_rfl, by kernel_rfl⟩
theorem Tryz.fo278 : Tryz.prog.funcs[278]? = some Tryz.f278 ∧ hasBody Tryz.prog 278 = true := ⟨by kernel_rfl, by kernel_rfl⟩
theorem Tryz.fo279 : Tryz.prog.funcs[279]? = some Tryz.f279 ∧ hasBody Tryz.prog 279 = true := ⟨by kernel_rfl, by kernel_rfl⟩
theorem Tryz.fo280 : Tryz.prog.funcs[280]? = some Tryz.f280 ∧ hasBody Tryz.prog 280 = true := ⟨by kernel_rfl, by kernel_rfl⟩
theorem Tryz.fo281 : Tryz.prog.funcs[281]? = some Tryz.f281 ∧ hasBody Tryz.prog 281 = true := ⟨by kernel_rfl, by kernel_rfl⟩
theorem Tryz.fo282 : Tryz.prog.funcs[282]? = some Tryz.f282 ∧ hasBody Tryz.prog 282 = true := ⟨by kernel_rfl, by kernel_rfl⟩
theorem Tryz.fo283 : Tryz.prog.funcs[283]? = some Tryz.f283 ∧ hasBody Tryz.prog 283 = true := ⟨by kernel_rfl, by kernel_rfl⟩
theorem Tryz.fo284 : Tryz.prog.funcs[284]? = some Tryz.f284 ∧ hasBody Tryz.prog 284 = true := ⟨by kernel_rfl, by kernel_rfl⟩
theorem Tryz.fo285 : Tryz.prog.funcs[285]? = some Tryz.f285 ∧ hasBody Tryz.prog 285 = true := ⟨by kernel_rfl, by kernel_rfl⟩
theorem Tryz.fo286 : Tryz.prog.funcs[286]? = some Tryz.f286 ∧ hasBody Tryz.prog 286 = true := ⟨by kernel_rfl, by kernel_rfl⟩
theorem Tryz.fo287 : Tryz.prog.funcs[287]? = some Tryz.f287 ∧ hasBody Tryz.prog 287 = true := ⟨by kernel_rfl, by kernel_rfl⟩
theorem Tryz.fo288 : Tryz.prog.funcs[288]? = some Tryz.f288 ∧ hasBody Tryz.prog 288 = true := ⟨by kernel_rfl, by kernel_rfl⟩
theorem Tryz.fo289 : Tryz.prog.funcs[289]? = some Tryz.f289 ∧ hasBody Tryz.prog 289 = true := ⟨by kernel_rfl, by kernel_rfl⟩
theorem Tryz.fo291 : Tryz.prog.funcs[291]? = some Tryz.f291 ∧ hasBody Tryz.prog 291 = true := ⟨by kernel_rfl, by kernel_rfl⟩
theorem Tryz.fo292 : Tryz.prog.funcs[292]? = some Tryz.f292 ∧ hasBody Tryz.prog 292 = true := ⟨by kernel_rfl, by kernel_rfl⟩
theorem Tryz.fo293 : Tryz.prog.funcs[293]? = some Tryz.f293 ∧ hasBody Tryz.prog 293 = true := ⟨by kernel_rfl, by kernel_rfl⟩
theorem Tryz.fo294 : Tryz.prog.funcs[294]? = some Tryz.f294 ∧ hasBody Tryz.prog 294 = true := ⟨by kernel_rfl, by kernel_rfl⟩
theorem Tryz.fo295 : Tryz.prog.funcs[295]? = some Tryz.f295 ∧ hasBody Tryz.prog 295 = true := ⟨by kernel_rfl, by kernel_rfl⟩
theorem Tryz.fo296 : Tryz.prog.funcs[296]? = some Tryz.f296 ∧ hasBody Tryz.prog 296 = true := ⟨by kernel_rfl, by kernel_rfl⟩
theorem Tryz.fo297 : Tryz.prog.funcs[297]? = some Tryz.f297 ∧ hasBody Tryz.prog 297 = true := ⟨by kernel_rfl, by kernel_rfl⟩
noncomputable def Tryz.ft : FTr := (.nd (.nd (.nd (.nd (.nd (.nd (.nd (.nd (.lf 256 Tryz.f256 0x10877) (.lf 128 Tryz.f128 0x406f)) (.nd (.lf 64 Tryz.f64 0x5) (.lf 192 Tryz.f192 0x400403b847ffc7))) (.nd (.nd (.nd (.lf 32 Tryz.f32 0x5) (.lf 288 Tryz.f288 0x4115)) (.lf 160 Tryz.f160 0x4040bf)) (.nd (.lf 96 Tryz.f96 0x3f) (.lf 224 Tryz.f224 0xb)))) (.nd (.nd (.nd (.nd (.lf 16 Tryz.f16 0xa03d177) (.lf 272 Tryz.f272 0x4f)) (.lf 144 Tryz.f144 0x400008406d7)) (.nd (.lf 80 Tryz.f80 0x47) (.lf 208 Tryz.f208 0x5))) (.nd (.nd (.lf 48 Tryz.f48 0x1f) (.lf 176 Tryz.f176 0x17)) (.nd (.lf 112 Tryz.f112 0x207f) (.lf 240 Tryz.f240 0x17))))) (.nd (.nd (.nd (.nd (.lf 264 Tryz.f264 0x10053) (.lf 136 Tryz.f136 0x2004433)) (.nd (.lf 72 Tryz.f72 0x404011f7) (.lf 200 Tryz.f200 0x4000000820080002100047f))) (.nd (.nd (.nd (.lf 40 Tryz.f40 0x81f) (.lf 296 Tryz.f296 0x5)) (.lf 168 Tryz.f168 0x204007020010e000a1ffd)) (.nd (.lf 104 Tryz.f104 0x13) (.lf 232 Tryz.f232 0x2003c03c0008055f2f)))) (.nd (.nd (.nd (.nd (.lf 24 Tryz.f24 0x10000003c1ee0883fb3) (.lf 280 Tryz.f280 0x802000087c7)) (.lf 152 Tryz.f152 0x4000010811d7)) (.nd (.lf 88 Tryz.f88 0x23f3) (.lf 216 Tryz.f216 0x1f))) (.nd (.nd (.lf 56 Tryz.f56 0x5) (.lf 184 Tryz.f184 0x41f3)) (.nd (.lf 120 Tryz.f120 0x420000240090001209ff7) (.lf 248 Tryz.f248 0x17)))))) (.nd (.nd (.nd (.nd (.nd (.lf 260 Tryz.f260 0x20f0b3) (.lf 132 Tryz.f132 0x10038080fb7)) (.nd (.lf 68 Tryz.f68 0x71c40fff) (.lf 196 Tryz.f196 0x10003c0ef3))) (.nd (.nd (.nd (.lf 36 Tryz.f36 0x7147d) (.lf 292 Tryz.f292 0x5)) (.lf 164 Tryz.f164 0x200fb3)) (.nd (.lf 100 Tryz.f100 0x15) (.lf 228 Tryz.f228 0x103b3)))) (.nd (.nd (.nd (.nd (.lf 20 Tryz.f20 0x4f) (.lf 276 Tryz.f276 0x15)) (.lf 148 Tryz.f148 0xc81fd)) (.nd (.lf 84 Tryz.f84 0x20f0b3) (.lf 212 Tryz.f212 0x51f))) (.nd (.nd (.lf 52 Tryz.f52 0x1f) (.lf 180 Tryz.f180 0xd)) (.nd (.lf 116 Tryz.f116 0x900400078441df7) (.lf 244 Tryz.f244 0x5))))) (.nd (.nd (.nd (.nd (.nd (.lf 12 Tryz.f12 0x100403f3) (.lf 268 Tryz.f268 0xf)) (.lf 140 Tryz.f140 0x200000078202083f73)) (.nd (.lf 76 Tryz.f76 0x1100000013f) (.lf 204 Tryz.f204 0x880f7))) (.nd (.nd (.lf 44 Tryz.f44 0x20d) (.lf 172 Tryz.f172 0x9f)) (.nd (.lf 108 Tryz.f108 0x1) (.lf 236 Tryz.f236 0xf00003c0003c003ff)))) (.nd (.nd (.nd (.nd (.lf 28 Tryz.f28 0x1) (.lf 284 Tryz.f284 0x13)) (.lf 156 Tryz.f156 0x100040107f)) (.nd (.lf 92 Tryz.f92 0x103b3) (.lf 220 Tryz.f220 0x8093))) (.nd (.nd (.lf 60 Tryz.f60 0x800000000000000200000000000000000000000000000000000000000007ffeffeaff) (.lf 188 Tryz.f188 0x5f)) (.nd (.lf 124 Tryz.f124 0x5) (.lf 252 Tryz.f252 0x20d))))))) (.nd (.nd (.nd (.nd (.nd (.nd (.lf 258 Tryz.f258 0x800000600ef) (.lf 130 Tryz.f130 0x7a02ef)) (.nd (.lf 66 Tryz.f66 0x5) (.lf 194 Tryz.f194 0x400001fc7))) (.nd (.nd (.lf 34 Tryz.f34 0x433) (.lf 162 Tryz.f162 0x13)) (.nd (.lf 98 Tryz.f98 0x809d) (.lf 226 Tryz.f226 0x13)))) (.nd (.nd (.nd (.nd (.lf 18 Tryz.f18 0x11d) (.lf 274 Tryz.f274 0x13)) (.lf 146 Tryz.f146 0x100402f3)) (.nd (.lf 82 Tryz.f82 0x220007381fd) (.lf 210 Tryz.f210 0x7f))) (.nd (.nd (.lf 50 Tryz.f50 0xf3) (.lf 178 Tryz.f178 0x201020e07b)) (.nd (.lf 114 Tryz.f114 0x100f7) (.lf 242 Tryz.f242 0x810007f))))) (.nd (.nd (.nd (.nd (.lf 266 Tryz.f266 0x15) (.lf 138 Tryz.f138 0x1)) (.nd (.lf 74 Tryz.f74 0x40400e207f7) (.lf 202 Tryz.f202 0x40000000200000004000200004000004004001f1f))) (.nd (.nd (.lf 42 Tryz.f42 0x5) (.lf 170 Tryz.f170 0x20120024024012100001ff)) (.nd (.lf 106 Tryz.f106 0x7f) (.lf 234 Tryz.f234 0x13)))) (.nd (.nd (.nd (.nd (.lf 26 Tryz.f26 0x1000004039001fb) (.lf 282 Tryz.f282 0x20c7)) (.lf 154 Tryz.f154 0x2004433)) (.nd (.lf 90 Tryz.f90 0x5f) (.lf 218 Tryz.f218 0x20050001e06dd))) (.nd (.nd (.lf 58 Tryz.f58 0x2073) (.lf 186 Tryz.f186 0x21d)) (.nd (.lf 122 Tryz.f122 0x13) (.lf 250 Tryz.f250 0x13)))))) (.nd (.nd (.nd (.nd (.nd (.nd (.lf 6 Tryz.f6 0x1) (.lf 262 Tryz.f262 0x103b3)) (.lf 134 Tryz.f134 0x2004433)) (.nd (.lf 70 Tryz.f70 0x4040ff) (.lf 198 Tryz.f198 0x879e000001c03bf))) (.nd (.nd (.nd (.lf 38 Tryz.f38 0x2004433) (.lf 294 Tryz.f294 0x47)) (.lf 166 Tryz.f166 0x13)) (.nd (.lf 102 Tryz.f102 0x1e101f6d) (.lf 230 Tryz.f230 0x8040004000100cf)))) (.nd (.nd (.nd (.nd (.lf 22 Tryz.f22 0x7207fd) (.lf 278 Tryz.f278 0x400010c7)) (.lf 150 Tryz.f150 0x1004407c7)) (.nd (.lf 86 Tryz.f86 0x2000880d) (.lf 214 Tryz.f214 0x33))) (.nd (.nd (.lf 54 Tryz.f54 0x5f) (.lf 182 Tryz.f182 0x10053)) (.nd (.lf 118 Tryz.f118 0x1040ff) (.lf 246 Tryz.f246 0x41f3))))) (.nd (.nd (.nd (.nd (.nd (.lf 14 Tryz.f14 0x1) (.lf 270 Tryz.f270 0x2000000800110000400082087ff0f)) (.lf 142 Tryz.f142 0x400403f3)) (.nd (.lf 78 Tryz.f78 0x2004433) (.lf 206 Tryz.f206 0x1107f))) (.nd (.nd (.lf 46 Tryz.f46 0x17) (.lf 174 Tryz.f174 0x13)) (.nd (.lf 110 Tryz.f110 0x80070002000220fcf) (.lf 238 Tryz.f238 0x5)))) (.nd (.nd (.nd (.nd (.lf 30 Tryz.f30 0x1) (.lf 286 Tryz.f286 0x4200010000000000021000080000000f0f)) (.lf 158 Tryz.f158 0x13)) (.nd (.lf 94 Tryz.f94 0x7) (.lf 222 Tryz.f222 0x7))) (.nd (.nd (.lf 62 Tryz.f62 0x7) (.lf 190 Tryz.f190 0x10047f3)) (.nd (.lf 126 Tryz.f126 0xf407b7) (.lf 254 Tryz.f254 0x4f)))))))) (.nd (.nd (.nd (.nd (.nd (.nd (.nd (.lf 257 Tryz.f257 0xf7) (.lf 129 Tryz.f129 0xe010407ff)) (.nd (.lf 65 Tryz.f65 0x80001e80001e0001000000f1e0000111fff7) (.lf 193 Tryz.f193 0x1b))) (.nd (.nd (.nd (.lf 33 Tryz.f33 0x220f0f) (.lf 289 Tryz.f289 0x103b3)) (.lf 161 Tryz.f161 0x12)) (.nd (.lf 97 Tryz.f97 0x103b3) (.lf 225 Tryz.f225 0x13)))) (.nd (.nd (.nd (.nd (.lf 17 Tryz.f17 0x4002003f0f) (.lf 273 Tryz.f273 0xf)) (.lf 145 Tryz.f145 0x47)) (.nd (.lf 81 Tryz.f81 0x5) (.lf 209 Tryz.f209 0x7f))) (.nd (.nd (.lf 49 Tryz.f49 0x200002000f000000ff3) (.lf 177 Tryz.f177 0x103b3)) (.nd (.lf 113 Tryz.f113 0x207f) (.lf 241 Tryz.f241 0x4000400400202001021fcf))))) (.nd (.nd (.nd (.nd (.nd (.lf 9 Tryz.f9 0x1e00002000e08220fff3) (.lf 265 Tryz.f265 0x2140000000a0fd)) (.lf 137 Tryz.f137 0x2000000100000000001048010090024013ff7)) (.nd (.lf 73 Tryz.f73 0x103f) (.lf 201 Tryz.f201 0x7))) (.nd (.nd (.nd (.lf 41 Tryz.f41 0x13) (.lf 297 Tryz.f297 0x4030f)) (.lf 169 Tryz.f169 0x2000700080e0443fb)) (.nd (.lf 105 Tryz.f105 0x17) (.lf 233 Tryz.f233 0x20f0b3)))) (.nd (.nd (.nd (.nd (.lf 25 Tryz.f25 0x4473) (.lf 281 Tryz.f281 0x4a000500001fc7)) (.lf 153 Tryz.f153 0x13)) (.nd (.lf 89 Tryz.f89 0x7) (.lf 217 Tryz.f217 0x100000000000038001f3))) (.nd (.nd (.lf 57 Tryz.f57 0x5) (.lf 185 Tryz.f185 0x10f)) (.nd (.lf 121 Tryz.f121 0x2004433) (.lf 249 Tryz.f249 0x200000e77b)))))) (.nd (.nd (.nd (.nd (.nd (.nd (.lf 5 Tryz.f5 0x80000008400000401f) (.lf 261 Tryz.f261 0x1f)) (.lf 133 Tryz.f133 0x80ef)) (.nd (.lf 69 Tryz.f69 0x400200800e7001e00780200000000113f5fff) (.lf 197 Tryz.f197 0x20001d000001003bbfd))) (.nd (.nd (.nd (.lf 37 Tryz.f37 0x120008813f3) (.lf 293 Tryz.f293 0x5)) (.lf 165 Tryz.f165 0x24f)) (.nd (.lf 101 Tryz.f101 0x20d) (.lf 229 Tryz.f229 0x17)))) (.nd (.nd (.nd (.nd (.lf 21 Tryz.f21 0x8103fd) (.lf 277 Tryz.f277 0x8000eaf)) (.lf 149 Tryz.f149 0x1003c40bfd)) (.nd (.lf 85 Tryz.f85 0x13) (.lf 213 Tryz.f213 0x21d))) (.nd (.nd (.lf 53 Tryz.f53 0x41d) (.lf 181 Tryz.f181 0x7)) (.nd (.lf 117 Tryz.f117 0x5) (.lf 245 Tryz.f245 0x5))))) (.nd (.nd (.nd (.nd (.nd (.lf 13 Tryz.f13 0x47) (.lf 269 Tryz.f269 0xf7)) (.lf 141 Tryz.f141 0x5)) (.nd (.lf 77 Tryz.f77 0x10000810008873) (.lf 205 Tryz.f205 0x10f))) (.nd (.nd (.lf 45 Tryz.f45 0x13) (.lf 173 Tryz.f173 0x2004433)) (.nd (.lf 109 Tryz.f109 0x1) (.lf 237 Tryz.f237 0x102050f3)))) (.nd (.nd (.nd (.nd (.lf 29 Tryz.f29 0x800000000000000000000000000000000000000000000000003effbfabbff) (.lf 285 Tryz.f285 0x1080008000000070f)) (.lf 157 Tryz.f157 0xb)) (.nd (.lf 93 Tryz.f93 0x103b3) (.lf 221 Tryz.f221 0xf))) (.nd (.nd (.lf 61 Tryz.f61 0x4000000000000000000000000000000000000000000000faffebeeb93f) (.lf 189 Tryz.f189 0x7)) (.nd (.lf 125 Tryz.f125 0x5) (.lf 253 Tryz.f253 0x1e101f6d))))))) (.nd (.nd (.nd (.nd (.nd (.nd (.lf 259 Tryz.f259 0x10a0001800381fe7) (.lf 131 Tryz.f131 0x100407f7)) (.nd (.lf 67 Tryz.f67 0x5) (.lf 195 Tryz.f195 0x5))) (.nd (.nd (.nd (.lf 35 Tryz.f35 0x8002001103f3) (.lf 291 Tryz.f291 0x1000100001030f)) (.lf 163 Tryz.f163 0x7f)) (.nd (.lf 99 Tryz.f99 0x1000407000000200f43c09ffbd) (.lf 227 Tryz.f227 0x1e101f6d)))) (.nd (.nd (.nd (.nd (.lf 19 Tryz.f19 0x5f) (.lf 275 Tryz.f275 0x10053)) (.lf 147 Tryz.f147 0x8800807f3)) (.nd (.lf 83 Tryz.f83 0x10001cf) (.lf 211 Tryz.f211 0x280001c00000fd))) (.nd (.nd (.lf 51 Tryz.f51 0x20f0b3) (.lf 179 Tryz.f179 0x10010200213d)) (.nd (.lf 115 Tryz.f115 0x803cf) (.lf 243 Tryz.f243 0x11d))))) (.nd (.nd (.nd (.nd (.nd (.lf 11 Tryz.f11 0x1000001101d) (.lf 267 Tryz.f267 0x7f)) (.lf 139 Tryz.f139 0x1)) (.nd (.lf 75 Tryz.f75 0x3800000e000001c207ff) (.lf 203 Tryz.f203 0x401c1f))) (.nd (.nd (.lf 43 Tryz.f43 0x50f) (.lf 171 Tryz.f171 0x10000000233)) (.nd (.lf 107 Tryz.f107 0x7) (.lf 235 Tryz.f235 0x103b3)))) (.nd (.nd (.nd (.nd (.lf 27 Tryz.f27 0x7) (.lf 283 Tryz.f283 0x1000840000400220000221000047c7)) (.lf 155 Tryz.f155 0x5)) (.nd (.lf 91 Tryz.f91 0x13) (.lf 219 Tryz.f219 0x2073))) (.nd (.nd (.lf 59 Tryz.f59 0x100000000000000000000000000000000000000000000feaafb9fff) (.lf 187 Tryz.f187 0x403d177)) (.nd (.lf 123 Tryz.f123 0x2004433) (.lf 251 Tryz.f251 0x20f0b3)))))) (.nd (.nd (.nd (.nd (.nd (.nd (.lf 7 Tryz.f7 0x100fcf) (.lf 263 Tryz.f263 0x103b3)) (.lf 135 Tryz.f135 0x5)) (.nd (.lf 71 Tryz.f71 0x404000047cf) (.lf 199 Tryz.f199 0x33))) (.nd (.nd (.nd (.lf 39 Tryz.f39 0x5) (.lf 295 Tryz.f295 0x41f)) (.lf 167 Tryz.f167 0x11f)) (.nd (.lf 103 Tryz.f103 0x7) (.lf 231 Tryz.f231 0x2300803c003be7)))) (.nd (.nd (.nd (.nd (.lf 23 Tryz.f23 0x10103fd) (.lf 279 Tryz.f279 0x400807c7)) (.lf 151 Tryz.f151 0x800000002080020804ff3)) (.nd (.lf 87 Tryz.f87 0x108d) (.lf 215 Tryz.f215 0xb))) (.nd (.nd (.lf 55 Tryz.f55 0x10000000011c04000000f00c7efd) (.lf 183 Tryz.f183 0x103b3)) (.nd (.lf 119 Tryz.f119 0x200e081ff) (.lf 247 Tryz.f247 0x102001e0010ef))))) (.nd (.nd (.nd (.nd (.nd (.lf 15 Tryz.f15 0x10000000000000000000000000000000000000000001375df7f8fb93f) (.lf 271 Tryz.f271 0x5)) (.lf 143 Tryz.f143 0x100807f3)) (.nd (.lf 79 Tryz.f79 0x80021000003f) (.lf 207 Tryz.f207 0x20f0b3))) (.nd (.nd (.lf 47 Tryz.f47 0x4081bf) (.lf 175 Tryz.f175 0x80000000233)) (.nd (.lf 111 Tryz.f111 0x5) (.lf 239 Tryz.f239 0xb)))) (.nd (.nd (.nd (.nd (.lf 31 Tryz.f31 0x1) (.lf 287 Tryz.f287 0x115)) (.lf 159 Tryz.f159 0x5f)) (.nd (.lf 95 Tryz.f95 0x20f0b3) (.lf 223 Tryz.f223 0xf))) (.nd (.nd (.lf 63 Tryz.f63 0x13) (.lf 191 Tryz.f191 0x7b)) (.nd (.lf 127 Tryz.f127 0x8880f7) (.lf 255 Tryz.f255 0x21f)))))))))
theorem Tryz.ftOk : FTOk Tryz.prog Tryz.ft := (ft_nd (ft_nd (ft_nd (ft_nd (ft_nd (ft_nd (ft_nd (ft_nd (ft_lf Tryz.fo256) (ft_lf Tryz.fo128)) (ft_nd (ft_lf Tryz.fo64) (ft_lf Tryz.fo192))) (ft_nd (ft_nd (ft_nd (ft_lf Tryz.fo32) (ft_lf Tryz.fo288)) (ft_lf Tryz.fo160)) (ft_nd (ft_lf Tryz.fo96) (ft_lf Tryz.fo224)))) (ft_nd (ft_nd (ft_nd (ft_nd (ft_lf Tryz.fo16) (ft_lf Tryz.fo272)) (ft_lf Tryz.fo144)) (ft_nd (ft_lf Tryz.fo80) (ft_lf Tryz.fo208))) (ft_nd (ft_nd (ft_lf Tryz.fo48) (ft_lf Tryz.fo176)) (ft_nd (ft_lf Tryz.fo112) (ft_lf Tryz.fo240))))) (ft_nd (ft_nd (ft_nd (ft_nd (ft_lf Tryz.fo264) (ft_lf Tryz.fo136)) (ft_nd (ft_lf Tryz.fo72) (ft_lf Tryz.fo200))) (ft_nd (ft_nd (ft_nd (ft_lf Tryz.fo40) (ft_lf Tryz.fo296)) (ft_lf Tryz.fo168)) (ft_nd (ft_lf Tryz.fo104) (ft_lf Tryz.fo232)))) (ft_nd (ft_nd (ft_nd (ft_nd (ft_lf Tryz.fo24) (ft_lf Tryz.fo280)) (ft_lf Tryz.fo152)) (ft_nd (ft_lf Tryz.fo88) (ft_lf Tryz.fo216))) (ft_nd (ft_nd (ft_lf Tryz.fo56) (ft_lf Tryz.fo184)) (ft_nd (ft_lf Tryz.fo120) (ft_lf Tryz.fo248)))))) (ft_nd (ft_nd (ft_nd (ft_nd (ft_nd (ft_lf Tryz.fo260) (ft_lf Tryz.fo132)) (ft_nd (ft_lf Tryz.fo68) (ft_lf Tryz.fo196))) (ft_nd (ft_nd (ft_nd (ft_lf Tryz.fo36) (ft_lf Tryz.fo292)) (ft_lf Tryz.fo164)) (ft_nd (ft_lf Tryz.fo100) (ft_lf Tryz.fo228)))) (ft_nd (ft_nd (ft_nd (ft_nd (ft_lf Tryz.fo20) (ft_lf Tryz.fo276)) (ft_lf Tryz.fo148)) (ft_nd (ft_lf Tryz.fo84) (ft_lf Tryz.fo212))) (ft_nd (ft_nd (ft_lf Tryz.fo52) (ft_lf Tryz.fo180)) (ft_nd (ft_lf Tryz.fo116) (ft_lf Tryz.fo244))))) (ft_nd (ft_nd (ft_nd (ft_nd (ft_nd (ft_lf Tryz.fo12) (ft_lf Tryz.fo268)) (ft_lf Tryz.fo140)) (ft_nd (ft_lf Tryz.fo76) (ft_lf Tryz.fo204))) (ft_nd (ft_nd (ft_lf Tryz.fo44) (ft_lf Tryz.fo172)) (ft_nd (ft_lf Tryz.fo108) (ft_lf Tryz.fo236)))) (ft_nd (ft_nd (ft_nd (ft_nd (ft_lf Tryz.fo28) (ft_lf Tryz.fo284)) (ft_lf Tryz.fo156)) (ft_nd (ft_lf Tryz.fo92) (ft_lf Tryz.fo220))) (ft_nd (ft_nd (ft_lf Tryz.fo60) (ft_lf Tryz.fo188)) (ft_nd (ft_lf Tryz.fo124) (ft_lf Tryz.fo252))))))) (ft_nd (ft_nd (ft_nd (ft_nd (ft_nd (ft_nd (ft_lf Tryz.fo258) (ft_lf Tryz.fo130)) (ft_nd (ft_lf Tryz.fo66) (ft_lf Tryz.fo194))) (ft_nd (ft_nd (ft_lf Tryz.fo34) (ft_lf Tryz.fo162)) (ft_nd (ft_lf Tryz.fo98) (ft_lf Tryz.fo226)))) (ft_nd (ft_nd (ft_nd (ft_nd (ft_lf Tryz.fo18) (ft_lf Tryz.fo274)) (ft_lf Tryz.fo146)) (ft_nd (ft_lf Tryz.fo82) (ft_lf Tryz.fo210))) (ft_nd (ft_nd (ft_lf Tryz.fo50) (ft_lf Tryz.fo178)) (ft_nd (ft_lf Tryz.fo114) (ft_lf Tryz.fo242))))) (ft_nd (ft_nd (ft_nd (ft_nd (ft_lf Tryz.fo266) (ft_lf Tryz.fo138)) (ft_nd (ft_lf Tryz.fo74) (ft_lf Tryz.fo202))) (ft_nd (ft_nd (ft_lf Tryz.fo42) (ft_lf Tryz.fo170)) (ft_nd (ft_lf Tryz.fo106) (ft_lf Tryz.fo234)))) (ft_nd (ft_nd (ft_nd (ft_nd (ft_lf Tryz.fo26) (ft_lf Tryz.fo282)) (ft_lf Tryz.fo154)) (ft_nd (ft_lf Tryz.fo90) (ft_lf Tryz.fo218))) (ft_nd (ft_nd (ft_lf Tryz.fo58) (ft_lf Tryz.fo186)) (ft_nd (ft_lf Tryz.fo122) (ft_lf Tryz.fo250)))))) (ft_nd (ft_nd (ft_nd (ft_nd (ft_nd (ft_nd (ft_lf Tryz.fo6) (ft_lf Tryz.fo262)) (ft_lf Tryz.fo134)) (ft_nd (ft_lf Tryz.fo70) (ft_lf Tryz.fo198))) (ft_nd (ft_nd (ft_nd (ft_lf Tryz.fo38) (ft_lf Tryz.fo294)) (ft_lf Tryz.fo166)) (ft_nd (ft_lf Tryz.fo102) (ft_lf Tryz.fo230)))) (ft_nd (ft_nd (ft_nd (ft_nd (ft_lf Tryz.fo22) (ft_lf Tryz.fo278)) (ft_lf Tryz.fo150)) (ft_nd (ft_lf Tryz.fo86) (ft_lf Tryz.fo214))) (ft_nd (ft_nd (ft_lf Tryz.fo54) (ft_lf Tryz.fo182)) (ft_nd (ft_lf Tryz.fo118) (ft_lf Tryz.fo246))))) (ft_nd (ft_nd (ft_nd (ft_nd (ft_nd (ft_lf Tryz.fo14) (ft_lf Tryz.fo270)) (ft_lf Tryz.fo142)) (ft_nd (ft_lf Tryz.fo78) (ft_lf Tryz.fo206))) (ft_nd (ft_nd (ft_lf Tryz.fo46) (ft_lf Tryz.fo174)) (ft_nd (ft_lf Tryz.fo110) (ft_lf Tryz.fo238)))) (ft_nd (ft_nd (ft_nd (ft_nd (ft_lf Tryz.fo30) (ft_lf Tryz.fo286)) (ft_lf Tryz.fo158)) (ft_nd (ft_lf Tryz.fo94) (ft_lf Tryz.fo222))) (ft_nd (ft_nd (ft_lf Tryz.fo62) (ft_lf Tryz.fo190)) (ft_nd (ft_lf Tryz.fo126) (ft_lf Tryz.fo254)))))))) (ft_nd (ft_nd (ft_nd (ft_nd (ft_nd (ft_nd (ft_nd (ft_lf Tryz.fo257) (ft_lf Tryz.fo129)) (ft_nd (ft_lf Tryz.fo65) (ft_lf Tryz.fo193))) (ft_nd (ft_nd (ft_nd (ft_lf Tryz.fo33) (ft_lf Tryz.fo289)) (ft_lf Tryz.fo161)) (ft_nd (ft_lf Tryz.fo97) (ft_lf Tryz.fo225)))) (ft_nd (ft_nd (ft_nd (ft_nd (ft_lf Tryz.fo17) (ft_lf Tryz.fo273)) (ft_lf Tryz.fo145)) (ft_nd (ft_lf Tryz.fo81) (ft_lf Tryz.fo209))) (ft_nd (ft_nd (ft_lf Tryz.fo49) (ft_lf Tryz.fo177)) (ft_nd (ft_lf Tryz.fo113) (ft_lf Tryz.fo241))))) (ft_nd (ft_nd (ft_nd (ft_nd (ft_nd (ft_lf Tryz.fo9) (ft_lf Tryz.fo265)) (ft_lf Tryz.fo137)) (ft_nd (ft_lf Tryz.fo73) (ft_lf Tryz.fo201))) (ft_nd (ft_nd (ft_nd (ft_lf Tryz.fo41) (ft_lf Tryz.fo297)) (ft_lf Tryz.fo169)) (ft_nd (ft_lf Tryz.fo105) (ft_lf Tryz.fo233)))) (ft_nd (ft_nd (ft_nd (ft_nd (ft_lf Tryz.fo25) (ft_lf Tryz.fo281)) (ft_lf Tryz.fo153)) (ft_nd (ft_lf Tryz.fo89) (ft_lf Tryz.fo217))) (ft_nd (ft_nd (ft_lf Tryz.fo57) (ft_lf Tryz.fo185)) (ft_nd (ft_lf Tryz.fo121) (ft_lf Tryz.fo249)))))) (ft_nd (ft_nd (ft_nd (ft_nd (ft_nd (ft_nd (ft_lf Tryz.fo5) (ft_lf Tryz.fo261)) (ft_lf Tryz.fo133)) (ft_nd (ft_lf Tryz.fo69) (ft_lf Tryz.fo197))) (ft_nd (ft_nd (ft_nd (ft_lf Tryz.fo37) (ft_lf Tryz.fo293)) (ft_lf Tryz.fo165)) (ft_nd (ft_lf Tryz.fo101) (ft_lf Tryz.fo229)))) (ft_nd (ft_nd (ft_nd (ft_nd (ft_lf Tryz.fo21) (ft_lf Tryz.fo277)) (ft_lf Tryz.fo149)) (ft_nd (ft_lf Tryz.fo85) (ft_lf Tryz.fo213))) (ft_nd (ft_nd (ft_lf Tryz.fo53) (ft_lf Tryz.fo181)) (ft_nd (ft_lf Tryz.fo117) (ft_lf Tryz.fo245))))) (ft_nd (ft_nd (ft_nd (ft_nd (ft_nd (ft_lf Tryz.fo13) (ft_lf Tryz.fo269)) (ft_lf Tryz.fo141)) (ft_nd (ft_lf Tryz.fo77) (ft_lf Tryz.fo205))) (ft_nd (ft_nd (ft_lf Tryz.fo45) (ft_lf Tryz.fo173)) (ft_nd (ft_lf Tryz.fo109) (ft_lf Tryz.fo237)))) (ft_nd (ft_nd (ft_nd (ft_nd (ft_lf Tryz.fo29) (ft_lf Tryz.fo285)) (ft_lf Tryz.fo157)) (ft_nd (ft_lf Tryz.fo93) (ft_lf Tryz.fo221))) (ft_nd (ft_nd (ft_lf Tryz.fo61) (ft_lf Tryz.fo189)) (ft_nd (ft_lf Tryz.fo125) (ft_lf Tryz.fo253))))))) (ft_nd (ft_nd (ft_nd (ft_nd (ft_nd (ft_nd (ft_lf Tryz.fo259) (ft_lf Tryz.fo131)) (ft_nd (ft_lf Tryz.fo67) (ft_lf Tryz.fo195))) (ft_nd (ft_nd (ft_nd (ft_lf Tryz.fo35) (ft_lf Tryz.fo291)) (ft_lf Tryz.fo163)) (ft_nd (ft_lf Tryz.fo99) (ft_lf Tryz.fo227)))) (ft_nd (ft_nd (ft_nd (ft_nd (ft_lf Tryz.fo19) (ft_lf Tryz.fo275)) (ft_lf Tryz.fo147)) (ft_nd (ft_lf Tryz.fo83) (ft_lf Tryz.fo211))) (ft_nd (ft_nd (ft_lf Tryz.fo51) (ft_lf Tryz.fo179)) (ft_nd (ft_lf Tryz.fo115) (ft_lf Tryz.fo243))))) (ft_nd (ft_nd (ft_nd (ft_nd (ft_nd (ft_lf Tryz.fo11) (ft_lf Tryz.fo267)) (ft_lf Tryz.fo139)) (ft_nd (ft_lf Tryz.fo75) (ft_lf Tryz.fo203))) (ft_nd (ft_nd (ft_lf Tryz.fo43) (ft_lf Tryz.fo171)) (ft_nd (ft_lf Tryz.fo107) (ft_lf Tryz.fo235)))) (ft_nd (ft_nd (ft_nd (ft_nd (ft_lf Tryz.fo27) (ft_lf Tryz.fo283)) (ft_lf Tryz.fo155)) (ft_nd (ft_lf Tryz.fo91) (ft_lf Tryz.fo219))) (ft_nd (ft_nd (ft_lf Tryz.fo59) (ft_lf Tryz.fo187)) (ft_nd (ft_lf Tryz.fo123) (ft_lf Tryz.fo251)))))) (ft_nd (ft_nd (ft_nd (ft_nd (ft_nd (ft_nd (ft_lf Tryz.fo7) (ft_lf Tryz.fo263)) (ft_lf Tryz.fo135)) (ft_nd (ft_lf Tryz.fo71) (ft_lf Tryz.fo199))) (ft_nd (ft_nd (ft_nd (ft_lf Tryz.fo39) (ft_lf Tryz.fo295)) (ft_lf Tryz.fo167)) (ft_nd (ft_lf Tryz.fo103) (ft_lf Tryz.fo231)))) (ft_nd (ft_nd (ft_nd (ft_nd (ft_lf Tryz.fo23) (ft_lf Tryz.fo279)) (ft_lf Tryz.fo151)) (ft_nd (ft_lf Tryz.fo87) (ft_lf Tryz.fo215))) (ft_nd (ft_nd (ft_lf Tryz.fo55) (ft_lf Tryz.fo183)) (ft_nd (ft_lf Tryz.fo119) (ft_lf Tryz.fo247))))) (ft_nd (ft_nd (ft_nd (ft_nd (ft_nd (ft_lf Tryz.fo15) (ft_lf Tryz.fo271)) (ft_lf Tryz.fo143)) (ft_nd (ft_lf Tryz.fo79) (ft_lf Tryz.fo207))) (ft_nd (ft_nd (ft_lf Tryz.fo47) (ft_lf Tryz.fo175)) (ft_nd (ft_lf Tryz.fo111) (ft_lf Tryz.fo239)))) (ft_nd (ft_nd (ft_nd (ft_nd (ft_lf Tryz.fo31) (ft_lf Tryz.fo287)) (ft_lf Tryz.fo159)) (ft_nd (ft_lf Tryz.fo95) (ft_lf Tryz.fo223))) (ft_nd (ft_nd (ft_lf Tryz.fo63) (ft_lf Tryz.fo191)) (ft_nd (ft_lf Tryz.fo127) (ft_lf Tryz.fo255)))))))))
/-! ## Runs of one's own: what they know of memory -/
noncomputable def codeAt (p : List Bool) : Code → Code := List.rec (motive := fun _ => Code → Code) (fun c => c) (fun d _ ih c => Code.rec (motive := fun _ => Code) .skip (fun _ _ _ => .skip) (fun x y _ _ => ih (Bool.rec (motive := fun _ => Code) x y d)) (fun _ x y _ _ => ih (Bool.rec (motive := fun _ => Code) x y d)) (fun _ x _ => ih x) (fun x _ => ih x) (fun _ _ _ _ _ _ => .skip) (fun _ => .skip) (fun x _ => ih x) (fun _ => .skip) (fun _ => .skip) .skip (fun _ => .skip) c) p
def bodyOf (fn : Func) : Code := match fn.body with
  | some c => c
  | none => .skip
section
variable {P : Program} {w0 w : World} {ρ : Env} {G : GH} {k N : Nat} {ts ts' : TL} {ds : List Nat} {a : Act} {c : Code} {r : Option Nat} {mm : Nat} {A : List Chunk} {Q : PostT} {D : List Deferred} {S : TS}
theorem SlT.consE {t : Nat} {u : AV} {v : Value} (hu : ts.look t = some u) (e : v = cv ρ u) (h : SlT ρ ts S) : SlT ρ ts ((t, v) :: S) := by subst e; exact h.cons hu
/-- Two blocks ahead of the rest: one that changes, one that is looked at. -/
theorem zs_st2 (hz : ZS w0 ρ G w) {n m : Nat} {o o2 : AO} {p q : Nat × Nat} (hn : G n = some o) (hp : ρ.blk n = some p) (hm : G m = some o2) (hq : ρ.blk m = some q) (hnm : n ≠ m) : St w0 (.prd p.1 (fun x => OH ρ n p.2 o x) :: .prd q.1 (fun x => OH ρ m q.2 o2 x) :: frC ρ G [n, m]) w where
  base := hz.base
  all := fun c hc => by
    rcases List.mem_cons.1 hc with rfl | hc
    · obtain ⟨p', e1, e2, e3⟩ := hz.all n o hn
      obtain rfl : p' = p := Option.some.inj (e1.symm.trans hp)
      exact ⟨e2, (hz.lt hn hp).1, e3⟩
    · rcases List.mem_cons.1 hc with rfl | hc
      · obtain ⟨p', e1, e2, e3⟩ := hz.all m o2 hm
        obtain rfl : p' = q := Option.some.inj (e1.symm.trans hq)
        exact ⟨e2, (hz.lt hm hq).1, e3⟩
      · exact (frC_st hz [n, m]).all c hc
  apart := by
    refine .cons (fun c hc => ?_) (.cons (fun c hc => ?_) (frC_st hz [n, m]).apart)
    · rcases List.mem_cons.1 hc with rfl | hc
      · intro _ x hx hy
        simp only [Chunk.at_, Option.some.injEq] at hx hy
        exact hz.inj n m o o2 p q hn hm hp hq hnm (hx.trans hy.symm)
      · obtain ⟨l, _, h⟩ := List.mem_filterMap.1 hc
        obtain ⟨hl, o', q', h1, h2, rfl⟩ := frX_some h
        intro _ x hx hy
        simp only [Chunk.at_, Option.some.injEq] at hx hy
        exact hz.inj n l o o' p q' hn h1 hp h2 (fun e => hl (by rw [e]; exact .head _)) (hx.trans hy.symm)
    · obtain ⟨l, _, h⟩ := List.mem_filterMap.1 hc
      obtain ⟨hl, o', q', h1, h2, rfl⟩ := frX_some h
      intro _ x hx hy
      simp only [Chunk.at_, Option.some.injEq] at hx hy
      exact hz.inj m l o2 o' q q' hm h1 hq h2 (fun e => hl (by rw [e]; exact .tail _ (.head _))) (hx.trans hy.symm)
theorem st_zs2 {w' : World} (hG : ∀ n o, G n = some o → n < 32768) (hz : ZS w0 ρ G w) {n m : Nat} {o o' o2 : AO} {p q : Nat × Nat} (hn : G n = some o) (hp : ρ.blk n = some p) (hm : G m = some o2) (hq : ρ.blk m = some q) (hs : St w0 (.prd p.1 (fun x => OH ρ n p.2 o' x) :: .prd q.1 (fun x => OH ρ m q.2 o2 x) :: frC ρ G [n, m]) w') : ZS w0 ρ (setG G n (some o')) w' where
  base := hs.base
  all := fun l x hl => by
    unfold setG at hl
    split at hl
    · rename_i he; subst he
      injection hl with hl; subst hl
      obtain ⟨h1, h2, h3⟩ := hs.all _ (.head _)
      exact ⟨p, hp, h1, h3⟩
    · rename_i hne
      by_cases hlm : l = m
      · subst hlm
        rw [hm] at hl; injection hl with hl; subst hl
        obtain ⟨h1, h2, h3⟩ := hs.all _ (.tail _ (.head _))
        exact ⟨q, hq, h1, h3⟩
      · obtain ⟨q', e1, _, _⟩ := hz.all l x hl
        obtain ⟨h1, h2, h3⟩ := hs.all _ (.tail _ (.tail _ (frC_mem hG (ex := [n, m]) (by simp; exact ⟨fun h => hne h.symm, hlm⟩) hl e1)))
        exact ⟨q', e1, h1, h3⟩
  inj := fun a b x y p' q' ha hb hpa hpb hne => by
    have key : ∀ c x, setG G n (some o') c = some x → ∃ y, G c = some y := fun c x hc => by
      unfold setG at hc
      split at hc
      · rename_i he; subst he; exact ⟨o, hn⟩
      · exact ⟨x, hc⟩
    obtain ⟨x', h1⟩ := key a x ha
    obtain ⟨y', h2⟩ := key b y hb
    exact hz.inj a b x' y' p' q' h1 h2 hpa hpb hne
theorem code_tr2 (hz : ZF k N w0 ρ G ts ds a w) (hG : ∀ n o, G n = some o → n < 32768) {n m : Nat} {o o' o2 : AO} {p q : Nat × Nat} (hn : G n = some o) (hp : ρ.blk n = some p) (hm : G m = some o2) (hq : ρ.blk m = some q) (hnm : n ≠ m) (hS : SlT ρ ts S) (hts : ∀ t u, ts'.look t = some u → Dm ρ u ∧ bitB k t = true)
    (h : ∀ F : List Chunk, (∀ l x q, l ≠ n → l ≠ m → G l = some x → ρ.blk l = some q → Chunk.prd q.1 (fun y => OH ρ l q.2 x y) ∈ F) → Tr P r w0 N c (dfL ρ ds) S (.prd p.1 (fun x => OH ρ n p.2 o x) :: .prd q.1 (fun x => OH ρ m q.2 o2 x) :: F) (OvQ w0 ρ ts' (dfL ρ ds) (.prd p.1 (fun x => OH ρ n p.2 o' x) :: .prd q.1 (fun x => OH ρ m q.2 o2 x) :: F))) :
    c.wpIn (fw r) mm P (fun e a' w' => e = .normal ∧ ZF k N w0 ρ (setG G n (some o')) ts' ds a' w') a w := by
  refine wpIn_mono (h (frC ρ G [n, m]) (fun l x q hl hm hx hq => frC_mem hG (by simp; exact ⟨hl, hm⟩) hx hq) mm a w (zf_hd hz hS (zs_st2 hz.zs hn hp hm hq hnm))) ?_
  rintro e a' w' ⟨ds', S', A, ⟨he, hds, hsl, hA⟩, hd⟩
  exact ⟨he, hd.size, fun t v hv => ⟨hd.slots t _ (hsl t v hv), (hts t v hv).1⟩, fun t v hv => (hts t v hv).2, by rw [hd.ds, hds], hz.dsd, st_zs2 hG hz.zs hn hp hm hq (hA w' hd.st)⟩
/-- A cell of a block that is known. -/
theorem cellAt_oh {b n q : Nat} {t : TypeId} {l : List AV} {op : Option Nat} (hm : Chunk.prd b (fun y => OH ρ n q (.cs t l op) y) ∈ A) {j : Nat} {u : AV} (hj : l[j]? = some u) : CellAt w0 A b (q + j) (cv ρ u) := fun w hs => by
  obtain ⟨_, _, pre, rest, h1, h2, _⟩ := hs.all _ hm
  rw [World.cell?]
  simp only [h2]
  subst h1
  have h3 : (cvL ρ l)[j]? = some (cv ρ u) := by rw [cvL_eq, List.getElem?_map, hj]; rfl
  have hlt := (List.getElem?_eq_some_iff.1 h3).1
  simp only [List.getElem?_toArray]
  rw [List.append_assoc, List.getElem?_append_right (by omega), show pre.length + j - pre.length = j by omega, List.getElem?_append_left hlt]
  exact h3
theorem mapAt_oh {b n q : Nat} {kd : KD} {es : List (AV × AV)} {sts : List (Nat × AV)} {nxt : Nat} (hm : Chunk.prd b (fun y => OH ρ n q (.mp kd es sts nxt) y) ∈ A) : MapAt w0 A b (enK ρ kd) (mpF ρ es kd) := fun w hs => by
  obtain ⟨_, _, _, st, h, _⟩ := hs.all _ hm
  exact ⟨st, h⟩
theorem tr_mp_it {b n q : Nat} {kd : KD} {es : List (AV × AV)} {sts : List (Nat × AV)} {nxt : Nat} (B : Array MapEntry → Nat → List Chunk) (hu : ∀ arr clock, Upd (.prd b (fun y => OH ρ n q (.mp kd es sts nxt) y)) (.obj b (.map arr clock)) A (B arr clock))
    (h : ∀ arr clock, OH ρ n q (.mp kd es sts nxt) (some (.map arr clock)) → ItOK (enK ρ kd) (mpF ρ es kd) [] arr clock #[] → Tr P r w0 N c D S (B arr clock) Q) : Tr P r w0 N c D S A Q := by
  refine tr_ex (fun x : Array MapEntry × Nat => B x.1 x.2) (fun x => ItOK (enK ρ kd) (mpF ρ es kd) [] x.1 x.2 #[] ∧ OH ρ n q (.mp kd es sts nxt) (some (.map x.1 x.2))) (fun w hs => ?_) fun x hx => h x.1 x.2 hx.2 hx.1
  obtain ⟨h0, h1, h2⟩ := hs.all _ (hu #[] 0).mem
  obtain ⟨hq, st, hmp, h5⟩ := h2
  obtain ⟨arr, clock, h3, h4⟩ := hmp.it
  exact ⟨(arr, clock), ⟨h4, hq, st, by rw [← h3]; exact hmp, h5⟩, hs.swap (hu arr clock) rfl rfl ⟨h0, h3⟩⟩
theorem st_obj {b : Nat} {p : Option Obj → Prop} {ob : Obj} {A' : List Chunk} (hu : Upd (.obj b ob) (.prd b p) A A') (hp : p (some ob)) (hs : St w0 A w) : St w0 A' w :=
  hs.swap hu rfl rfl ⟨(hs.all _ hu.mem).1, (Array.getElem?_eq_some_iff.1 (hs.all _ hu.mem).2).1, by rw [(hs.all _ hu.mem).2]; exact hp⟩
end
/-! ## Entries in another order, without some -/
theorem mpF_perm {ρ : Env} {kd : KD} {l m : List (KK kd × AV)} (h : l.Perm m) (hn : (l.map Prod.fst).Nodup) : mpF ρ (esL l) kd = mpF ρ (esL m) kd := by
  have hm : (m.map Prod.fst).Nodup := (h.map _).nodup_iff.1 hn
  funext k
  apply Option.ext
  intro v
  rw [mpF_some hn, mpF_some hm]
  constructor
  · rintro ⟨u, h1, h2⟩; exact ⟨u, h.mem_iff.1 h1, h2⟩
  · rintro ⟨u, h1, h2⟩; exact ⟨u, h.mem_iff.2 h1, h2⟩
theorem mpF_drop {ρ : Env} {kd : KD} {l : List (KK kd × AV)} {k : KK kd} {u : AV} (hn : (((k, u) :: l).map Prod.fst).Nodup) : delM (mpF ρ (esL ((k, u) :: l)) kd) k = mpF ρ (esL l) kd := by
  have hl : (l.map Prod.fst).Nodup := by rw [List.map_cons] at hn; exact (List.nodup_cons.1 hn).2
  have hk : k ∉ l.map Prod.fst := by rw [List.map_cons] at hn; exact (List.nodup_cons.1 hn).1
  funext x
  apply Option.ext
  intro v
  unfold delM
  by_cases hx : x = k
  · rw [if_pos hx, mpF_some hl]
    subst hx
    constructor
    · intro h; cases h
    · rintro ⟨u', h, _⟩; exact absurd (List.mem_map.2 ⟨_, h, rfl⟩) hk
  · rw [if_neg hx, mpF_some hn, mpF_some hl]
    constructor
    · rintro ⟨u', h, h2⟩
      rcases List.mem_cons.1 h with h | h
      · injection h with h _; exact absurd h hx
      · exact ⟨u', h, h2⟩
    · rintro ⟨u', h, h2⟩; exact ⟨u', .tail _ h, h2⟩
theorem mpF_put {ρ : Env} {kd : KD} {l : List (KK kd × AV)} {k : KK kd} {u : AV} (hn : ((l ++ [(k, u)]).map Prod.fst).Nodup) : updM (mpF ρ (esL l) kd) k (cv ρ u) = mpF ρ (esL (l ++ [(k, u)])) kd := by
  have hl : (l.map Prod.fst).Nodup := by rw [List.map_append] at hn; exact (List.nodup_append.1 hn).1
  funext x
  apply Option.ext
  intro v
  unfold updM
  by_cases hx : x = k
  · rw [if_pos hx, mpF_some hn]
    subst hx
    constructor
    · intro h; injection h with h; exact ⟨u, by simp, h.symm⟩
    · rintro ⟨u', h, h2⟩
      rcases List.mem_append.1 h with h | h
      · rw [List.map_append, List.nodup_append] at hn
        exact absurd rfl (hn.2.2 _ (List.mem_map.2 ⟨_, h, rfl⟩) x (by simp))
      · simp only [List.mem_singleton, Prod.mk.injEq, true_and] at h
        rw [h2, h]
  · rw [if_neg hx, mpF_some hn, mpF_some hl]
    constructor
    · rintro ⟨u', h, h2⟩; exact ⟨u', List.mem_append.2 (.inl h), h2⟩
    · rintro ⟨u', h, h2⟩
      rcases List.mem_append.1 h with h | h
      · exact ⟨u', h, h2⟩
      · simp only [List.mem_singleton, Prod.mk.injEq] at h
        exact absurd h.1 hx
/-- What is left of a map when some of the entries that were come to are gone. -/
def Lft {kd : KD} (c : KK kd × AV → Bool) (k1 k2 : List (KK kd × AV)) : List (KK kd × AV) := (k1.filter fun e => !c e) ++ k2
section
variable {ρ : Env} {kd : KD} {ks : List (KK kd × AV)} {vs : List (KK kd)} {k1 k2 : List (KK kd × AV)} {c : KK kd × AV → Bool}
theorem Lft.sub : (Lft c k1 k2).Sublist (k1 ++ k2) := List.Sublist.append (List.filter_sublist) (List.Sublist.refl _)
theorem Gone.nd (hn : (ks.map Prod.fst).Nodup) (h : Gone ks vs k1 k2) : ((k1 ++ k2).map Prod.fst).Nodup := (h.perm.map Prod.fst).nodup_iff.2 hn
theorem Lft.nd (hn : (ks.map Prod.fst).Nodup) (h : Gone ks vs k1 k2) : ((Lft c k1 k2).map Prod.fst).Nodup := (h.nd hn).sublist (Lft.sub.map _)
theorem Lft.step (hn : (ks.map Prod.fst).Nodup) (h : Gone ks vs k1 k2) {k : KK kd} {u : AV} (hm : (k, u) ∈ ks) (hv : k ∉ vs) : ∃ k2', Gone ks (vs ++ [k]) (k1 ++ [(k, u)]) k2' ∧
    (c (k, u) = false → mpF ρ (esL (Lft c k1 k2)) kd = mpF ρ (esL (Lft c (k1 ++ [(k, u)]) k2')) kd) ∧ (c (k, u) = true → delM (mpF ρ (esL (Lft c k1 k2)) kd) k = mpF ρ (esL (Lft c (k1 ++ [(k, u)]) k2')) kd) := by
  have hL := Lft.nd (c := c) hn h
  have h3 : (k, u) ∈ k2 := by
    rcases List.mem_append.1 (h.perm.mem_iff.2 hm) with h4 | h4
    · exact absurd (by rw [h.vs]; exact List.mem_map.2 ⟨_, h4, rfl⟩) hv
    · exact h4
  obtain ⟨a, b, rfl⟩ := List.append_of_mem h3
  have hp : (Lft c k1 (a ++ (k, u) :: b)).Perm ((k, u) :: Lft c k1 (a ++ b)) := by
    unfold Lft
    refine (List.Perm.append_left _ (List.perm_middle (a := (k, u)) (l₁ := a) (l₂ := b))).trans ?_
    exact List.perm_middle (a := (k, u)) (l₁ := k1.filter fun e => !c e) (l₂ := a ++ b)
  refine ⟨a ++ b, ⟨?_, by rw [h.vs]; simp⟩, fun hc => ?_, fun hc => ?_⟩
  · refine List.Perm.trans ?_ h.perm
    rw [List.append_assoc]
    exact List.Perm.append_left _ (List.perm_middle (a := (k, u)) (l₁ := a) (l₂ := b)).symm
  · refine mpF_perm (hp.trans ?_) hL
    unfold Lft
    rw [List.filter_append]
    simp only [List.filter_cons, hc, Bool.not_false, if_true, List.filter_nil]
    rw [List.append_assoc]
    exact (List.perm_middle (a := (k, u)) (l₁ := k1.filter fun e => !c e) (l₂ := a ++ b)).symm
  · rw [mpF_perm hp hL, mpF_drop ((hp.map _).nodup_iff.1 hL)]
    unfold Lft
    rw [List.filter_append]
    simp [hc]
theorem Lft.next (hn : (ks.map Prod.fst).Nodup) (h : Gone ks vs k1 k2) {k : KK kd} {v : Value} (hk : mpF ρ (esL (Lft c k1 k2)) kd k = some v) (hv : k ∉ vs) : ∃ u k2', v = cv ρ u ∧ (k, u) ∈ ks ∧ Gone ks (vs ++ [k]) (k1 ++ [(k, u)]) k2' ∧
    (c (k, u) = false → mpF ρ (esL (Lft c k1 k2)) kd = mpF ρ (esL (Lft c (k1 ++ [(k, u)]) k2')) kd) ∧ (c (k, u) = true → delM (mpF ρ (esL (Lft c k1 k2)) kd) k = mpF ρ (esL (Lft c (k1 ++ [(k, u)]) k2')) kd) := by
  obtain ⟨u, h1, h2⟩ := (mpF_some (Lft.nd (c := c) hn h)).1 hk
  have hm : (k, u) ∈ ks := h.perm.mem_iff.1 (Lft.sub.subset h1)
  obtain ⟨k2', a1, a2, a3⟩ := Lft.step (ρ := ρ) (c := c) hn h hm hv
  exact ⟨u, k2', h2, hm, a1, a2, a3⟩
theorem Lft.done (hn : (ks.map Prod.fst).Nodup) (h : Gone ks vs k1 k2) (hall : ∀ k v, mpF ρ (esL (Lft c k1 k2)) kd k = some v → k ∈ vs) : mpF ρ (esL (Lft c k1 k2)) kd = mpF ρ (esL (ks.filter fun e => !c e)) kd := by
  have hL := Lft.nd (c := c) hn h
  have hk2 : k2 = [] := by
    cases k2 with
    | nil => rfl
    | cons e l =>
      obtain ⟨k, u⟩ := e
      exfalso
      have h2 := hall k _ ((mpF_some hL).2 ⟨u, List.mem_append.2 (.inr (.head _)), rfl⟩)
      rw [h.vs] at h2
      have h3 := h.nd hn
      rw [List.map_append, List.nodup_append] at h3
      exact h3.2.2 k h2 k (by simp) rfl
  subst hk2
  have hp : k1.Perm ks := by simpa using h.perm
  refine mpF_perm ?_ hL
  unfold Lft
  rw [List.append_nil]
  exact hp.filter _
theorem Lft.start : Lft c [] ks = ks := rfl
end
theorem esL_filter {kd : KD} (c : AV × AV → Bool) (ks : List (KK kd × AV)) : esL (ks.filter fun e => !c (e.1.1, e.2)) = (esL ks).filter fun e => !c e := by
  unfold esL
  rw [List.filter_map]; rfl
/-- A map told anew. -/
theorem oh_new {ρ : Env} {n q : Nat} {kd : KD} {es es' : List (AV × AV)} {sts : List (Nat × AV)} {nxt : Nat} {x y : Option Obj} (h : OH ρ n q (.mp kd es sts nxt) x) (he : ∀ e ∈ es', keyB kd e.1 = true ∧ Dm ρ e.2) {st : List (Nat × KK kd)} (hy : MapP (enK ρ kd) (mpF ρ es' kd) st y) : OH ρ n q (.mp kd es' [] nxt) y := by
  obtain ⟨h1, _, _, _, _, h5⟩ := h
  exact ⟨h1, st, hy, he, by simp, h5⟩
theorem Lft.doneK {ρ : Env} {kd : KD} {ks : List (KK kd × AV)} {vs : List (KK kd)} {k1 k2 : List (KK kd × AV)} {c : KK kd × AV → Bool} (hn : (ks.map Prod.fst).Nodup) (h : Gone ks vs k1 k2) (hall : ∀ k v, mpF ρ (esL ks) kd k = some v → k ∈ vs) : mpF ρ (esL (Lft c k1 k2)) kd = mpF ρ (esL (ks.filter fun e => !c e)) kd := by
  have hp := h.done hn hall
  have hk2 : k2 = [] := by
    have h1 := h.perm.length_eq
    have h2 := hp.length_eq
    rw [List.length_append] at h1
    exact List.eq_nil_of_length_eq_zero (by omega)
  have hL := Lft.nd (c := c) hn h
  subst hk2
  refine mpF_perm ?_ hL
  unfold Lft
  rw [List.append_nil]
  exact hp.filter _
noncomputable def mapN (v : AV) : Option Nat := match v with
  | .m n => some n
  | _ => none
theorem mapN_ok {v : AV} {n : Nat} (h : mapN v = some n) : v = .m n := by
  cases v <;> first | (cases h; done) | skip
  injection h with h; subst h; rfl
theorem gt32 {s : Hp} {n : Nat} {o : AO} (h : s.gt n = some o) : n < 32768 := gt_lt h
noncomputable def cellM (o : AO) (j : Nat) : Option Nat := match o with
  | .cs _ l _ => match nthL l j with
    | some v => match v with
      | .m n => some n
      | _ => none
    | none => none
  | _ => none
theorem cellM_ok {o : AO} {j fm : Nat} (h : cellM o j = some fm) : ∃ t l op, o = .cs t l op ∧ l[j]? = some (.m fm) := by
  unfold cellM at h
  cases o <;> first | (cases h; done) | skip
  rename_i t l op
  dsimp only at h
  rw [nthL_eq] at h
  cases hl : l[j]? with
  | none => rw [hl] at h; cases h
  | some v =>
    rw [hl] at h
    cases v <;> first | (cases h; done) | skip
    injection h with h; subst h
    exact ⟨t, l, op, rfl, hl⟩
section
variable {P : Program} {w0 w : World} {ρ : Env} {N : Nat} {c : Code} {r : Option Nat} {A A' : List Chunk} {Q : PostT} {D : List Deferred} {S : TS}
theorem MapP.nil_st {κ : Type} {enc : κ → Value} {m : κ → Option Value} {st : List (Nat × κ)} {o : Option Obj} (h : MapP enc m st o) : MapP enc m [] o := by
  obtain ⟨arr, clock, rfl, hI⟩ := h.it
  exact hI.map
theorem tr_oh_map {b n q : Nat} {kd : KD} {es : List (AV × AV)} {sts : List (Nat × AV)} {nxt : Nat} (hu : Upd (.prd b (fun y => OH ρ n q (.mp kd es sts nxt) y)) (.prd b (MapP (enK ρ kd) (mpF ρ es kd) [])) A A') (h : Tr P r w0 N c D S A' Q) : Tr P r w0 N c D S A Q :=
  tr_st (fun w hs => by
    obtain ⟨h0, h1, h2⟩ := hs.all _ hu.mem
    obtain ⟨_, st, h3, _⟩ := h2
    exact hs.swap hu rfl rfl ⟨h0, h1, h3.nil_st⟩) h
theorem st_prd {b : Nat} {p p' : Option Obj → Prop} (hu : Upd (.prd b p) (.prd b p') A A') (hp : ∀ x, p x → p' x) (hs : St w0 A w) : St w0 A' w := by
  obtain ⟨h0, h1, h2⟩ := hs.all _ hu.mem
  exact hs.swap hu rfl rfl ⟨h0, h1, hp _ h2⟩
end
/-- Slots that are handed on. -/
theorem tl2_ok {ρ : Env} {k : Nat} {t1 t2 : Nat} {u1 u2 : AV} (h1 : Dm ρ u1) (k1 : bitB k t1 = true) (h2 : Dm ρ u2) (k2 : bitB k t2 = true) : ∀ t u, (TL.cons t1 u1 (.cons t2 u2 .nil)).look t = some u → Dm ρ u ∧ bitB k t = true := fun t u hu => by
  rw [TL.look_cons] at hu
  split at hu
  · rename_i ht; subst ht; injection hu with hu; subst hu; exact ⟨h1, k1⟩
  · rw [TL.look_cons] at hu
    split at hu
    · rename_i ht; subst ht; injection hu with hu; subst hu; exact ⟨h2, k2⟩
    · cases hu
theorem tl1_ok {ρ : Env} {k : Nat} {t1 : Nat} {u1 : AV} (h1 : Dm ρ u1) (k1 : bitB k t1 = true) : ∀ t u, (TL.cons t1 u1 .nil).look t = some u → Dm ρ u ∧ bitB k t = true := fun t u hu => by
  rw [TL.look_cons] at hu
  split at hu
  · rename_i ht; subst ht; injection hu with hu; subst hu; exact ⟨h1, k1⟩
  · cases hu
theorem tl1_lk {ρ : Env} {t1 : Nat} {u1 : AV} {S : TS} (h : look S t1 = some (cv ρ u1)) : ∀ t u, (TL.cons t1 u1 .nil).look t = some u → look S t = some (cv ρ u) := fun t u hu => by
  rw [TL.look_cons] at hu
  split at hu
  · rename_i ht; subst ht; injection hu with hu; subst hu; exact h
  · cases hu
theorem tl2_lk {ρ : Env} {t1 t2 : Nat} {u1 u2 : AV} {S : TS} (h : look S t1 = some (cv ρ u1)) (h2 : look S t2 = some (cv ρ u2)) : ∀ t u, (TL.cons t1 u1 (.cons t2 u2 .nil)).look t = some u → look S t = some (cv ρ u) := fun t u hu => by
  rw [TL.look_cons] at hu
  split at hu
  · rename_i ht; subst ht; injection hu with hu; subst hu; exact h
  · exact tl1_lk h2 t u hu
def ptrN (v : AV) : Option Nat := match v with
  | .p n q => match Nat.beq q 0 with
    | true => some n
    | false => none
  | _ => none
theorem ptrN_ok {v : AV} {n : Nat} (h : ptrN v = some n) : v = .p n 0 := by
  cases v <;> first | (cases h; done) | skip
  unfold ptrN at h
  dsimp only at h
  split at h
  · rename_i hb
    have := Nat.eq_of_beq_eq_true hb
    injection h with h; subst h; rw [this]
  · cases h
def intAV (v : AV) : Int := match v with
  | .i _ n => n
  | _ => 0
end Go.Proofs.YtiodmphhjgkgjaaGreat
