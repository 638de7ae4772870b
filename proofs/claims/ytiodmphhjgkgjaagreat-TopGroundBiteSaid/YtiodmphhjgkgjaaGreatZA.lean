/- Values by names: what a closed run computes with: lemmas for the rows of this seat. No conditions. -/
import Derived.Test.YtiodmphhjgkgjaaGreatV8
set_option linter.all false
namespace Go.Proofs.YtiodmphhjgkgjaaGreat
open Go.RowKit
/-! ## Values by names: what a closed run computes with -/
/-- A value, in which memory is told by names. -/
inductive AV where
  | b (x : Bool)
  | i (k : IntKind) (n : Int)
  | s (l : List UInt8)
  | p (n off : Nat)
  | pn
  | l (n off len : Nat) (c : Option Nat) (sk : Nat)
  | ln
  | m (n : Nat)
  | mn
  | f (g : Nat) (us vs : List AV)
  | y (n : Nat)
  | fn
  | ni
  | ii (t : Nat) (v : AV)
  | g (cs : List AV)
  | t (vs : List AV)
  | st (n i : Nat)
/-- Where what is named lies. -/
structure Env where
  blk : Nat → Option (Nat × Nat)
  cap : Nat → Nat
  stp : Nat → Nat → Option Nat
def Env.at_ (ρ : Env) (n off : Nat) : Addr := ⟨((ρ.blk n).getD (0, 0)).1, ((ρ.blk n).getD (0, 0)).2 + off, none⟩
mutual
/-- The value that it stands for. -/
def cv (ρ : Env) : AV → Value
  | .b x => .bool x
  | .i k n => .int k n
  | .s l => .string ⟨l.toArray⟩
  | .p n off => .pointer (some (ρ.at_ n off))
  | .pn => .pointer none
  | .l n off len c sk => .slice (some (ρ.at_ n off)) len (match c with | some c => c | none => ρ.cap n - sk)
  | .ln => .slice none 0 0
  | .m n => .map (some ((ρ.blk n).getD (0, 0)).1)
  | .mn => .map none
  | .f g us vs => .func (.func g) (cvL ρ us).toArray (cvL ρ vs).toArray
  | .y n => .func (.yield ((ρ.blk n).getD (0, 0)).1) #[] #[]
  | .fn => .nilFunc
  | .ni => .nilIface
  | .ii t v => .iface t (cv ρ v)
  | .g cs => .agg (cvL ρ cs).toArray
  | .t vs => .tuple (cvL ρ vs).toArray
  | .st n i => .int .i64 ((ρ.stp n i).getD 0 : Nat)
def cvL (ρ : Env) : List AV → List Value
  | [] => []
  | v :: l => cv ρ v :: cvL ρ l
end
mutual
/-- All names in it are told. -/
def Dm (ρ : Env) : AV → Prop
  | .p n _ => (ρ.blk n).isSome = true
  | .l n _ _ _ _ => (ρ.blk n).isSome = true
  | .m n => (ρ.blk n).isSome = true
  | .y n => (ρ.blk n).isSome = true
  | .f _ us vs => DmL ρ us ∧ DmL ρ vs
  | .ii _ v => Dm ρ v
  | .g cs => DmL ρ cs
  | .t vs => DmL ρ vs
  | .st n i => (ρ.blk n).isSome = true ∧ (ρ.stp n i).isSome = true
  | _ => True
def DmL (ρ : Env) : List AV → Prop
  | [] => True
  | v :: l => Dm ρ v ∧ DmL ρ l
end
/-- More is told. -/
structure Env.le (ρ ρ' : Env) : Prop where
  blk : ∀ n p, ρ.blk n = some p → ρ'.blk n = some p ∧ ρ'.cap n = ρ.cap n
  stp : ∀ n i s, (ρ.blk n).isSome = true → ρ.stp n i = some s → ρ'.stp n i = some s
theorem Env.le.refl (ρ : Env) : ρ.le ρ := ⟨fun _ _ h => ⟨h, rfl⟩, fun _ _ _ _ h => h⟩
theorem Env.le.trans {ρ ρ' ρ'' : Env} (h : ρ.le ρ') (h' : ρ'.le ρ'') : ρ.le ρ'' :=
  ⟨fun n p hp => by
    obtain ⟨h1, h2⟩ := h.blk n p hp
    obtain ⟨h3, h4⟩ := h'.blk n p h1
    exact ⟨h3, h4.trans h2⟩, fun n i s hn hs => h'.stp n i s (by
      obtain ⟨p, hp⟩ := Option.isSome_iff_exists.1 hn
      rw [(h.blk n p hp).1]; rfl) (h.stp n i s hn hs)⟩
section
variable {ρ ρ' : Env}
theorem cvL_eq (ρ : Env) : ∀ l : List AV, cvL ρ l = l.map (cv ρ)
  | [] => by simp [cvL]
  | v :: l => by simp [cvL, cvL_eq ρ l]
theorem DmL_iff (ρ : Env) : ∀ l : List AV, DmL ρ l ↔ ∀ v ∈ l, Dm ρ v
  | [] => by simp [DmL]
  | v :: l => by simp [DmL, DmL_iff ρ l]
theorem Env.le.some {n : Nat} (h : ρ.le ρ') (hn : (ρ.blk n).isSome = true) : ρ'.blk n = ρ.blk n ∧ ρ'.cap n = ρ.cap n := by
  obtain ⟨p, hp⟩ := Option.isSome_iff_exists.1 hn
  obtain ⟨h1, h2⟩ := h.blk n p hp
  exact ⟨h1.trans hp.symm, h2⟩
mutual
theorem cv_mono (h : ρ.le ρ') : ∀ v : AV, Dm ρ v → cv ρ' v = cv ρ v ∧ Dm ρ' v
  | .b _, _ => by simp [cv, Dm]
  | .i _ _, _ => by simp [cv, Dm]
  | .s _, _ => by simp [cv, Dm]
  | .p n off, hd => by
    simp only [Dm] at hd
    obtain ⟨h1, _⟩ := h.some hd
    simp only [cv, Dm, Env.at_, h1]; exact ⟨trivial, hd⟩
  | .pn, _ => by simp [cv, Dm]
  | .l n off len c sk, hd => by
    simp only [Dm] at hd
    obtain ⟨h1, h2⟩ := h.some hd
    simp only [cv, Dm, Env.at_, h1, h2]; exact ⟨trivial, hd⟩
  | .ln, _ => by simp [cv, Dm]
  | .m n, hd => by
    simp only [Dm] at hd
    obtain ⟨h1, _⟩ := h.some hd
    simp only [cv, Dm, h1]; exact ⟨trivial, hd⟩
  | .mn, _ => by simp [cv, Dm]
  | .f g us vs, hd => by
    simp only [Dm] at hd
    obtain ⟨h1, h2⟩ := cvL_mono h us hd.1
    obtain ⟨h3, h4⟩ := cvL_mono h vs hd.2
    simp only [cv, Dm, h1, h3]; exact ⟨trivial, h2, h4⟩
  | .y n, hd => by
    simp only [Dm] at hd
    obtain ⟨h1, _⟩ := h.some hd
    simp only [cv, Dm, h1]; exact ⟨trivial, hd⟩
  | .fn, _ => by simp [cv, Dm]
  | .ni, _ => by simp [cv, Dm]
  | .ii t v, hd => by
    simp only [Dm] at hd
    obtain ⟨h1, h2⟩ := cv_mono h v hd
    simp only [cv, Dm, h1]; exact ⟨trivial, h2⟩
  | .g cs, hd => by
    simp only [Dm] at hd
    obtain ⟨h1, h2⟩ := cvL_mono h cs hd
    simp only [cv, Dm, h1]; exact ⟨trivial, h2⟩
  | .t vs, hd => by
    simp only [Dm] at hd
    obtain ⟨h1, h2⟩ := cvL_mono h vs hd
    simp only [cv, Dm, h1]; exact ⟨trivial, h2⟩
  | .st n i, hd => by
    simp only [Dm] at hd
    obtain ⟨hb, hd⟩ := hd
    obtain ⟨s, hs⟩ := Option.isSome_iff_exists.1 hd
    have := h.stp n i s hb hs
    simp only [cv, Dm, this, hs, (h.some hb).1]; exact ⟨trivial, hb, rfl⟩
theorem cvL_mono (h : ρ.le ρ') : ∀ l : List AV, DmL ρ l → cvL ρ' l = cvL ρ l ∧ DmL ρ' l
  | [], _ => by simp [cvL, DmL]
  | v :: l, hd => by
    simp only [DmL] at hd
    obtain ⟨h1, h2⟩ := cv_mono h v hd.1
    obtain ⟨h3, h4⟩ := cvL_mono h l hd.2
    simp only [cvL, DmL, h1, h3]; exact ⟨trivial, h2, h4⟩
end
end
/-! ## A run's state: slots, blocks by names -/
theorem beq_ff {a b : Nat} (h : ¬ a = b) : Nat.beq a b = false := by
  cases hb : Nat.beq a b
  · rfl
  · exact absurd (Nat.eq_of_beq_eq_true hb) h
/-- Slots, the newest first. -/
inductive TL where
  | nil
  | cons (t : Nat) (v : AV) (r : TL)
def TL.lz (_ : Nat) : Option AV := none
noncomputable def TL.ls (t : Nat) (v : AV) (_ : TL) (ih : Nat → Option AV) (u : Nat) : Option AV := Bool.rec (motive := fun _ => Option AV) (ih u) (some v) (Nat.beq t u)
noncomputable def TL.look (l : TL) : Nat → Option AV := TL.rec (motive := fun _ => Nat → Option AV) TL.lz TL.ls l
theorem TL.look_cons (t : Nat) (v : AV) (r : TL) (u : Nat) : (TL.cons t v r).look u = if t = u then some v else r.look u := by
  show Bool.rec (motive := fun _ => Option AV) (r.look u) (some v) (Nat.beq t u) = _
  by_cases h : t = u
  · subst h; rw [Nat.beq_refl]; simp
  · rw [if_neg h, beq_ff h]
/-- A slot is set, in its place. -/
def TL.sz (t : Nat) (v : AV) : TL := .cons t v .nil
noncomputable def TL.ss (t : Nat) (v : AV) (u : Nat) (x : AV) (r : TL) (ih : TL) : TL := Bool.rec (motive := fun _ => TL) (.cons u x ih) (.cons t v r) (Nat.beq t u)
noncomputable def TL.set (t : Nat) (v : AV) (l : TL) : TL := TL.rec (motive := fun _ => TL) (TL.sz t v) (TL.ss t v) l
/-- What kind of cells a key is made of. -/
inductive CK where
  | b
  | i (k : IntKind)
/-- What kind of keys a map has: structs or arrays of such cells, or numbers. -/
inductive KD where
  | fl (ks : List CK)
  | nt (k : IntKind)
/-- What is known of one block of memory. -/
inductive AO where
  | cs (t : Nat) (l : List AV) (op : Option Nat)
  | mp (kk : KD) (es : List (AV × AV)) (sts : List (Nat × AV)) (nxt : Nat)
  | lp (st : LoopState) (pe : Option Code) (fn : Nat) (ts : TL) (sz : Nat) (ps : Array Tmp) (as bd : Code)
  | dl (b : Bool)
  | ez (t sz : Nat)
structure N8 (α : Type) where
  (a0 a1 a2 a3 a4 a5 a6 a7 : α)
inductive D8 where
  | d0 | d1 | d2 | d3 | d4 | d5 | d6 | d7
section
variable {α : Type}
noncomputable def N8.get (d : D8) (x : N8 α) : α := D8.rec (motive := fun _ => α) x.a0 x.a1 x.a2 x.a3 x.a4 x.a5 x.a6 x.a7 d
def N8.u0 (v : α) (a0 a1 a2 a3 a4 a5 a6 a7 : α) : N8 α := ⟨v, a1, a2, a3, a4, a5, a6, a7⟩
def N8.u1 (v : α) (a0 a1 a2 a3 a4 a5 a6 a7 : α) : N8 α := ⟨a0, v, a2, a3, a4, a5, a6, a7⟩
def N8.u2 (v : α) (a0 a1 a2 a3 a4 a5 a6 a7 : α) : N8 α := ⟨a0, a1, v, a3, a4, a5, a6, a7⟩
def N8.u3 (v : α) (a0 a1 a2 a3 a4 a5 a6 a7 : α) : N8 α := ⟨a0, a1, a2, v, a4, a5, a6, a7⟩
def N8.u4 (v : α) (a0 a1 a2 a3 a4 a5 a6 a7 : α) : N8 α := ⟨a0, a1, a2, a3, v, a5, a6, a7⟩
def N8.u5 (v : α) (a0 a1 a2 a3 a4 a5 a6 a7 : α) : N8 α := ⟨a0, a1, a2, a3, a4, v, a6, a7⟩
def N8.u6 (v : α) (a0 a1 a2 a3 a4 a5 a6 a7 : α) : N8 α := ⟨a0, a1, a2, a3, a4, a5, v, a7⟩
def N8.u7 (v : α) (a0 a1 a2 a3 a4 a5 a6 a7 : α) : N8 α := ⟨a0, a1, a2, a3, a4, a5, a6, v⟩
noncomputable def N8.ux (d : D8) (v : α) : α → α → α → α → α → α → α → α → N8 α := D8.rec (motive := fun _ => α → α → α → α → α → α → α → α → N8 α) (N8.u0 v) (N8.u1 v) (N8.u2 v) (N8.u3 v) (N8.u4 v) (N8.u5 v) (N8.u6 v) (N8.u7 v) d
noncomputable def N8.upd (d : D8) (v : α) (x : N8 α) : N8 α := N8.rec (motive := fun _ => N8 α) (N8.ux d v) x
def N8.all (v : α) : N8 α := ⟨v, v, v, v, v, v, v, v⟩
theorem N8.get_all (d : D8) (v : α) : (N8.all v).get d = v := by cases d <;> rfl
theorem N8.get_upd (d e : D8) (v : α) (x : N8 α) [DecidableEq D8] : (x.upd d v).get e = if d = e then v else x.get e := by
  cases x
  cases d <;> cases e <;> first | rfl | (rw [if_neg (by intro h; cases h)]; rfl) | (rw [if_pos rfl]; rfl)
end
noncomputable def dg1 (n : Nat) : D8 := Nat.rec (motive := fun _ => D8) .d0 (fun n _ => Nat.rec (motive := fun _ => D8) .d1 (fun n _ => Nat.rec (motive := fun _ => D8) .d2 (fun n _ => Nat.rec (motive := fun _ => D8) .d3 (fun n _ => Nat.rec (motive := fun _ => D8) .d4 (fun n _ => Nat.rec (motive := fun _ => D8) .d5 (fun n _ => Nat.rec (motive := fun _ => D8) .d6 (fun _ _ => .d7) n) n) n) n) n) n) n
theorem dg1_inj {a b : Nat} (ha : a < 8) (hb : b < 8) (h : dg1 a = dg1 b) : a = b := by
  rcases (by omega : a = 0 ∨ a = 1 ∨ a = 2 ∨ a = 3 ∨ a = 4 ∨ a = 5 ∨ a = 6 ∨ a = 7) with rfl | rfl | rfl | rfl | rfl | rfl | rfl | rfl <;>
  rcases (by omega : b = 0 ∨ b = 1 ∨ b = 2 ∨ b = 3 ∨ b = 4 ∨ b = 5 ∨ b = 6 ∨ b = 7) with rfl | rfl | rfl | rfl | rfl | rfl | rfl | rfl <;>
  first | rfl | (exact absurd h (by intro h; cases h))
/-- A name's five figures. -/
structure D5 where
  (a b c d e : D8)
noncomputable def dig (n : Nat) : D5 := ⟨dg1 (Nat.mod (Nat.div n 4096) 8), dg1 (Nat.mod (Nat.div n 512) 8), dg1 (Nat.mod (Nat.div n 64) 8), dg1 (Nat.mod (Nat.div n 8) 8), dg1 (Nat.mod n 8)⟩
theorem dig_inj {m n : Nat} (hm : m < 32768) (hn : n < 32768) (h : dig m = dig n) : m = n := by
  simp only [dig, D5.mk.injEq] at h
  obtain ⟨h1, h2, h3, h4, h5⟩ := h
  have e1 := dg1_inj (Nat.mod_lt _ (by decide)) (Nat.mod_lt _ (by decide)) h1
  have e2 := dg1_inj (Nat.mod_lt _ (by decide)) (Nat.mod_lt _ (by decide)) h2
  have e3 := dg1_inj (Nat.mod_lt _ (by decide)) (Nat.mod_lt _ (by decide)) h3
  have e4 := dg1_inj (Nat.mod_lt _ (by decide)) (Nat.mod_lt _ (by decide)) h4
  have e5 := dg1_inj (Nat.mod_lt _ (by decide)) (Nat.mod_lt _ (by decide)) h5
  have f : ∀ x y : Nat, Nat.div x y = x / y := fun _ _ => rfl
  have g : ∀ x y : Nat, Nat.mod x y = x % y := fun _ _ => rfl
  simp only [f, g] at e1 e2 e3 e4 e5
  omega
abbrev HT := N8 (N8 (N8 (N8 (N8 (Option AO)))))
def hz : HT := .all (.all (.all (.all (.all none))))
noncomputable def HT.g5 (h : HT) (a b c d e : D8) : Option AO := N8.get e (N8.get d (N8.get c (N8.get b (N8.get a h))))
noncomputable def HT.get (h : HT) (n : Nat) : Option AO := D5.rec (motive := fun _ => Option AO) (HT.g5 h) (dig n)
noncomputable def HT.s4 (x : Option AO) (h : HT) (h1 : N8 (N8 (N8 (N8 (Option AO))))) (h2 : N8 (N8 (N8 (Option AO)))) (h3 : N8 (N8 (Option AO))) (a b c d e : D8) : HT :=
  N8.upd a (N8.upd b (N8.upd c (N8.upd d (N8.upd e x (N8.get d h3)) h3) h2) h1) h
noncomputable def HT.s3 (x : Option AO) (h : HT) (h1 : N8 (N8 (N8 (N8 (Option AO))))) (h2 : N8 (N8 (N8 (Option AO)))) (a b c d e : D8) : HT := HT.s4 x h h1 h2 (N8.get c h2) a b c d e
noncomputable def HT.s2 (x : Option AO) (h : HT) (h1 : N8 (N8 (N8 (N8 (Option AO))))) (a b c d e : D8) : HT := HT.s3 x h h1 (N8.get b h1) a b c d e
noncomputable def HT.s1 (x : Option AO) (h : HT) (a b c d e : D8) : HT := HT.s2 x h (N8.get a h) a b c d e
noncomputable def HT.set (n : Nat) (x : Option AO) (h : HT) : HT := D5.rec (motive := fun _ => HT) (HT.s1 x h) (dig n)
theorem HT.get_hz (n : Nat) : hz.get n = none := by
  show HT.g5 hz _ _ _ _ _ = none
  simp only [HT.g5, hz, N8.get_all]
theorem HT.get_set {m n : Nat} (hm : m < 32768) (hn : n < 32768) (x : Option AO) (h : HT) : (h.set m x).get n = if m = n then x else h.get n := by
  classical
  show HT.g5 (HT.s1 x h (dig m).a (dig m).b (dig m).c (dig m).d (dig m).e) (dig n).a (dig n).b (dig n).c (dig n).d (dig n).e = if m = n then x else HT.g5 h (dig n).a (dig n).b (dig n).c (dig n).d (dig n).e
  by_cases hmn : m = n
  · subst hmn
    simp only [HT.g5, HT.s1, HT.s2, HT.s3, HT.s4, N8.get_upd, if_pos]
  · rw [if_neg hmn]
    have hne : ¬ ((dig m).a = (dig n).a ∧ (dig m).b = (dig n).b ∧ (dig m).c = (dig n).c ∧ (dig m).d = (dig n).d ∧ (dig m).e = (dig n).e) := fun ⟨h1, h2, h3, h4, h5⟩ => hmn (dig_inj hm hn (by
      cases hd : dig m; cases he : dig n; rw [hd, he] at h1 h2 h3 h4 h5; simp only at h1 h2 h3 h4 h5; subst h1 h2 h3 h4 h5; rfl))
    generalize (dig m) = p at *
    generalize (dig n) = q at *
    obtain ⟨a, b, c, d, e⟩ := p
    obtain ⟨a', b', c', d', e'⟩ := q
    simp only at hne
    simp only [HT.g5, HT.s1, HT.s2, HT.s3, HT.s4, N8.get_upd]
    by_cases h1 : a = a'
    · subst h1
      rw [if_pos rfl, N8.get_upd]
      by_cases h2 : b = b'
      · subst h2
        rw [if_pos rfl, N8.get_upd]
        by_cases h3 : c = c'
        · subst h3
          rw [if_pos rfl, N8.get_upd]
          by_cases h4 : d = d'
          · subst h4
            rw [if_pos rfl, N8.get_upd, if_neg (fun h5 => hne ⟨rfl, rfl, rfl, rfl, h5⟩)]
          · rw [if_neg h4]
        · rw [if_neg h3]
      · rw [if_neg h2]
    · rw [if_neg h1]
/-! ## What runs: a state handed on, with what was touched -/
structure Hp where
  h : HT
  nx : Nat
  R : Nat
  W : Nat
  ba : Nat
inductive Rz (α : Type) where
  | no
  | ok (a : α) (s : Hp)
abbrev HM (α : Type) := Hp → Rz α
noncomputable def hb {α β : Type} (m : HM α) (f : α → HM β) : HM β := fun s => Rz.rec (motive := fun _ => Rz β) .no f (m s)
def hp {α : Type} (a : α) : HM α := fun s => .ok a s
def hn {α : Type} : HM α := fun _ => .no
theorem hb_ok {α β : Type} {m : HM α} {f : α → HM β} {s s' : Hp} {b : β} (h : hb m f s = .ok b s') : ∃ a s1, m s = .ok a s1 ∧ f a s1 = .ok b s' := by
  unfold hb at h
  cases hm : m s with
  | no => rw [hm] at h; cases h
  | ok a s1 => rw [hm] at h; exact ⟨a, s1, rfl, h⟩
theorem hb_of {α β : Type} {m : HM α} {f : α → HM β} {s s1 : Hp} {a : α} (h : m s = .ok a s1) : hb m f s = f a s1 := by
  unfold hb; rw [h]
noncomputable def Hp.gt (s : Hp) (n : Nat) : Option AO := Bool.rec (motive := fun _ => Option AO) none (s.h.get n) (Nat.blt n 32768)
theorem blt_iff {a b : Nat} : Nat.blt a b = true ↔ a < b := by simp [Nat.blt, Nat.succ_le_iff]
theorem blt_f {a b : Nat} : Nat.blt a b = false ↔ ¬ a < b := by
  rw [← blt_iff, Bool.not_eq_true]
theorem Hp.gt_eq (s : Hp) (n : Nat) : s.gt n = if n < 32768 then s.h.get n else none := by
  unfold Hp.gt
  by_cases h : n < 32768
  · rw [if_pos h, blt_iff.2 h]
  · rw [if_neg h, blt_f.2 h]
/-- The state with another block at a name. -/
noncomputable def Hp.put (s : Hp) (n : Nat) (x : Option AO) : Hp := Hp.rec (motive := fun _ => Hp) (fun h nx R W ba => ⟨h.set n x, nx, R, W, ba⟩) s
theorem Hp.gt_put {s : Hp} {m : Nat} (hm : m < 32768) (x : Option AO) (n : Nat) : (s.put m x).gt n = if m = n then x else s.gt n := by
  rw [Hp.gt_eq, Hp.gt_eq]
  by_cases hn : n < 32768
  · rw [if_pos hn, if_pos hn]; exact HT.get_set hm hn x s.h
  · rw [if_neg hn, if_neg hn, if_neg (by omega)]
/-! ### what is touched is told -/
noncomputable def bitT (x n : Nat) : Bool := Nat.beq (Nat.land (Nat.shiftRight x n) 1) 1
theorem bitT_or {x n : Nat} (h : bitT x n = true) : Nat.lor x (Nat.shiftLeft 1 n) = x := by
  have h1 : x.testBit n = true := by
    have : ((x >>> n) &&& 1) = 1 := Nat.eq_of_beq_eq_true h
    rw [Nat.testBit, Nat.and_comm, this]; rfl
  apply Nat.eq_of_testBit_eq
  intro i
  show (x ||| (1 <<< n)).testBit i = _
  rw [Nat.testBit_or, Nat.testBit_shiftLeft]
  by_cases hi : n = i
  · subst hi; simp [h1]
  · by_cases h2 : i ≥ n
    · have h3 : i - n ≠ 0 := by omega
      have h4 : Nat.testBit 1 (i - n) = false := by
        cases hh : Nat.testBit 1 (i - n)
        · rfl
        · exact absurd (Nat.testBit_one_eq_true_iff_self_eq_zero.1 hh) h3
      simp [h4]
    · simp [h2]
noncomputable def lgRx (s : Hp) (n : Nat) (h : HT) (nx R W ba : Nat) : Hp := Bool.rec (motive := fun _ => Hp) s (Bool.rec (motive := fun _ => Hp) ⟨h, nx, Nat.lor R (Nat.shiftLeft 1 n), W, ba⟩ s (bitT R n)) (Nat.blt n ba)
noncomputable def lgWx (s : Hp) (n : Nat) (h : HT) (nx R W ba : Nat) : Hp := Bool.rec (motive := fun _ => Hp) s (Bool.rec (motive := fun _ => Hp) ⟨h, nx, R, Nat.lor W (Nat.shiftLeft 1 n), ba⟩ s (bitT W n)) (Nat.blt n ba)
noncomputable def lgR (s : Hp) (n : Nat) : Hp := Hp.rec (motive := fun _ => Hp) (lgRx s n) s
noncomputable def lgW (s : Hp) (n : Nat) : Hp := Hp.rec (motive := fun _ => Hp) (lgWx s n) s
theorem lgR_eq (s : Hp) (n : Nat) : lgR s n = Bool.rec (motive := fun _ => Hp) s ⟨s.h, s.nx, Nat.lor s.R (Nat.shiftLeft 1 n), s.W, s.ba⟩ (Nat.blt n s.ba) := by
  show lgRx s n s.h s.nx s.R s.W s.ba = _
  unfold lgRx
  cases hb : bitT s.R n with
  | false => rfl
  | true => rw [bitT_or hb]
theorem lgW_eq (s : Hp) (n : Nat) : lgW s n = Bool.rec (motive := fun _ => Hp) s ⟨s.h, s.nx, s.R, Nat.lor s.W (Nat.shiftLeft 1 n), s.ba⟩ (Nat.blt n s.ba) := by
  show lgWx s n s.h s.nx s.R s.W s.ba = _
  unfold lgWx
  cases hb : bitT s.W n with
  | false => rfl
  | true => rw [bitT_or hb]
/-- A block is read. -/
noncomputable def rdB (n : Nat) : HM AO := fun s => Bool.rec (motive := fun _ => Rz AO) .no (Option.rec (motive := fun _ => Rz AO) .no (fun o => .ok o (lgR s n)) (s.gt n)) (Nat.blt n s.nx)
/-- A block that is there becomes another one, or is no more told. -/
noncomputable def wrB (n : Nat) (x : Option AO) : HM Unit := fun s => Bool.rec (motive := fun _ => Rz Unit) .no (Option.rec (motive := fun _ => Rz Unit) .no (fun _ => .ok () (lgW (s.put n x) n)) (s.gt n)) (Nat.blt n s.nx)
/-- A new one. -/
noncomputable def nwBx (o : AO) (h : HT) (nx R W ba : Nat) : Rz Nat := Bool.rec (motive := fun _ => Rz Nat) .no (.ok nx ⟨h.set nx (some o), Nat.add nx 1, R, W, ba⟩) (Nat.blt nx 32768)
noncomputable def nwB (o : AO) : HM Nat := fun s => Hp.rec (motive := fun _ => Rz Nat) (nwBx o) s
theorem nwB_eq (o : AO) (s : Hp) : nwB o s = Bool.rec (motive := fun _ => Rz Nat) .no (.ok s.nx ⟨s.h.set s.nx (some o), Nat.add s.nx 1, s.R, s.W, s.ba⟩) (Nat.blt s.nx 32768) := rfl
theorem rdB_ok {n : Nat} {s s' : Hp} {o : AO} (h : rdB n s = .ok o s') : n < s.nx ∧ s.gt n = some o ∧ s' = lgR s n := by
  unfold rdB at h
  cases hl : Nat.blt n s.nx with
  | false => rw [hl] at h; cases h
  | true =>
    rw [hl] at h
    cases hg : s.gt n with
    | none => rw [hg] at h; cases h
    | some x =>
      rw [hg] at h
      injection h with h1 h2
      subst h1; subst h2
      exact ⟨blt_iff.1 hl, rfl, rfl⟩
theorem wrB_ok {n : Nat} {x : Option AO} {s s' : Hp} {u : Unit} (h : wrB n x s = .ok u s') : n < s.nx ∧ (∃ o, s.gt n = some o) ∧ s' = lgW (s.put n x) n := by
  unfold wrB at h
  cases hl : Nat.blt n s.nx with
  | false => rw [hl] at h; cases h
  | true =>
    rw [hl] at h
    cases hg : s.gt n with
    | none => rw [hg] at h; cases h
    | some o =>
      rw [hg] at h
      injection h with h1 h2
      exact ⟨blt_iff.1 hl, ⟨o, rfl⟩, h2.symm⟩
theorem nwB_ok {o : AO} {s s' : Hp} {n : Nat} (h : nwB o s = .ok n s') : s.nx < 32768 ∧ n = s.nx ∧ s' = ⟨s.h.set s.nx (some o), s.nx + 1, s.R, s.W, s.ba⟩ := by
  rw [nwB_eq] at h
  cases hl : Nat.blt s.nx 32768 with
  | false => rw [hl] at h; cases h
  | true =>
    rw [hl] at h
    injection h with h1 h2
    exact ⟨blt_iff.1 hl, h1.symm, h2.symm⟩
theorem gt_lt {s : Hp} {n : Nat} {o : AO} (h : s.gt n = some o) : n < 32768 := by
  rw [Hp.gt_eq] at h
  by_cases hn : n < 32768
  · exact hn
  · rw [if_neg hn] at h; cases h
/-! ### a run looks at what it says that it looks at -/
structure Agree (s t : Hp) (fr fw nx' : Nat) : Prop where
  nx : t.nx = s.nx
  ba : t.ba = s.ba
  gt : ∀ n, (s.ba ≤ n ∧ n < nx') ∨ fr.testBit n = true ∨ fw.testBit n = true → t.gt n = s.gt n
structure Does {α : Type} (m : HM α) (a : α) (s s' : Hp) (fr fw : Nat) : Prop where
  R : s'.R = s.R ||| fr
  W : s'.W = s.W ||| fw
  nx : s.nx ≤ s'.nx
  ba : s'.ba = s.ba
  lo : ∀ n, fr.testBit n = true ∨ fw.testBit n = true → n < s.ba
  all : ∀ t, Agree s t fr fw s'.nx → ∃ t', m t = .ok a t' ∧ t'.nx = s'.nx ∧ t'.ba = s.ba ∧ t'.R = t.R ||| fr ∧ t'.W = t.W ||| fw ∧
    ∀ n, t'.gt n = if (s.ba ≤ n ∧ n < s'.nx) ∨ fw.testBit n = true then s'.gt n else t.gt n
def LM {α : Type} (m : HM α) : Prop := ∀ s a s', m s = .ok a s' → s.ba ≤ s.nx → ∃ fr fw, Does m a s s' fr fw
theorem Agree.refl (s : Hp) (fr fw nx' : Nat) : Agree s s fr fw nx' := ⟨rfl, rfl, fun _ _ => rfl⟩
theorem Does.frame {α : Type} {m : HM α} {a : α} {s s' : Hp} {fr fw : Nat} (h : Does m a s s' fr fw) (hm : m s = .ok a s') {n : Nat} (hn : ¬ ((s.ba ≤ n ∧ n < s'.nx) ∨ fw.testBit n = true)) : s'.gt n = s.gt n := by
  obtain ⟨t', h1, _, _, _, _, h2⟩ := h.all s (Agree.refl ..)
  rw [hm] at h1
  injection h1 with _ h1
  subst h1
  have := h2 n
  rw [if_neg hn] at this
  exact this
theorem LM.pure {α : Type} (a : α) : LM (hp a) := fun s b s' h hb => by
  injection h with h1 h2
  subst h1; subst h2
  exact ⟨0, 0, by simp, by simp, Nat.le_refl _, rfl, by simp, fun t ht => ⟨t, rfl, ht.nx, ht.ba, by simp, by simp, fun n => by
    split
    · rename_i hn
      rcases hn with hn | hn
      · exact ht.gt n (.inl hn)
      · simp at hn
    · rfl⟩⟩
theorem LM.fail {α : Type} : LM (hn : HM α) := fun s b s' h hb => by cases h
theorem LM.bind {α β : Type} {m : HM α} {f : α → HM β} (hm : LM m) (hf : ∀ a, LM (f a)) : LM (hb m f) := fun s b s' h hba => by
  obtain ⟨a, s1, h1, h2⟩ := hb_ok h
  obtain ⟨fr, fw, d1⟩ := hm s a s1 h1 hba
  have hba1 : s1.ba ≤ s1.nx := by rw [d1.ba]; exact Nat.le_trans hba d1.nx
  obtain ⟨fr2, fw2, d2⟩ := hf a s1 b s' h2 hba1
  refine ⟨fr ||| fr2, fw ||| fw2, by rw [d2.R, d1.R, Nat.or_assoc], by rw [d2.W, d1.W, Nat.or_assoc], Nat.le_trans d1.nx d2.nx, d2.ba.trans d1.ba, fun n hn => ?_, fun t ht => ?_⟩
  · rw [Nat.testBit_or, Nat.testBit_or, Bool.or_eq_true, Bool.or_eq_true] at hn
    have h3 := d2.lo n
    rw [d1.ba] at h3
    rcases hn with (hn | hn) | (hn | hn)
    · exact d1.lo n (.inl hn)
    · exact h3 (.inl hn)
    · exact d1.lo n (.inr hn)
    · exact h3 (.inr hn)
  · have a1 : Agree s t fr fw s1.nx := ⟨ht.nx, ht.ba, fun n hn => ht.gt n (by
      rcases hn with hn | hn | hn
      · exact .inl ⟨hn.1, Nat.lt_of_lt_of_le hn.2 d2.nx⟩
      · exact .inr (.inl (by rw [Nat.testBit_or, hn]; rfl))
      · exact .inr (.inr (by rw [Nat.testBit_or, hn]; rfl)))⟩
    obtain ⟨t1, e1, e2, e3, e4, e5, e6⟩ := d1.all t a1
    have a2 : Agree s1 t1 fr2 fw2 s'.nx := ⟨e2, e3.trans d1.ba.symm, fun n hn => by
      rw [e6 n]
      split
      · rfl
      · rename_i hno
        rw [d1.frame h1 hno]
        refine ht.gt n ?_
        rcases hn with hn | hn | hn
        · rw [d1.ba] at hn; exact .inl hn
        · exact .inr (.inl (by rw [Nat.testBit_or, hn]; simp))
        · exact .inr (.inr (by rw [Nat.testBit_or, hn]; simp))⟩
    obtain ⟨t2, g1, g2, g3, g4, g5, g6⟩ := d2.all t1 a2
    refine ⟨t2, by rw [hb_of e1]; exact g1, g2, g3.trans d1.ba, by rw [g4, e4, Nat.or_assoc], by rw [g5, e5, Nat.or_assoc], fun n => ?_⟩
    rw [g6 n, d1.ba]
    by_cases hc : (s.ba ≤ n ∧ n < s'.nx) ∨ fw2.testBit n = true
    · rw [if_pos hc, if_pos]
      rcases hc with hc | hc
      · exact .inl hc
      · exact .inr (by rw [Nat.testBit_or, hc]; simp)
    · rw [if_neg hc, e6 n]
      by_cases hc1 : (s.ba ≤ n ∧ n < s1.nx) ∨ fw.testBit n = true
      · rw [if_pos hc1, if_pos]
        · exact (d2.frame h2 (by rw [d1.ba]; exact hc)).symm
        · rcases hc1 with hc1 | hc1
          · exact .inl ⟨hc1.1, Nat.lt_of_lt_of_le hc1.2 d2.nx⟩
          · exact .inr (by rw [Nat.testBit_or, hc1]; simp)
      · rw [if_neg hc1, if_neg]
        rintro (hx | hx)
        · exact hc (.inl hx)
        · rw [Nat.testBit_or, Bool.or_eq_true] at hx
          rcases hx with hx | hx
          · exact hc1 (.inr hx)
          · exact hc (.inr hx)
theorem shl_bit (n k : Nat) : (Nat.shiftLeft 1 n).testBit k = decide (n = k) := by
  show (1 <<< n).testBit k = _
  rw [Nat.testBit_shiftLeft]
  by_cases h : n = k
  · subst h; simp
  · by_cases h1 : k ≥ n
    · have : k - n ≠ 0 := by omega
      have h2 : Nat.testBit 1 (k - n) = false := by
        cases hh : Nat.testBit 1 (k - n)
        · rfl
        · exact absurd (Nat.testBit_one_eq_true_iff_self_eq_zero.1 hh) this
      simp [h, h2]
    · simp [h, h1]
theorem LM.read (n : Nat) : LM (rdB n) := fun s o s' h hba => by
  obtain ⟨h1, h2, rfl⟩ := rdB_ok h
  have hl : Nat.blt n s.nx = true := blt_iff.2 h1
  by_cases hb : n < s.ba
  · have hb' := blt_iff.2 hb
    have e : ∀ t : Hp, Nat.blt n t.ba = true → lgR t n = ⟨t.h, t.nx, Nat.lor t.R (Nat.shiftLeft 1 n), t.W, t.ba⟩ := fun t ht => by rw [lgR_eq]; rw [ht]
    have e' := e s hb'
    refine ⟨Nat.shiftLeft 1 n, 0, by rw [e']; rfl, by rw [e']; simp, by rw [e']; exact Nat.le_refl _, by rw [e'], fun k hk => ?_, fun t ht => ?_⟩
    · rw [shl_bit] at hk; simp at hk; omega
    · have g : t.gt n = some o := (ht.gt n (.inr (.inl (by rw [shl_bit]; simp)))).trans h2
      have e2 := e t (by rw [ht.ba]; exact hb')
      refine ⟨lgR t n, ?_, by rw [e2, e']; exact ht.nx, by rw [e2]; exact ht.ba, by rw [e2]; rfl, by rw [e2]; simp, fun k => ?_⟩
      · unfold rdB; rw [ht.nx, hl, g]
      · have f : (lgR t n).gt k = t.gt k := by rw [e2]; rfl
        have f' : (lgR s n).gt k = s.gt k := by rw [e']; rfl
        rw [f, f']
        split
        · rename_i hk
          refine ht.gt k ?_
          rcases hk with hk | hk
          · exact .inl hk
          · exact .inr (.inr hk)
        · rfl
  · have hb' := blt_f.2 hb
    have e : ∀ t : Hp, Nat.blt n t.ba = false → lgR t n = t := fun t ht => by rw [lgR_eq]; rw [ht]
    have e' := e s hb'
    refine ⟨0, 0, by rw [e']; simp, by rw [e']; simp, by rw [e']; exact Nat.le_refl _, by rw [e'], fun k hk => by simp at hk, fun t ht => ?_⟩
    have e2 := e t (by rw [ht.ba]; exact hb')
    rw [e'] at ht ⊢
    have g : t.gt n = some o := (ht.gt n (.inl ⟨by omega, h1⟩)).trans h2
    refine ⟨t, ?_, ht.nx, ht.ba, by simp, by simp, fun k => ?_⟩
    · unfold rdB; rw [ht.nx, hl, g]; exact congrArg _ e2
    · split
      · rename_i hk
        rcases hk with hk | hk
        · exact ht.gt k (.inl hk)
        · simp at hk
      · rfl
theorem LM.write (n : Nat) (x : Option AO) : LM (wrB n x) := fun s u s' h hba => by
  obtain ⟨h1, ⟨o, h2⟩, rfl⟩ := wrB_ok h
  have hl : Nat.blt n s.nx = true := blt_iff.2 h1
  have hn32 := gt_lt h2
  by_cases hb : n < s.ba
  · have hb' := blt_iff.2 hb
    have e : ∀ t : Hp, Nat.blt n t.ba = true → lgW (t.put n x) n = ⟨t.h.set n x, t.nx, t.R, Nat.lor t.W (Nat.shiftLeft 1 n), t.ba⟩ := fun t ht => by rw [lgW_eq]; rw [show (t.put n x).ba = t.ba from rfl, ht]; rfl
    have e' := e s hb'
    refine ⟨0, Nat.shiftLeft 1 n, by rw [e']; simp, by rw [e']; rfl, by rw [e']; exact Nat.le_refl _, by rw [e'], fun k hk => ?_, fun t ht => ?_⟩
    · rw [shl_bit] at hk; simp at hk; omega
    · have g : t.gt n = some o := (ht.gt n (.inr (.inr (by rw [shl_bit]; simp)))).trans h2
      have e2 := e t (by rw [ht.ba]; exact hb')
      refine ⟨lgW (t.put n x) n, ?_, by rw [e2, e']; exact ht.nx, by rw [e2]; exact ht.ba, by rw [e2]; simp, by rw [e2]; rfl, fun k => ?_⟩
      · unfold wrB; rw [ht.nx, hl, g]
      · have f : (lgW (t.put n x) n).gt k = (t.put n x).gt k := by rw [e2]; rfl
        have f' : (lgW (s.put n x) n).gt k = (s.put n x).gt k := by rw [e']; rfl
        have f2 : (lgW (s.put n x) n).nx = s.nx := by rw [e']
        rw [f, f', f2, Hp.gt_put hn32, Hp.gt_put hn32]
        by_cases hk : n = k
        · rw [if_pos hk, if_pos hk, if_pos (.inr (by rw [shl_bit]; simp [hk]))]
        · rw [if_neg hk, if_neg hk]
          split
          · rename_i hk2
            refine ht.gt k ?_
            rw [f2]
            rcases hk2 with hk2 | hk2
            · exact .inl hk2
            · exact .inr (.inr hk2)
          · rfl
  · have hb' := blt_f.2 hb
    have e : ∀ t : Hp, Nat.blt n t.ba = false → lgW (t.put n x) n = t.put n x := fun t ht => by rw [lgW_eq]; rw [show (t.put n x).ba = t.ba from rfl, ht]
    have e' := e s hb'
    rw [e']
    refine ⟨0, 0, by simp [Hp.put], by simp [Hp.put], Nat.le_refl _, rfl, fun k hk => by simp at hk, fun t ht => ?_⟩
    have e2 := e t (by rw [ht.ba]; exact hb')
    have g : t.gt n = some o := (ht.gt n (.inl ⟨by omega, h1⟩)).trans h2
    refine ⟨t.put n x, ?_, ht.nx, ht.ba, by simp [Hp.put], by simp [Hp.put], fun k => ?_⟩
    · unfold wrB; rw [ht.nx, hl, g]; exact congrArg _ e2
    · rw [Hp.gt_put hn32, Hp.gt_put hn32]
      by_cases hk : n = k
      · rw [if_pos hk, if_pos hk, if_pos (.inl ⟨by omega, by show k < s.nx; omega⟩)]
      · rw [if_neg hk, if_neg hk]
        split
        · rename_i hk2
          rcases hk2 with hk2 | hk2
          · exact ht.gt k (.inl hk2)
          · simp at hk2
        · rfl
theorem Hp.gt_set {h : HT} {nx R W ba m : Nat} (hm : m < 32768) (x : Option AO) (n : Nat) : (⟨h.set m x, nx, R, W, ba⟩ : Hp).gt n = if m = n then x else (⟨h, nx, R, W, ba⟩ : Hp).gt n :=
  Hp.gt_put (s := ⟨h, nx, R, W, ba⟩) hm x n
theorem LM.new (o : AO) : LM (nwB o) := fun s n s' h hba => by
  obtain ⟨h1, rfl, rfl⟩ := nwB_ok h
  refine ⟨0, 0, by simp, by simp, by simp, rfl, fun k hk => by simp at hk, fun t ht => ?_⟩
  refine ⟨⟨t.h.set t.nx (some o), t.nx + 1, t.R, t.W, t.ba⟩, ?_, by simp [ht.nx], ht.ba, by simp, by simp, fun k => ?_⟩
  · rw [nwB_eq]; rw [ht.nx, blt_iff.2 h1]
  · rw [Hp.gt_set (by rw [ht.nx]; exact h1), Hp.gt_set h1, ht.nx]
    by_cases hk : s.nx = k
    · rw [if_pos hk, if_pos hk]; split
      · rfl
      · rename_i hno; exact absurd (.inl ⟨by omega, by show k < s.nx + 1; omega⟩) hno
    · rw [if_neg hk, if_neg hk]
      split
      · rename_i hk2
        rcases hk2 with hk2 | hk2
        · exact ht.gt k (.inl hk2)
        · simp at hk2
      · rfl
/-- What a part of a run has touched of what was there before it. -/
def loB (x k : Nat) : Nat := Nat.mod x (Nat.shiftLeft 1 k)
theorem loB_bit (x k n : Nat) : (loB x k).testBit n = (decide (n < k) && x.testBit n) := by
  show (x % (1 <<< k)).testBit n = _
  rw [Nat.one_shiftLeft, Nat.testBit_mod_two_pow]
noncomputable def ftD {α : Type} (a : α) (h1 : HT) (nx1 R1 W1 : Nat) (R W ba : Nat) : Rz (α × Nat × Nat) := .ok (a, R1, W1) ⟨h1, nx1, Nat.lor R (loB R1 ba), Nat.lor W (loB W1 ba), ba⟩
noncomputable def ftC {α : Type} (R W ba : Nat) (a : α) (s1 : Hp) : Rz (α × Nat × Nat) := Hp.rec (motive := fun _ => Rz (α × Nat × Nat)) (fun h1 nx1 R1 W1 _ => ftD a h1 nx1 R1 W1 R W ba) s1
noncomputable def ftE {α : Type} (m : HM α) (h : HT) (nx R W ba : Nat) : Rz (α × Nat × Nat) := Rz.rec (motive := fun _ => Rz (α × Nat × Nat)) .no (ftC R W ba) (m ⟨h, nx, 0, 0, nx⟩)
noncomputable def foot {α : Type} (m : HM α) : HM (α × Nat × Nat) := fun s => Hp.rec (motive := fun _ => Rz (α × Nat × Nat)) (ftE m) s
theorem foot_eq {α : Type} (m : HM α) (s : Hp) : foot m s = Rz.rec (motive := fun _ => Rz (α × Nat × Nat)) .no (ftC s.R s.W s.ba) (m ⟨s.h, s.nx, 0, 0, s.nx⟩) := rfl
theorem foot_ok {α : Type} {m : HM α} {s s' : Hp} {x : α × Nat × Nat} (h : foot m s = .ok x s') : ∃ a s1, m ⟨s.h, s.nx, 0, 0, s.nx⟩ = .ok a s1 ∧ x = (a, s1.R, s1.W) ∧ s' = ⟨s1.h, s1.nx, Nat.lor s.R (loB s1.R s.ba), Nat.lor s.W (loB s1.W s.ba), s.ba⟩ := by
  rw [foot_eq] at h
  cases hm : m ⟨s.h, s.nx, 0, 0, s.nx⟩ with
  | no => rw [hm] at h; cases h
  | ok a s1 => rw [hm] at h; injection h with h1 h2; exact ⟨a, s1, rfl, h1.symm, h2.symm⟩
theorem LM.foot {α : Type} {m : HM α} (hm : LM m) : LM (foot m) := fun s x s' h hba => by
  obtain ⟨a, s1, h1, rfl, rfl⟩ := foot_ok h
  obtain ⟨fr, fw, d⟩ := hm _ a s1 h1 (Nat.le_refl _)
  have eR : s1.R = fr := by have := d.R; simpa using this
  have eW : s1.W = fw := by have := d.W; simpa using this
  have hfr := fun n hn => d.frame h1 (n := n) hn
  subst eR; subst eW
  refine ⟨loB s1.R s.ba, loB s1.W s.ba, rfl, rfl, d.nx, rfl, fun n hn => ?_, fun t ht => ?_⟩
  · rw [loB_bit, loB_bit] at hn
    simp only [Bool.and_eq_true, decide_eq_true_eq] at hn
    rcases hn with hn | hn <;> exact hn.1
  · have hag : ∀ n, (s.nx ≤ n ∧ n < s1.nx) ∨ s1.R.testBit n = true ∨ s1.W.testBit n = true → t.gt n = s.gt n := fun n hn => ht.gt n (by
      by_cases hb : n < s.ba
      · rcases hn with hn | hn | hn
        · omega
        · exact .inr (.inl (by rw [loB_bit]; simp [hb, hn]))
        · exact .inr (.inr (by rw [loB_bit]; simp [hb, hn]))
      · refine .inl ⟨by omega, ?_⟩
        rcases hn with hn | hn | hn
        · exact hn.2
        · exact Nat.lt_of_lt_of_le (d.lo n (.inl hn)) d.nx
        · exact Nat.lt_of_lt_of_le (d.lo n (.inr hn)) d.nx)
    obtain ⟨t', e1, e2, e3, e4, e5, e6⟩ := d.all ⟨t.h, t.nx, 0, 0, t.nx⟩ ⟨ht.nx, ht.nx, fun n hn => hag n hn⟩
    have e4' : t'.R = s1.R := by simpa using e4
    have e5' : t'.W = s1.W := by simpa using e5
    refine ⟨⟨t'.h, t'.nx, Nat.lor t.R (loB t'.R t.ba), Nat.lor t.W (loB t'.W t.ba), t.ba⟩, ?_, e2, ht.ba, ?_, ?_, fun n => ?_⟩
    · rw [Go.Proofs.YtiodmphhjgkgjaaGreat.foot_eq]
      rw [e1]
      show Rz.ok (a, t'.R, t'.W) _ = _
      rw [e4', e5']
    · show Nat.lor t.R (loB t'.R t.ba) = _
      rw [e4', ht.ba]; rfl
    · show Nat.lor t.W (loB t'.W t.ba) = _
      rw [e5', ht.ba]; rfl
    · have e7 := e6 n
      show t'.gt n = if (s.ba ≤ n ∧ n < s1.nx) ∨ (loB s1.W s.ba).testBit n = true then s1.gt n else t.gt n
      rw [e7]
      show (if (s.nx ≤ n ∧ n < s1.nx) ∨ s1.W.testBit n = true then s1.gt n else t.gt n) = _
      by_cases hc : (s.nx ≤ n ∧ n < s1.nx) ∨ s1.W.testBit n = true
      · rw [if_pos hc, if_pos]
        by_cases hb : n < s.ba
        · rcases hc with hc | hc
          · omega
          · exact .inr (by rw [loB_bit]; simp [hb, hc])
        · refine .inl ⟨by omega, ?_⟩
          rcases hc with hc | hc
          · exact hc.2
          · exact Nat.lt_of_lt_of_le (d.lo n (.inr hc)) d.nx
      · rw [if_neg hc]
        by_cases hc2 : (s.ba ≤ n ∧ n < s1.nx) ∨ (loB s1.W s.ba).testBit n = true
        · rw [if_pos hc2]
          rcases hc2 with hc2 | hc2
          · have := hfr n hc
            have h3 : t.gt n = s.gt n := ht.gt n (.inl hc2)
            rw [h3]; exact this.symm
          · rw [loB_bit] at hc2
            simp only [Bool.and_eq_true, decide_eq_true_eq] at hc2
            exact absurd (.inr hc2.2) hc
        · rw [if_neg hc2]
end Go.Proofs.YtiodmphhjgkgjaaGreat
