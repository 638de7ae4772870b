/- The stock, as the definition says: lemmas for the rows of this seat. No conditions. -/
import Derived.Laws.StructEq
import Derived.Test.YtojeeindlijgkaaGreatDoorK1
set_option linter.all false
namespace Go.Proofs.YtojeeindlijgkaaGreatDoor
open Go.RowKit
/-! ## The stock, as the definition says -/
def stStep (a : Int) (f : Nat → Int) (x : Ln) : Nat → Int := if a < x.st then f else fun k => if k = x.th.toNat then (if x.kd = 2 then 0 else f k) + x.vl else f k
def stF (a : Int) (l : List Ln) : Nat → Int := l.foldl (stStep a) (fun _ => 0)
theorem stF_step (a : Int) {l : List Ln} {j : Nat} (h : j < l.length) : stF a (l.take (j + 1)) = stStep a (stF a (l.take j)) (lnAt l j) := by
 unfold stF
 rw [List.take_succ_eq_append_getElem h, List.foldl_append, lnAt_get h]; rfl
def Lines (l : List Ln) : Prop := ∀ j, j < l.length → isLine (lnAt l j) = true
theorem isLine_iff {x : Ln} : isLine x = true ↔ (1 ≤ x.st ∧ x.st ≤ 999) ∧ (0 ≤ x.ck ∧ x.ck ≤ 2) ∧ (1 ≤ x.kd ∧ x.kd ≤ 2) ∧ (0 ≤ x.th ∧ x.th ≤ 7) ∧ (leastV x.kd ≤ x.vl ∧ x.vl ≤ 1000) := by
 unfold isLine
 rw [Bool.and_eq_true, Bool.and_eq_true, Bool.and_eq_true, Bool.and_eq_true, inB_iff, inB_iff, inB_iff, inB_iff, inB_iff]
 constructor
 ·rintro ⟨⟨⟨⟨a, b⟩, c⟩, d⟩, e⟩; exact ⟨a, b, c, d, e⟩
 ·rintro ⟨a, b, c, d, e⟩; exact ⟨⟨⟨⟨a, b⟩, c⟩, d⟩, e⟩
theorem leastV_ge (k : Int) : -1000 ≤ leastV k ∧ leastV k ≤ 0 := by unfold leastV; split <;> omega
/-- What a valid line's numbers are. -/
structure LnOk (x : Ln) : Prop where
 st : 1 ≤ x.st ∧ x.st ≤ 999
 ck : 0 ≤ x.ck ∧ x.ck ≤ 2
 kd : x.kd = 1 ∨ x.kd = 2
 th : 0 ≤ x.th ∧ x.th ≤ 7
 vl : -1000 ≤ x.vl ∧ x.vl ≤ 1000
theorem isLine_ok {x : Ln} (h : isLine x = true) : LnOk x := by
 obtain ⟨a, b, c, d, e⟩ := isLine_iff.1 h
 have := leastV_ge x.kd
 exact ⟨a, b, by omega, d, by omega⟩
theorem stF_bd (a : Int) {l : List Ln} (hl : Lines l) : ∀ j, j ≤ l.length → ∀ k, -(1000 * j : Int) ≤ stF a (l.take j) k ∧ stF a (l.take j) k ≤ 1000 * j
 | 0, _, k => by simp [stF]
 | j + 1, hj, k => by
  have ih := stF_bd a hl j (by omega) k
  have ok := (isLine_ok (hl j (by omega))).vl
  rw [stF_step a (by omega)]
  unfold stStep
  generalize stF a (l.take j) = f at *
  split
  ·omega
  ·dsimp only
   split
   ·split <;> omega
   ·omega
abbrev SlX := Option Addr × Nat
theorem one_mut {v : Value} {t sz m : Nat} {xs : List Value} {d : Chunk} (h : d ∈ [Chunk.own v t sz m xs]) : d.mut = true := by rw [List.mem_singleton.1 h]; rfl
theorem toNat_eq {z : Int} (h : 0 ≤ z) : ∃ k : Nat, z = k ∧ z.toNat = k := ⟨z.toNat, by omega, rfl⟩
set_option maxHeartbeats 1000000 in
set_option maxRecDepth 20000 in
theorem stockOf_any (a : Int) (B : Option Addr) (c : Nat) (l : List Ln) (w : World) (h : BookR w B l) (hl : Lines l) (h20 : l.length ≤ 30) : Calls Tryz.prog 53 #[.slice B l.length c, .int .i64 a] w fun e w' => ∃ x : SlX, e = .returned (.slice x.1 8 x.2) ∧ True ∧ St w ([] ++ [.own (.slice x.1 8 x.2) 2 1 8 (fnC (stF a l) 8)]) w' := by
 refine fn_v tk (n := 50) (A := []) Tryz.func53 rfl rfl (Nat.le_of_ble_eq_true rfl) (St.nil (Below.refl _ _)) ?_
 ((conv => whnf); (repeat ((apply VStop.mk; (refine ot_makeSlice (m := 8) tk (by decide) rfl rfl rfl rfl rfl rfl rfl rfl rfl rfl rfl rfl (by omega) (by decide) (fun g hg => ?_)); apply ot_v tk); (conv => whnf))); apply VStop.mk)
 rw [fnC_zero]
 refine v_loop (fun gm ds ts A => ds = [] ∧ ∃ j : Nat, j + gm = l.length ∧ A = [.blk g 2 (fnC (stF a (l.take j)) 8)] ∧ ts = [(0, .slice B l.length c), (1, .int .i64 a), (5, .slice (some ⟨g, 0, none⟩) 8 8), (6, .int .i64 (j : Int))]) l.length (l := [(0, _), (1, _), (5, _), (6, _)]) (B := [.blk g 2 (fnC (stF a (l.take 0)) 8)]) ?_ (List.Sublist.refl _) ⟨rfl, 0, by omega, rfl, rfl⟩ ?_
 ·exact ⟨rfl, rfl, rfl, rfl, trivial⟩
 rintro gm ds ts A ⟨rfl, j, hj, rfl, rfl⟩
 by_cases hlt : j < l.length
 ·obtain ⟨b, o, rfl⟩ := book_addr h hlt
  have c0 := fun A => ln_cell h hlt 0 rfl A
  have c2 := fun A => ln_cell h hlt 2 rfl A
  have c3 := fun A => ln_cell h hlt 3 rfl A
  have c4 := fun A => ln_cell h hlt 4 rfl A
  have ok := isLine_ok (hl j hlt)
  have hst := stF_step a hlt
  have hbd := stF_bd a hl j (by omega)
  unfold stStep at hst
  generalize lnAt l j = x at *
  generalize stF a (l.take j) = f at *
  obtain ⟨st, ck, kd, th, vl⟩ := x
  have o3 := ok.th
  have o4 := ok.vl
  have o2 := ok.kd
  clear ok
  dsimp only at c0 c2 c3 c4 o2 o3 o4 hst
  obtain ⟨k, rfl, hk⟩ := toNat_eq o3.1
  rw [hk] at hst
  have hfk := hbd k
  by_cases e1 : a < st
  ·rw [if_pos e1] at hst
   (apply tr_v tk; (conv => whnf); (repeat ((first | (apply VLd.mk; first | exact c0 _) | (apply VIx.mk (j := j); exact rfl; omega) | (apply VRng.mk; omega) | apply VBr.t | (apply v_t; omega)); (conv => whnf))))
   exact v_rnd (gm - 1) (by omega) (l := [(0, _), (1, _), (5, _), (6, _)]) (B := _) ⟨rfl, rfl, rfl, rfl, trivial⟩ (List.Sublist.refl _) ⟨rfl, j + 1, by omega, by rw [hst], rfl⟩
  rw [if_neg e1] at hst
  have cf := fun (f : Nat → Int) A (hA : Chunk.blk g 2 (fnC f 8) ∈ A) => cell_fnC (w0 := w) (j := k) hA (by omega)
  rcases o2 with rfl | rfl
  ·(apply tr_v tk; (conv => whnf); (repeat ((first | (apply VStop.mk; refine tr_region_draw (id := 8) (by kernel_rfl) [0, 1, 2, 3, 4, 5, 6, 7, 8, 9, 10, 11, 12, 13, 14, 15] [.rd, .rd, .rd, .rd, .rd, .rd, .rd, .rd, .rd, .rd, .rd, .rd, .rd, .rd, .rd, .wr] rfl (by kernel_rfl) ?_; apply ot_v tk) | (apply VLd.mk; first | exact c0 _ | exact c2 _ | exact c3 _ | exact c4 _ | exact cf _ _ (.head _)) | (apply VIx.mk (j := j); exact rfl; omega) | (apply VIx.mk (j := k); exact rfl; omega) | (apply VSt.old; (focus (repeat (first | (with_reducible exact Upd.here) | (with_reducible apply Upd.there))); done); exact ble_fnC (by omega); exact setMany_fnC1 (by omega)) | (apply VRng.mk; omega) | apply VBr.t | apply VBr.f | (apply v_t; omega) | (apply v_f; omega)); (conv => whnf))))
   exact v_rnd (gm - 1) (by omega) (l := [(0, _), (1, _), (5, _), (6, _)]) (B := _) ⟨rfl, rfl, rfl, rfl, trivial⟩ (List.Sublist.refl _) ⟨rfl, j + 1, by omega, by rw [hst]; exact congrArg (fun q => [Chunk.blk g 2 q]) (fnC_congr fun i hi => by split <;> simp_all), rfl⟩
  ·(apply tr_v tk; (conv => whnf); (repeat ((first | (apply VStop.mk; refine tr_region_draw (id := 8) (by kernel_rfl) [0, 1, 2, 3, 4, 5, 6, 7, 8, 9, 10, 11, 12, 13, 14, 15] [.rd, .rd, .rd, .rd, .rd, .rd, .rd, .rd, .rd, .rd, .rd, .rd, .rd, .rd, .rd, .wr] rfl (by kernel_rfl) ?_; apply ot_v tk) | (apply VLd.mk; first | exact c0 _ | exact c2 _ | exact c3 _ | exact c4 _ | exact cf _ _ (.head _)) | (apply VIx.mk (j := j); exact rfl; omega) | (apply VIx.mk (j := k); exact rfl; omega) | (apply VSt.old; (focus (repeat (first | (with_reducible exact Upd.here) | (with_reducible apply Upd.there))); done); exact ble_fnC (by omega); exact setMany_fnC1 (by omega)) | (apply VRng.mk; omega) | apply VBr.t | apply VBr.f | (apply v_t; omega) | (apply v_f; omega)); (conv => whnf))))
   exact v_rnd (gm - 1) (by omega) (l := [(0, _), (1, _), (5, _), (6, _)]) (B := _) ⟨rfl, rfl, rfl, rfl, trivial⟩ (List.Sublist.refl _) ⟨rfl, j + 1, by omega, by rw [hst]; exact congrArg (fun q => [Chunk.blk g 2 q]) (fnC_congr fun i hi => by split <;> simp_all), rfl⟩
 obtain rfl : j = l.length := by omega
 rw [List.take_length]
 (apply tr_v tk; (conv => whnf); (repeat ((first | apply VBr.f | (apply v_f; omega)); (conv => whnf))))
 (apply VRet.mk)
 refine ret1 (by first | exact .inl rfl | exact .inr rfl) rfl (by exact rv_tmp rfl) ?_
 exact fun w hs => ⟨(some ⟨g, 0, none⟩, 8), rfl, trivial, hs.blk_own (sz := 1) (by rw [fnC_length]) (by unfold maxLen; omega)⟩
/-! ## Two lines compared -/
section
variable {P : Program}
theorem five_eq {t : TypeId} {f0 f1 f2 f3 f4 : Field} (h : P.underlying t = some (.struct #[f0, f1, f2, f3, f4])) (h0 : P.underlying f0.type = some (.int .i64)) (h1 : P.underlying f1.type = some (.int .i64)) (h2 : P.underlying f2.type = some (.int .i64)) (h3 : P.underlying f3.type = some (.int .i64)) (h4 : P.underlying f4.type = some (.int .i64))
  (o0 : f0.offset = 0) (o1 : f1.offset = 1) (o2 : f2.offset = 2) (o3 : f3.offset = 3) (o4 : f4.offset = 4) (n0 : f0.name ≠ "_") (n1 : f1.name ≠ "_") (n2 : f2.name ≠ "_") (n3 : f3.name ≠ "_") (n4 : f4.name ≠ "_") (hp : P.stoodInHeld t = false) (x y : Ln) (w : World) : (Op.equal t (lnV x) (lnV y)).run P w = .ok (decide (x = y)) w := by
 obtain ⟨a0, a1, a2, a3, a4⟩ := x
 obtain ⟨b0, b1, b2, b3, b4⟩ := y
 unfold lnV
 dsimp only
 have hf : (P.fieldsOf t).toList = [f0, f1, f2, f3, f4] := by simp [Program.fieldsOf, h]
 have hs := run_equalIn_struct (P := P) w 9999 t #[.int .i64 a0, .int .i64 a1, .int .i64 a2, .int .i64 a3, .int .i64 a4] #[.int .i64 b0, .int .i64 b1, .int .i64 b2, .int .i64 b3, .int .i64 b4] (by simp [Program.fieldsOf, h]) hp
 simp only [Op.equal, Op.maxDepth]
 rw [hs, hf]
 have p0 : ∀ (u0 u1 u2 u3 u4 : Int) w, (part f0.type #[.int .i64 u0, .int .i64 u1, .int .i64 u2, .int .i64 u3, .int .i64 u4] 0).run P w = .ok (.int .i64 u0) w := fun _ _ _ _ _ w => run_part_int h0 _ 0 _ _ rfl
 have p1 : ∀ (u0 u1 u2 u3 u4 : Int) w, (part f1.type #[.int .i64 u0, .int .i64 u1, .int .i64 u2, .int .i64 u3, .int .i64 u4] 1).run P w = .ok (.int .i64 u1) w := fun _ _ _ _ _ w => run_part_int h1 _ 1 _ _ rfl
 have p2 : ∀ (u0 u1 u2 u3 u4 : Int) w, (part f2.type #[.int .i64 u0, .int .i64 u1, .int .i64 u2, .int .i64 u3, .int .i64 u4] 2).run P w = .ok (.int .i64 u2) w := fun _ _ _ _ _ w => run_part_int h2 _ 2 _ _ rfl
 have p3 : ∀ (u0 u1 u2 u3 u4 : Int) w, (part f3.type #[.int .i64 u0, .int .i64 u1, .int .i64 u2, .int .i64 u3, .int .i64 u4] 3).run P w = .ok (.int .i64 u3) w := fun _ _ _ _ _ w => run_part_int h3 _ 3 _ _ rfl
 have p4 : ∀ (u0 u1 u2 u3 u4 : Int) w, (part f4.type #[.int .i64 u0, .int .i64 u1, .int .i64 u2, .int .i64 u3, .int .i64 u4] 4).run P w = .ok (.int .i64 u4) w := fun _ _ _ _ _ w => run_part_int h4 _ 4 _ _ rfl
 have q0 : ∀ (u v : Int) w, (Op.equalIn 9999 f0.type (.int .i64 u) (.int .i64 v)).run P w = .ok (u == v) w := fun u v w => run_equalIn_int w 9998 _ _ _ _ _ h0
 have q1 : ∀ (u v : Int) w, (Op.equalIn 9999 f1.type (.int .i64 u) (.int .i64 v)).run P w = .ok (u == v) w := fun u v w => run_equalIn_int w 9998 _ _ _ _ _ h1
 have q2 : ∀ (u v : Int) w, (Op.equalIn 9999 f2.type (.int .i64 u) (.int .i64 v)).run P w = .ok (u == v) w := fun u v w => run_equalIn_int w 9998 _ _ _ _ _ h2
 have q3 : ∀ (u v : Int) w, (Op.equalIn 9999 f3.type (.int .i64 u) (.int .i64 v)).run P w = .ok (u == v) w := fun u v w => run_equalIn_int w 9998 _ _ _ _ _ h3
 have q4 : ∀ (u v : Int) w, (Op.equalIn 9999 f4.type (.int .i64 u) (.int .i64 v)).run P w = .ok (u == v) w := fun u v w => run_equalIn_int w 9998 _ _ _ _ _ h4
 simp only [Op.eqFields, n0, n1, n2, n3, n4, ne_eq, not_false_eq_true, if_true, o0, o1, o2, o3, o4, Sem.run_bind, p0, q0, Result.andThen_ok]
 by_cases e0 : a0 = b0
 ·by_cases e1 : a1 = b1
  ·by_cases e2 : a2 = b2
   ·by_cases e3 : a3 = b3
    ·by_cases e4 : a4 = b4
     ·simp [e0, e1, e2, e3, e4, p1, q1, p2, q2, p3, q3, p4, q4]
     ·simp [e0, e1, e2, e3, e4, p1, q1, p2, q2, p3, q3, p4, q4]
    ·simp [e0, e1, e2, e3, p1, q1, p2, q2, p3, q3]
   ·simp [e0, e1, e2, p1, q1, p2, q2]
  ·simp [e0, e1, p1, q1]
 ·simp [e0]
end
theorem ln_eq (x y : Ln) (w : World) : (Op.equal 61 (lnV x) (lnV y)).run Tryz.prog w = .ok (decide (x = y)) w :=
 five_eq Tryz.underlying61 Tryz.underlying3 Tryz.underlying3 Tryz.underlying3 Tryz.underlying3 Tryz.underlying2 rfl rfl rfl rfl rfl (by decide) (by decide) (by decide) (by decide) (by decide) (by kernel_rfl) x y w
theorem ln_eqV {x y : Ln} {b : Bool} (h : decide (x = y) = b) (w : World) : (Op.equal 61 (.agg #[.int .i64 x.st, .int .i64 x.ck, .int .i64 x.kd, .int .i64 x.th, .int .i64 x.vl]) (.agg #[.int .i64 y.st, .int .i64 y.ck, .int .i64 y.kd, .int .i64 y.th, .int .i64 y.vl])).run Tryz.prog w = .ok b w := by
 have := ln_eq x y w
 rwa [h] at this
end Go.Proofs.YtojeeindlijgkaaGreatDoor
