/- Numerals, plainly: lemmas for the rows of this seat. No conditions. -/
import Derived.Laws.StructEq
import Derived.Lib.ItoaLen
import Derived.Lib.AtoiAllCases
import Derived.Laws.IdiomStrings
import Derived.Laws.Strings2
import Derived.Laws.Strings3
import Derived.WideLaws
import Derived.Shelf.Strings.SlTrimAscii
import Derived.Test.YtojeeindlijgkaaGreatDoorK7
import Derived.Test.YtojeeindlijgkaaGreatDoorKp
set_option linter.all false
namespace Go.Proofs.YtojeeindlijgkaaGreatDoor
open Go.RowKit
/-! ## Numerals, plainly -/
theorem u8_dig {d : Nat} (h : d < 10) : (UInt8.ofNat (48 + d)).toNat = 48 + d := by
 rw [UInt8.toNat_ofNat']
 omega
theorem isDig_of {d : Nat} (h : d < 10) : isDig (UInt8.ofNat (48 + d)) = true := by
 unfold isDig
 rw [u8_dig h]
 simp
 omega
theorem dig_of {c : UInt8} (h : isDig c = true) : ∃ d, d < 10 ∧ c = UInt8.ofNat (48 + d) := by
 unfold isDig at h
 simp only [Bool.and_eq_true, decide_eq_true_eq] at h
 refine ⟨c.toNat - 48, by omega, ?_⟩
 apply UInt8.toNat_inj.1
 rw [UInt8.toNat_ofNat']
 omega
theorem valS_dig (n : Int) {d : Nat} (h : d < 10) : valS n (UInt8.ofNat (48 + d)) = 10 * n + d := by
 unfold valS
 rw [u8_dig h]
 omega
def dg (d : Nat) : UInt8 := UInt8.ofNat (48 + d)
theorem dgD {a : Nat} (ha : a < 10) : isDig (dg a) = true := isDig_of ha
theorem dgN {a : Nat} (ha : a < 10) : (dg a).toNat = 48 + a := u8_dig ha
theorem dgV (n : Int) {a : Nat} (ha : a < 10) : valS n (dg a) = 10 * n + a := valS_dig n ha
theorem num1 {a : Nat} (ha : a < 10) : numOk [dg a] = true ∧ numV [dg a] = a := by
 have h : numOk [dg a] = true := by unfold numOk digB; simp [dgD ha]
 refine ⟨h, ?_⟩
 unfold numV
 rw [if_pos h]
 simp only [valT, List.foldl, dgV _ ha]
 omega
theorem num2 {a b : Nat} (ha : a < 10) (hb : b < 10) (h0 : a ≠ 0) : numOk [dg a, dg b] = true ∧ numV [dg a, dg b] = 10 * a + b := by
 have h : numOk [dg a, dg b] = true := by unfold numOk digB cAt; simp [dgD ha, dgD hb, dgN ha, h0]
 refine ⟨h, ?_⟩
 unfold numV
 rw [if_pos h]
 simp only [valT, List.foldl, dgV _ ha, dgV _ hb]
 omega
theorem num3 {a b c : Nat} (ha : a < 10) (hb : b < 10) (hc : c < 10) (h0 : a ≠ 0) : numOk [dg a, dg b, dg c] = true ∧ numV [dg a, dg b, dg c] = 100 * a + 10 * b + c := by
 have h : numOk [dg a, dg b, dg c] = true := by unfold numOk digB cAt; simp [dgD ha, dgD hb, dgD hc, dgN ha, h0]
 refine ⟨h, ?_⟩
 unfold numV
 rw [if_pos h]
 simp only [valT, List.foldl, dgV _ ha, dgV _ hb, dgV _ hc]
 omega
theorem num4 {a b c d : Nat} (ha : a < 10) (hb : b < 10) (hc : c < 10) (hd : d < 10) (h0 : a ≠ 0) : numOk [dg a, dg b, dg c, dg d] = true ∧ numV [dg a, dg b, dg c, dg d] = 1000 * a + 100 * b + 10 * c + d := by
 have h : numOk [dg a, dg b, dg c, dg d] = true := by unfold numOk digB cAt; simp [dgD ha, dgD hb, dgD hc, dgD hd, dgN ha, h0]
 refine ⟨h, ?_⟩
 unfold numV
 rw [if_pos h]
 simp only [valT, List.foldl, dgV _ ha, dgV _ hb, dgV _ hc, dgV _ hd]
 omega
theorem dec1 {n : Nat} (h : n < 10) : Go.Lib.decDigits n = [dg n] := dec_small h
theorem dec2 {n : Nat} (h1 : 10 ≤ n) (h : n < 100) : Go.Lib.decDigits n = [dg (n / 10), dg (n % 10)] := by
 rw [dec_big (by omega), dec_small (by omega)]; rfl
theorem dec3 {n : Nat} (h1 : 100 ≤ n) (h : n < 1000) : Go.Lib.decDigits n = [dg (n / 10 / 10), dg (n / 10 % 10), dg (n % 10)] := by
 rw [dec_big (by omega), dec2 (by omega) (by omega)]; rfl
theorem dec4 {n : Nat} (h1 : 1000 ≤ n) (h : n < 10000) : Go.Lib.decDigits n = [dg (n / 10 / 10 / 10), dg (n / 10 / 10 % 10), dg (n / 10 % 10), dg (n % 10)] := by
 rw [dec_big (by omega), dec3 (by omega) (by omega)]; rfl
theorem dec_num {n : Nat} (h : n ≤ 9999) : numOk (Go.Lib.decDigits n) = true ∧ numV (Go.Lib.decDigits n) = n := by
 by_cases h1 : n < 10
 ·rw [dec1 h1]; exact num1 h1
 by_cases h2 : n < 100
 ·rw [dec2 (by omega) h2]
  have := num2 (a := n / 10) (b := n % 10) (by omega) (by omega) (by omega)
  exact ⟨this.1, by rw [this.2]; omega⟩
 by_cases h3 : n < 1000
 ·rw [dec3 (by omega) h3]
  have := num3 (a := n / 10 / 10) (b := n / 10 % 10) (c := n % 10) (by omega) (by omega) (by omega) (by omega)
  exact ⟨this.1, by rw [this.2]; omega⟩
 ·rw [dec4 (by omega) (by omega)]
  have := num4 (a := n / 10 / 10 / 10) (b := n / 10 / 10 % 10) (c := n / 10 % 10) (d := n % 10) (by omega) (by omega) (by omega) (by omega) (by omega)
  exact ⟨this.1, by rw [this.2]; omega⟩
theorem dg_ne {a : Nat} (ha : a < 10) (h : ¬(dg a).toNat = 48) : a ≠ 0 := by
 rintro rfl
 exact h (u8_dig ha)
theorem num_dec {l : List UInt8} (h : numOk l = true) : l = Go.Lib.decDigits (numV l).toNat ∧ numV l ≤ 9999 := by
 have hbd := numV_bd l
 refine ⟨?_, hbd.2⟩
 clear hbd
 have hh := h
 unfold numOk digB at h
 simp only [Bool.and_eq_true, decide_eq_true_eq, Bool.not_eq_true', Bool.and_eq_false_iff, decide_eq_false_iff_not] at h
 obtain ⟨⟨⟨hall, hpos⟩, h4⟩, hz⟩ := h
 match l, hall, hpos, h4, hz with
 | [a], hall, _, _, _ =>
  simp only [List.all_cons, List.all_nil, Bool.and_true] at hall
  obtain ⟨a, ha, rfl⟩ := dig_of hall
  rw [show UInt8.ofNat (48 + a) = dg a from rfl, (num1 ha).2, Int.toNat_natCast, dec1 ha]
 | [a, b], hall, _, _, hz =>
  simp only [List.all_cons, List.all_nil, Bool.and_true, Bool.and_eq_true] at hall
  obtain ⟨a, ha, rfl⟩ := dig_of hall.1
  obtain ⟨b, hb, rfl⟩ := dig_of hall.2
  have ha0 : a ≠ 0 := dg_ne ha (by rcases hz with h | h; exact absurd (by simp) h; exact h)
  rw [show UInt8.ofNat (48 + a) = dg a from rfl, show UInt8.ofNat (48 + b) = dg b from rfl, (num2 ha hb ha0).2, show (10 * (a : Int) + b).toNat = 10 * a + b by omega, dec2 (by omega) (by omega)]
  rw [show (10 * a + b) / 10 = a by omega, show (10 * a + b) % 10 = b by omega]
 | [a, b, c], hall, _, _, hz =>
  simp only [List.all_cons, List.all_nil, Bool.and_true, Bool.and_eq_true] at hall
  obtain ⟨a, ha, rfl⟩ := dig_of hall.1
  obtain ⟨b, hb, rfl⟩ := dig_of hall.2.1
  obtain ⟨c, hc, rfl⟩ := dig_of hall.2.2
  have ha0 : a ≠ 0 := dg_ne ha (by rcases hz with h | h; exact absurd (by simp) h; exact h)
  rw [show UInt8.ofNat (48 + a) = dg a from rfl, show UInt8.ofNat (48 + b) = dg b from rfl, show UInt8.ofNat (48 + c) = dg c from rfl, (num3 ha hb hc ha0).2, show (100 * (a : Int) + 10 * b + c).toNat = 100 * a + 10 * b + c by omega, dec3 (by omega) (by omega)]
  rw [show (100 * a + 10 * b + c) / 10 / 10 = a by omega, show (100 * a + 10 * b + c) / 10 % 10 = b by omega, show (100 * a + 10 * b + c) % 10 = c by omega]
 | [a, b, c, d], hall, _, _, hz =>
  simp only [List.all_cons, List.all_nil, Bool.and_true, Bool.and_eq_true] at hall
  obtain ⟨a, ha, rfl⟩ := dig_of hall.1
  obtain ⟨b, hb, rfl⟩ := dig_of hall.2.1
  obtain ⟨c, hc, rfl⟩ := dig_of hall.2.2.1
  obtain ⟨d, hd, rfl⟩ := dig_of hall.2.2.2
  have ha0 : a ≠ 0 := dg_ne ha (by rcases hz with h | h; exact absurd (by simp) h; exact h)
  rw [show UInt8.ofNat (48 + a) = dg a from rfl, show UInt8.ofNat (48 + b) = dg b from rfl, show UInt8.ofNat (48 + c) = dg c from rfl, show UInt8.ofNat (48 + d) = dg d from rfl, (num4 ha hb hc hd ha0).2, show (1000 * (a : Int) + 100 * b + 10 * c + d).toNat = 1000 * a + 100 * b + 10 * c + d by omega, dec4 (by omega) (by omega)]
  rw [show (1000 * a + 100 * b + 10 * c + d) / 10 / 10 / 10 = a by omega, show (1000 * a + 100 * b + 10 * c + d) / 10 / 10 % 10 = b by omega, show (1000 * a + 100 * b + 10 * c + d) / 10 % 10 = c by omega, show (1000 * a + 100 * b + 10 * c + d) % 10 = d by omega]
theorem num_all {l : List UInt8} (h : numOk l = true) : l.all isDig = true ∧ 0 < l.length := by
 unfold numOk digB at h
 simp only [Bool.and_eq_true, decide_eq_true_eq] at h
 exact h.1.1
theorem dig_sgn {l : List UInt8} (h : l.all isDig = true) (hl : 0 < l.length) : sgnB l = false := by
 have := dig_at h hl
 unfold sgnB
 rw [Bool.and_eq_false_iff]
 right
 exact decide_eq_false (by omega)
theorem itoa_sgn {v : Int} (h : -9999 ≤ v ∧ v ≤ 9999) : sgnOk (Go.Lib.itoa v) = true ∧ sgnV (Go.Lib.itoa v) = v := by
 unfold Go.Lib.itoa
 by_cases hv : v < 0
 ·rw [if_pos hv]
  have hd := dec_num (n := v.natAbs) (by omega)
  have hs : sgnB (45 :: Go.Lib.decDigits v.natAbs) = true := by unfold sgnB cAt; simp
  unfold sgnOk sgnV
  rw [hs, if_pos rfl, if_pos rfl]
  show (numOk (Go.Lib.decDigits v.natAbs) && decide (0 < numV (Go.Lib.decDigits v.natAbs))) = true ∧ -numV (Go.Lib.decDigits v.natAbs) = v
  rw [hd.1, hd.2]
  exact ⟨by simp; omega, by omega⟩
 ·rw [if_neg hv]
  have hd := dec_num (n := v.toNat) (by omega)
  have ha := num_all hd.1
  unfold sgnOk sgnV
  rw [dig_sgn ha.1 ha.2, if_neg (by decide), if_neg (by decide), hd.1, hd.2]
  exact ⟨rfl, by omega⟩
theorem sgn_itoa {l : List UInt8} (h : sgnOk l = true) : l = Go.Lib.itoa (sgnV l) ∧ -9999 ≤ sgnV l ∧ sgnV l ≤ 9999 := by
 unfold sgnOk at h
 unfold sgnV
 cases hs : sgnB l
 ·rw [hs, if_neg (by decide)] at h
  rw [if_neg (by decide)]
  obtain ⟨h1, h2⟩ := num_dec h
  have hb := numV_bd l
  refine ⟨?_, by omega, h2⟩
  unfold Go.Lib.itoa
  rw [if_neg (by omega)]
  exact h1
 ·rw [hs, if_pos rfl] at h
  rw [if_pos rfl]
  simp only [Bool.and_eq_true, decide_eq_true_eq] at h
  obtain ⟨h1, h2⟩ := num_dec h.1
  refine ⟨?_, by omega, by omega⟩
  unfold Go.Lib.itoa
  rw [if_pos (by omega)]
  unfold sgnB at hs
  simp only [Bool.and_eq_true, decide_eq_true_eq] at hs
  have hc : l = cAt l 0 :: l.drop 1 := by
   unfold cAt
   match l, hs.1 with
   | c :: r, _ => rfl
  have h45 : cAt l 0 = 45 := UInt8.toNat_inj.1 hs.2
  rw [show (-numV (l.drop 1)).natAbs = (numV (l.drop 1)).toNat by omega, ← h1, ← h45]
  exact hc
theorem parse_val : ∀ (l : List UInt8) (acc : Nat), l.all isDig = true → (acc + 1) * 10 ^ l.length ≤ 10 ^ 18 → ∃ u : Nat, Go.Lib.parseUint10 acc l = .ok u ∧ (u : Int) = l.foldl valS acc
 | [], acc, _, _ => ⟨acc, rfl, rfl⟩
 | c :: r, acc, h, hb => by
  rw [List.all_cons, Bool.and_eq_true] at h
  obtain ⟨d, hd, rfl⟩ := dig_of h.1
  have hN := u8_dig hd
  have hp : 1 ≤ 10 ^ r.length := Nat.one_le_pow _ _ (by decide)
  rw [List.length_cons, Nat.pow_succ] at hb
  have hstep : (acc * 10 + d + 1) * 10 ^ r.length ≤ 10 ^ 18 := by
   refine Nat.le_trans (Nat.mul_le_mul_right _ (show acc * 10 + d + 1 ≤ (acc + 1) * 10 by omega)) ?_
   rw [Nat.mul_assoc, Nat.mul_comm 10]; exact hb
  have hsm : acc * 10 + d + 1 ≤ 10 ^ 18 := Nat.le_trans (Nat.le_mul_of_pos_right _ hp) hstep
  obtain ⟨u, h1, h2⟩ := parse_val r (acc * 10 + d) h.2 hstep
  refine ⟨u, ?_, ?_⟩
  ·rw [Go.Lib.parseUint10, hN, if_pos (by omega), if_neg (by omega), if_neg (by omega), show 48 + d - 48 = d by omega]
   exact h1
  ·rw [List.foldl_cons, valS_dig _ hd, h2]
   congr 1
   omega
theorem mag_num {l : List UInt8} (h : numOk l = true) : Go.Lib.parseMag l = .ok (numV l).toNat := by
 obtain ⟨h1, h2⟩ := num_all h
 have h4 : l.length ≤ 4 := by
  unfold numOk at h
  simp only [Bool.and_eq_true, decide_eq_true_eq] at h
  exact h.1.2
 have hp : 10 ^ l.length ≤ 10 ^ 4 := Nat.pow_le_pow_right (by decide) h4
 obtain ⟨u, hu, hv⟩ := parse_val l 0 h1 (by omega)
 have hV : numV l = l.foldl valS 0 := by unfold numV valT; rw [if_pos h]
 unfold Go.Lib.parseMag
 rw [if_neg (by rintro rfl; simp at h2), hu, hV]
 have : (u : Int) = l.foldl valS 0 := hv
 rw [← this, Int.toNat_natCast]
theorem atoi_sgn {l : List UInt8} (h : sgnOk l = true) : Go.Lib.atoiAll l = .ok (sgnV l) := by
 have hb := sgn_itoa h
 unfold sgnOk at h
 cases hs : sgnB l
 ·rw [hs, if_neg (by decide)] at h
  have hm := mag_num h
  have hbd := numV_bd l
  obtain ⟨h1, h2⟩ := num_all h
  have hd := dig_at h1 h2
  unfold sgnV
  rw [hs, if_neg (by decide)]
  match l, h2, h with
  | c :: r, _, h =>
   have hd : 48 ≤ (c.toNat : Int) ∧ (c.toNat : Int) ≤ 57 := hd
   have e1 : ¬(c.toNat = 43 ∨ c.toNat = 45) := by omega
   have e2 : ¬(c.toNat = 45) := by omega
   have hbd := numV_bd (c :: r)
   have hm := mag_num h
   show Go.Lib.atoiAll (c :: r) = .ok (numV (c :: r))
   rw [Go.Lib.atoiAll_plain c r (by omega) (by omega), hm]
   show (if 9223372036854775808 ≤ (numV (c :: r)).toNat then Go.Lib.NumEnd.range else .ok ((numV (c :: r)).toNat : Int)) = _
   rw [if_neg (by omega), Int.toNat_of_nonneg hbd.1]
 ·rw [hs, if_pos rfl] at h
  simp only [Bool.and_eq_true, decide_eq_true_eq] at h
  have hm := mag_num h.1
  have hbd := numV_bd (l.drop 1)
  unfold sgnV
  rw [hs, if_pos rfl]
  unfold sgnB at hs
  simp only [Bool.and_eq_true, decide_eq_true_eq] at hs
  match l, hs.1 with
  | c :: r, _ =>
   have hc : c.toNat = 45 := hs.2
   have hm : Go.Lib.parseMag r = .ok (numV r).toNat := hm
   have hbd : 0 ≤ numV r ∧ numV r ≤ 9999 := hbd
   show _ = Go.Lib.NumEnd.ok (-numV r)
   unfold Go.Lib.atoiAll
   simp only [hc, or_true, if_true, hm, not_true_eq_false, false_and, true_and, if_false]
   rw [if_neg (by omega)]
   congr 1
   omega
/-! ## number -/
structure LayE (w : World) : Prop where
 t10 : T10 w
 sy : ∃ tp p, w.var? Tryz.prog "strconv.ErrSyntax" = some #[.iface tp p]
 ra : ∃ tp p, w.var? Tryz.prog "strconv.ErrRange" = some #[.iface tp p]
theorem var_below {n : String} {cs : Array Value} {w w' : World} (h : w.var? Tryz.prog n = some cs) (hb : Below w.heap.size w w') : w'.var? Tryz.prog n = some cs := by
 unfold World.var? at h ⊢
 cases hg : Tryz.prog.globalNamed n with
 | none => rw [hg] at h; cases h
 | some g =>
  rw [hg] at h
  simp only [Option.bind_some] at h ⊢
  have hlt : g < w.heap.size := by
   rcases Nat.lt_or_ge g w.heap.size with h' | h'
   ·exact h'
   ·rw [Array.getElem?_eq_none h'] at h; cases h
  rw [hb.block g hlt]
  exact h
theorem LayE.st {w w' : World} {A : List Chunk} (h : LayE w) (hs : St w A w') : LayE w' := ⟨h.t10.st hs, by obtain ⟨a, b, h⟩ := h.sy; exact ⟨a, b, var_below h hs.base⟩, by obtain ⟨a, b, h⟩ := h.ra; exact ⟨a, b, var_below h hs.base⟩⟩
theorem below_bytes (w : World) (t : ByteArray) : Below w.heap.size w (Go.Lib.bytesWorld w 5 t) where
 os := rfl
 tape := rfl
 output := rfl
 size := by simp [Go.Lib.bytesWorld, World.freeze, World.alloc, World.drew, -World.alloc_eq, -World.drew_eq]
 block := fun j hj => Go.Lib.bytesWorld_at_old w 5 t j hj
def atP (l : List UInt8) (x : Int × Value) : Prop := (Go.Lib.atoiAll l = .ok x.1 ∧ x.2 = .nilIface) ∨ ((∀ v, Go.Lib.atoiAll l ≠ .ok v) ∧ ∃ t p, x.2 = .iface t p)
theorem atoi_any (l : List UInt8) (w : World) (hE : LayE w) (hl : l.length ≤ 10000) : Calls Tryz.prog 118 #[.string (bs l)] w fun e w' => ∃ x : Int × Value, e = .returned (.tuple #[.int .i64 x.1, x.2]) ∧ atP l x ∧ Below w.heap.size w w' := by
 have hd := bs_data l
 have hz := bs_size l
 rcases h : Go.Lib.atoiAll l with v | _ | _
 ·refine (Tryz.strconv_Atoi_ok (bs l) (by omega) v (by rw [hd]; exact h) w).mono fun e w' ⟨he, hw⟩ => ⟨(v, .nilIface), he, .inl ⟨h, rfl⟩, ?_⟩
  rcases hw with rfl | ⟨t, rfl⟩
  ·exact Below.refl _ _
  ·exact below_bytes w t
 ·obtain ⟨tp, p, hv⟩ := hE.sy
  exact (Any.strconv_Atoi_syntax_var Tryz.laysC172 (bs l) (by omega) (by rw [hd]; exact h) tp p w hv).mono fun e w' ⟨N, he, _, _, hb⟩ => ⟨(0, _), he, .inr ⟨fun v hh => (by rw [h] at hh; cases hh), _, _, rfl⟩, hb⟩
 ·obtain ⟨tp, p, hv⟩ := hE.ra
  exact (Tryz.strconv_Atoi_range_var (bs l) (by omega) (by rw [hd]; exact h) tp p w hv).mono fun e w' ⟨N, he, _, _, hb⟩ => ⟨(_, _), he, .inr ⟨fun v hh => (by rw [h] at hh; cases hh), _, _, rfl⟩, hb⟩
theorem atoi_bd {l : List UInt8} {v : Int} (h : Go.Lib.atoiAll l = .ok v) : -9223372036854775808 ≤ v ∧ v ≤ 9223372036854775807 := by
 unfold Go.Lib.atoiAll at h
 split at h
 ·cases h
 ·dsimp only at h
  split at h
  ·cases h
  ·cases h
  ·split at h
   ·cases h
   ·split at h
    ·cases h
    ·injection h with h
     split at h <;> omega
section
variable {P : Program} {tab : TT} {w0 : World} {n : Nat} {ds : List Deferred} {ops : List Oper} {o : Oper} {os : List Oper} {ks : List Kind} {ts : TS} {A : List Chunk} {K : TS → List Chunk → Prop} {d : Tmp} {x y z : Operand} {t u : TypeId}
theorem ot_eqlN {v : Value} (b : Bool) (hv : (v = .nilIface ∧ b = true) ∨ ((∃ a c, v = .iface a c) ∧ b = false)) (ht : P.underlying t = some (.interface (P.methodsAt t))) (hop : o.op = .binOp .eql t x (.const .nilIface) u) (hd : o.dst = some d) (hw : wantB ops ts o = some true) (hx : evT ts x = some v)
  (hk : OT P w0 n ds ops os ks.tail ((d, .bool b) :: ts) A K) : OT P w0 n ds ops (o :: os) ks ts A K :=
 ot_val _ hd hw (fun a w hh => by
  have hy : a.eval (.const .nilIface) = .nilIface := rfl
  rcases hv with ⟨rfl, rfl⟩ | ⟨⟨p, q, rfl⟩, rfl⟩
  ·have e2 : (binOp .eql t .nilIface .nilIface).run P w = .ok (.bool true) w := by simp [binOp, run_equal_nil_nil w t ht]
   have e1 : eqGuard .eql t x (.const .nilIface) .nilIface .nilIface = pure () := by simp [eqGuard]
   simp [execOp, hop, hh.ev hx, hy, e1, e2]
  ·have e2 : (binOp .eql t (.iface p q) .nilIface).run P w = .ok (.bool false) w := by simp [binOp, run_equal_held_nil w t p q ht]
   have e1 : eqGuard .eql t x (.const .nilIface) (.iface p q) .nilIface = pure () := by simp [eqGuard]
   simp [execOp, hop, hh.ev hx, hy, e1, e2]) hk
end
set_option maxHeartbeats 1000000 in
set_option maxRecDepth 20000 in
theorem number96_any (l : List UInt8) (w : World) (hE : LayE w) (hl : l.length ≤ 10000) : Calls Tryz.prog 96 #[.string (bs l)] w fun e w' => ∃ v : Int, e = .returned (.tuple #[.int .i64 v, .bool (sgnOk l)]) ∧ (sgnOk l = true → v = sgnV l) ∧ Below w.heap.size w w' := by
 have ka := fun w1 h => atoi_any l w1 h hl
 refine fn_v tk (n := 25) (A := []) Tryz.func96 rfl rfl (Nat.le_of_ble_eq_true rfl) (St.nil (Below.refl _ _)) ?_
 ((conv => whnf); apply VCall.stop)
 refine ot_callQ (X := Int × Value) (us := []) (vs := []) (fun x => .tuple #[.int .i64 x.1, x.2]) (fun x => atP l x) (by decide) rfl rfl rfl rfl (by kernel_rfl) (evl_of rfl) rfl (fun w1 hs => ka w1 (hE.st hs)) ?_
 rintro ⟨v, ev⟩ hx
 dsimp only
 apply ot_v tk
 rcases hx with ⟨ha, hev⟩ | ⟨hno, t, p, hev⟩
 ·dsimp only at ha hev
  subst hev
  have hbd := atoi_bd ha
  have ki := fun w1 h => itoa_any v w1 h hbd.1 hbd.2
  have kw := fun {g t : Nat} {A : List Chunk} {w0 w1 : World} (hs : St w0 A w1) (hm : Chunk.blk g t [.int .i64 v] ∈ A) => within1_mem (lo := -9999) (hi := 9999) rfl hs hm
  obtain ⟨b, hb⟩ : ∃ b, decide (Go.Lib.itoa v = l) = b := ⟨_, rfl⟩
  have hok : sgnOk l = (b && inB v (-9999) 9999) := by
   rw [← hb, Bool.eq_iff_iff]
   simp only [Bool.and_eq_true, decide_eq_true_eq, inB_iff]
   constructor
   ·intro h
    have h1 := atoi_sgn h
    rw [ha] at h1
    injection h1 with h1
    have h2 := sgn_itoa h
    rw [← h1] at h2
    exact ⟨h2.1.symm, h2.2⟩
   ·rintro ⟨h1, h2⟩
    rw [← h1]
    exact (itoa_sgn h2).1
  have hv : sgnOk l = true → v = sgnV l := fun h => by
   have h1 := atoi_sgn h
   rw [ha] at h1
   injection h1
  rw [hok] at hv ⊢
  generalize inB v (-9999) 9999 = i9 at *
  generalize Go.Lib.itoa v = T at *
  cases b
  ·((conv => whnf); (repeat ((first | ((first | apply VStop.mk | apply VCall.stop); (first | (refine ot_eqlN true (.inl ⟨rfl, rfl⟩) (by kernel_rfl) rfl rfl rfl rfl ?_) | (refine ot_strq false hb rfl rfl rfl rfl rfl ?_)); apply ot_v tk) | (apply VCall.q; kernel_rfl; (focus (intro w1 hs; first | with_reducible apply ki w1 (hE.st hs).t10))) | apply VBr.t | apply VBr.f); (conv => whnf))))
   (apply VRet.mk)
   refine ret2 (by first | exact .inl rfl | exact .inr rfl) rfl (by exact rv_tmp rfl) (by exact rv_tmp rfl) ?_
   exact fun w h => ⟨v, rfl, hv, h.base⟩
  ·((conv => whnf); (repeat ((first | ((first | apply VStop.mk | apply VCall.stop); (first | (refine ot_eqlN true (.inl ⟨rfl, rfl⟩) (by kernel_rfl) rfl rfl rfl rfl ?_) | (refine ot_strq true hb rfl rfl rfl rfl rfl ?_)); apply ot_v tk) | (apply VCall.q; kernel_rfl; (focus (intro w1 hs; first | with_reducible apply ki w1 (hE.st hs).t10 | ((with_reducible apply kw hs); (repeat (first | exact List.Mem.head _ | assumption | refine List.Mem.tail _ ?_)))))) | apply VBr.t | (apply VNew.mk; intro g hg)); (conv => whnf))))
   (apply VRet.mk)
   refine ret2 (by first | exact .inl rfl | exact .inr rfl) rfl (by exact rv_tmp rfl) (by exact rv_tmp rfl) ?_
   exact fun w h => ⟨v, rfl, hv, h.base⟩
 ·dsimp only at hev
  subst hev
  have hno' : sgnOk l = false := by
   rw [Bool.eq_false_iff]
   exact fun h => hno _ (atoi_sgn h)
  rw [hno']
  ((conv => whnf); (repeat ((first | (apply VStop.mk; (refine ot_eqlN false (.inr ⟨⟨_, _, rfl⟩, rfl⟩) (by kernel_rfl) rfl rfl rfl rfl ?_); apply ot_v tk) | apply VBr.f); (conv => whnf))))
  (apply VRet.mk)
  refine ret2 (by first | exact .inl rfl | exact .inr rfl) rfl (by exact rv_tmp rfl) (by exact rv_tmp rfl) ?_
  exact fun w h => ⟨v, rfl, fun h => (by cases h), h.base⟩
/-! ## Trim: digits alone -/
def digT : List UInt8 := [48, 49, 50, 51, 52, 53, 54, 55, 56, 57]
theorem contains_dig (b : UInt8) : digT.contains b = isDig b := by
 rw [Bool.eq_iff_iff]
 unfold isDig digT
 simp only [List.contains_iff_mem, List.mem_cons, List.not_mem_nil, or_false, Bool.and_eq_true, decide_eq_true_eq]
 constructor
 ·rintro (rfl | rfl | rfl | rfl | rfl | rfl | rfl | rfl | rfl | rfl) <;> decide
 ·intro ⟨h1, h2⟩
  have : b.toNat = 48 ∨ b.toNat = 49 ∨ b.toNat = 50 ∨ b.toNat = 51 ∨ b.toNat = 52 ∨ b.toNat = 53 ∨ b.toNat = 54 ∨ b.toNat = 55 ∨ b.toNat = 56 ∨ b.toNat = 57 := by omega
  simpa [← UInt8.toNat_inj] using this
theorem dw_all {p : UInt8 → Bool} : ∀ (r : List UInt8), (r.dropWhile p).all p = true → r.all p = true
 | [], _ => rfl
 | a :: r, h => by
  rw [List.dropWhile_cons] at h
  cases hp : p a
  ·rw [hp, if_neg (by decide), List.all_cons, hp] at h; simp at h
  ·rw [hp, if_pos rfl] at h
   rw [List.all_cons, hp, dw_all r h]; rfl
theorem dw_nil {p : UInt8 → Bool} : ∀ (r : List UInt8), r.all p = true → r.dropWhile p = []
 | [], _ => rfl
 | a :: r, h => by
  rw [List.all_cons, Bool.and_eq_true] at h
  rw [List.dropWhile_cons, h.1, if_pos rfl, dw_nil r h.2]
theorem trim_dig (l : List UInt8) : Go.Lib.trimS l digT = [] ↔ l.all isDig = true := by
 unfold Go.Lib.trimS Go.Lib.trimLeftS Go.Lib.trimRightS
 have hp : (fun x => digT.contains x) = isDig := funext contains_dig
 rw [hp]
 constructor
 ·intro h
  have h1 : ((l.reverse.dropWhile isDig).reverse).all isDig = true := dw_all _ (by rw [h]; rfl)
  rw [List.all_reverse] at h1
  have h2 := dw_all _ h1
  rwa [List.all_reverse] at h2
 ·intro h
  rw [dw_nil l.reverse (by rw [List.all_reverse]; exact h)]
  rfl
theorem trim94_any (l : List UInt8) (w : World) (hl : l.length ≤ 100000) : Calls Tryz.prog 94 #[.string (bs l), .string (bs digT)] w fun e w' => e = .returned (.string (bs (Go.Lib.trimS l digT))) ∧ Below w.heap.size w w' := by
 have := Any.strings_Trim_laid Tryz.lays160 (by kernel_rfl) (bs l) (bs digT) w (by rw [bs_size]; omega) (by rw [bs_size]; decide) (by rw [bs_data]; exact ascii_of_all (by decide))
 rw [bs_data, bs_data] at this
 exact this
/-! ## Numbers that are not below 0 -/
theorem num_sgn {l : List UInt8} (h : numOk l = true) : sgnOk l = true ∧ sgnV l = numV l := by
 obtain ⟨h1, h2⟩ := num_all h
 unfold sgnOk sgnV
 rw [dig_sgn h1 h2, if_neg (by decide), if_neg (by decide)]
 exact ⟨h, rfl⟩
theorem sgn_num {l : List UInt8} (h : sgnOk l = true) (h0 : 0 ≤ sgnV l) : numOk l = true := by
 unfold sgnOk at h
 unfold sgnV at h0
 cases hs : sgnB l
 ·rw [hs, if_neg (by decide)] at h
  exact h
 ·rw [hs, if_pos rfl] at h h0
  simp only [Bool.and_eq_true, decide_eq_true_eq] at h
  omega
end Go.Proofs.YtojeeindlijgkaaGreatDoor
