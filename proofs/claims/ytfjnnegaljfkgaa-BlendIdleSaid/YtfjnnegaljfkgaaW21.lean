/- Layer 3, blends: The shelfs first cells.: lemmas for the rows of this seat. No conditions. -/
import Derived.Test.YtfjnnegaljfkgaaProg
import Derived.Test.YtfjnnegaljfkgaaBase
import Derived.Test.YtfjnnegaljfkgaaPlain
import Derived.Test.YtfjnnegaljfkgaaWA
import Derived.Test.YtfjnnegaljfkgaaSeg
import Derived.Test.YtfjnnegaljfkgaaKeys
import Derived.Test.YtfjnnegaljfkgaaW20
import Derived.Deep.RegionLaw
set_option linter.all false
namespace Go.Proofs.Ytfjnnegaljfkgaa
open Go.RowKit
/-- The shelf's first cells. -/
theorem Try.zeroShelf (v : Value) : Try.zeroCells111.setIfInBounds 0 v = shelfCells v (List.replicate 101 0) (.slice none 0 0) := by
  kernel_rfl
/-- The first prices. -/
def fill (k : Nat) : List Int := List.replicate k 1001 ++ List.replicate (101 - k) 0
theorem fill_length (k : Nat) (h : k ≤ 101) : (fill k).length = 101 := by simp [fill]; omega
theorem fill_set (k : Nat) (h : k < 101) : (fill k).set k 1001 = fill (k + 1) := by
  unfold fill
  rw [List.set_append_right _ _ (by simp)]
  simp only [List.length_replicate, Nat.sub_self]
  obtain ⟨m, hm⟩ : ∃ m, 101 - k = m + 1 := ⟨100 - k, by omega⟩
  rw [hm, show 101 - (k + 1) = m from by omega]
  rw [List.replicate_succ, List.set_cons_zero, List.replicate_succ', List.append_assoc]
  rfl
theorem fill_last : fill 101 = List.replicate 101 1001 := rfl
set_option maxRecDepth 100000 in
set_option maxHeartbeats 4000000 in
theorem newShelf_any (A : Option Addr) (c : Nat) (xs : List (Int × Int)) (w : World) (h : Reads w w.heap.size 2 A xs.length (pairCells xs)) (hm : xs.length ≤ 8)
    (hg : ∀ j, j < xs.length → lotBad (lotAt xs j) = false) :
    Calls Try.prog 76 #[.slice A xs.length c] w (ShelfRet A c xs w) := by
  have Hpost : Hid (∀ (e : Ending) (w' : World) (v3 : Value) (B : Nat), w.heap.size < B → e = .returned (.pointer (some ⟨w.heap.size, 0, none⟩)) → Blk w' w.heap.size 111 (shelfCells (.slice A xs.length c) (leastUpto xs xs.length) v3) →
      w'.ownsRow B 83 3 v3 (chainUpto (leastUpto xs xs.length) (firstUpto xs xs.length) 101).length (tripleCells (chainUpto (leastUpto xs xs.length) (firstUpto xs xs.length) 101).reverse) → Below w.heap.size w w' → ShelfRet A c xs w e w') := by
    intro e w' v3 B hB h1 h2 h3 h4
    have hlt := h3.lt
    obtain ⟨A3, c3, rfl, hr, _, _, hnc, _⟩ := own_reads h3
    have hl : (chainOf xs).length = (chainUpto (leastUpto xs xs.length) (firstUpto xs xs.length) 101).length := List.length_reverse
    refine ⟨h1, ⟨A3, c3, ?_, ?_, fun b o hb => ?_, by rw [hl]; exact hnc⟩, h4⟩
    · rw [hl]; exact h2
    · rw [hl]; exact hr
    · subst hb; have := (hlt b rfl).1; omega
  generalize ShelfRet A c xs w = POST at *
  go_enter Try.func76, Try.ntmps76
  go_wp2
  rw [Try.zeroShelf]
  have hk0 := Blk.new w 111 (shelfCells (.slice A xs.length c) (List.replicate 101 0) (.slice none 0 0))
  have hb0 := (Below.refl w.heap.size w).alloc (Nat.le_refl _) (Obj.cells (shelfCells (.slice A xs.length c) (List.replicate 101 0) (.slice none 0 0)) 111)
  generalize w.alloc (.cells (shelfCells (.slice A xs.length c) (List.replicate 101 0) (.slice none 0 0)) 111) = w1 at *
  generalize Value.agg (shelfCells (.slice A xs.length c) (List.replicate 101 0) (.slice none 0 0)) = V16 at *
  have HF := Lib.hid fill_length
  have HS := Lib.hid fill_set
  have Hg := Lib.hid hg; clear hg
  go_loopg [18] 101 (fun g i wr => ∃ k : Nat, k + g = 101 ∧ i = .int .i64 k ∧ Blk wr w.heap.size 111 (shelfCells (.slice A xs.length c) (fill k) (.slice none 0 0)) ∧ Below w.heap.size w wr)
  case atStart => exact ⟨0, by omega, rfl, hk0, hb0⟩
  case round =>
    clear hk0 hb0
    obtain ⟨k, hk, rfl, hkb, hb⟩ := hrel
    have Hk := Lib.hid hk; clear hk
    by_cases hlt : k < 101
    · have hl := HF.out k (by omega)
      have hc := (hkb.cell (1 + k)).trans (shelf_least _ _ _ k (by omega))
      have hfr := hkb.frozen (1 + k)
      go_wp2
      go_roundg (gk - 1)
      case rel =>
        have hs := hkb.set_ (1 + k) (.int .i64 1001)
        rw [shelf_set _ _ _ _ _ (by omega), HS.out k hlt] at hs
        exact ⟨k + 1, by have := Hk.out; omega, rfl, hs, hb.setCell (p := ⟨w.heap.size, _, none⟩) (Nat.le_refl _) _⟩
      case measure => have := Hk.out; omega
    · obtain rfl : k = 101 := by have := Hk.out; omega
      rw [fill_last] at hkb
      clear HF HS Hk hlt
      go_wp2_with (refine wpList_makeMap rfl 116 rfl ?_)
      have hmp := MapIs.new wr (fun p : Int × Int => Value.agg #[.int .i64 p.1, .int .i64 p.2])
      have hne : w.heap.size < wr.heap.size := hkb.lt
      generalize hN : wr.heap.size = M at *
      rw [← hN] at hmp
      have hkb := hkb.alloc (.map #[] 0)
      have hb := hb.alloc (by omega) (.map #[] 0)
      have HN := Lib.hid hN; clear hN
      generalize wr.alloc (.map #[] 0) = w2 at *
      rw [HN.out] at hmp
      clear HN
      go_loopg [30] xs.length (fun g i wr => ∃ k : Nat, k + g = xs.length ∧ i = .int .i64 k ∧ Blk wr w.heap.size 111 (shelfCells (.slice A xs.length c) (leastUpto xs k) (.slice none 0 0)) ∧
        MapIs wr M (fun p : Int × Int => Value.agg #[.int .i64 p.1, .int .i64 p.2]) (entries (firstUpto xs k)) ∧ Below w.heap.size w wr)
      case atStart => exact ⟨0, by omega, rfl, hkb, hmp, hb⟩
      case round =>
        clear hkb hmp hb
        obtain ⟨k, hk, rfl, hkb, hmp, hb⟩ := hrel
        have Hk := Lib.hid hk; clear hk
        by_cases hlt : k < xs.length
        · have hgk := not_lotBad.1 (Hg.out k hlt)
          obtain ⟨b, o, rfl, hbb, ha1, ha2⟩ := (h.below hb).pair hlt
          have HE := Lib.hid (entries_kept xs k)
          have HP := Lib.hid (entries_put xs k)
          have HX : Hid (leastUpto xs (k + 1) = leastStep (leastUpto xs k) (lotAt xs k)) := rfl
          have hll := leastUpto_length xs k
          unfold lotAt leastStep at *
          generalize hx : xs[k]?.getD (0, 0) = x at *
          have Hx2 := Lib.hid hx; clear hx
          obtain ⟨a1, a2⟩ := x
          dsimp only at hgk ha1 ha2
          obtain ⟨s, rfl⟩ := Int.eq_ofNat_of_zero_le hgk.1
          have Hll := Lib.hid hll; clear hll
          go_upto_region 11 with (fail)
          have hkb := hkb.alloc (Obj.cells #[Value.int IntKind.i64 s, Value.int IntKind.i64 a2] 67)
          have hMR := hmp.lt
          have hmp := hmp.alloc (Obj.cells #[Value.int IntKind.i64 s, Value.int IntKind.i64 a2] 67)
          have hlb := Blk.new wr 67 #[Value.int IntKind.i64 s, Value.int IntKind.i64 a2]
          have hgt := hb.size
          have hb := hb.alloc (by omega) (Obj.cells #[Value.int IntKind.i64 s, Value.int IntKind.i64 a2] 67)
          generalize wr.heap.size = R at *
          generalize wr.alloc (Obj.cells #[Value.int IntKind.i64 s, Value.int IntKind.i64 a2] 67) = w3 at *
          obtain ⟨q1, q2, q3, q4⟩ := hlb.two
          have hcl := (hkb.cell (1 + s)).trans (shelf_least _ _ _ s (by have := Hll.out; omega))
          have hfl := hkb.frozen (1 + s)
          have d1 := fun u : BW w3 => u.some_ q1
          have d2 := fun u : BW w3 => u.some_ q2
          have d3 := fun u : BW w3 => u.some_ hcl
          refine wp_region_bw_tail 16 (by kernel_rfl) (by kernel_rfl) ?_
          simp only [List.take_succ_cons, List.take_zero, List.drop_succ_cons, List.drop_zero]
          repeat (go_big_quiet_step (fail))
          refine wpQuiet_nil ?_
          intro wq hwq
          have hbq := bw_out hwq
          clear hwq
          try dsimp only
          clear d1 d2 d3
          have hkb := hkb.kept hbq
          have hlb := hlb.kept hbq
          have hmp := hmp.kept hbq
          have hfl := hkb.frozen (1 + s)
          have hcl := (hkb.cell (1 + s)).trans (shelf_least _ _ _ s (by have := Hll.out; omega))
          have hb := hb.trans (hbq.mono hb.size)
          clear hbq q1 q2 q3 q4
          go_upto_region 12 with (fail)
          have hv : leastUpto xs (k + 1) = (leastUpto xs k).set s (if a2 < (leastUpto xs k)[s]?.getD 0 then a2 else (leastUpto xs k)[s]?.getD 0) := by
            rw [HX.out]
            dsimp only [Int.toNat_natCast]
            congr 1
            split <;> omega
          have hkb := hkb.set_ (1 + s) (.int .i64 (if a2 < (leastUpto xs k)[s]?.getD 0 then a2 else (leastUpto xs k)[s]?.getD 0))
          rw [shelf_set _ _ _ _ _ (by have := Hll.out; omega), ← hv] at hkb
          have hlb := hlb.far (p := ⟨w.heap.size, 1 + s, none⟩) (by dsimp only; omega) (.int .i64 (if a2 < (leastUpto xs k)[s]?.getD 0 then a2 else (leastUpto xs k)[s]?.getD 0))
          have hmp := hmp.set_ (p := ⟨w.heap.size, 1 + s, none⟩) (by dsimp only; omega) (.int .i64 (if a2 < (leastUpto xs k)[s]?.getD 0 then a2 else (leastUpto xs k)[s]?.getD 0))
          have hb := hb.setCell (p := ⟨w.heap.size, 1 + s, none⟩) (Nat.le_refl _) (.int .i64 (if a2 < (leastUpto xs k)[s]?.getD 0 then a2 else (leastUpto xs k)[s]?.getD 0))
          generalize wq.setCell ⟨w.heap.size, 1 + s, none⟩ (.int .i64 (if a2 < (leastUpto xs k)[s]?.getD 0 then a2 else (leastUpto xs k)[s]?.getD 0)) = w4 at *
          clear hv hcl
          generalize (if a2 < (leastUpto xs k)[s]?.getD 0 then a2 else (leastUpto xs k)[s]?.getD 0) = mv at *
          obtain ⟨q1, q2, q3, q4⟩ := hlb.two
          have hlk := entries_look (firstUpto xs k) (s, a2)
          generalize hF : (firstUpto xs k).any (fun p => decide (p.1 = ((s : Int), a2))) = bF at *
          have HF2 := Lib.hid hF; clear hF
          have Hlk := Lib.hid hlk; clear hlk
          go_upto_region 13 with (refine wpList_map_lookup rfl (.tmp 52) (.tmp 53) 116 true rfl Try.lotKeys Try.underlying116 Try.zero3 hmp (s, a2) rfl rfl ?_)
          rw [Hlk.out.2]
          clear Hlk
          cases bF
          · have hP := HP.out rfl
            go_wp2_with (refine wpList_map_update rfl (.tmp 59) (.tmp 60) (.tmp 61) 116 rfl Try.lotKeys Try.underlying116 hmp (s, a2) (.int .i64 k) rfl rfl rfl ?_; intro w5 hmp5 ho5)
            rw [← hP] at hmp5
            have hkb := ho5.blk hkb (by omega)
            have hb := hb.trans (ho5.below (by omega))
            clear hmp ho5 hP
            go_roundg (gk - 1)
            case measure => have := Hk.out; omega
            case rel => exact ⟨k + 1, by have := Hk.out; omega, by go_num, hkb, hmp5, hb⟩
          · have hP := HE.out rfl
            rw [← hP] at hmp
            go_wp2
            go_roundg (gk - 1)
            case measure => have := Hk.out; omega
            case rel => exact ⟨k + 1, by have := Hk.out; omega, by go_num, hkb, hmp, hb⟩
        · obtain rfl : k = xs.length := by have := Hk.out; omega
          clear Hk hlt
          have Hsz := Lib.hid (leastUpto_length xs xs.length)
          have hrg := hkb.range
          have hsz : (Try.prog.info? 108).map (·.size) = some (i64s (leastUpto xs xs.length)).length := by
            rw [show (i64s (leastUpto xs xs.length)).length = 101 from by rw [i64s, List.length_map]; exact Hsz.out]; kernel_rfl
          go_upto_region 17 with (refine wpList_load_mid rfl 108 (.tmp 65) rfl w.heap.size 1 rfl _ _ hrg Try.underlying108 rfl hsz ?_)
          have Hok := Lib.hid (fun k (hk : k ≤ 101) => okChain (F := firstUpto xs xs.length) (okLeast_upto Hg.out xs.length (Nat.le_refl _)) k hk)
          have HokL := Lib.hid (okLeast_upto Hg.out xs.length (Nat.le_refl _))
          have Hun : Hid (∀ s, chainUpto (leastUpto xs xs.length) (firstUpto xs xs.length) (s + 1) = if (leastUpto xs xs.length)[s]?.getD 0 = 1001 then chainUpto (leastUpto xs xs.length) (firstUpto xs xs.length) s else ((s : Int), (leastUpto xs xs.length)[s]?.getD 0, (firstIn (firstUpto xs xs.length) ((s : Int), (leastUpto xs xs.length)[s]?.getD 0) : Int)) :: popAll ((s : Int), (leastUpto xs xs.length)[s]?.getD 0, (firstIn (firstUpto xs xs.length) ((s : Int), (leastUpto xs xs.length)[s]?.getD 0) : Int)) (chainUpto (leastUpto xs xs.length) (firstUpto xs xs.length) s)) := fun _ => rfl
          have Hlk := Lib.hid (entries_look (firstUpto xs xs.length))
          generalize entries (firstUpto xs xs.length) = E at *
          generalize leastUpto xs xs.length = L at *
          generalize firstUpto xs xs.length = F at *
          clear hrg hsz
          go_loopg [67] 101 (fun g i wr => ∃ (k : Nat) (v3 : Value), k + g = 101 ∧ i = .int .i64 k ∧ Blk wr w.heap.size 111 (shelfCells (.slice A xs.length c) L v3) ∧
            wr.ownsRow (M + 1) 83 3 v3 (chainUpto L F k).length (tripleCells (chainUpto L F k).reverse) ∧
            MapIs wr M (fun p : Int × Int => Value.agg #[.int .i64 p.1, .int .i64 p.2]) E ∧ Below w.heap.size w wr)
          case atStart => exact ⟨0, .slice none 0 0, by omega, rfl, hkb, World.ownsRow_nil _ _ _ _, hmp, hb⟩
          case round =>
            clear hkb hmp hb
            obtain ⟨k, v3, hk, rfl, hkb, hown, hmp, hb⟩ := hrel
            have Hk := Lib.hid hk; clear hk
            by_cases hlt : k < 101
            · have hx1 : (Try.prog.info? 2).map (·.size) = some 1 := by kernel_rfl
              go_upto_region 19 with (refine wpList_index_ints rfl (.tmp 66) (.tmp 67) 108 rfl Try.underlying108 Try.underlying2 hx1 L k hlt Hsz.out rfl rfl ?_)
              by_cases hn : L[k]?.getD 0 = 1001
              · have hE := (Hun.out k).trans (if_pos hn)
                rw [← hE] at hown
                go_wp2
                go_roundg (gk - 1)
                case measure => have := Hk.out; omega
                case rel => exact ⟨k + 1, v3, by have := Hk.out; omega, by go_num, hkb, hown, hmp, hb⟩
              · have hE := Lib.hid ((Hun.out k).trans (if_neg hn))
                have hp := HokL.out k hlt
                have HK := Lib.hid (Hlk.out (k, L[k]?.getD 0)).1
                generalize L[k]?.getD 0 = p at *
                generalize firstIn F (k, p) = fi at *
                have Hp := Lib.hid hp; clear hp
                go_upto_region 21 with (fail)
                have Hn := Lib.hid hn; clear hn
                have hgt := hb.size
                have hMR := hmp.lt
                have hkb := hkb.alloc (Obj.cells #[Value.int IntKind.i64 k, Value.int IntKind.i64 p] 67)
                have hmp := hmp.alloc (Obj.cells #[Value.int IntKind.i64 k, Value.int IntKind.i64 p] 67)
                have hlb := Blk.new wr 67 #[Value.int IntKind.i64 k, Value.int IntKind.i64 p]
                have hown := hown.alloc (Obj.cells #[Value.int IntKind.i64 k, Value.int IntKind.i64 p] 67)
                have hb := hb.alloc (by omega) (Obj.cells #[Value.int IntKind.i64 k, Value.int IntKind.i64 p] 67)
                generalize wr.heap.size = R at *
                generalize wr.alloc (Obj.cells #[Value.int IntKind.i64 k, Value.int IntKind.i64 p] 67) = w3 at *
                go_cut [13] (fun q wx => ∃ g : Nat, q = .pointer (some ⟨g, 0, none⟩) ∧ w3.heap.size ≤ g ∧ Blk wx g 83 #[.int .i64 k, .int .i64 p, .int .i64 fi] ∧ Below w3.heap.size w3 wx)
                case first =>
                  obtain ⟨q1, q2, q3, q4⟩ := hlb.two
                  have hr1 := (hmp.of_block (w' := w3.drew) rfl).lookup Try.lotKeys Try.underlying116 Try.zero3 ((k : Int), p) false
                  have hr2 := (hmp.of_block (w' := (w3.alloc (Obj.cells #[Value.int IntKind.i64 0, Value.int IntKind.i64 0, Value.int IntKind.i64 0] 83)).drew) (Below.heap_alloc w3 _ _ hmp.lt)).lookup Try.lotKeys Try.underlying116 Try.zero3 ((k : Int), p) false
                  obtain ⟨r1, r2, r3, r4⟩ := (hlb.alloc (Obj.cells #[Value.int IntKind.i64 0, Value.int IntKind.i64 0, Value.int IntKind.i64 0] 83)).two
                  simp only [HK.out, if_false, Bool.false_eq_true] at hr1 hr2
                  go_region
                  all_goals
                    go_wp2_with fail
                    go_meet
                    exact ⟨_, rfl, Nat.le_refl _, Blk.new w3 83 _, ((Below.refl _ _).alloc (Nat.le_refl _) _).drew⟩
                case rest =>
                  obtain ⟨g, rfl, hgw, hnb, hbx⟩ := hcut
                  have hlb := hlb.lt
                  have hkb := hkb.kept hbx
                  have hmp := hmp.kept hbx
                  have hown := own_below_kept hown hbx (Nat.le_refl _)
                  have hb := hb.trans (hbx.mono hb.size)
                  clear hbx
                  have hch := hkb.cell 102
                  rw [shelf_chain _ _ _ Hsz.out] at hch
                  have hst0 := Lib.hid (Hok.out k (by omega))
                  have HSl := Lib.hid (chainUpto_length L F k)
                  generalize hS0 : chainUpto L F k = S0 at *
                  have Hnx : Hid (okCorner ((k : Int), p, (fi : Int))) := ⟨by dsimp only; omega, by dsimp only; omega, Hp.out⟩
                  clear HK
                  obtain ⟨A3, c3, rfl, hr3, hm3, hz3, hlc3, hc3⟩ := own_reads hown
                  go_upto_region 23 with (fail)
                  clear hr3 hm3 hz3 hlc3 hc3 hch
                  go_loopg [14] S0.length (fun m n wy => ∃ (st : List Corner) (v3 : Value), m = st.length ∧ n = .int .i64 st.length ∧ Blk wy w.heap.size 111 (shelfCells (.slice A xs.length c) L v3) ∧
                    wy.ownsRow (M + 1) 83 3 v3 st.length (tripleCells st.reverse) ∧ MapIs wy M (fun p : Int × Int => Value.agg #[.int .i64 p.1, .int .i64 p.2]) E ∧ Blk wy g 83 #[.int .i64 k, .int .i64 p, .int .i64 fi] ∧
                    popAll ((k : Int), p, (fi : Int)) st = popAll ((k : Int), p, (fi : Int)) S0 ∧ (∀ c ∈ st, okCorner c) ∧ Below w.heap.size w wy)
                  case atStart => exact ⟨S0, _, rfl, rfl, hkb, hown, hmp, hnb, rfl, hst0.out, hb⟩
                  case round =>
                    clear hkb hown hmp hnb hst0 hb
                    obtain ⟨st, v3, rfl, rfl, hkb, hown, hmp, hnb, hpop, hok, hb⟩ := hrel
                    have Hpop := Lib.hid hpop; clear hpop
                    have Hst := Lib.hid hok; clear hok
                    obtain ⟨A3, c3, rfl, hr3, hm3, hz3, hlc3, hc3⟩ := own_reads hown
                    have hch := hkb.cell 102
                    rw [shelf_chain _ _ _ Hsz.out] at hch
                    have hfr := hkb.frozen 102
                    go_upto_region 23 with (fail)
                    go_cut [14, 108] (fun n v wx => n = .int .i64 st.length ∧ v = .bool (topGoes ((k : Int), p, (fi : Int)) st) ∧ Below wr.heap.size wr wx)
                    case first =>
                      by_cases h1 : 1 < st.length
                      · obtain ⟨q, p2, r, rfl⟩ : ∃ q p2 r, st = q :: p2 :: r := by
                          rcases st with _ | ⟨q, _ | ⟨p2, r⟩⟩
                          · simp at h1
                          · simp at h1
                          · exact ⟨q, p2, r, rfl⟩
                        have hq := Hst.out q (by simp)
                        have hp2 := Hst.out p2 (by simp)
                        have he1 : ((q :: p2 :: r).reverse)[r.length]?.getD (0, 0, 0) = p2 := by simp
                        have he2 : ((q :: p2 :: r).reverse)[r.length + 1]?.getD (0, 0, 0) = q := by simp
                        obtain ⟨b3, o3, rfl, hb3, t1, t2, t3⟩ := hr3.triple (k := r.length) (by simp; omega)
                        obtain ⟨b4, o4, h4, hb4, t4, t5, t6⟩ := hr3.triple (k := r.length + 1) (by simp)
                        cases h4
                        rw [he1] at t1 t2 t3
                        rw [he2] at t4 t5 t6
                        clear he1 he2
                        have Hcall := Lib.hid (fun u : BW wr => calls_bw u (below_any p2 q ((k : Int), p, (fi : Int)) hp2 hq Hnx.out u.w))
                        unfold cornerV at Hcall
                        obtain ⟨n1, n2, n3, n4, n5, n6⟩ := hnb.three
                        have hlen : (q :: p2 :: r).length = r.length + 2 := by simp
                        have htop : topGoes ((k : Int), p, (fi : Int)) (q :: p2 :: r) = !belowC p2 q ((k : Int), p, (fi : Int)) := rfl
                        clear hr3 hown hkb hz3
                        rw [hlen] at hch hm3 hlc3 h1 ⊢
                        have hlen := Lib.hid hlen
                        have Htop := Lib.hid htop; clear htop
                        generalize belowC p2 q ((k : Int), p, (fi : Int)) = bb at *
                        obtain ⟨q1, q2, q3⟩ := q
                        obtain ⟨p1, p2, p3⟩ := p2
                        dsimp only at t1 t2 t3 t4 t5 t6 Hcall
                        generalize hm0 : r.length = m at *
                        have Hm := Lib.hid hm0; clear hm0
                        rw [show ((m + 2 : Nat) : Int) = (m : Int) + 2 from rfl]
                        have hg1 : (1 : Int) < (m : Int) + 2 := by omega
                        have hmb : m ≤ 9223372036854775805 := by have := hm3; simp only [maxLen] at this; omega
                        have d1 := fun u : BW wr => u.some_ t1
                        have d2 := fun u : BW wr => u.some_ t2
                        have d3 := fun u : BW wr => u.some_ t3
                        have d4 := fun u : BW wr => u.some_ t4
                        have d5 := fun u : BW wr => u.some_ t5
                        have d6 := fun u : BW wr => u.some_ t6
                        have d7 := fun u : BW wr => u.some_ n1
                        have d8 := fun u : BW wr => u.some_ n2
                        have d9 := fun u : BW wr => u.some_ n3
                        have d10 := fun u : BW wr => u.some_ hch
                        refine wp_region_bw (by kernel_rfl) (by kernel_rfl) ?_
                        repeat (go_big_quiet_step ((go_at_call 84; exact Hcall.out _)))
                        refine wpQuiet_nil ?_
                        intro wq hwq
                        have hbq := bw_out hwq
                        clear hwq
                        try dsimp only
                        go_wp2_with fail
                        go_meet
                        exact ⟨by rw [hlen.out, ← Hm.out]; rfl, by rw [Htop.out], hbq⟩
                      · have Htop := Lib.hid (topGoes_short ((k : Int), p, (fi : Int)) _ h1)
                        have hg1 : ¬ (1 : Int) < (st.length : Int) := by omega
                        refine wp_region_bw (by kernel_rfl) (by kernel_rfl) ?_
                        repeat (go_big_quiet_step (fail))
                        refine wpQuiet_nil ?_
                        intro wq hwq
                        have hbq := bw_out hwq
                        clear hwq
                        try dsimp only
                        go_wp2_with fail
                        go_meet
                        exact ⟨rfl, by rw [Htop.out], hbq⟩
                    case rest =>
                      obtain ⟨rfl, rfl, hbx⟩ := hcut
                      have hkb := hkb.kept hbx
                      have hmp := hmp.kept hbx
                      have hnb := hnb.kept hbx
                      have hown := own_below_kept hown hbx (Nat.le_refl _)
                      have hb := hb.trans (hbx.mono hb.size)
                      clear hbx hch hfr hr3 hz3
                      have hch := hkb.cell 102
                      rw [shelf_chain _ _ _ Hsz.out] at hch
                      have hfr := hkb.frozen 102
                      cases ht : topGoes ((k : Int), p, (fi : Int)) st
                      · have hpp := (popAll_stop _ _ ht).symm.trans Hpop.out
                        have Hpp := Lib.hid hpp
                        clear ht hpp
                        go_upto_region 26 with (fail)
                        obtain ⟨n1, n2, n3, n4, n5, n6⟩ := hnb.three
                        obtain ⟨i0, hi0, hz0, hz1, hz2⟩ := info_parts Try.info83
                        have hlt := hmp.lt
                        have hbs := hb.size
                        have hsl : st.length ≤ 101 := by
                          rw [Hpp.out]
                          obtain ⟨r, hr⟩ := popAll_suffix ((k : Int), p, (fi : Int)) S0
                          have := congrArg List.length hr
                          have := HSl.out
                          simp at *
                          omega
                        have hs1 : st.length + 1 ≤ maxLen := by simp only [maxLen]; omega
                        have hs2 : (st.length + 1) * 24 ≤ 140737488355328 := by omega
                        have hr1 := (hkb.alloc (.cells #[.int .i64 k, .int .i64 p, .int .i64 fi] 83))
                        have hr2 : M + 1 ≤ (wc.alloc (.cells #[.int .i64 k, .int .i64 p, .int .i64 fi] 83)).drew.heap.size := by
                          show M + 1 ≤ (wc.alloc (.cells #[.int .i64 k, .int .i64 p, .int .i64 fi] 83)).heap.size
                          rw [World.size_alloc]; omega
                        have hr3 : (wc.alloc (.cells #[.int .i64 k, .int .i64 p, .int .i64 fi] 83)).drew.ownsRow (M + 1) 83 3 (.slice A3 st.length c3) st.length (tripleCells st.reverse) := (hown.alloc _).drew
                        have hr4 : Below w.heap.size w (wc.alloc (.cells #[.int .i64 k, .int .i64 p, .int .i64 fi] 83)).drew := (hb.alloc hb.size _).drew
                        have hr5 := MapIs.of_block (w' := (wc.alloc (.cells #[.int .i64 k, .int .i64 p, .int .i64 fi] 83)).drew) hmp (Below.heap_alloc wc _ _ hmp.lt)
                        have hr6 : Blk (wc.alloc (.cells #[.int .i64 k, .int .i64 p, .int .i64 fi] 83)).drew w.heap.size 111 _ := hr1
                        have hc6 := (hr1.cell 102).trans (shelf_chain _ _ _ Hsz.out)
                        clear hr1
                        go_region_law (refine step_append_own rfl (.tmp 128) (.tmp 130) 109 rfl (M + 1) 83 i0 _ 3 24 Try.underlying109 hi0 hz0 hz1 hz2 rfl (by decide) (.slice A3 st.length c3) st.length (tripleCells st.reverse) rfl hr3 ⟨wc.heap.size, 0, none⟩ 1 1 [.int .i64 k, .int .i64 p, .int .i64 fi] rfl rfl (cells_alloc _ _ _) (triple_oneCell [((k : Int), p, (fi : Int))]) hs1 hs2 hr2 ?_; intro v5 w5 hown5 hg5; obtain ⟨A5, c5, rfl, _⟩ := own_reads hown5; have hb5 := own_below hr3 hg5 hr2; have hk5 := hr6.below hb5 (by omega); have hc5 := (hk5.cell 102).trans (shelf_chain _ _ _ Hsz.out); have hf5 := hk5.frozen 102)
                        all_goals
                          go_wp2
                          go_roundg (100 - k)
                          case measure => have := Hk.out; omega
                          case rel =>
                            have hE2 : chainUpto L F (k + 1) = ((k : Int), p, (fi : Int)) :: st := by rw [hE.out, Hpp.out]
                            have hk6 := hk5.set_ 102 (.slice A5 (st.length + 1) c5)
                            rw [shelf_set_chain _ _ _ _ Hsz.out] at hk6
                            have ho6 := ownsRow_setCell_below hown5 (a := ⟨w.heap.size, 102, none⟩) (by dsimp only; omega) (.slice A5 (st.length + 1) c5)
                            have hm6 := (hr5.below hb5 (by omega)).set_ (p := ⟨w.heap.size, 102, none⟩) (by dsimp only; omega) (.slice A5 (st.length + 1) c5)
                            have hb6 := (hr4.trans (hb5.mono (by omega))).setCell (p := ⟨w.heap.size, 102, none⟩) (Nat.le_refl _) (.slice A5 (st.length + 1) c5)
                            refine ⟨k + 1, _, by omega, by go_num, hk6, ?_, hm6, hb6⟩
                            rw [hE2, List.reverse_cons, tripleCells_append]
                            exact ho6
                      · obtain ⟨q, l, rfl, hpq⟩ := popAll_go _ _ ht
                        clear ht
                        obtain ⟨g3, rfl⟩ := own_form hown
                        rw [List.reverse_cons, tripleCells_append] at hown
                        have hpo := ownsRow_pop (by rw [tripleCells_length, List.length_reverse]) hown
                        have hlen : (q :: l).length = l.length + 1 := rfl
                        rw [hlen] at hch hm3 hlc3 ⊢
                        simp only [maxLen] at hm3 hc3
                        go_wp2
                        go_roundg l.length
                        case measure => exact Nat.lt_succ_self _
                        case rel =>
                          have hk6 := hkb.set_ 102 (.slice (some ⟨g3, 0, none⟩) l.length c3)
                          rw [shelf_set_chain _ _ _ _ Hsz.out] at hk6
                          have hne6 := hmp.lt
                          exact ⟨l, _, rfl, rfl, hk6, ownsRow_setCell_below hpo (by dsimp only; omega) _, hmp.set_ (by dsimp only; omega) _, hnb.far (by dsimp only; omega) _, hpq.symm.trans Hpop.out, fun c hc => Hst.out c (List.mem_cons_of_mem _ hc), hb.setCell (Nat.le_refl _) _⟩
            · obtain rfl : k = 101 := by have := Hk.out; omega
              go_wp2
              exact Hpost.out _ _ _ _ (by omega) rfl hkb hown hb
end Go.Proofs.Ytfjnnegaljfkgaa
