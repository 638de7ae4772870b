/- The reference: Can, end, Span, Apart: lemmas for the rows of this seat. No conditions. -/
import Derived.Test.YtkbcogaodnmdoaaProg
import Derived.WalkKit
import Derived.WalkSpells
import Derived.WalkLawsBesides
import Derived.Lib.Hide
import Derived.Deep.AppendLies
import Derived.Deep.Draws
import Derived.Maps.AppendAt
import Derived.RegionTactic
import Derived.OwnWalk
import Derived.Deep.QuietTactic
import Derived.BigQuiet
import Derived.Deep.DeepFit
import Derived.Deep.LoopGhost
import Derived.Deep.DeepMust
import Derived.Deep.DeepCutAuto
import Derived.StillTail
import Derived.Deep.Quiet
import Derived.Deep.RegionHeld3
import Derived.Deep.RegionWith
import Derived.Deep.RegionLaw
import Derived.Maps.OwnOps
import Derived.Maps.OwnSet
import Derived.Maps.OwnRows
import Derived.Maps.RangeWalk
import Derived.Carry
import Derived.Test.YtkbcogaodnmdoaaBase
import Derived.Test.YtkbcogaodnmdoaaMaps
import Derived.Test.YtkbcogaodnmdoaaKeys
import Derived.Test.YtkbcogaodnmdoaaS1
import Derived.Test.YtkbcogaodnmdoaaS5
import Derived.Test.YtkbcogaodnmdoaaS14
import Derived.Test.YtkbcogaodnmdoaaV
import Derived.Test.YtkbcogaodnmdoaaTab
import Derived.Test.YtkbcogaodnmdoaaE1
import Derived.Test.YtkbcogaodnmdoaaE2
import Derived.Test.YtkbcogaodnmdoaaE3
import Derived.Test.YtkbcogaodnmdoaaE4
import Derived.Test.YtkbcogaodnmdoaaE5
import Derived.Test.YtkbcogaodnmdoaaE6
set_option linter.all false
namespace Go.Proofs.Ytkbcogaodnmdoaa
open Go.RowKit
/-! ## The reference: Can, end, Span, Apart -/
def canP (N : Nat) (m : Mx) : Bool := (List.range N).all fun i => decide (0 ≤ m i i)
theorem canP_no {N : Nat} {m : Mx} {i : Nat} (hi : i < N) (h : m i i < 0) : canP N m = false := by
  unfold canP
  rw [List.all_eq_false]
  exact ⟨i, List.mem_range.2 hi, by simp; omega⟩
theorem canP_yes {N : Nat} {m : Mx} (h : ∀ i, i < N → 0 ≤ m i i) : canP N m = true := by
  unfold canP
  rw [List.all_eq_true]
  exact fun i hi => by simpa using h i (List.mem_range.1 hi)
section
variable {N : Nat} {m : Mx} {w0 : World} {A : List Chunk} {R : List Chunk} {x : JX N}
theorem j_out {b cap : Nat} {gs : List Nat} (h : gs.length = N) {i : Nat} (hi : i < N) : CellAt w0 (JCh N m ⟨(gs, .slice (some ⟨b, 0, none⟩) N cap), h⟩) b (0 + i * 1) (.slice (some ⟨gAt gs i, 0, none⟩) N N) := by
  unfold JCh
  exact ld_out (by show i < gs.length; omega)
theorem j_row {v : Value} {gs : List Nat} (h : gs.length = N) {i k : Nat} (hi : i < N) (hk : k < N) : CellAt w0 (JCh N m ⟨(gs, v), h⟩) (gAt gs i) (0 + k * 1) (.int .i64 (m i k)) := by
  unfold JCh
  exact ld_rows (by show i < gs.length; omega) hk
theorem JCh_mut (x : JX N) : ∀ c ∈ JCh N m x, c.mut = true := fun c hc => by
  rcases List.mem_append.1 hc with h | h
  · exact rowsCh_mut N m x.1.1 c h
  · rw [List.mem_singleton] at h; subst h; rfl
theorem JCh_form {w : World} (hs : St w0 (JCh N m x ++ A) w) (hN : 0 < N) : ∃ b cap, x.1.2 = .slice (some ⟨b, 0, none⟩) N cap := by
  have h := hs.all _ (List.mem_append_left _ (List.mem_append_right _ (.head _)))
  obtain ⟨B, cp, e, hB⟩ := own_form h
  obtain ⟨b, rfl⟩ := hB hN
  exact ⟨b, cp, e⟩
end
section
variable {P : Program} {w0 : World} {n : Nat} {ds : List Deferred} {ops : List Oper} {o : Oper} {os : List Oper} {ks : List Kind} {ts : TS} {A : List Chunk} {K : TS → List Chunk → Prop} {d : Tmp} {f : FuncId} {xa : Array Operand} {ats : Array TypeId} {avs : List Value}
/-- A call that hands back a table. -/
theorem ot_call_j {N : Nat} {m : Mx} (hN : 0 < N) (hh : ks.headD .wr ≠ .rd) (hop : o.op = .call { callee := .value (.func f), args := xa, argTypes := ats }) (hd : o.dst = some d) (hw : wantB ops ts o = some true) (hb : hasBody P f = true) (ha : EvL ts xa.toList avs)
    (hc : ∀ w, St w0 A w → Calls P f avs.toArray w fun e w' => ∃ x : JX N, e = .returned x.1.2 ∧ St w (JCh N m x) w')
    (hk : ∀ gs (h : gs.length = N) b cap, OT P w0 n ds ops os ks.tail ((d, .slice (some ⟨b, 0, none⟩) N cap) :: ts) (A ++ JCh N m ⟨(gs, .slice (some ⟨b, 0, none⟩) N cap), h⟩) K) : OT P w0 n ds ops (o :: os) ks ts A K := by
  refine ot_call_c hh hop hd hw hb ha hc ?_
  rintro w e w' hs ⟨⟨⟨gs, v⟩, hl⟩, rfl, hr⟩
  have h1 := hs.join hr (JCh_mut _)
  obtain ⟨b, cap, e1⟩ := JCh_form h1 hN
  dsimp only at e1 hl
  subst e1
  exact ⟨_, _, rfl, hr.base, h1.perm List.perm_append_comm, hk gs hl b cap⟩
end
section
variable (rlo rhi : Int) (L : Nat) (Al : Option Addr) (c : Nat) (S : List (List T3)) (w : World) (hN : NestR w 3 Al (nestOf S)) (hO : Okb rlo rhi L S)
include hN hO
set_option maxHeartbeats 1000000 in
set_option maxRecDepth 20000 in
theorem can_any (but : Int) (N : Nat) (hNn : N = 1 + L + S.flatten.length) : Calls Try.prog 70 #[bookV rlo rhi L Al S.length c, .int .i64 but] w fun e w' => e = .returned (.bool (canP N (joinP (bnd rlo rhi L S but) N))) ∧ Below w.heap.size w w' := by
  have hjo := fun w1 (h : NestR w1 3 Al (nestOf S)) => joined_any rlo rhi L Al c S w1 h hO but N hNn
  have hl := hO.l
  have ht := hO.t
  unfold bookV at *
  have hN20 : N ≤ 19 ∧ 1 ≤ N := by omega
  clear hO hNn
  generalize joinP (bnd rlo rhi L S but) N = m at *
  refine fn_v Try.tabOk (n := 24) (A := []) Try.func70 rfl rfl (Nat.le_of_ble_eq_true rfl) (St.nil (Below.refl _ _)) ?_
  ((try first | apply tr_v Try.tabOk | apply ot_v Try.tabOk); (conv => whnf); (repeat ((first | (apply VNew.mk; intro g hg) | (apply VLdN.mk; (focus ((repeat (first | (with_reducible apply ldn_blk) | (with_reducible apply ldn_row) | (with_reducible assumption) | (with_reducible apply ldn_skip))); done)); exact rfl)); (conv => whnf))); try (first | apply VStop.mk | apply VCall.stop))
  refine ot_call_j (N := N) (m := m) (by omega) (by decide) rfl rfl rfl (by kernel_rfl) (evl_of rfl) (fun w1 hs => hjo w1 (hs.nest hN)) (fun gs hgs b cap => ?_)
  dsimp only [List.cons_append, List.nil_append]
  ((try first | apply tr_v Try.tabOk | apply ot_v Try.tabOk); (conv => whnf); try (first | apply VStop.mk | apply VCall.stop))
  refine v_loop (fun gm ds ts A => ds = [] ∧ ∃ i, i + gm = N ∧ (∀ j, j < i → 0 ≤ m j j) ∧ A = .blk g 26 [.int .i64 rlo, .int .i64 rhi, .int .i64 L, .slice Al S.length c] :: JCh N m ⟨(gs, .slice (some ⟨b, 0, none⟩) N cap), hgs⟩ ∧ ts = [(5, .slice (some ⟨b, 0, none⟩) N cap), (6, .int .i64 (i : Int))]) N
    (l := [(5, _), (6, _)]) (B := _) ?_ (List.Sublist.refl _) ⟨rfl, 0, by omega, fun j hj => by omega, rfl, rfl⟩ ?_
  · exact ⟨rfl, rfl, trivial⟩
  rintro gm ds ts A ⟨rfl, i, hi, hall, rfl, rfl⟩
  by_cases hlt : i < N
  · by_cases hneg : m i i < 0
    · rw [canP_no hlt hneg]
      ((try first | apply tr_v Try.tabOk | apply ot_v Try.tabOk); (conv => whnf); (repeat ((first | (apply VLd.mk; apply ld_skip; first | exact j_out hgs hlt | exact j_row hgs hlt hlt) | apply VBr.t | (apply v_t; omega) | (apply VIx.mk; exact rfl; omega)); (conv => whnf))); try (first | apply VStop.mk | apply VCall.stop))
      ((apply VRet.mk); refine ret1 (by first | exact .inl rfl | exact .inr rfl) rfl (by exact rv_tmp rfl) ?_; exact fun w h => ⟨rfl, h.base⟩)
    · ((try first | apply tr_v Try.tabOk | apply ot_v Try.tabOk); (conv => whnf); (repeat ((first | (apply VLd.mk; apply ld_skip; first | exact j_out hgs hlt | exact j_row hgs hlt hlt) | (apply VRng.mk; omega) | apply VBr.t | apply VBr.f | (apply v_t; omega) | (apply v_f; omega) | (apply VIx.mk; exact rfl; omega)); (conv => whnf))); try (first | apply VStop.mk | apply VCall.stop))
      exact v_rnd (gm - 1) (by omega) (l := [(5, _), (6, _)]) (B := _) ⟨rfl, rfl, trivial⟩ (List.Sublist.refl _) ⟨rfl, i + 1, by omega, fun j hj => by
        rcases Nat.lt_or_ge j i with h | h
        · exact hall j h
        · obtain rfl : j = i := by omega
          omega, rfl, rfl⟩
  · obtain rfl : N = i := by omega
    rw [canP_yes hall]
    ((try first | apply tr_v Try.tabOk | apply ot_v Try.tabOk); (conv => whnf); (repeat ((first | apply VBr.f | (apply v_f; omega)); (conv => whnf))); try (first | apply VStop.mk | apply VCall.stop))
    ((apply VRet.mk); refine ret1 (by first | exact .inl rfl | exact .inr rfl) rfl (by exact rv_tmp rfl) ?_; exact fun w h => ⟨rfl, h.base⟩)
end
end Go.Proofs.Ytkbcogaodnmdoaa
