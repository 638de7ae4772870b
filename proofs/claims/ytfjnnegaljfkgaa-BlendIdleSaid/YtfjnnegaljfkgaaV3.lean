/- Layer 3, blends: Rows of the calls own: made of a block; a full one appended to: lemmas for the rows of this seat. No conditions. -/
import Derived.WalkKit
import Derived.WalkSpells
import Derived.WalkLawsBesides
import Derived.Lib.Hide
import Derived.Deep.AppendLies
import Derived.Deep.Draws
import Derived.Maps.AppendAt
import Derived.RegionTactic
import Derived.OwnWalk
import Derived.Deep.QuietTactic
import Derived.BigQuiet
import Derived.Deep.DeepFit
import Derived.Deep.LoopGhost
import Derived.Deep.DeepMust
import Derived.Deep.DeepCutAuto
import Derived.StillTail
import Derived.Deep.Quiet
import Derived.Deep.RegionHeld3
import Derived.Deep.RegionWith
import Derived.Deep.RegionLaw
import Derived.Maps.OwnOps
import Derived.Maps.OwnSet
import Derived.Maps.OwnRows
import Derived.Maps.RangeWalk
import Derived.Carry
import Derived.Test.YtfjnnegaljfkgaaBase
import Derived.Test.YtfjnnegaljfkgaaS1
import Derived.Test.YtfjnnegaljfkgaaS5
import Derived.Test.YtfjnnegaljfkgaaS12
import Derived.Test.YtfjnnegaljfkgaaS14
import Derived.Test.YtfjnnegaljfkgaaV
import Derived.Test.YtfjnnegaljfkgaaV2
import Derived.Laws.Small
set_option linter.all false
namespace Go.Proofs.Ytfjnnegaljfkgaa
open Go.RowKit
/-! ## Rows of the call's own: made of a block; a full one appended to -/
section
variable {P : Program} {tab : TT} {w0 w : World} {n : Nat} {r : Option Nat} {ds : List Deferred} {ops : List Oper} {o : Oper} {os : List Oper} {ks : List Kind} {ts : TS} {A : List Chunk} {K : TS → List Chunk → Prop} {Q : PostT} {d : Tmp} {x y : Operand} {t : TypeId} {i i' : TI}
end
/-! ## Late writes to what the reads before them need -/
section
variable {P : Program} {w0 : World} {n : Nat} {ds : List Deferred} {ops : List Oper} {K K' : TS → List Chunk → Prop}
end
section
variable {P : Program} {w0 : World} {n : Nat} {r : Option Nat} {ds : List Deferred} {ts : TS} {A : List Chunk} {Q : PostT}
end
/-! ## Many ranges over functions, one behind the other -/
/-! ## Late writes, up to where all reads are waited for -/
section
variable {P : Program} {w0 : World} {n : Nat} {ds : List Deferred} {ops : List Oper} {K K' : TS → List Chunk → Prop}
end
section
variable {P : Program} {w0 : World} {n : Nat} {r : Option Nat} {ds : List Deferred} {ts : TS} {A : List Chunk} {Q : PostT}
end
/-! ## Booleans compared; what append makes is a slice -/
section
variable {P : Program} {tab : TT} {w0 : World} {n : Nat} {ds : List Deferred} {ops : List Oper} {o : Oper} {os : List Oper} {ks : List Kind} {ts : TS} {A : List Chunk} {K : TS → List Chunk → Prop} {d : Tmp} {x y : Operand} {t u : TypeId} {i i' : TI} {b off : Nat}
theorem ot_appendS {e sz m c : Nat} {v : Value} {xs news : List Value} {sl : Nat} {A'v : Value → List Chunk} (hT : TabOk P tab) (hh : ks.headD .wr = .wr) (hop : o.op = .call { callee := .builtin .append, args := #[x, y], argTypes := #[t, t] }) (hd : o.dst = some d) (hw : wantB ops ts o = some true)
    (hx : evT ts x = some v) (hy : evT ts y = some (.slice (some ⟨b, off, none⟩) m c)) (hi : lookI tab t = some i) (hl : i.d = .sl e) (hi' : lookI tab e = some i') (hsz : i'.size = sz) (h0 : 0 < sz) (hz : i'.zero.length = sz)
    (hc : CellsAt w0 A b off news) (hnl : news.length = m * sz) (h1B : news.all Value.oneCell' = true) (hu : ∀ v', Upd (.own v e sz sl xs) (.own v' e sz (sl + m) (xs ++ news)) A (A'v v')) (h63 : sl + m ≤ 1000000) (hby : i'.bytes ≤ 100000)
    (hk : ∀ B cp, OT P w0 n ds ops os ks.tail ((d, .slice B (sl + m) cp) :: ts) (A'v (.slice B (sl + m) cp)) K) : OT P w0 n ds ops (o :: os) ks ts A K := by
  have h1 : ∀ u ∈ news, u.oneCell' = true := by simpa using h1B
  refine ot_wr hh fun a w hd' => ?_
  unfold wpV
  rw [if_pos (wantB_spec hd' hw), exec_builtin hop, BigFrame.builtin_append]
  obtain ⟨j, z, hj, j1, j2, j3, j4⟩ := (hT e i' hi').info
  have hown := hd'.st.all _ (hu v).mem
  have hmm : (sl + m) * i'.bytes ≤ 1000000 * 100000 := Nat.mul_le_mul h63 hby
  obtain ⟨v', w', hr, h2, h3, h4⟩ := run_append_own (P := P) w w0.heap.size t o.type e j z sz i'.bytes ((hT t i hi).sl hl) hj j3 (by rw [j1, hsz]) j2 (by rw [← hz, ← j4]; simp) h0 v sl xs hown ⟨b, off, none⟩ m c news hnl
    (fun q u hq => by rw [Addr.add_none]; exact hc w hd'.st q u hq) h1 (by unfold maxLen; omega) (by omega) hd'.st.base.size
  simp only [List.map_toArray, List.map_cons, List.map_nil, hd'.ev hx, hd'.ev hy, Sem.run_bind, hr, Result.andThen_ok, Sem.run_pure]
  obtain ⟨B, cp, e1, _⟩ := own_formY h2
  refine ⟨A'v v', (fun e => by cases e), hd'.st.upd (hu v') rfl h3 h2 (append_block (P := P) ((hT t i hi).sl hl) hj j3 (by rw [j1, hsz]) hown hnl (fun q u hq => by rw [Addr.add_none]; exact hc w hd'.st q u hq) h1 (by unfold maxLen; omega) (by rw [j2]; omega) hr), ?_⟩
  rw [hd]
  subst e1
  exact hk B cp
end
/-! ## What makes memory, in any order; then writes, one behind the other -/
section
variable {P : Program} {w0 : World} {n : Nat} {ds : List Deferred} {ops : List Oper} {K : TS → List Chunk → Prop}
/-- What is in one list of slots is in another. -/
def subS (l ts : TS) : Prop := ∀ t v, look l t = some v → look ts t = some v
theorem Gn.weak {k : Bool} {o : Oper} {ts l : TS} {A B : List Chunk} {N : Value → List Chunk → Prop} (hl : subS l ts) (hB : ∀ w, St w0 A w → St w0 B w) (h : Gn P w0 n ds ops k o l B N) : Gn P w0 n ds ops k o ts A N :=
  fun a w hd => h a w ⟨hd.size, fun t v hv => hd.slots t v (hl t v hv), hd.ds, hB w hd.st⟩
end
/-- Each waits for all ahead of it, and writes. -/
def chainB (D : List Nat) (kd : Nat → Kind) : List Nat → List Nat → Bool
  | _, [] => true
  | prev, i :: t => prev.all (depB D i ·) && (match kd i with | .wr => true | _ => false) && chainB D kd (prev ++ [i]) t
section
variable {P : Program} {w0 : World} {n : Nat} {r : Option Nat} {ds : List Deferred} {ts : TS} {A : List Chunk} {Q : PostT}
end
/-! ## Cells stored into a row of one's own -/
section
variable {P : Program} {tab : TT} {w0 : World} {n : Nat} {ds : List Deferred} {ops : List Oper} {o : Oper} {os : List Oper} {ks : List Kind} {ts : TS} {A A' : List Chunk} {K : TS → List Chunk → Prop} {x y : Operand} {t : TypeId} {i : TI} {g off : Nat}
end
/-! ## Trees of orders under the new steps -/
inductive VT (X : Prop) : Prop
  | mk (x : X)
section
variable {P : Program} {w0 : World} {n : Nat} {r : Option Nat} {ds : List Deferred} {ops : List Oper} {K : TS → List Chunk → Prop}
theorem vt_of {X : Prop} (h : VT X) : X := by cases h; assumption
theorem tr_region_treeV {ts : TS} {A : List Chunk} {Q : PostT} {id : Nat} {l : List Oper} (hm : P.follows .mixedOrders = true) (A0 : List Chunk) (hA0 : A0.Sublist A) (R : List Nat) (T : List Nat) (ks : List Kind) (kd : Nat → Kind) (D : List Nat) (hD : (Region.before l.toArray).toList = D) (hd : dstOk n l = true) (hb : treeR l R T ks = true)
    (h : OT P w0 n ds l (pick l R) ks ts A0 fun ts _ => VT (OTX P w0 n ds l A0 kd D T R T ts A fun ts A => Q .normal ds ts A)) :
    Tr P r w0 n (.region id l.toArray true) ds ts A Q := tr_region_tree hm A0 hA0 R T ks kd D hD hd hb (ot_mono (fun _ _ h => vt_of h) h)
theorem otx_oneV {A0 : List Chunk} {kd : Nat → Kind} {D done todo F : List Nat} {x : Nat} {ts : TS} {A : List Chunk} (i : Nat) (hf : frees ops done todo = [i]) (hb : treeB ops D done todo i = true) (hk : kd i ≠ .rd)
    (h : OT P w0 n ds ops [nthO ops i] [kd i] ts A fun ts' A' => A0.Sublist A' ∧ VT (OTX P w0 n ds ops A0 kd D F (done ++ [i]) (todo.erase i) ts' A' K)) : OTX P w0 n ds ops A0 kd D (x :: F) done todo ts A K :=
  otx_one i hf hb hk (ot_mono (fun _ _ h => ⟨h.1, vt_of h.2⟩) h)
theorem otx_twoV {A0 : List Chunk} {kd : Nat → Kind} {D done todo F : List Nat} {x : Nat} {ts : TS} {A : List Chunk} (i j : Nat) (hf : frees ops done todo = [i, j]) (hb : treeB ops D done todo i = true) (hk : kd i ≠ .rd) (hb' : treeB ops D done todo j = true) (hk' : kd j ≠ .rd)
    (h : OT P w0 n ds ops [nthO ops i] [kd i] ts A fun ts' A' => A0.Sublist A' ∧ VT (OTX P w0 n ds ops A0 kd D F (done ++ [i]) (todo.erase i) ts' A' K))
    (h' : OT P w0 n ds ops [nthO ops j] [kd j] ts A fun ts' A' => A0.Sublist A' ∧ VT (OTX P w0 n ds ops A0 kd D F (done ++ [j]) (todo.erase j) ts' A' K)) : OTX P w0 n ds ops A0 kd D (x :: F) done todo ts A K :=
  otx_two i j hf hb hk hb' hk' (ot_mono (fun _ _ h => ⟨h.1, vt_of h.2⟩) h) (ot_mono (fun _ _ h => ⟨h.1, vt_of h.2⟩) h')
end
theorem CellAt.more {w0 : World} {A A' : List Chunk} {b o : Nat} {v : Value} (h : CellAt w0 A b o v) (hs : A.Sublist A') : CellAt w0 A' b o v := fun w hw => h w (hw.sub hs)
/-! ## append([]T{}, x...) -/
section
variable {P : Program} {tab : TT} {w0 w : World} {n : Nat} {r : Option Nat} {ds : List Deferred} {ops : List Oper} {o : Oper} {os : List Oper} {ks : List Kind} {ts : TS} {A : List Chunk} {K : TS → List Chunk → Prop} {Q : PostT} {d : Tmp} {x y : Operand} {t : TypeId} {i i' : TI}
theorem ot_appendE {e sz m c g0 : Nat} {B : Option Addr} {news : List Value} (hT : TabOk P tab) (hh : ks.headD .wr ≠ .rd) (hop : o.op = .call { callee := .builtin .append, args := #[x, y], argTypes := #[t, t] }) (hd : o.dst = some d) (hw : wantB ops ts o = some true)
    (hx : evT ts x = some (.slice (some ⟨g0, 0, none⟩) 0 0)) (hy : evT ts y = some (.slice B m c)) (hi : lookI tab t = some i) (hl : i.d = .sl e) (hi' : lookI tab e = some i') (hsz : i'.size = sz) (hz : i'.zero.length = sz) (hm : 0 < m)
    (hr : ∀ w, St w0 A w → Reads w w.heap.size sz B m news) (h63 : m ≤ 1000000) (hby : i'.bytes ≤ 100000)
    (hk : ∀ g cap, w0.heap.size ≤ g → OT P w0 n ds ops os ks.tail ((d, .slice (some ⟨g, 0, none⟩) m cap) :: ts) (.own (.slice (some ⟨g, 0, none⟩) m cap) e sz m news :: A) K) : OT P w0 n ds ops (o :: os) ks ts A K := by
  refine ot_new (N := fun _ _ => True) (v := undef) hh hd hw fun a w hd' => ?_
  obtain ⟨j, z, hj, j1, j2, j3, j4⟩ := (hT e i' hi').info
  have hrd := hr w hd'.st
  obtain ⟨b, off, rfl, _, hcs⟩ := hrd.2 hm
  have hnews : ∀ q u, news[q]? = some u → w.cell? ((⟨b, off, none⟩ : Addr).add q) = some u := fun q u hq => by rw [Addr.add_none]; exact hcs q u hq
  have hmm : (0 + m) * i'.bytes ≤ 1000000 * 100000 := Nat.mul_le_mul (by omega) hby
  have h2 := run_append_grow (P := P) w t o.type e j z ((hT t i hi).sl hl) hj j3 ⟨g0, 0, none⟩ 0 0 [] (by rw [Nat.zero_mul]; rfl) (fun q u hq => by simp at hq) ⟨b, off, none⟩ m c news (by rw [hrd.1, j1, hsz]) hnews (by omega) (by omega) (growslice_fits (by omega) (by rw [j2]; omega))
  rw [Nat.zero_add] at h2
  have hge := grownCap_ge w m 0 e
  have hcm : grownCap w m 0 e ≤ maxLen := grownCap_le_maxLen w m 0 e (by unfold maxLen; omega)
  have hzs : z.cells.size = sz := by rw [← hz, ← j4]; simp
  generalize grownCap w m 0 e = cap at *
  have hB : ∀ ob, Below w.heap.size w (w.drew.alloc ob) := fun ob => (Below.refl w.heap.size w).drew.alloc (Nat.le_refl _) ob
  refine ⟨_, _, _, ?_, hB (.cells (([] : List Value).toArray ++ news.toArray ++ Builtin.zeroCells z.cells (cap - m)) e), hd'.st.add (c := .own (.slice (some ⟨w.heap.size, 0, none⟩) m cap) e sz m news) (hB (.cells (([] : List Value).toArray ++ news.toArray ++ Builtin.zeroCells z.cells (cap - m)) e)) ?_ (fun b hb => by cases hb; exact Nat.le_refl _), hk w.heap.size cap hd'.st.base.size⟩
  · rw [exec_builtin hop, BigFrame.builtin_append]
    simp only [List.map_toArray, List.map_cons, List.map_nil, hd'.ev hx, hd'.ev hy, Sem.run_bind, h2, Result.andThen_ok, Sem.run_pure]
  · refine ⟨hrd.1, .inr ⟨w.heap.size, cap, _, rfl, hd'.st.base.size, heap_alloc_new w.drew _, hge, hcm, ?_, ?_⟩⟩
    · simp only [Array.size_append, List.size_toArray, size_zeroCells, hzs, hrd.1, List.length_nil, Nat.zero_add]
      rw [← Nat.add_mul]
      congr 1; omega
    · have e1 : (([] : List Value).toArray ++ news.toArray ++ Builtin.zeroCells z.cells (cap - m)).toList = news ++ (Builtin.zeroCells z.cells (cap - m)).toList := by simp
      rw [e1]
      exact List.take_left' hrd.1
end
/-! ## One cell written -/
/-! ## A cut: what is known behind a piece of code, in whatever order it came -/
inductive Rem (c : Chunk) : List Chunk → List Chunk → Prop
  | here {A : List Chunk} : Rem c (c :: A) A
  | there {d : Chunk} {A B : List Chunk} (h : Rem c A B) : Rem c (d :: A) (d :: B)
inductive Pick : List Chunk → List Chunk → Prop
  | nil {A : List Chunk} : Pick [] A
  | cons {c : Chunk} {A A' B : List Chunk} (h : Rem c A A') (hB : Pick B A') : Pick (c :: B) A
theorem Rem.perm {c : Chunk} : ∀ {A B : List Chunk}, Rem c A B → A.Perm (c :: B)
  | _, _, .here => .refl _
  | _, _, .there h => (h.perm.cons _).trans (.swap _ _ _)
theorem Pick.perm : ∀ {B A : List Chunk}, Pick B A → ∃ C, A.Perm (B ++ C)
  | _, A, .nil => ⟨A, .refl _⟩
  | _, _, .cons h hB => by
    obtain ⟨C, h2⟩ := hB.perm
    exact ⟨C, h.perm.trans (h2.cons _)⟩
theorem Pick.st {B A : List Chunk} {w0 w : World} (h : Pick B A) (hs : St w0 A w) : St w0 B w := by
  obtain ⟨C, h2⟩ := h.perm
  exact (hs.perm h2).sub (List.sublist_append_left _ _)
inductive VJ {X : Type} (J : X → TS × List Chunk) (ds0 ds : List Deferred) (ts : TS) (A : List Chunk) : Prop
  | mk (x : X) (h1 : ds = ds0) (h2 : subT (J x).1 ts) (h3 : Pick (J x).2 A)
section
variable {P : Program} {w0 : World} {n : Nat} {r : Option Nat} {ds : List Deferred} {ts : TS} {A : List Chunk} {Q : PostT}
theorem tr_pick {c : Code} {l : TS} {B : List Chunk} (hl : subT l ts) (hB : Pick B A) (h : Tr P r w0 n c ds l B Q) : Tr P r w0 n c ds ts A Q :=
  tr_st (fun _ hs => hB.st hs) (tr_weak hl (List.Sublist.refl _) h)
theorem tr_cut {X : Type} (J : X → TS × List Chunk) {c1 c2 : Code} (h : Tr P r w0 n c1 ds ts A (thenQ (VJ J ds) Q)) (k : ∀ x, Tr P r w0 n c2 ds (J x).1 (J x).2 Q) : Tr P r w0 n (.seq c1 c2) ds ts A Q :=
  tr_seq (tr_mono h fun e ds' ts' A' q => by
    cases e with
    | normal =>
      obtain ⟨x, rfl, h2, h3⟩ := q
      exact tr_pick h2 h3 (k x)
    | _ => exact q)
end
section
variable {P : Program} {w0 : World} {n : Nat} {ds : List Deferred} {ops : List Oper} {K : TS → List Chunk → Prop}
end
/-! ## Rows of numbers by functions -/
end Go.Proofs.Ytfjnnegaljfkgaa
