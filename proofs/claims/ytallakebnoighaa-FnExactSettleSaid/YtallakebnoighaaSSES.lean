/-
  FnExactSettle: whatever the arguments (any values of the parameters' types that can be read), the law returns true and each argument reads afterwards as it read before. Conditions: none.
-/
import Derived.Test.YtallakebnoighaaSSEL
import Derived.Test.YtallakebnoighaaSSER
import Derived.Test.YtallakebnoighaaRows
import Derived.Test.YtallakebnoighaaSSEA
import Derived.WalkKit
import Derived.ProofKit
import Derived.OpenShut
import Derived.ShutString
import Derived.ChangeOld
import Derived.Below
import Derived.SizedLaws
import Derived.Carry
import Derived.KernelRfl

section
namespace Go.Proofs.Ytallakebnoighaa.PFnExactSettle
open Go.RowKit Go.Proofs.YtallakebnoighaaW.PrintWords Go.Proofs.Ytallakebnoighaa
set_option linter.unusedSimpArgs false
set_option linter.unusedVariables false
def NF.settled (n : NF) (idx : Int) : NF := if n.settleB idx = true then { n with cf := confAt n.cf n.st idx n.es, st := idx, tm := termAt n.st n.tm n.es idx, es := n.es.drop (idx - n.st).toNat } else ⟨0, 0, 0, 0, 0, [], 0, 0, [], 0, 0, 0, [], []⟩
theorem NF.ok_log {n : NF} (h : n.ok = true) : confOk n.cf = true ∧ logOkB n.st n.tm n.es = true ∧ n.cm ≤ n.st + n.es.length := by
  unfold NF.ok at h
  simp only [Bool.and_eq_true] at h
  have := h.2.2.2.2.2.2.2.1
  rw [inB_iff] at this
  exact ⟨h.2.1, h.2.2.1, this.2⟩
theorem NF.settledZ (n : NF) (idx : Int) (hz : NodeZ n) : NodeZ (n.settled idx) := by
  unfold NF.settled
  split
  · rename_i hb
    unfold NF.settleB at hb
    rw [Bool.and_eq_true] at hb
    obtain ⟨h1, h2, -⟩ := NF.ok_log hb.1
    have h5 := (logOkB_parts h2).2.2.2.2
    refine ⟨?_, ?_, fun i => ?_, hz.vs, hz.ps⟩
    · have := confOk_short (confUp_ok (st := n.st) (idx := idx) h1 n.es.length (fun j hj => (logEnts_all _ 0 _ h5 j (Nat.zero_le _) (by omega)).1))
      show (confUp n.cf n.st idx n.es n.es.length).1.length ≤ 1048576
      omega
    · show (n.es.drop (idx - n.st).toNat).length ≤ 1048576
      have := hz.es
      rw [List.length_drop]
      omega
    · show (rd_T87 (n.es.drop (idx - n.st).toNat) (i : Int)).f2.size ≤ 1048576
      obtain ⟨j, hj⟩ : ∃ j, (idx - n.st).toNat = j := ⟨_, rfl⟩
      rw [hj]
      have := hz.sh (j + i)
      have e : rd_T87 (n.es.drop j) (i : Int) = rd_T87 n.es ((j + i : Nat) : Int) := by simp [rd_T87, -Int.natCast_add]
      rw [e]
      exact this
  · exact ⟨by simp, by simp, fun i => by (simp [rd_T87, z87]; try decide), by simp, by simp⟩
theorem impl_SettleW (n : NF) (idx : Int) (A5 : Option Addr) (c5 : Nat) (A8 : Option Addr) (c8 : Nat) (A12 : Option Addr) (c12 : Nat) (A13 : Option Addr) (c13 : Nat) (w : World) (hz : NodeZ n) (h : NodeC n A5 c5 A8 c8 A12 c12 A13 c13 w) :
    Calls Try.prog 12 #[.agg #[.int .i64 n.id, .int .i64 n.term, .int .i64 n.vote, .int .i64 n.role, .int .i64 n.lead, .slice A5 n.cf.length c5, .int .i64 n.st, .int .i64 n.tm, .slice A8 n.es.length c8, .int .i64 n.cm, .int .i64 n.ck, .int .i64 n.lm, .slice A12 n.vs.length c12, .slice A13 n.ps.length c13], .int .i64 idx] w fun e w' => ∃ v5 v8 v12 v13, e = .returned (.tuple #[.agg #[.int .i64 (n.settled idx).id, .int .i64 (n.settled idx).term, .int .i64 (n.settled idx).vote, .int .i64 (n.settled idx).role, .int .i64 (n.settled idx).lead, v5, .int .i64 (n.settled idx).st, .int .i64 (n.settled idx).tm, v8, .int .i64 (n.settled idx).cm, .int .i64 (n.settled idx).ck, .int .i64 (n.settled idx).lm, v12, v13], .bool (n.settleB idx)]) ∧ NodeW (n.settled idx) w.heap.size (fun _ => True) v5 v8 v12 v13 w' ∧ Below w.heap.size w w' := by
  cases hb : n.settleB idx with
  | true =>
    have h1 := hb
    unfold NF.settleB at h1
    rw [Bool.and_eq_true] at h1
    obtain ⟨-, h2, h3⟩ := NF.ok_log h1.1
    have e1 : n.settled idx = { n with cf := confAt n.cf n.st idx n.es, st := idx, tm := termAt n.st n.tm n.es idx, es := n.es.drop (idx - n.st).toNat } := by unfold NF.settled; rw [if_pos hb]
    rw [e1]
    refine (impl_Settle_yes n idx _ A5 c5 A8 c8 A12 c12 A13 c13 w hz h h1.1 h2 h1.2 h3 (Lib.hid rfl)).mono ?_
    rintro e w' ⟨⟨g, v5, v8, v12, v13, hg, rfl, R5, R8, R12, R13⟩, hB⟩
    refine ⟨v5, v8, v12, v13, rfl, ⟨Kd.R_mono R5 (fun k hk => ⟨trivial, fun e2 => ?_⟩), Kd.R_mono R8 (fun _ _ => trivial), Kd.R_mono (R_only R12) (fun _ hk => ⟨trivial, hk.2⟩), Kd.R_mono R13 (fun _ _ => trivial)⟩, hB⟩
    have := (R12.1 k e2.symm).2
    omega
  | false =>
    have e1 : n.settled idx = ⟨0, 0, 0, 0, 0, [], 0, 0, [], 0, 0, 0, [], []⟩ := by unfold NF.settled; rw [if_neg (by simp [hb])]
    rw [e1]
    refine (impl_Settle_no n idx A5 c5 A8 c8 A12 c12 A13 c13 w hz h hb).mono ?_
    rintro e w' ⟨rfl, hB⟩
    exact ⟨_, _, _, _, rfl, ⟨Kd.R_nil _ _ _ _ _, Kd.R_nil _ _ _ _ _, Kd.R_nil _ _ _ _ _, Kd.R_nil _ _ _ _ _⟩, hB⟩
theorem spec_SettleW (n : NF) (idx : Int) (A5 : Option Addr) (c5 : Nat) (A8 : Option Addr) (c8 : Nat) (A12 : Option Addr) (c12 : Nat) (A13 : Option Addr) (c13 : Nat) (w : World) (hz : NodeZ n) (h : NodeC n A5 c5 A8 c8 A12 c12 A13 c13 w) :
    Calls Try.prog 11 #[.agg #[.int .i64 n.id, .int .i64 n.term, .int .i64 n.vote, .int .i64 n.role, .int .i64 n.lead, .slice A5 n.cf.length c5, .int .i64 n.st, .int .i64 n.tm, .slice A8 n.es.length c8, .int .i64 n.cm, .int .i64 n.ck, .int .i64 n.lm, .slice A12 n.vs.length c12, .slice A13 n.ps.length c13], .int .i64 idx] w fun e w' => ∃ v5 v8 v12 v13, e = .returned (.tuple #[.agg #[.int .i64 (n.settled idx).id, .int .i64 (n.settled idx).term, .int .i64 (n.settled idx).vote, .int .i64 (n.settled idx).role, .int .i64 (n.settled idx).lead, v5, .int .i64 (n.settled idx).st, .int .i64 (n.settled idx).tm, v8, .int .i64 (n.settled idx).cm, .int .i64 (n.settled idx).ck, .int .i64 (n.settled idx).lm, v12, v13], .bool (n.settleB idx)]) ∧ NodeW (n.settled idx) w.heap.size (fun _ => True) v5 v8 v12 v13 w' ∧ Below w.heap.size w w' := by
  cases hb : n.settleB idx with
  | true =>
    have h1 := hb
    unfold NF.settleB at h1
    rw [Bool.and_eq_true] at h1
    obtain ⟨-, h2, h3⟩ := NF.ok_log h1.1
    have e1 : n.settled idx = { n with cf := confAt n.cf n.st idx n.es, st := idx, tm := termAt n.st n.tm n.es idx, es := n.es.drop (idx - n.st).toNat } := by unfold NF.settled; rw [if_pos hb]
    rw [e1]
    refine (spec_Settle_yes n idx _ A5 c5 A8 c8 A12 c12 A13 c13 w hz h h1.1 h2 h1.2 h3 (Lib.hid rfl)).mono ?_
    rintro e w' ⟨⟨g, v5, v8, v12, v13, hg, rfl, R5, R8, R12, R13⟩, hB⟩
    refine ⟨v5, v8, v12, v13, rfl, ⟨Kd.R_mono R5 (fun k hk => ⟨trivial, fun e2 => ?_⟩), Kd.R_mono R8 (fun _ _ => trivial), Kd.R_mono (R_only R12) (fun _ hk => ⟨trivial, hk.2⟩), Kd.R_mono R13 (fun _ _ => trivial)⟩, hB⟩
    have := (R12.1 k e2.symm).2
    omega
  | false =>
    have e1 : n.settled idx = ⟨0, 0, 0, 0, 0, [], 0, 0, [], 0, 0, 0, [], []⟩ := by unfold NF.settled; rw [if_neg (by simp [hb])]
    rw [e1]
    refine (spec_Settle_no n idx A5 c5 A8 c8 A12 c12 A13 c13 w hz h hb).mono ?_
    rintro e w' ⟨rfl, hB⟩
    exact ⟨_, _, _, _, rfl, ⟨Kd.R_nil _ _ _ _ _, Kd.R_nil _ _ _ _ _, Kd.R_nil _ _ _ _ _, Kd.R_nil _ _ _ _ _⟩, hB⟩
theorem settle_both (n : NF) (idx : Int) (hz : NodeZ n) : ∃ (q : NF) (b : Bool), NodeZ q ∧
    (∀ (A5 : Option Addr) (c5 : Nat) (A8 : Option Addr) (c8 : Nat) (A12 : Option Addr) (c12 : Nat) (A13 : Option Addr) (c13 : Nat) (w : World), NodeC n A5 c5 A8 c8 A12 c12 A13 c13 w → Calls Try.prog 11 #[.agg #[.int .i64 n.id, .int .i64 n.term, .int .i64 n.vote, .int .i64 n.role, .int .i64 n.lead, .slice A5 n.cf.length c5, .int .i64 n.st, .int .i64 n.tm, .slice A8 n.es.length c8, .int .i64 n.cm, .int .i64 n.ck, .int .i64 n.lm, .slice A12 n.vs.length c12, .slice A13 n.ps.length c13], .int .i64 idx] w fun e w' => ∃ v5 v8 v12 v13, e = .returned (.tuple #[.agg #[.int .i64 q.id, .int .i64 q.term, .int .i64 q.vote, .int .i64 q.role, .int .i64 q.lead, v5, .int .i64 q.st, .int .i64 q.tm, v8, .int .i64 q.cm, .int .i64 q.ck, .int .i64 q.lm, v12, v13], .bool b]) ∧ NodeW q w.heap.size (fun _ => True) v5 v8 v12 v13 w' ∧ Below w.heap.size w w') ∧
    (∀ (A5 : Option Addr) (c5 : Nat) (A8 : Option Addr) (c8 : Nat) (A12 : Option Addr) (c12 : Nat) (A13 : Option Addr) (c13 : Nat) (w : World), NodeC n A5 c5 A8 c8 A12 c12 A13 c13 w → Calls Try.prog 12 #[.agg #[.int .i64 n.id, .int .i64 n.term, .int .i64 n.vote, .int .i64 n.role, .int .i64 n.lead, .slice A5 n.cf.length c5, .int .i64 n.st, .int .i64 n.tm, .slice A8 n.es.length c8, .int .i64 n.cm, .int .i64 n.ck, .int .i64 n.lm, .slice A12 n.vs.length c12, .slice A13 n.ps.length c13], .int .i64 idx] w fun e w' => ∃ v5 v8 v12 v13, e = .returned (.tuple #[.agg #[.int .i64 q.id, .int .i64 q.term, .int .i64 q.vote, .int .i64 q.role, .int .i64 q.lead, v5, .int .i64 q.st, .int .i64 q.tm, v8, .int .i64 q.cm, .int .i64 q.ck, .int .i64 q.lm, v12, v13], .bool b]) ∧ NodeW q w.heap.size (fun _ => True) v5 v8 v12 v13 w' ∧ Below w.heap.size w w') :=
  ⟨n.settled idx, n.settleB idx, n.settledZ idx hz, fun A5 c5 A8 c8 A12 c12 A13 c13 w h => spec_SettleW n idx A5 c5 A8 c8 A12 c12 A13 c13 w hz h, fun A5 c5 A8 c8 A12 c12 A13 c13 w h => impl_SettleW n idx A5 c5 A8 c8 A12 c12 A13 c13 w hz h⟩
attribute [local go_sem] flowUpon
set_option maxRecDepth 100000 in
set_option maxHeartbeats 4000000 in
theorem FnExactSettle_walk (v u : Value) (W : World) (h : ArgOf Try.prog W 28 v) (hu : ArgOf Try.prog W 3 u) :
    Calls Try.prog 4 #[v, u] W fun e w' => e = .returned (.bool true) ∧ Below W.heap.size W w' := by
  obtain ⟨a0, a1, a2, a3, a4, A5, c5, cf, a6, a7, A8, c8, es, a9, a10, a11, A12, c12, vs, A13, c13, ps, rfl, ⟨h5, C5⟩, ⟨h8, C8⟩, ⟨h12, C12⟩, ⟨h13, C13⟩, m5, ⟨m8, hG⟩, m12, m13⟩ := arg_node h
  obtain ⟨idx, rfl, hidx⟩ := arg_int Try.underlying3 hu
  clear h hu hidx
  unfold maxLen at m5 m8 m12 m13 hG
  obtain ⟨r, hr, hrr⟩ := szN_f a0 a1 a2 a3 a4 A5 c5 cf a6 a7 A8 c8 es a9 a10 a11 A12 c12 vs A13 c13 ps hG m5 m8 m12 m13
  have HC := Lib.hid (And.intro C5 (And.intro C8 (And.intro C12 C13)))
  have HR := Lib.hid hr
  clear C5 C8 C12 C13 hG hr m5 m8 m12 m13
  go_enter Try.func4, Try.ntmps4
  go_wp2_with fail
  refine calls_atC (fun X => Blk 28 W.heap.size #[.int .i64 a0, .int .i64 a1, .int .i64 a2, .int .i64 a3, .int .i64 a4, .slice A5 cf.length c5, .int .i64 a6, .int .i64 a7, .slice A8 es.length c8, .int .i64 a9, .int .i64 a10, .int .i64 a11, .slice A12 vs.length c12, .slice A13 ps.length c13] X ∧ Below W.heap.size W X) ⟨Blk.new _ _ W, (by repeat (first | exact Below.refl _ _ | apply bl_alloc | apply bl_drewN | apply bl_drew | refine bl_set ?_ (by simp) | refine bl_then ?_ (by assumption)))⟩ ?_
  rintro X0 ⟨k1, B⟩
  refine (laws_szNode.calls _ a0 a1 a2 a3 a4 A5 c5 cf a6 a7 A8 c8 es a9 a10 a11 A12 c12 vs A13 c13 ps _ _ _ (Kd.C_below HC.out.1 B) h5 (Kd.C_below HC.out.2.1 B) h8 (Kd.C_below HC.out.2.2.1 B) h12 (Kd.C_below HC.out.2.2.2 B) h13 HR.out).mono ?_
  rintro e X1 ⟨rfl, hb⟩
  replace k1 := k1.below hb
  replace B := bl_then B hb
  clear hb X0
  have y0 := k1.cell 0 rfl
  have y1 := k1.cell 1 rfl
  have y2 := k1.cell 2 rfl
  have y3 := k1.cell 3 rfl
  have y4 := k1.cell 4 rfl
  have y5 := k1.cell 5 rfl
  have y6 := k1.cell 6 rfl
  have y7 := k1.cell 7 rfl
  have y8 := k1.cell 8 rfl
  have y9 := k1.cell 9 rfl
  have y10 := k1.cell 10 rfl
  have y11 := k1.cell 11 rfl
  have y12 := k1.cell 12 rfl
  have y13 := k1.cell 13 rfl
  have ly := k1.lt
  rcases hrr with hneg | ⟨hr0, l5, l8, l12, l13, hS⟩
  · go_wp2_with fail
    go_ret
    exact ⟨rfl, B⟩
  have hnn : ¬ r < 0 := by omega
  obtain ⟨m, hm⟩ : ∃ m : NF, Hid (m = ⟨a0, a1, a2, a3, a4, cf, a6, a7, es.map conv, a9, a10, a11, vs, ps.map convP⟩) := ⟨_, Lib.hid rfl⟩
  have hz : NodeZ m := by
    obtain rfl := hm.out
    exact ⟨l5, by simpa using l8, short_convE es hS, l12, by simpa using l13⟩
  obtain ⟨q, b, hzq, hSS, hII⟩ := settle_both m idx hz
  have HS := Lib.hid hSS
  have HI := Lib.hid hII
  have nm := Lib.hid (show ¬ m.marks < 0 from by unfold NF.marks; omega)
  have nq := Lib.hid (show ¬ q.marks < 0 from by unfold NF.marks; omega)
  clear hS hSS hII
  go_wp2_with fail
  refine (toN_C a0 a1 a2 a3 a4 A5 c5 cf a6 a7 A8 c8 es a9 a10 a11 A12 c12 vs A13 c13 ps m hm _ h5 (Kd.C_below HC.out.1 B) h8 (Kd.C_below HC.out.2.1 B) h12 (Kd.C_below HC.out.2.2.1 B) h13 (Kd.C_below HC.out.2.2.2 B) l5 l8 l12 l13).mono ?_
  rintro e X2 ⟨v, rfl, ⟨B5, b5, B8, b8, B12, b12, B13, b13, rfl, hD⟩, hb⟩
  replace k1 := k1.below hb
  replace B := bl_then B hb
  clear y0 y1 y2 y3 y4 y5 y6 y7 y8 y9 y10 y11 y12 y13 ly hb X1
  have y0 := k1.cell 0 rfl
  have y1 := k1.cell 1 rfl
  have y2 := k1.cell 2 rfl
  have y3 := k1.cell 3 rfl
  have y4 := k1.cell 4 rfl
  have y5 := k1.cell 5 rfl
  have y6 := k1.cell 6 rfl
  have y7 := k1.cell 7 rfl
  have y8 := k1.cell 8 rfl
  have y9 := k1.cell 9 rfl
  have y10 := k1.cell 10 rfl
  have y11 := k1.cell 11 rfl
  have y12 := k1.cell 12 rfl
  have y13 := k1.cell 13 rfl
  have ly := k1.lt
  go_wp2_with fail
  refine (HS.out B5 b5 B8 b8 B12 b12 B13 b13 _ hD).mono ?_
  rintro e X3 ⟨v5, v8, v12, v13, rfl, hQ, hb⟩
  obtain ⟨D5, d5, D8, d8, D12, d12, D13, d13, rfl, rfl, rfl, rfl, hD2⟩ := hQ.reads
  replace k1 := k1.below hb
  replace B := bl_then B hb
  clear y0 y1 y2 y3 y4 y5 y6 y7 y8 y9 y10 y11 y12 y13 ly hb hD hQ X2
  have y0 := k1.cell 0 rfl
  have y1 := k1.cell 1 rfl
  have y2 := k1.cell 2 rfl
  have y3 := k1.cell 3 rfl
  have y4 := k1.cell 4 rfl
  have y5 := k1.cell 5 rfl
  have y6 := k1.cell 6 rfl
  have y7 := k1.cell 7 rfl
  have y8 := k1.cell 8 rfl
  have y9 := k1.cell 9 rfl
  have y10 := k1.cell 10 rfl
  have y11 := k1.cell 11 rfl
  have y12 := k1.cell 12 rfl
  have y13 := k1.cell 13 rfl
  have ly := k1.lt
  obtain ⟨g0, hg0⟩ : ∃ g, g = X3.heap.size := ⟨_, rfl⟩
  go_wp2_with fail
  refine calls_atC (fun X => Blk 28 W.heap.size #[.int .i64 a0, .int .i64 a1, .int .i64 a2, .int .i64 a3, .int .i64 a4, .slice A5 cf.length c5, .int .i64 a6, .int .i64 a7, .slice A8 es.length c8, .int .i64 a9, .int .i64 a10, .int .i64 a11, .slice A12 vs.length c12, .slice A13 ps.length c13] X ∧ Below W.heap.size W X ∧ Blk 36 g0 #[.int .i64 q.id, .int .i64 q.term, .int .i64 q.vote, .int .i64 q.role, .int .i64 q.lead, .slice D5 q.cf.length d5, .int .i64 q.st, .int .i64 q.tm, .slice D8 q.es.length d8, .int .i64 q.cm, .int .i64 q.ck, .int .i64 q.lm, .slice D12 q.vs.length d12, .slice D13 q.ps.length d13] X ∧ NodeC q D5 d5 D8 d8 D12 d12 D13 d13 X ∧ W.heap.size < g0) ⟨k1.alloc _, bl_alloc B _, Blk.newE _ _ X3 hg0, hD2.below (bl_alloc (Below.refl _ _) _), by omega⟩ ?_
  (try rw [← hg0])
  clear y0 y1 y2 y3 y4 y5 y6 y7 y8 y9 y10 y11 y12 y13 ly hg0 k1 B hD2
  rintro X ⟨k1, B, kw, hD, hgl⟩
  have HD := Lib.hid hD
  clear hD X3
  refine (toNW_C a0 a1 a2 a3 a4 A5 c5 cf a6 a7 A8 c8 es a9 a10 a11 A12 c12 vs A13 c13 ps m hm _ h5 (Kd.C_below HC.out.1 B) h8 (Kd.C_below HC.out.2.1 B) h12 (Kd.C_below HC.out.2.2.1 B) h13 (Kd.C_below HC.out.2.2.2 B) l5 l8 l12 l13).mono ?_
  rintro e Y1 ⟨x5, x8, x12, x13, rfl, hx, hb⟩
  obtain ⟨E5, e5, E8, e8, E12, e12, E13, e13, rfl, rfl, rfl, rfl, -⟩ := hx.reads
  obtain ⟨g1, hg1⟩ : ∃ g, g = Y1.heap.size := ⟨_, rfl⟩
  have HX := Lib.hid (hx.bound.mono (ok' := fun k => X.heap.size ≤ k ∧ k < g1) (fun k hk => by rw [hg1]; exact hk.2))
  have HB := hb
  clear hx hb
  go_wp2_with fail
  refine calls_atC (fun Y => Below X.heap.size X Y ∧ NodeW m X.heap.size (fun k => X.heap.size ≤ k ∧ k < g1) (.slice E5 m.cf.length e5) (.slice E8 m.es.length e8) (.slice E12 m.vs.length e12) (.slice E13 m.ps.length e13) Y ∧ Blk 36 g1 #[.int .i64 m.id, .int .i64 m.term, .int .i64 m.vote, .int .i64 m.role, .int .i64 m.lead, .slice E5 m.cf.length e5, .int .i64 m.st, .int .i64 m.tm, .slice E8 m.es.length e8, .int .i64 m.cm, .int .i64 m.ck, .int .i64 m.lm, .slice E12 m.vs.length e12, .slice E13 m.ps.length e13] Y) ⟨bl_alloc HB _, HX.out.below (bl_alloc (Below.refl _ _) _), Blk.newE _ _ Y1 hg1⟩ ?_
  have hX1 : X.heap.size ≤ g1 := by rw [hg1]; exact HB.size
  (try rw [← hg1])
  clear hg1 HB HX
  rintro Y2 ⟨HB, hx, kx⟩
  refine (HI.out E5 e5 E8 e8 E12 e12 E13 e13 _ hx.nodeC).mono ?_
  rintro e Y3 ⟨v5, v8, v12, v13, rfl, hQ, hb⟩
  obtain ⟨F5, f5, F8, f8, F12, f12, F13, f13, rfl, rfl, rfl, rfl, -⟩ := hQ.reads
  obtain ⟨g2, hg2⟩ : ∃ g, g = Y3.heap.size := ⟨_, rfl⟩
  have hx1 := kx.lt
  have hx2 : Y2.heap.size ≤ g2 := by rw [hg2]; exact hb.size
  have HQ := Lib.hid ((hQ.bound.mono (ok' := fun k => g1 < k ∧ k < g2) (fun k hk => by rw [hg2]; exact ⟨Nat.lt_of_lt_of_le hx1 hk.2.1, hk.2.2⟩)).lower HB.size)
  have hx3 : g1 < g2 := by omega
  replace HX := Lib.hid (hx.below hb)
  replace kx := kx.below hb
  replace HB := bl_then HB hb
  clear hx hQ hb hx1 hx2 Y1 Y2
  have ku := kw.below HB
  have u0 := ku.cell 0 rfl
  have u1 := ku.cell 1 rfl
  have u2 := ku.cell 2 rfl
  have u3 := ku.cell 3 rfl
  have u4 := ku.cell 4 rfl
  have u5 := ku.cell 5 rfl
  have u6 := ku.cell 6 rfl
  have u7 := ku.cell 7 rfl
  have u8 := ku.cell 8 rfl
  have u9 := ku.cell 9 rfl
  have u10 := ku.cell 10 rfl
  have u11 := ku.cell 11 rfl
  have u12 := ku.cell 12 rfl
  have u13 := ku.cell 13 rfl
  have lu := ku.lt
  go_wp2_with fail
  refine calls_atC (fun Y => Below X.heap.size X Y ∧ NodeW m X.heap.size (fun k => X.heap.size ≤ k ∧ k < g1) (.slice E5 m.cf.length e5) (.slice E8 m.es.length e8) (.slice E12 m.vs.length e12) (.slice E13 m.ps.length e13) Y ∧ Blk 36 g1 #[.int .i64 m.id, .int .i64 m.term, .int .i64 m.vote, .int .i64 m.role, .int .i64 m.lead, .slice E5 m.cf.length e5, .int .i64 m.st, .int .i64 m.tm, .slice E8 m.es.length e8, .int .i64 m.cm, .int .i64 m.ck, .int .i64 m.lm, .slice E12 m.vs.length e12, .slice E13 m.ps.length e13] Y ∧ NodeW q X.heap.size (fun k => g1 < k ∧ k < g2) (.slice F5 q.cf.length f5) (.slice F8 q.es.length f8) (.slice F12 q.vs.length f12) (.slice F13 q.ps.length f13) Y ∧ Blk 36 g2 #[.int .i64 q.id, .int .i64 q.term, .int .i64 q.vote, .int .i64 q.role, .int .i64 q.lead, .slice F5 q.cf.length f5, .int .i64 q.st, .int .i64 q.tm, .slice F8 q.es.length f8, .int .i64 q.cm, .int .i64 q.ck, .int .i64 q.lm, .slice F12 q.vs.length f12, .slice F13 q.ps.length f13] Y) ⟨bl_alloc HB _, HX.out.below (bl_alloc (Below.refl _ _) _), kx.alloc _, HQ.out.below (bl_alloc (Below.refl _ _) _), Blk.newE _ _ Y3 hg2⟩ ?_
  (try rw [← hg2])
  clear u0 u1 u2 u3 u4 u5 u6 u7 u8 u9 u10 u11 u12 u13 lu ku hg2 HB HX kx HQ
  rintro Y4 ⟨HB, hx, kx, hQ, kg⟩
  clear Y3
  refine (eqN_C q hzq F5 f5 F8 f8 F12 f12 F13 f13 D5 d5 D8 d8 D12 d12 D13 d13 _ hQ.nodeC (HD.out.below HB)).mono ?_
  rintro e Y5 ⟨rfl, hb⟩
  have HX := Lib.hid (hx.below hb)
  have HQ := Lib.hid (hQ.below hb)
  replace kx := kx.below hb
  replace kg := kg.below hb
  replace HB := bl_then HB hb
  clear hx hQ hb Y4
  as_aux_lemma =>
    have ka := k1.below HB
    have y0 := ka.cell 0 rfl
    have y1 := ka.cell 1 rfl
    have y2 := ka.cell 2 rfl
    have y3 := ka.cell 3 rfl
    have y4 := ka.cell 4 rfl
    have y5 := ka.cell 5 rfl
    have y6 := ka.cell 6 rfl
    have y7 := ka.cell 7 rfl
    have y8 := ka.cell 8 rfl
    have y9 := ka.cell 9 rfl
    have y10 := ka.cell 10 rfl
    have y11 := ka.cell 11 rfl
    have y12 := ka.cell 12 rfl
    have y13 := ka.cell 13 rfl
    have ly := ka.lt
    have z0 := kx.cell 0 rfl
    have z1 := kx.cell 1 rfl
    have z2 := kx.cell 2 rfl
    have z3 := kx.cell 3 rfl
    have z4 := kx.cell 4 rfl
    have z5 := kx.cell 5 rfl
    have z6 := kx.cell 6 rfl
    have z7 := kx.cell 7 rfl
    have z8 := kx.cell 8 rfl
    have z9 := kx.cell 9 rfl
    have z10 := kx.cell 10 rfl
    have z11 := kx.cell 11 rfl
    have z12 := kx.cell 12 rfl
    have z13 := kx.cell 13 rfl
    have lz := kx.lt
    go_wp2_with fail
    refine wp_region_flow [2, 8] 101 (by kernel_rfl) (by rfl) (by kernel_rfl) (by kernel_rfl) (by kernel_rfl) ?_
    iterate 2 (refine flow_valE ?_; apply Exists.intro; refine ⟨fun A wq hBq hbq hdq => ?_, ?_⟩; focus (obtain ⟨hcq, hfq⟩ := bcell hBq; (try simp [go_sem, baseF, deps, dep1, Region.binds] at hbq); (try simp [go_sem, baseF, deps, dep1, Region.binds, NewSl] at hdq); go_simp; first | exact ⟨Below.refl _ _, rfl⟩ | (rw [if_neg]; (focus (exact ⟨Below.refl _ _, rfl⟩)); (focus ((try simp only [ByteArray.size_append]); omega))) | (fail)))
    refine flow_R (NodeR m) (vmono_nodeR m) (fun A wq hBq hbq hdq => ?_) ?_
    · (try simp [go_sem, baseF, deps, dep1, Region.binds] at hbq)
      (try simp [go_sem, baseF, deps, dep1, Region.binds] at hdq)
      go_simp
      refine (toN_C a0 a1 a2 a3 a4 A5 c5 cf a6 a7 A8 c8 es a9 a10 a11 A12 c12 vs A13 c13 ps m hm _ h5 (Kd.C_below HC.out.1 (bl_then B ⟨(bl_then HB hBq).os, (bl_then HB hBq).tape, (bl_then HB hBq).output, (bl_then HB hBq).size, (bl_then HB hBq).block⟩)) h8 (Kd.C_below HC.out.2.1 (bl_then B ⟨(bl_then HB hBq).os, (bl_then HB hBq).tape, (bl_then HB hBq).output, (bl_then HB hBq).size, (bl_then HB hBq).block⟩)) h12 (Kd.C_below HC.out.2.2.1 (bl_then B ⟨(bl_then HB hBq).os, (bl_then HB hBq).tape, (bl_then HB hBq).output, (bl_then HB hBq).size, (bl_then HB hBq).block⟩)) h13 (Kd.C_below HC.out.2.2.2 (bl_then B ⟨(bl_then HB hBq).os, (bl_then HB hBq).tape, (bl_then HB hBq).output, (bl_then HB hBq).size, (bl_then HB hBq).block⟩)) l5 l8 l12 l13).mono ?_
      rintro e w' ⟨v, rfl, hv, hb⟩
      first | exact ⟨_, rfl, hb, hv⟩ | exact ⟨hb, hv⟩
    refine flow_valE ?_
    refine ⟨.bool true, fun A wq hBq hbq hdq => ?_, ?_⟩
    · (try simp [go_sem, baseF, deps, dep1, Region.binds] at hbq)
      (try simp [go_sem, baseF, deps, dep1, Region.binds, NodeR] at hdq)
      obtain ⟨h22, G5, g5, G8, g8, G12, g12, G13, g13, hv, hE⟩ := hdq
      go_simp
      exact eqN_C m hz E5 e5 E8 e8 E12 e12 E13 e13 G5 g5 G8 g8 G12 g12 G13 g13 _ (HX.out.nodeC.below hBq) hE
    (refine flow_valE ?_; apply Exists.intro; refine ⟨fun A wq hBq hbq hdq => ?_, ?_⟩; focus (obtain ⟨hcq, hfq⟩ := bcell hBq; (try simp [go_sem, baseF, deps, dep1, Region.binds] at hbq); (try simp [go_sem, baseF, deps, dep1, Region.binds, NewSl] at hdq); go_simp; first | exact ⟨Below.refl _ _, rfl⟩ | (rw [if_neg]; (focus (exact ⟨Below.refl _ _, rfl⟩)); (focus ((try simp only [ByteArray.size_append]); omega))) | (fail)))
    refine fun x wq hBq hall => ?_
    simp only [allT] at hall
    simp [frameOf, Act.put, hall]
    clear hall y0 y1 y2 y3 y4 y5 y6 y7 y8 y9 y10 y11 y12 y13 ly z0 z1 z2 z3 z4 z5 z6 z7 z8 z9 z10 z11 z12 z13 lz ka
    replace HX := Lib.hid (HX.out.below hBq)
    replace HQ := Lib.hid (HQ.out.below hBq)
    replace kx := kx.below hBq
    replace kg := kg.below hBq
    replace HB := bl_then HB hBq
    clear hBq Y5
    have z0 := kx.cell 0 rfl
    have z1 := kx.cell 1 rfl
    have z2 := kx.cell 2 rfl
    have z3 := kx.cell 3 rfl
    have z4 := kx.cell 4 rfl
    have z5 := kx.cell 5 rfl
    have z6 := kx.cell 6 rfl
    have z7 := kx.cell 7 rfl
    have z8 := kx.cell 8 rfl
    have z9 := kx.cell 9 rfl
    have z10 := kx.cell 10 rfl
    have z11 := kx.cell 11 rfl
    have z12 := kx.cell 12 rfl
    have z13 := kx.cell 13 rfl
    have lz := kx.lt
    go_wp2_with fail
    refine (markN_C m hz _ _ _ _ _ X wq HB HX.out).mono ?_
    rintro e Y6 ⟨rfl, -, hB6, hk⟩
    replace HQ := Lib.hid (HQ.out.kept hk (fun k hk h2 => by omega))
    replace kg := blk_kept kg hk (fun h2 => by omega)
    replace HB := hB6
    clear z0 z1 z2 z3 z4 z5 z6 z7 z8 z9 z10 z11 z12 z13 lz kx HX hk hB6 wq
    have ku := kw.below HB
    have u0 := ku.cell 0 rfl
    have u1 := ku.cell 1 rfl
    have u2 := ku.cell 2 rfl
    have u3 := ku.cell 3 rfl
    have u4 := ku.cell 4 rfl
    have u5 := ku.cell 5 rfl
    have u6 := ku.cell 6 rfl
    have u7 := ku.cell 7 rfl
    have u8 := ku.cell 8 rfl
    have u9 := ku.cell 9 rfl
    have u10 := ku.cell 10 rfl
    have u11 := ku.cell 11 rfl
    have u12 := ku.cell 12 rfl
    have u13 := ku.cell 13 rfl
    have lu := ku.lt
    have z0 := kg.cell 0 rfl
    have z1 := kg.cell 1 rfl
    have z2 := kg.cell 2 rfl
    have z3 := kg.cell 3 rfl
    have z4 := kg.cell 4 rfl
    have z5 := kg.cell 5 rfl
    have z6 := kg.cell 6 rfl
    have z7 := kg.cell 7 rfl
    have z8 := kg.cell 8 rfl
    have z9 := kg.cell 9 rfl
    have z10 := kg.cell 10 rfl
    have z11 := kg.cell 11 rfl
    have z12 := kg.cell 12 rfl
    have z13 := kg.cell 13 rfl
    have lz := kg.lt
    have n1 := nm.out
    go_wp2_with fail
    refine (eqN_C q hzq F5 f5 F8 f8 F12 f12 F13 f13 D5 d5 D8 d8 D12 d12 D13 d13 _ HQ.out.nodeC (HD.out.below HB)).mono ?_
    rintro e Y7 ⟨rfl, hb⟩
    replace HQ := Lib.hid (HQ.out.below hb)
    replace kg := kg.below hb
    replace HB := bl_then HB hb
    clear u0 u1 u2 u3 u4 u5 u6 u7 u8 u9 u10 u11 u12 u13 lu z0 z1 z2 z3 z4 z5 z6 z7 z8 z9 z10 z11 z12 z13 lz ku hb n1 Y6
    have z0 := kg.cell 0 rfl
    have z1 := kg.cell 1 rfl
    have z2 := kg.cell 2 rfl
    have z3 := kg.cell 3 rfl
    have z4 := kg.cell 4 rfl
    have z5 := kg.cell 5 rfl
    have z6 := kg.cell 6 rfl
    have z7 := kg.cell 7 rfl
    have z8 := kg.cell 8 rfl
    have z9 := kg.cell 9 rfl
    have z10 := kg.cell 10 rfl
    have z11 := kg.cell 11 rfl
    have z12 := kg.cell 12 rfl
    have z13 := kg.cell 13 rfl
    have lz := kg.lt
    go_wp2_with fail
    as_aux_lemma =>
      refine (markN_C q hzq _ _ _ _ _ X Y7 HB HQ.out).mono ?_
      rintro e Y8 ⟨rfl, hM, hB8, hk⟩
      have HM := Lib.hid hM.nodeC
      replace kg := blk_kept kg hk (fun h2 => by omega)
      replace HB := hB8
      clear z0 z1 z2 z3 z4 z5 z6 z7 z8 z9 z10 z11 z12 z13 lz HQ hk hB8 hM Y7
      have z0 := kg.cell 0 rfl
      have z1 := kg.cell 1 rfl
      have z2 := kg.cell 2 rfl
      have z3 := kg.cell 3 rfl
      have z4 := kg.cell 4 rfl
      have z5 := kg.cell 5 rfl
      have z6 := kg.cell 6 rfl
      have z7 := kg.cell 7 rfl
      have z8 := kg.cell 8 rfl
      have z9 := kg.cell 9 rfl
      have z10 := kg.cell 10 rfl
      have z11 := kg.cell 11 rfl
      have z12 := kg.cell 12 rfl
      have z13 := kg.cell 13 rfl
      have lz := kg.lt
      go_wp2_with fail
      refine (heldN_C q hzq F5 f5 F8 f8 F12 f12 F13 f13 _ HM.out).mono ?_
      rintro e Y9 ⟨rfl, hb⟩
      replace HM := Lib.hid (HM.out.below hb)
      replace kg := kg.below hb
      replace HB := bl_then HB hb
      clear z0 z1 z2 z3 z4 z5 z6 z7 z8 z9 z10 z11 z12 z13 lz hb Y8
      have ka := k1.below HB
      have y0 := ka.cell 0 rfl
      have y1 := ka.cell 1 rfl
      have y2 := ka.cell 2 rfl
      have y3 := ka.cell 3 rfl
      have y4 := ka.cell 4 rfl
      have y5 := ka.cell 5 rfl
      have y6 := ka.cell 6 rfl
      have y7 := ka.cell 7 rfl
      have y8 := ka.cell 8 rfl
      have y9 := ka.cell 9 rfl
      have y10 := ka.cell 10 rfl
      have y11 := ka.cell 11 rfl
      have y12 := ka.cell 12 rfl
      have y13 := ka.cell 13 rfl
      have ly := ka.lt
      have n1 := nq.out
      go_wp2_with fail
      refine (toN_C a0 a1 a2 a3 a4 A5 c5 cf a6 a7 A8 c8 es a9 a10 a11 A12 c12 vs A13 c13 ps m hm _ h5 (Kd.C_below HC.out.1 (bl_then B ⟨HB.os, HB.tape, HB.output, HB.size, HB.block⟩)) h8 (Kd.C_below HC.out.2.1 (bl_then B ⟨HB.os, HB.tape, HB.output, HB.size, HB.block⟩)) h12 (Kd.C_below HC.out.2.2.1 (bl_then B ⟨HB.os, HB.tape, HB.output, HB.size, HB.block⟩)) h13 (Kd.C_below HC.out.2.2.2 (bl_then B ⟨HB.os, HB.tape, HB.output, HB.size, HB.block⟩)) l5 l8 l12 l13).mono ?_
      rintro e Z1 ⟨v, rfl, ⟨B5, b5, B8, b8, B12, b12, B13, b13, rfl, hD⟩, hb⟩
      replace HM := Lib.hid (HM.out.below hb)
      replace kg := kg.below hb
      replace HB := bl_then HB hb
      clear y0 y1 y2 y3 y4 y5 y6 y7 y8 y9 y10 y11 y12 y13 ly ka hb Y9
      go_wp2_with fail
      refine (HI.out B5 b5 B8 b8 B12 b12 B13 b13 _ hD).mono ?_
      rintro e Z2 ⟨v5, v8, v12, v13, rfl, hQ, hb⟩
      obtain ⟨G5, g5, G8, g8, G12, g12, G13, g13, rfl, rfl, rfl, rfl, hN⟩ := hQ.reads
      have HN := Lib.hid hN
      replace HM := Lib.hid (HM.out.below hb)
      replace kg := kg.below hb
      replace HB := bl_then HB hb
      clear hQ hb hD hN Z1
      have ku := kw.below HB
      have u0 := ku.cell 0 rfl
      have u1 := ku.cell 1 rfl
      have u2 := ku.cell 2 rfl
      have u3 := ku.cell 3 rfl
      have u4 := ku.cell 4 rfl
      have u5 := ku.cell 5 rfl
      have u6 := ku.cell 6 rfl
      have u7 := ku.cell 7 rfl
      have u8 := ku.cell 8 rfl
      have u9 := ku.cell 9 rfl
      have u10 := ku.cell 10 rfl
      have u11 := ku.cell 11 rfl
      have u12 := ku.cell 12 rfl
      have u13 := ku.cell 13 rfl
      have lu := ku.lt
      have z0 := kg.cell 0 rfl
      have z1 := kg.cell 1 rfl
      have z2 := kg.cell 2 rfl
      have z3 := kg.cell 3 rfl
      have z4 := kg.cell 4 rfl
      have z5 := kg.cell 5 rfl
      have z6 := kg.cell 6 rfl
      have z7 := kg.cell 7 rfl
      have z8 := kg.cell 8 rfl
      have z9 := kg.cell 9 rfl
      have z10 := kg.cell 10 rfl
      have z11 := kg.cell 11 rfl
      have z12 := kg.cell 12 rfl
      have z13 := kg.cell 13 rfl
      have lz := kg.lt
      go_wp2_with fail
      refine (eqN_C q hzq G5 g5 G8 g8 G12 g12 G13 g13 D5 d5 D8 d8 D12 d12 D13 d13 _ (HN.out.below (bl_alloc (Below.refl _ _) _)) (HD.out.below (bl_alloc HB _))).mono ?_
      rintro e Z3 ⟨rfl, hb⟩
      replace HM := Lib.hid ((HM.out.below (bl_alloc (Below.refl _ _) _)).below hb)
      replace kg := (kg.alloc _).below hb
      replace HB := bl_then (bl_alloc HB _) hb
      clear u0 u1 u2 u3 u4 u5 u6 u7 u8 u9 u10 u11 u12 u13 lu z0 z1 z2 z3 z4 z5 z6 z7 z8 z9 z10 z11 z12 z13 lz ku hb HN
      have z0 := kg.cell 0 rfl
      have z1 := kg.cell 1 rfl
      have z2 := kg.cell 2 rfl
      have z3 := kg.cell 3 rfl
      have z4 := kg.cell 4 rfl
      have z5 := kg.cell 5 rfl
      have z6 := kg.cell 6 rfl
      have z7 := kg.cell 7 rfl
      have z8 := kg.cell 8 rfl
      have z9 := kg.cell 9 rfl
      have z10 := kg.cell 10 rfl
      have z11 := kg.cell 11 rfl
      have z12 := kg.cell 12 rfl
      have z13 := kg.cell 13 rfl
      have lz := kg.lt
      go_wp2_with fail
      refine (heldN_C q hzq F5 f5 F8 f8 F12 f12 F13 f13 _ HM.out).mono ?_
      rintro e Z4 ⟨rfl, hb⟩
      replace HB := bl_then HB hb
      clear z0 z1 z2 z3 z4 z5 z6 z7 z8 z9 z10 z11 z12 z13 lz hb kg HM Z3
      go_wp2_with fail
      go_ret
      exact ⟨rfl, bl_then B ⟨HB.os, HB.tape, HB.output, HB.size, HB.block⟩⟩
end Go.Proofs.Ytallakebnoighaa.PFnExactSettle
namespace Go.Proofs.Ytallakebnoighaa
open Go.RowKit
theorem FnExactSettle_walk (v u : Value) (W : World) (h : ArgOf Try.prog W 28 v) (hu : ArgOf Try.prog W 3 u) :
    Calls Try.prog 4 #[v, u] W fun e w' => e = .returned (.bool true) ∧ Below W.heap.size W w' := PFnExactSettle.FnExactSettle_walk v u W h hu
end Go.Proofs.Ytallakebnoighaa
end

section
namespace Go.Proofs.Ytallakebnoighaa.fnExactSettle
open Go.ChangeShapes Go.WideShapes Go.ChangeAt Go.RowKit
theorem own : ownKnob Try.prog.godebug = none := by kernel_rfl
theorem laidOut : laidOutB Try.prog = true := by kernel_rfl
set_option maxRecDepth 100000 in
theorem lifted (os : Os) (started : os.Started) (H : Type) (enc : TypeId × Value → H) :
    ReturnsInHanded {} Try.checked os 4 .any (Rows.fnExactSettleSpec.pre6 enc Try.prog Try.f4 Rows.fnExactSettleRow.domain false) (Rows.fnExactSettleSpec.post enc Try.prog Try.f4 false true false false) := by
  refine returnsInHanded_of_change_sized (C := Try.checked) own started (by kernel_rfl) Try.func4
    (ChangeSpec.witness6 (enc := enc) (C := Try.checked) false ⟨#[], #[.agg #[.int .i64 0, .int .i64 0, .int .i64 0, .int .i64 0, .int .i64 0, .slice none 0 0, .int .i64 0, .int .i64 0, .slice none 0 0, .int .i64 0, .int .i64 0, .int .i64 0, .slice none 0 0, .slice none 0 0], .int .i64 0], []⟩ 20 (by kernel_rfl) (by kernel_rfl) (by kernel_rfl) (by kernel_rfl)) ?_
  intro W base args ds gs before hval0 hW hcnd hsz0 _
  have hval : ∀ (j : Nat) t v, Try.f4.params[j]? = some t → args[j]? = some v → Value.okWide Try.prog W .any base t v := hval0
  have hW' := hW
  obtain ⟨p, q, hA0, hV, rfl, hfz, hnd⟩ := hW
  have hA : DataW.TrodAll enc Try.prog W 0 (fun _ => true) true Try.f4.params.toList args.toList ds p := hA0
  rw [Try.params4] at hA hval
  obtain ⟨v0, vs0, d0, ds0, p0, q0, hargs, rfl, rfl, h0, r0⟩ := trodAll_cons hA
  obtain ⟨v1, vs1, d1, ds1, p1, q1, rfl, rfl, rfl, h1, r1⟩ := trodAll_cons r0
  obtain ⟨rfl, rfl, rfl⟩ := trodAll_nil r1
  obtain rfl : args = #[v0, v1] := by cases args; simp_all
  obtain ⟨rfl, rfl⟩ := trodVars_none hV
  have k0 := h0
  have lt0 : ∀ x ∈ p0, x.block < W.heap.size := by obtain ⟨m, hm⟩ := k0; exact DataW.trod_lt m _ _ _ hm
  have a0 : ArgOf Try.prog W 28 v0 := ⟨⟨base, hval 0 28 v0 rfl rfl⟩, by obtain ⟨m, hm⟩ := k0; exact ⟨H, enc, m, _, hm⟩⟩
  have k1 := h1
  have lt1 : ∀ x ∈ p1, x.block < W.heap.size := by obtain ⟨m, hm⟩ := k1; exact DataW.trod_lt m _ _ _ hm
  have a1 : ArgOf Try.prog W 3 v1 := ⟨⟨base, hval 1 3 v1 rfl rfl⟩, by obtain ⟨m, hm⟩ := k1; exact ⟨H, enc, m, _, hm⟩⟩
  clear hA0 hval0 hsz0
  refine (FnExactSettle_walk v0 v1 W a0 a1).mono fun e W' ⟨he, bel⟩ => ?_
  subst he
  exact ⟨_, rfl, _, _, _, [], _, [], hW', trodAll_mk1 (shut_bool Try.underlying4 _), (trodAll_cons_mk (Below.trod laidOut (by kernel_rfl) (of_decide_eq_true (by kernel_rfl)) k0 bel lt0) (trodAll_cons_mk (Below.trod laidOut (by kernel_rfl) (of_decide_eq_true (by kernel_rfl)) k1 bel lt1) trodAll_mk0)), rfl, bel.frame _, fun h => by cases h⟩
theorem over : Rows.fnExactSettleRow.holds Try.pinned (OpenSpec.ofChange Rows.fnExactSettleSpec) :=
  OpenClaim.holds_of_wide 4 Try.f4 rfl rfl rfl rfl rfl rfl rfl ⟨rfl, rfl, rfl, rfl, rfl⟩ rfl rfl rfl rfl rfl (by kernel_rfl) Try.func4 (by kernel_rfl)
    (of_decide_eq_true (by kernel_rfl)) (by unfold Func.isWrapper; first | (rw [if_pos (by decide +kernel)]; kernel_rfl) | (rw [if_neg (by decide +kernel)]; exact ⟨rfl, rfl⟩))
    (fun os started H enc _ => lifted os started H enc)
theorem proved : Rows.FnExactSettleSaid := over
#print axioms proved
end Go.Proofs.Ytallakebnoighaa.fnExactSettle
namespace Go.Proofs.Ytallakebnoighaa
theorem fnExactSettle_holds : Rows.FnExactSettleSaid := fnExactSettle.proved
end Go.Proofs.Ytallakebnoighaa
end
