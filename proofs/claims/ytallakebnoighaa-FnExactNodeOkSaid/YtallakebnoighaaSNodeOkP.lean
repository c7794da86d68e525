/-
  FnExactNodeOk: whatever the arguments (any values of the parameters' types that can be read), the law returns true and each argument reads afterwards as it read before. Conditions: none.
-/
import Derived.Test.YtallakebnoighaaSNodeOkH
import Derived.Test.YtallakebnoighaaSNodeOkA
import Derived.Test.YtallakebnoighaaSNodeOkJ
import Derived.Test.YtallakebnoighaaSNodeOkL
import Derived.Test.YtallakebnoighaaSNodeOkO
import Derived.Test.YtallakebnoighaaSNodeOkI
import Derived.Test.YtallakebnoighaaRows
import Derived.WalkKit
import Derived.ProofKit
import Derived.OpenShut
import Derived.ShutString
import Derived.ChangeOld
import Derived.Below
import Derived.SizedLaws
import Derived.Carry
import Derived.KernelRfl

section
namespace Go.Proofs.Ytallakebnoighaa
open Go.RowKit Go.Proofs.YtallakebnoighaaW.PrintWords PFnExactSettle
set_option linter.unusedSimpArgs false
set_option linter.unusedVariables false
def conv (x : S122) : S87 := ⟨x.f0, x.f1, x.f2⟩
theorem rdL (xs : List S122) (i : Nat) (h : i < xs.length) : rd_T122 xs i = xs[i] := by simp [rd_T122, h]
theorem rdE (xs : List S87) (i : Nat) (h : i < xs.length) : rd_T87 xs i = xs[i] := by simp [rd_T87, h]
theorem rdI (xs : List Int) (i : Nat) (h : i < xs.length) : rd xs i = xs[i] := by simp [rd, h]
theorem toE_l0 (xs : List S122) : ∀ (n k i : Nat) (acc : List S87), n + i = xs.length → acc = (xs.take i).map conv ++ List.replicate n z87 → n < k → xs.length < 4611686018427387904 → laws_toEntryS.l0 k xs acc i = some (xs.map conv)
  | 0, 0, _, _, _, _, hk, _ => by omega
  | 0, k + 1, i, acc, h, ha, hk, hl => by
    unfold laws_toEntryS.l0
    rw [if_neg (by omega), ha, List.take_of_length_le (by omega)]
    simp
  | n + 1, 0, _, _, _, _, hk, _ => by omega
  | n + 1, k + 1, i, acc, h, ha, hk, hl => by
    have e1 : wrap64 ((i : Int) + 1) = ((i + 1 : Nat) : Int) := by unfold wrap64; omega
    have hlen : acc.length = xs.length := by rw [ha]; simp; omega
    unfold laws_toEntryS.l0
    rw [if_pos (by omega), if_pos (by omega), laws_toEntry.f, Option.bind_some, if_pos (by omega), e1]
    clear e1
    refine toE_l0 xs n k (i + 1) _ (by omega) ?_ (by omega) hl
    have hi : i < xs.length := by omega
    rw [ha, Int.toNat_natCast, List.replicate_succ, List.set_append_right _ _ (by simp; omega), List.take_succ_eq_append_getElem hi, rdL xs i hi]
    have : i - (List.map conv (List.take i xs)).length = 0 := by simp; omega
    rw [this]
    simp only [List.set_cons_zero, List.map_append, List.map_cons, List.map_nil, List.append_assoc, List.cons_append, List.nil_append]
    rfl
theorem toE_f (xs : List S122) (k : Nat) (hk : xs.length < k) (hl : xs.length ≤ 1048576) : laws_toEntryS.f k xs = some (xs.map conv) := by
  unfold laws_toEntryS.f
  rw [if_pos (by omega), if_pos (by omega), Int.toNat_natCast]
  exact toE_l0 xs xs.length k 0 _ (by omega) (by simp) hk (by omega)
theorem toI_l0 (xs : List Int) : ∀ (n k i : Nat) (acc : List Int), n + i = xs.length → acc = xs.take i ++ List.replicate n 0 → n < k → xs.length < 4611686018427387904 → laws_toIntS.l0 k xs acc i = some xs
  | 0, 0, _, _, _, _, hk, _ => by omega
  | 0, k + 1, i, acc, h, ha, hk, hl => by
    unfold laws_toIntS.l0
    rw [if_neg (by omega), ha, List.take_of_length_le (by omega)]
    simp
  | n + 1, 0, _, _, _, _, hk, _ => by omega
  | n + 1, k + 1, i, acc, h, ha, hk, hl => by
    have e1 : wrap64 ((i : Int) + 1) = ((i + 1 : Nat) : Int) := by unfold wrap64; omega
    have hlen : acc.length = xs.length := by rw [ha]; simp; omega
    unfold laws_toIntS.l0
    rw [if_pos (by omega), if_pos (by omega), if_pos (by omega), e1]
    clear e1
    refine toI_l0 xs n k (i + 1) _ (by omega) ?_ (by omega) hl
    have hi : i < xs.length := by omega
    rw [ha, Int.toNat_natCast, List.replicate_succ, List.set_append_right _ _ (by simp; omega), List.take_succ_eq_append_getElem hi, rdI xs i hi]
    have : i - (List.take i xs).length = 0 := by simp; omega
    rw [this]
    simp only [List.set_cons_zero, List.append_assoc, List.cons_append, List.nil_append]
theorem toI_f (xs : List Int) (k : Nat) (hk : xs.length < k) (hl : xs.length ≤ 1048576) : laws_toIntS.f k xs = some xs := by
  unfold laws_toIntS.f
  rw [if_pos (by omega), if_pos (by omega), Int.toNat_natCast]
  exact toI_l0 xs xs.length k 0 _ (by omega) (by simp) hk (by omega)
theorem szE_l0 (xs : List S122) (hG : ∀ x ∈ xs, x.f2.size ≤ 2 ^ 63 - 1) : ∀ (n k i : Nat) (left : Int), n + i = xs.length → n < k → xs.length < 4611686018427387904 → 0 ≤ left → left ≤ 1048576 →
    ∃ r, laws_szEntryS.l0 k xs left i = some r ∧ (r < 0 ∨ (0 ≤ r ∧ r ≤ 1048576 ∧ ∀ j : Nat, i ≤ j → j < xs.length → (rd_T122 xs j).f2.size ≤ 1048576))
  | 0, 0, _, _, _, hk, _, _, _ => by omega
  | 0, k + 1, i, left, h, hk, hl, h0, h1 => by
    unfold laws_szEntryS.l0
    rw [if_neg (by omega)]
    exact ⟨_, rfl, .inr ⟨h0, h1, fun j hj hj2 => by omega⟩⟩
  | n + 1, 0, _, _, _, hk, _, _, _ => by omega
  | n + 1, k + 1, i, left, h, hk, hl, h0, h1 => by
    have e1 : wrap64 ((i : Int) + 1) = ((i + 1 : Nat) : Int) := by unfold wrap64; omega
    have hi : i < xs.length := by omega
    have hg : (rd_T122 xs i).f2.size ≤ 2 ^ 63 - 1 := by rw [rdL xs i hi]; exact hG _ (List.getElem_mem hi)
    have e2 : wrap64 (left - ((rd_T122 xs i).f2.size : Int)) = left - ((rd_T122 xs i).f2.size : Int) := by unfold wrap64; omega
    unfold laws_szEntryS.l0 laws_szEntry.f
    rw [if_pos (by omega), if_pos (by omega), e1, e2]
    clear e1 e2
    by_cases hlt : left - ((rd_T122 xs i).f2.size : Int) < 0
    · rw [if_pos hlt, Option.bind_some, if_pos (by omega)]
      exact ⟨_, rfl, .inl (by omega)⟩
    · rw [if_neg hlt, Option.bind_some, if_neg hlt]
      obtain ⟨r, hr, hh⟩ := szE_l0 xs hG n k (i + 1) _ (by omega) (by omega) hl (by omega) (show left - ((rd_T122 xs i).f2.size : Int) ≤ 1048576 by omega)
      refine ⟨r, hr, hh.imp id fun ⟨a, b, c⟩ => ⟨a, b, fun j hj hj2 => ?_⟩⟩
      by_cases hji : j = i
      · subst hji; omega
      · exact c j (by omega) hj2
theorem eqE_l0 (xs : List S87) : ∀ (n k i : Nat), n + i = xs.length → n < k → xs.length < 4611686018427387904 → laws_eqEntryS.l0 k xs xs i = some true
  | 0, 0, _, _, hk, _ => by omega
  | 0, k + 1, i, h, hk, hl => by
    unfold laws_eqEntryS.l0
    rw [if_neg (by omega)]
  | n + 1, 0, _, _, hk, _ => by omega
  | n + 1, k + 1, i, h, hk, hl => by
    have e1 : wrap64 ((i : Int) + 1) = ((i + 1 : Nat) : Int) := by unfold wrap64; omega
    unfold laws_eqEntryS.l0 laws_eqEntry.f
    rw [if_pos (by omega), if_pos (by omega), if_pos (by omega), if_pos rfl, if_pos rfl, if_pos rfl, Option.bind_some, if_pos rfl, e1]
    clear e1
    exact eqE_l0 xs n k (i + 1) (by omega) (by omega) hl
theorem eqI_l0 (xs : List Int) : ∀ (n k i : Nat), n + i = xs.length → n < k → xs.length < 4611686018427387904 → laws_eqIntS.l0 k xs xs i = some true
  | 0, 0, _, _, hk, _ => by omega
  | 0, k + 1, i, h, hk, hl => by
    unfold laws_eqIntS.l0
    rw [if_neg (by omega)]
  | n + 1, 0, _, _, hk, _ => by omega
  | n + 1, k + 1, i, h, hk, hl => by
    have e1 : wrap64 ((i : Int) + 1) = ((i + 1 : Nat) : Int) := by unfold wrap64; omega
    unfold laws_eqIntS.l0
    rw [if_pos (by omega), if_pos (by omega), if_pos (by omega), if_pos rfl, e1]
    clear e1
    exact eqI_l0 xs n k (i + 1) (by omega) (by omega) hl
theorem opens_entry (W : World) : Opens Try.prog W 122 k122 (fun x => x.f2.size ≤ maxLen) :=
  Opens.imp (opens_iso (d := Kd.pair (Kd.int .i64) (Kd.pair (Kd.int .i64) Kd.string)) (p := fun x : S122 => (x.f0, x.f1, x.f2)) (fun t => ⟨t.1, t.2.1, t.2.2⟩) (fun _ => rfl)
    (opens_struct Try.underlying122 (by kernel_rfl)
      (opensL_cons rfl (opens_int Try.underlying3) (by kernel_rfl) (opensL_cons rfl (opens_int Try.underlying3) (by kernel_rfl) (opensL_last rfl (opens_string Try.underlying9) (by kernel_rfl)))))) (fun _ h => h.2.2)
def convP (x : S98) : S69 := ⟨x.f0, x.f1, x.f2, x.f3⟩
theorem rdLP (xs : List S98) (i : Nat) (h : i < xs.length) : rd_T98 xs i = xs[i] := by simp [rd_T98, h]
theorem toP_l0 (xs : List S98) : ∀ (n k i : Nat) (acc : List S69), n + i = xs.length → acc = (xs.take i).map convP ++ List.replicate n z69 → n < k → xs.length < 4611686018427387904 → laws_toPeerS.l0 k xs acc i = some (xs.map convP)
  | 0, 0, _, _, _, _, hk, _ => by omega
  | 0, k + 1, i, acc, h, ha, hk, hl => by
    unfold laws_toPeerS.l0
    rw [if_neg (by omega), ha, List.take_of_length_le (by omega)]
    simp
  | n + 1, 0, _, _, _, _, hk, _ => by omega
  | n + 1, k + 1, i, acc, h, ha, hk, hl => by
    have e1 : wrap64 ((i : Int) + 1) = ((i + 1 : Nat) : Int) := by unfold wrap64; omega
    have hlen : acc.length = xs.length := by rw [ha]; simp; omega
    unfold laws_toPeerS.l0
    rw [if_pos (by omega), if_pos (by omega), laws_toPeer.f, Option.bind_some, if_pos (by omega), e1]
    clear e1
    refine toP_l0 xs n k (i + 1) _ (by omega) ?_ (by omega) hl
    have hi : i < xs.length := by omega
    rw [ha, Int.toNat_natCast, List.replicate_succ, List.set_append_right _ _ (by simp; omega), List.take_succ_eq_append_getElem hi, rdLP xs i hi]
    have : i - (List.map convP (List.take i xs)).length = 0 := by simp; omega
    rw [this]
    simp only [List.set_cons_zero, List.map_append, List.map_cons, List.map_nil, List.append_assoc, List.cons_append, List.nil_append]
    rfl
theorem toP_f (xs : List S98) (k : Nat) (hk : xs.length < k) (hl : xs.length ≤ 1048576) : laws_toPeerS.f k xs = some (xs.map convP) := by
  unfold laws_toPeerS.f
  rw [if_pos (by omega), if_pos (by omega), Int.toNat_natCast]
  exact toP_l0 xs xs.length k 0 _ (by omega) (by simp) hk (by omega)
theorem eqP_l0 (xs : List S69) : ∀ (n k i : Nat), n + i = xs.length → n < k → xs.length < 4611686018427387904 → laws_eqPeerS.l0 k xs xs i = some true
  | 0, 0, _, _, hk, _ => by omega
  | 0, k + 1, i, h, hk, hl => by
    unfold laws_eqPeerS.l0
    rw [if_neg (by omega)]
  | n + 1, 0, _, _, hk, _ => by omega
  | n + 1, k + 1, i, h, hk, hl => by
    have e1 : wrap64 ((i : Int) + 1) = ((i + 1 : Nat) : Int) := by unfold wrap64; omega
    unfold laws_eqPeerS.l0 laws_eqPeer.f
    rw [if_pos (by omega), if_pos (by omega), if_pos (by omega), if_pos rfl, if_pos rfl, if_pos rfl, if_pos rfl, Option.bind_some, if_pos rfl, e1]
    clear e1
    exact eqP_l0 xs n k (i + 1) (by omega) (by omega) hl
theorem eqN_f (n : NF) (hz : NodeZ n) : laws_eqNode.f 1048577 n.id n.term n.vote n.role n.lead n.cf n.st n.tm n.es n.cm n.ck n.lm n.vs n.ps n.id n.term n.vote n.role n.lead n.cf n.st n.tm n.es n.cm n.ck n.lm n.vs n.ps = some true := by
  have h1 : ∀ xs : List Int, xs.length ≤ 1048576 → laws_eqIntS.f 1048577 xs xs = some true := fun xs hl => by
    unfold laws_eqIntS.f
    rw [if_pos rfl]
    exact eqI_l0 xs xs.length 1048577 0 (by omega) (by omega) (by omega)
  have h2 : laws_eqEntryS.f 1048577 n.es n.es = some true := by
    unfold laws_eqEntryS.f
    rw [if_pos rfl]
    exact eqE_l0 n.es n.es.length 1048577 0 (by omega) (by have := hz.es; omega) (by have := hz.es; omega)
  have h3 : laws_eqPeerS.f 1048577 n.ps n.ps = some true := by
    unfold laws_eqPeerS.f
    rw [if_pos rfl]
    exact eqP_l0 n.ps n.ps.length 1048577 0 (by omega) (by have := hz.ps; omega) (by have := hz.ps; omega)
  unfold laws_eqNode.f laws_eqLog.f
  simp only [h1 _ hz.cf, h1 _ hz.vs, h2, h3, Option.bind_some, if_true]
theorem szN_f (a0 a1 a2 a3 a4 : Int) (A5 : Option Addr) (c5 : Nat) (cf : List Int) (a6 a7 : Int) (A8 : Option Addr) (c8 : Nat) (es : List S122) (a9 a10 a11 : Int) (A12 : Option Addr) (c12 : Nat) (vs : List Int) (A13 : Option Addr) (c13 : Nat) (ps : List S98) (hG : ∀ x ∈ es, x.f2.size ≤ 2 ^ 63 - 1) (h5 : cf.length ≤ 2 ^ 63 - 1) (h8 : es.length ≤ 2 ^ 63 - 1) (h12 : vs.length ≤ 2 ^ 63 - 1) (h13 : ps.length ≤ 2 ^ 63 - 1) :
    ∃ r, laws_szNode.f 3145735 a0 a1 a2 a3 a4 cf a6 a7 es a9 a10 a11 vs ps 1048576 = some r ∧ (r < 0 ∨ (0 ≤ r ∧ cf.length ≤ 1048576 ∧ es.length ≤ 1048576 ∧ vs.length ≤ 1048576 ∧ ps.length ≤ 1048576 ∧ ∀ j : Nat, j < es.length → (rd_T122 es j).f2.size ≤ 1048576)) := by
  unfold laws_szNode.f laws_szLog.f laws_szEntryS.f laws_szIntS.f laws_szPeerS.f
  have e0 : wrap64 (1048576 - (cf.length : Int)) = 1048576 - (cf.length : Int) := by unfold wrap64; omega
  rw [e0]
  clear e0
  by_cases h0 : (1048576 : Int) - (cf.length : Int) < 0
  · rw [if_pos h0, Option.bind_some, if_pos (by omega)]
    exact ⟨_, rfl, .inl (by omega)⟩
  rw [if_neg h0, Option.bind_some, if_neg h0]
  have e1 : wrap64 (1048576 - (cf.length : Int) - (es.length : Int)) = 1048576 - (cf.length : Int) - (es.length : Int) := by unfold wrap64; omega
  rw [e1]
  clear e1
  by_cases h1 : (1048576 : Int) - (cf.length : Int) - (es.length : Int) < 0
  · rw [if_pos h1, Option.bind_some, if_pos (by omega), Option.bind_some, if_pos (by omega)]
    exact ⟨_, rfl, .inl (by omega)⟩
  rw [if_neg h1]
  obtain ⟨r, hr, hh⟩ := szE_l0 es hG es.length 3145735 0 (1048576 - (cf.length : Int) - (es.length : Int)) (by omega) (by omega) (by omega) (by omega) (by omega)
  have hr' : laws_szEntryS.l0 3145735 es (1048576 - (cf.length : Int) - (es.length : Int)) 0 = some r := hr
  rw [hr', Option.bind_some]
  rcases hh with hh | ⟨ha, hb, hcc⟩
  · rw [if_pos hh, Option.bind_some, if_pos (by omega)]
    exact ⟨_, rfl, .inl (by omega)⟩
  rw [if_neg (by omega), Option.bind_some, if_neg (by omega)]
  have e2 : wrap64 (r - (vs.length : Int)) = r - (vs.length : Int) := by unfold wrap64; omega
  rw [e2]
  clear e2
  by_cases h2 : r - (vs.length : Int) < 0
  · rw [if_pos h2, Option.bind_some, if_pos (by omega)]
    exact ⟨_, rfl, .inl (by omega)⟩
  rw [if_neg h2, Option.bind_some, if_neg h2]
  have e3 : wrap64 (r - (vs.length : Int) - (ps.length : Int)) = r - (vs.length : Int) - (ps.length : Int) := by unfold wrap64; omega
  rw [e3]
  clear e3
  by_cases h3 : r - (vs.length : Int) - (ps.length : Int) < 0
  · rw [if_pos h3, Option.bind_some, if_pos (by omega)]
    exact ⟨_, rfl, .inl (by omega)⟩
  rw [if_neg h3, Option.bind_some, if_neg h3]
  exact ⟨_, rfl, .inr ⟨by omega, by omega, by omega, by omega, by omega, fun j hj => hcc j (by omega) hj⟩⟩
theorem toN_f (a0 a1 a2 a3 a4 : Int) (A5 : Option Addr) (c5 : Nat) (cf : List Int) (a6 a7 : Int) (A8 : Option Addr) (c8 : Nat) (es : List S122) (a9 a10 a11 : Int) (A12 : Option Addr) (c12 : Nat) (vs : List Int) (A13 : Option Addr) (c13 : Nat) (ps : List S98) (h5 : cf.length ≤ 1048576) (h8 : es.length ≤ 1048576) (h12 : vs.length ≤ 1048576) (h13 : ps.length ≤ 1048576) :
    laws_toNode.f 3145735 a0 a1 a2 a3 a4 cf a6 a7 es a9 a10 a11 vs ps = some (a0, a1, a2, a3, a4, cf, a6, a7, es.map conv, a9, a10, a11, vs, ps.map convP) := by
  unfold laws_toNode.f laws_toLog.f
  rw [toE_f es _ (by omega) h8, toI_f cf _ (by omega) h5, toI_f vs _ (by omega) h12, toP_f ps _ (by omega) h13]
  rfl
theorem short_convE (xs : List S122) (h : ∀ j : Nat, j < xs.length → (rd_T122 xs j).f2.size ≤ 1048576) : ShortE (xs.map conv) := by
  intro i
  by_cases hi : i < xs.length
  · rw [rdE _ i (by simpa using hi)]
    have := h i hi
    rw [rdL xs i hi] at this
    simpa [conv] using this
  · have : rd_T87 (xs.map conv) i = z87 := by simp [rd_T87, hi]
    rw [this]
    exact Nat.zero_le _
theorem opens_peer (W : World) : Opens Try.prog W 98 k98 (fun _ => True) :=
  Opens.imp (opens_iso (d := Kd.pair (Kd.int .i64) (Kd.pair (Kd.int .i64) (Kd.pair (Kd.int .i64) (Kd.int .i64)))) (p := fun x : S98 => (x.f0, x.f1, x.f2, x.f3)) (fun t => ⟨t.1, t.2.1, t.2.2.1, t.2.2.2⟩) (fun _ => rfl)
    (opens_struct Try.underlying98 (by kernel_rfl)
      (opensL_cons rfl (opens_int Try.underlying3) (by kernel_rfl) (opensL_cons rfl (opens_int Try.underlying3) (by kernel_rfl) (opensL_cons rfl (opens_int Try.underlying3) (by kernel_rfl) (opensL_last rfl (opens_int Try.underlying3) (by kernel_rfl))))))) (fun _ _ => trivial)
def kLog : Kd (Int × Int × List S122) := Kd.pair (Kd.int .i64) (Kd.pair (Kd.int .i64) (Kd.slice 122 k122))
theorem opens_log (W : World) : Opens Try.prog W 25 kLog (fun x => x.2.2.length ≤ maxLen ∧ ∀ y ∈ x.2.2, y.f2.size ≤ maxLen) :=
  Opens.imp (opens_struct Try.underlying25 (by kernel_rfl)
    (opensL_cons rfl (opens_int Try.underlying3) (by kernel_rfl) (opensL_cons rfl (opens_int Try.underlying3) (by kernel_rfl)
    (opensL_last rfl (opens_slice Try.underlying23 (by kernel_rfl) (opens_entry W)) (by kernel_rfl))))) (fun _ h => h.2.2)
def kNode : Kd (Int × Int × Int × Int × Int × List Int × (Int × Int × List S122) × Int × Int × Int × List Int × List S98) :=
  Kd.pair (Kd.int .i64) (Kd.pair (Kd.int .i64) (Kd.pair (Kd.int .i64) (Kd.pair (Kd.int .i64) (Kd.pair (Kd.int .i64) (Kd.pair (Kd.slice 3 (Kd.int .i64)) (Kd.pair kLog (Kd.pair (Kd.int .i64) (Kd.pair (Kd.int .i64) (Kd.pair (Kd.int .i64) (Kd.pair (Kd.slice 3 (Kd.int .i64)) (Kd.slice 98 k98)))))))))))
theorem opens_node (W : World) : Opens Try.prog W 28 kNode
    (fun x => x.2.2.2.2.2.1.length ≤ maxLen ∧ (x.2.2.2.2.2.2.1.2.2.length ≤ maxLen ∧ ∀ y ∈ x.2.2.2.2.2.2.1.2.2, y.f2.size ≤ maxLen) ∧ x.2.2.2.2.2.2.2.2.2.2.1.length ≤ maxLen ∧ x.2.2.2.2.2.2.2.2.2.2.2.length ≤ maxLen) := by
  exact Opens.imp (opens_struct Try.underlying28 (by kernel_rfl)
    (opensL_cons rfl (opens_int Try.underlying3) (by kernel_rfl)
    (opensL_cons rfl (opens_int Try.underlying3) (by kernel_rfl)
    (opensL_cons rfl (opens_int Try.underlying3) (by kernel_rfl)
    (opensL_cons rfl (opens_int Try.underlying3) (by kernel_rfl)
    (opensL_cons rfl (opens_int Try.underlying3) (by kernel_rfl)
    (opensL_cons rfl (opens_slice Try.underlying22 (by kernel_rfl) (opens_int Try.underlying3)) (by kernel_rfl)
    (opensL_cons rfl (opens_log W) (by kernel_rfl)
    (opensL_cons rfl (opens_int Try.underlying3) (by kernel_rfl)
    (opensL_cons rfl (opens_int Try.underlying3) (by kernel_rfl)
    (opensL_cons rfl (opens_int Try.underlying3) (by kernel_rfl)
    (opensL_cons rfl (opens_slice Try.underlying22 (by kernel_rfl) (opens_int Try.underlying3)) (by kernel_rfl)
    (opensL_last rfl (opens_slice Try.underlying26 (by kernel_rfl) (opens_peer W)) (by kernel_rfl)))))))))))))) (fun _ h => ⟨h.2.2.2.2.2.1.1, h.2.2.2.2.2.2.1, h.2.2.2.2.2.2.2.2.2.2.1.1, h.2.2.2.2.2.2.2.2.2.2.2.1⟩)
theorem arg_node {W : World} {v : Value} (h : ArgOf Try.prog W 28 v) : ∃ (a0 a1 a2 a3 a4 : Int) (A5 : Option Addr) (c5 : Nat) (cf : List Int) (a6 a7 : Int) (A8 : Option Addr) (c8 : Nat) (es : List S122) (a9 a10 a11 : Int) (A12 : Option Addr) (c12 : Nat) (vs : List Int) (A13 : Option Addr) (c13 : Nat) (ps : List S98),
    v = .agg #[.int .i64 a0, .int .i64 a1, .int .i64 a2, .int .i64 a3, .int .i64 a4, .slice A5 cf.length c5, .int .i64 a6, .int .i64 a7, .slice A8 es.length c8, .int .i64 a9, .int .i64 a10, .int .i64 a11, .slice A12 vs.length c12, .slice A13 ps.length c13] ∧
    (cf.length ≤ c5 ∧ Kd.C (Kd.int .i64) W A5 cf.length cf) ∧ (es.length ≤ c8 ∧ Kd.C k122 W A8 es.length es) ∧ (vs.length ≤ c12 ∧ Kd.C (Kd.int .i64) W A12 vs.length vs) ∧ (ps.length ≤ c13 ∧ Kd.C k98 W A13 ps.length ps) ∧ cf.length ≤ maxLen ∧ (es.length ≤ maxLen ∧ ∀ y ∈ es, y.f2.size ≤ maxLen) ∧ vs.length ≤ maxLen ∧ ps.length ≤ maxLen := by
  obtain ⟨⟨a0, a1, a2, a3, a4, cf, ⟨a6, a7, es⟩, a9, a10, a11, vs, ps⟩, cs, rfl, hK, hG⟩ := arg_struct Try.underlying28 (opens_node W) h
  obtain ⟨_, _, e0, rfl, _, _, rfl, rfl, _, _, rfl, rfl, _, _, rfl, rfl, _, _, rfl, rfl, _, _, rfl, ⟨A5, c5, rfl, h5, hC5⟩, _, _, rfl, ⟨_, _, rfl, rfl, _, _, rfl, rfl, ⟨A8, c8, rfl, h8, hC8⟩⟩, _, _, rfl, rfl, _, _, rfl, rfl, _, _, rfl, rfl, _, _, rfl, ⟨A12, c12, rfl, h12, hC12⟩, ⟨A13, c13, rfl, h13, hC13⟩⟩ := hK
  refine ⟨a0, a1, a2, a3, a4, A5, c5, cf, a6, a7, A8, c8, es, a9, a10, a11, A12, c12, vs, A13, c13, ps, ?_, ⟨h5, hC5⟩, ⟨h8, hC8⟩, ⟨h12, hC12⟩, ⟨h13, hC13⟩, hG⟩
  cases cs
  simp_all
def NodeR (n : NF) : VPred := fun w v => ∃ (A5 : Option Addr) (c5 : Nat) (A8 : Option Addr) (c8 : Nat) (A12 : Option Addr) (c12 : Nat) (A13 : Option Addr) (c13 : Nat), v = .agg #[.int .i64 n.id, .int .i64 n.term, .int .i64 n.vote, .int .i64 n.role, .int .i64 n.lead, .slice A5 n.cf.length c5, .int .i64 n.st, .int .i64 n.tm, .slice A8 n.es.length c8, .int .i64 n.cm, .int .i64 n.ck, .int .i64 n.lm, .slice A12 n.vs.length c12, .slice A13 n.ps.length c13] ∧ NodeC n A5 c5 A8 c8 A12 c12 A13 c13 w
theorem vmono_nodeR (n : NF) : VMono (NodeR n) := by
  rintro w w' v ⟨A5, c5, A8, c8, A12, c12, A13, c13, hv, hC⟩ hb
  exact ⟨A5, c5, A8, c8, A12, c12, A13, c13, hv, hC.below hb⟩
theorem R_none {α : Type} {d : Kd α} {e base : Nat} {ok : Nat → Prop} {w : World} {A : Option Addr} {n c : Nat} {xs : List α} (h : d.R e w base ok (.slice A n c) xs) : A = none → c = 0 := by
  intro hA
  obtain ⟨h0, inner, hown, hr⟩ := h
  rcases hown.2 with ⟨h1, h2⟩ | ⟨g, cap, cur, h1, h2, h3, h4, h5, h6, h7⟩
  · injection h1 with a1 a2 a3
  · injection h1 with a1 a2 a3
    rw [hA] at a1
    cases a1
theorem toN_C (a0 a1 a2 a3 a4 : Int) (A5 : Option Addr) (c5 : Nat) (cf : List Int) (a6 a7 : Int) (A8 : Option Addr) (c8 : Nat) (es : List S122) (a9 a10 a11 : Int) (A12 : Option Addr) (c12 : Nat) (vs : List Int) (A13 : Option Addr) (c13 : Nat) (ps : List S98) (m : NF) (hm : Hid (m = ⟨a0, a1, a2, a3, a4, cf, a6, a7, es.map conv, a9, a10, a11, vs, ps.map convP⟩)) (w : World) (h5 : cf.length ≤ c5) (C5 : Kd.C (Kd.int .i64) w A5 cf.length cf) (h8 : es.length ≤ c8) (C8 : Kd.C k122 w A8 es.length es) (h12 : vs.length ≤ c12) (C12 : Kd.C (Kd.int .i64) w A12 vs.length vs) (h13 : ps.length ≤ c13) (C13 : Kd.C k98 w A13 ps.length ps)
    (l5 : cf.length ≤ 1048576) (l8 : es.length ≤ 1048576) (l12 : vs.length ≤ 1048576) (l13 : ps.length ≤ 1048576) :
    Calls Try.prog 8 #[.agg #[.int .i64 a0, .int .i64 a1, .int .i64 a2, .int .i64 a3, .int .i64 a4, .slice A5 cf.length c5, .int .i64 a6, .int .i64 a7, .slice A8 es.length c8, .int .i64 a9, .int .i64 a10, .int .i64 a11, .slice A12 vs.length c12, .slice A13 ps.length c13]] w fun e w' => ∃ v, e = .returned v ∧ NodeR m w' v ∧ Below w.heap.size w w' := by
  obtain rfl := hm.out
  refine (PFnExactSettle.laws_toNode.calls 3145735 a0 a1 a2 a3 a4 A5 c5 cf a6 a7 A8 c8 es a9 a10 a11 A12 c12 vs A13 c13 ps _ _ _ _ _ _ _ _ _ _ _ _ _ _ w C5 h5 C8 h8 C12 h12 C13 h13 (toN_f a0 a1 a2 a3 a4 A5 c5 cf a6 a7 A8 c8 es a9 a10 a11 A12 c12 vs A13 c13 ps l5 l8 l12 l13)).mono ?_
  rintro e w' ⟨v5, v8, v12, v13, rfl, R5, R8, R12, R13, hb⟩
  obtain ⟨B5, b5, rfl, g5, D5⟩ := Kd.R_reads R5
  obtain ⟨B8, b8, rfl, g8, D8⟩ := Kd.R_reads R8
  obtain ⟨B12, b12, rfl, g12, D12⟩ := Kd.R_reads R12
  obtain ⟨B13, b13, rfl, g13, D13⟩ := Kd.R_reads R13
  exact ⟨_, rfl, ⟨B5, b5, B8, b8, B12, b12, B13, b13, rfl, ⟨D5, g5, R_none R5, D8, g8, R_none R8, D12, g12, R_none R12, D13, g13, R_none R13⟩⟩, hb⟩
theorem eqN_C (n : NF) (hz : NodeZ n) (A5 : Option Addr) (c5 : Nat) (A8 : Option Addr) (c8 : Nat) (A12 : Option Addr) (c12 : Nat) (A13 : Option Addr) (c13 : Nat) (D5 : Option Addr) (d5 : Nat) (D8 : Option Addr) (d8 : Nat) (D12 : Option Addr) (d12 : Nat) (D13 : Option Addr) (d13 : Nat) (w : World) (h : NodeC n A5 c5 A8 c8 A12 c12 A13 c13 w) (g : NodeC n D5 d5 D8 d8 D12 d12 D13 d13 w) :
    Calls Try.prog 10 #[.agg #[.int .i64 n.id, .int .i64 n.term, .int .i64 n.vote, .int .i64 n.role, .int .i64 n.lead, .slice A5 n.cf.length c5, .int .i64 n.st, .int .i64 n.tm, .slice A8 n.es.length c8, .int .i64 n.cm, .int .i64 n.ck, .int .i64 n.lm, .slice A12 n.vs.length c12, .slice A13 n.ps.length c13], .agg #[.int .i64 n.id, .int .i64 n.term, .int .i64 n.vote, .int .i64 n.role, .int .i64 n.lead, .slice D5 n.cf.length d5, .int .i64 n.st, .int .i64 n.tm, .slice D8 n.es.length d8, .int .i64 n.cm, .int .i64 n.ck, .int .i64 n.lm, .slice D12 n.vs.length d12, .slice D13 n.ps.length d13]] w fun e w' => e = .returned (.bool true) ∧ Below w.heap.size w w' :=
  PFnExactSettle.laws_eqNode.calls 1048577 n.id n.term n.vote n.role n.lead A5 c5 n.cf n.st n.tm A8 c8 n.es n.cm n.ck n.lm A12 c12 n.vs A13 c13 n.ps n.id n.term n.vote n.role n.lead D5 d5 n.cf n.st n.tm D8 d8 n.es n.cm n.ck n.lm D12 d12 n.vs D13 d13 n.ps true w h.h5 h.hc5 h.h8 h.hc8 h.h12 h.hc12 h.h13 h.hc13 g.h5 g.hc5 g.h8 g.hc8 g.h12 g.hc12 g.h13 g.hc13 (eqN_f n hz)
end Go.Proofs.Ytallakebnoighaa
end

section
namespace Go.Proofs.Ytallakebnoighaa
open Go.RowKit Go.Proofs.YtallakebnoighaaW.PrintWords PFnExactSettle
set_option linter.unusedSimpArgs false
set_option linter.unusedVariables false
attribute [local go_sem] flowUpon
set_option maxRecDepth 100000 in
set_option maxHeartbeats 4000000 in
theorem FnExactNodeOk_walk (v : Value) (W : World) (h : ArgOf Try.prog W 28 v) :
    Calls Try.prog 3 #[v] W fun e w' => e = .returned (.bool true) ∧ Below W.heap.size W w' := by
  obtain ⟨a0, a1, a2, a3, a4, A5, c5, cf, a6, a7, A8, c8, es, a9, a10, a11, A12, c12, vs, A13, c13, ps, rfl, ⟨h5, C5⟩, ⟨h8, C8⟩, ⟨h12, C12⟩, ⟨h13, C13⟩, m5, ⟨m8, hG⟩, m12, m13⟩ := arg_node h
  clear h
  unfold maxLen at m5 m8 m12 m13 hG
  obtain ⟨r, hr, hrr⟩ := szN_f a0 a1 a2 a3 a4 A5 c5 cf a6 a7 A8 c8 es a9 a10 a11 A12 c12 vs A13 c13 ps hG m5 m8 m12 m13
  have HC := Lib.hid (And.intro C5 (And.intro C8 (And.intro C12 C13)))
  have HR := Lib.hid hr
  clear C5 C8 C12 C13 hG hr m5 m8 m12 m13
  go_enter Try.func3, Try.ntmps3
  go_wp2_with fail
  refine calls_atC (fun X => Blk 28 W.heap.size #[.int .i64 a0, .int .i64 a1, .int .i64 a2, .int .i64 a3, .int .i64 a4, .slice A5 cf.length c5, .int .i64 a6, .int .i64 a7, .slice A8 es.length c8, .int .i64 a9, .int .i64 a10, .int .i64 a11, .slice A12 vs.length c12, .slice A13 ps.length c13] X ∧ Below W.heap.size W X) ⟨Blk.new _ _ W, (by repeat (first | exact Below.refl _ _ | apply bl_alloc | apply bl_drewN | apply bl_drew | refine bl_set ?_ (by simp) | refine bl_then ?_ (by assumption)))⟩ ?_
  rintro X0 ⟨k1, B⟩
  refine (PFnExactSettle.laws_szNode.calls _ a0 a1 a2 a3 a4 A5 c5 cf a6 a7 A8 c8 es a9 a10 a11 A12 c12 vs A13 c13 ps _ _ _ (Kd.C_below HC.out.1 B) h5 (Kd.C_below HC.out.2.1 B) h8 (Kd.C_below HC.out.2.2.1 B) h12 (Kd.C_below HC.out.2.2.2 B) h13 HR.out).mono ?_
  rintro e X1 ⟨rfl, hb⟩
  replace k1 := k1.below hb
  replace B := bl_then B hb
  clear hb X0
  have y0 := k1.cell 0 rfl
  have y1 := k1.cell 1 rfl
  have y2 := k1.cell 2 rfl
  have y3 := k1.cell 3 rfl
  have y4 := k1.cell 4 rfl
  have y5 := k1.cell 5 rfl
  have y6 := k1.cell 6 rfl
  have y7 := k1.cell 7 rfl
  have y8 := k1.cell 8 rfl
  have y9 := k1.cell 9 rfl
  have y10 := k1.cell 10 rfl
  have y11 := k1.cell 11 rfl
  have y12 := k1.cell 12 rfl
  have y13 := k1.cell 13 rfl
  have ly := k1.lt
  rcases hrr with hneg | ⟨hr0, l5, l8, l12, l13, hS⟩
  · go_wp2_with fail
    go_ret
    exact ⟨rfl, B⟩
  have hnn : ¬ r < 0 := by omega
  obtain ⟨m, hm⟩ : ∃ m : NF, Hid (m = ⟨a0, a1, a2, a3, a4, cf, a6, a7, es.map conv, a9, a10, a11, vs, ps.map convP⟩) := ⟨_, Lib.hid rfl⟩
  have hz : NodeZ m := by
    obtain rfl := hm.out
    exact ⟨l5, by simpa using l8, short_convE es hS, l12, by simpa using l13⟩
  clear hS
  go_wp2_with fail
  refine (toN_C a0 a1 a2 a3 a4 A5 c5 cf a6 a7 A8 c8 es a9 a10 a11 A12 c12 vs A13 c13 ps m hm _ h5 (Kd.C_below HC.out.1 B) h8 (Kd.C_below HC.out.2.1 B) h12 (Kd.C_below HC.out.2.2.1 B) h13 (Kd.C_below HC.out.2.2.2 B) l5 l8 l12 l13).mono ?_
  rintro e X2 ⟨v, rfl, ⟨B5, b5, B8, b8, B12, b12, B13, b13, rfl, hD⟩, hb⟩
  replace k1 := k1.below hb
  replace B := bl_then B hb
  clear y0 y1 y2 y3 y4 y5 y6 y7 y8 y9 y10 y11 y12 y13 ly hb X1
  have y0 := k1.cell 0 rfl
  have y1 := k1.cell 1 rfl
  have y2 := k1.cell 2 rfl
  have y3 := k1.cell 3 rfl
  have y4 := k1.cell 4 rfl
  have y5 := k1.cell 5 rfl
  have y6 := k1.cell 6 rfl
  have y7 := k1.cell 7 rfl
  have y8 := k1.cell 8 rfl
  have y9 := k1.cell 9 rfl
  have y10 := k1.cell 10 rfl
  have y11 := k1.cell 11 rfl
  have y12 := k1.cell 12 rfl
  have y13 := k1.cell 13 rfl
  have ly := k1.lt
  go_wp2_with fail
  refine (spec_NodeOk_C m B5 b5 B8 b8 B12 b12 B13 b13 _ hz hD).mono ?_
  rintro e X3 ⟨rfl, hb⟩
  replace k1 := k1.below hb
  replace B := bl_then B hb
  clear y0 y1 y2 y3 y4 y5 y6 y7 y8 y9 y10 y11 y12 y13 ly hb hD X2
  have y0 := k1.cell 0 rfl
  have y1 := k1.cell 1 rfl
  have y2 := k1.cell 2 rfl
  have y3 := k1.cell 3 rfl
  have y4 := k1.cell 4 rfl
  have y5 := k1.cell 5 rfl
  have y6 := k1.cell 6 rfl
  have y7 := k1.cell 7 rfl
  have y8 := k1.cell 8 rfl
  have y9 := k1.cell 9 rfl
  have y10 := k1.cell 10 rfl
  have y11 := k1.cell 11 rfl
  have y12 := k1.cell 12 rfl
  have y13 := k1.cell 13 rfl
  have ly := k1.lt
  go_wp2_with fail
  refine (toN_C a0 a1 a2 a3 a4 A5 c5 cf a6 a7 A8 c8 es a9 a10 a11 A12 c12 vs A13 c13 ps m hm _ h5 (Kd.C_below HC.out.1 B) h8 (Kd.C_below HC.out.2.1 B) h12 (Kd.C_below HC.out.2.2.1 B) h13 (Kd.C_below HC.out.2.2.2 B) l5 l8 l12 l13).mono ?_
  rintro e X4 ⟨v, rfl, ⟨D5, d5, D8, d8, D12, d12, D13, d13, rfl, hD⟩, hb⟩
  replace k1 := k1.below hb
  replace B := bl_then B hb
  clear y0 y1 y2 y3 y4 y5 y6 y7 y8 y9 y10 y11 y12 y13 ly hb X3
  have y0 := k1.cell 0 rfl
  have y1 := k1.cell 1 rfl
  have y2 := k1.cell 2 rfl
  have y3 := k1.cell 3 rfl
  have y4 := k1.cell 4 rfl
  have y5 := k1.cell 5 rfl
  have y6 := k1.cell 6 rfl
  have y7 := k1.cell 7 rfl
  have y8 := k1.cell 8 rfl
  have y9 := k1.cell 9 rfl
  have y10 := k1.cell 10 rfl
  have y11 := k1.cell 11 rfl
  have y12 := k1.cell 12 rfl
  have y13 := k1.cell 13 rfl
  have ly := k1.lt
  go_wp2_with fail
  obtain ⟨g, hg⟩ : ∃ g, g = X4.heap.size := ⟨_, rfl⟩
  refine calls_atC (fun X => Blk 28 W.heap.size #[.int .i64 a0, .int .i64 a1, .int .i64 a2, .int .i64 a3, .int .i64 a4, .slice A5 cf.length c5, .int .i64 a6, .int .i64 a7, .slice A8 es.length c8, .int .i64 a9, .int .i64 a10, .int .i64 a11, .slice A12 vs.length c12, .slice A13 ps.length c13] X ∧ Below W.heap.size W X ∧ Blk 36 g #[.int .i64 m.id, .int .i64 m.term, .int .i64 m.vote, .int .i64 m.role, .int .i64 m.lead, .slice D5 m.cf.length d5, .int .i64 m.st, .int .i64 m.tm, .slice D8 m.es.length d8, .int .i64 m.cm, .int .i64 m.ck, .int .i64 m.lm, .slice D12 m.vs.length d12, .slice D13 m.ps.length d13] X ∧ NodeC m D5 d5 D8 d8 D12 d12 D13 d13 X ∧ W.heap.size < g) ⟨k1.alloc _, bl_alloc B _, Blk.newE _ _ X4 hg, hD.below (bl_alloc (Below.refl _ _) _), by omega⟩ ?_
  (try rw [← hg])
  clear y0 y1 y2 y3 y4 y5 y6 y7 y8 y9 y10 y11 y12 y13 ly hg k1 B hD
  rintro X5 ⟨k1, B, k2, hD, hgl⟩
  have HD := Lib.hid hD
  refine (impl_NodeOk_C m D5 d5 D8 d8 D12 d12 D13 d13 _ hz HD.out).mono ?_
  rintro e X6 ⟨rfl, hb⟩
  replace k1 := k1.below hb
  replace k2 := k2.below hb
  replace B := bl_then B hb
  replace HD := Lib.hid (HD.out.below hb)
  clear hb hD X5
  have y0 := k1.cell 0 rfl
  have y1 := k1.cell 1 rfl
  have y2 := k1.cell 2 rfl
  have y3 := k1.cell 3 rfl
  have y4 := k1.cell 4 rfl
  have y5 := k1.cell 5 rfl
  have y6 := k1.cell 6 rfl
  have y7 := k1.cell 7 rfl
  have y8 := k1.cell 8 rfl
  have y9 := k1.cell 9 rfl
  have y10 := k1.cell 10 rfl
  have y11 := k1.cell 11 rfl
  have y12 := k1.cell 12 rfl
  have y13 := k1.cell 13 rfl
  have ly := k1.lt
  have z0 := k2.cell 0 rfl
  have z1 := k2.cell 1 rfl
  have z2 := k2.cell 2 rfl
  have z3 := k2.cell 3 rfl
  have z4 := k2.cell 4 rfl
  have z5 := k2.cell 5 rfl
  have z6 := k2.cell 6 rfl
  have z7 := k2.cell 7 rfl
  have z8 := k2.cell 8 rfl
  have z9 := k2.cell 9 rfl
  have z10 := k2.cell 10 rfl
  have z11 := k2.cell 11 rfl
  have z12 := k2.cell 12 rfl
  have z13 := k2.cell 13 rfl
  have lz := k2.lt
  go_wp2_with fail
  refine wp_region_flow [1, 5] 27 (by kernel_rfl) (by rfl) (by kernel_rfl) (by kernel_rfl) (by kernel_rfl) ?_
  iterate 2 (refine flow_valE ?_; apply Exists.intro; refine ⟨fun A wq hBq hbq hdq => ?_, ?_⟩; focus (obtain ⟨hcq, hfq⟩ := bcell hBq; (try simp [go_sem, baseF, deps, dep1, Region.binds] at hbq); (try simp [go_sem, baseF, deps, dep1, Region.binds, NewSl] at hdq); go_simp; first | exact ⟨Below.refl _ _, rfl⟩ | (rw [if_neg]; (focus (exact ⟨Below.refl _ _, rfl⟩)); (focus ((try simp only [ByteArray.size_append]); omega))) | (fail)))
  refine flow_R (NodeR m) (vmono_nodeR m) (fun A wq hBq hbq hdq => ?_) ?_
  · (try simp [go_sem, baseF, deps, dep1, Region.binds] at hbq)
    (try simp [go_sem, baseF, deps, dep1, Region.binds] at hdq)
    go_simp
    refine (toN_C a0 a1 a2 a3 a4 A5 c5 cf a6 a7 A8 c8 es a9 a10 a11 A12 c12 vs A13 c13 ps m hm _ h5 (Kd.C_below HC.out.1 (bl_then B hBq)) h8 (Kd.C_below HC.out.2.1 (bl_then B hBq)) h12 (Kd.C_below HC.out.2.2.1 (bl_then B hBq)) h13 (Kd.C_below HC.out.2.2.2 (bl_then B hBq)) l5 l8 l12 l13).mono ?_
    rintro e w' ⟨v, rfl, hv, hb⟩
    first | exact ⟨_, rfl, hb, hv⟩ | exact ⟨hb, hv⟩
  refine flow_valE ?_
  refine ⟨.bool true, fun A wq hBq hbq hdq => ?_, ?_⟩
  · (try simp [go_sem, baseF, deps, dep1, Region.binds] at hbq)
    (try simp [go_sem, baseF, deps, dep1, Region.binds, NodeR] at hdq)
    obtain ⟨h22, E5, e5, E8, e8, E12, e12, E13, e13, hv, hE⟩ := hdq
    go_simp
    exact eqN_C m hz D5 d5 D8 d8 D12 d12 D13 d13 E5 e5 E8 e8 E12 e12 E13 e13 _ (HD.out.below hBq) hE
  (refine flow_valE ?_; apply Exists.intro; refine ⟨fun A wq hBq hbq hdq => ?_, ?_⟩; focus (obtain ⟨hcq, hfq⟩ := bcell hBq; (try simp [go_sem, baseF, deps, dep1, Region.binds] at hbq); (try simp [go_sem, baseF, deps, dep1, Region.binds, NewSl] at hdq); go_simp; first | exact ⟨Below.refl _ _, rfl⟩ | (rw [if_neg]; (focus (exact ⟨Below.refl _ _, rfl⟩)); (focus ((try simp only [ByteArray.size_append]); omega))) | (fail)))
  refine fun x wq hBq hall => ?_
  simp only [allT] at hall
  simp [frameOf, Act.put, hall]
  clear hall
  go_wp2_with fail
  go_ret
  exact ⟨rfl, bl_then B hBq⟩
end Go.Proofs.Ytallakebnoighaa
end

section
namespace Go.Proofs.Ytallakebnoighaa.fnExactNodeOk
open Go.ChangeShapes Go.WideShapes Go.ChangeAt Go.RowKit
theorem own : ownKnob Try.prog.godebug = none := by kernel_rfl
theorem laidOut : laidOutB Try.prog = true := by kernel_rfl
set_option maxRecDepth 100000 in
theorem lifted (os : Os) (started : os.Started) (H : Type) (enc : TypeId × Value → H) :
    ReturnsInHanded {} Try.checked os 3 .any (Rows.fnExactNodeOkSpec.pre6 enc Try.prog Try.f3 Rows.fnExactNodeOkRow.domain false) (Rows.fnExactNodeOkSpec.post enc Try.prog Try.f3 false true false false) := by
  refine returnsInHanded_of_change_sized (C := Try.checked) own started (by kernel_rfl) Try.func3
    (ChangeSpec.witness6 (enc := enc) (C := Try.checked) false ⟨#[], #[.agg #[.int .i64 0, .int .i64 0, .int .i64 0, .int .i64 0, .int .i64 0, .slice none 0 0, .int .i64 0, .int .i64 0, .slice none 0 0, .int .i64 0, .int .i64 0, .int .i64 0, .slice none 0 0, .slice none 0 0]], []⟩ 20 (by kernel_rfl) (by kernel_rfl) (by kernel_rfl) (by kernel_rfl)) ?_
  intro W base args ds gs before hval0 hW hcnd hsz0 _
  have hval : ∀ (j : Nat) t v, Try.f3.params[j]? = some t → args[j]? = some v → Value.okWide Try.prog W .any base t v := hval0
  have hW' := hW
  obtain ⟨p, q, hA0, hV, rfl, hfz, hnd⟩ := hW
  have hA : DataW.TrodAll enc Try.prog W 0 (fun _ => true) true Try.f3.params.toList args.toList ds p := hA0
  rw [Try.params3] at hA hval
  obtain ⟨v0, vs0, d0, ds0, p0, q0, hargs, rfl, rfl, h0, r0⟩ := trodAll_cons hA
  obtain ⟨rfl, rfl, rfl⟩ := trodAll_nil r0
  obtain rfl : args = #[v0] := by cases args; simp_all
  obtain ⟨rfl, rfl⟩ := trodVars_none hV
  have k0 := h0
  have lt0 : ∀ x ∈ p0, x.block < W.heap.size := by obtain ⟨m, hm⟩ := k0; exact DataW.trod_lt m _ _ _ hm
  have a0 : ArgOf Try.prog W 28 v0 := ⟨⟨base, hval 0 28 v0 rfl rfl⟩, by obtain ⟨m, hm⟩ := k0; exact ⟨H, enc, m, _, hm⟩⟩
  clear hA0 hval0 hsz0
  refine (FnExactNodeOk_walk v0 W a0).mono fun e W' ⟨he, bel⟩ => ?_
  subst he
  exact ⟨_, rfl, _, _, _, [], _, [], hW', trodAll_mk1 (shut_bool Try.underlying4 _), (trodAll_cons_mk (Below.trod laidOut (by kernel_rfl) (of_decide_eq_true (by kernel_rfl)) k0 bel lt0) trodAll_mk0), rfl, bel.frame _, fun h => by cases h⟩
theorem over : Rows.fnExactNodeOkRow.holds Try.pinned (OpenSpec.ofChange Rows.fnExactNodeOkSpec) :=
  OpenClaim.holds_of_wide 3 Try.f3 rfl rfl rfl rfl rfl rfl rfl ⟨rfl, rfl, rfl, rfl, rfl⟩ rfl rfl rfl rfl rfl (by kernel_rfl) Try.func3 (by kernel_rfl)
    (of_decide_eq_true (by kernel_rfl)) (by unfold Func.isWrapper; first | (rw [if_pos (by decide +kernel)]; kernel_rfl) | (rw [if_neg (by decide +kernel)]; exact ⟨rfl, rfl⟩))
    (fun os started H enc _ => lifted os started H enc)
theorem proved : Rows.FnExactNodeOkSaid := over
#print axioms proved
end Go.Proofs.Ytallakebnoighaa.fnExactNodeOk
namespace Go.Proofs.Ytallakebnoighaa
theorem fnExactNodeOk_holds : Rows.FnExactNodeOkSaid := fnExactNodeOk.proved
end Go.Proofs.Ytallakebnoighaa
end
