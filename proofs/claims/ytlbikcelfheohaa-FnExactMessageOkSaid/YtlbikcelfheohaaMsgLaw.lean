import Derived.Test.YtlbikcelfheohaaMsgImpl
import Derived.Test.YtlbikcelfheohaaPFnExactMessageOkx4
import Derived.Test.YtlbikcelfheohaaPFnExactMessageOkx14
import Derived.Test.YtlbikcelfheohaaPFnExactMessageOkx24
namespace Go.Proofs.Ytlbikcelfheohaa.PFnExactMessageOk
open Go.RowKit Go.Proofs.YtlbikcelfheohaaW.PrintWords
set_option linter.unusedSimpArgs false
set_option linter.unusedVariables false

def conv (x : S127) : S93 := ⟨x.f0, x.f1, x.f2⟩
theorem rdL (xs : List S127) (i : Nat) (h : i < xs.length) : rd_T127 xs i = xs[i] := by simp [rd_T127, h]
theorem rdE (xs : List S93) (i : Nat) (h : i < xs.length) : rd_T93 xs i = xs[i] := by simp [rd_T93, h]
theorem rdI (xs : List Int) (i : Nat) (h : i < xs.length) : rd xs i = xs[i] := by simp [rd, h]

theorem toE_l0 (xs : List S127) : ∀ (n k i : Nat) (acc : List S93), n + i = xs.length → acc = (xs.take i).map conv ++ List.replicate n z93 → n < k → xs.length < 4611686018427387904 → laws_toEntryS.l0 k xs acc i = some (xs.map conv)
  | 0, 0, _, _, _, _, hk, _ => by omega
  | 0, k + 1, i, acc, h, ha, hk, hl => by
    unfold laws_toEntryS.l0
    rw [if_neg (by omega), ha, List.take_of_length_le (by omega)]
    simp
  | n + 1, 0, _, _, _, _, hk, _ => by omega
  | n + 1, k + 1, i, acc, h, ha, hk, hl => by
    have e1 : wrap64 ((i : Int) + 1) = ((i + 1 : Nat) : Int) := by unfold wrap64; omega
    have hlen : acc.length = xs.length := by rw [ha]; simp; omega
    unfold laws_toEntryS.l0
    rw [if_pos (by omega), if_pos (by omega), laws_toEntry.f, Option.bind_some, if_pos (by omega), e1]
    clear e1
    refine toE_l0 xs n k (i + 1) _ (by omega) ?_ (by omega) hl
    have hi : i < xs.length := by omega
    rw [ha, Int.toNat_natCast, List.replicate_succ, List.set_append_right _ _ (by simp; omega), List.take_succ_eq_append_getElem hi, rdL xs i hi]
    have : i - (List.map conv (List.take i xs)).length = 0 := by simp; omega
    rw [this]
    simp only [List.set_cons_zero, List.map_append, List.map_cons, List.map_nil, List.append_assoc, List.cons_append, List.nil_append]
    rfl
theorem toE_f (xs : List S127) (k : Nat) (hk : xs.length < k) (hl : xs.length ≤ 1048576) : laws_toEntryS.f k xs = some (xs.map conv) := by
  unfold laws_toEntryS.f
  rw [if_pos (by omega), if_pos (by omega), Int.toNat_natCast]
  exact toE_l0 xs xs.length k 0 _ (by omega) (by simp) hk (by omega)
theorem toI_l0 (xs : List Int) : ∀ (n k i : Nat) (acc : List Int), n + i = xs.length → acc = xs.take i ++ List.replicate n 0 → n < k → xs.length < 4611686018427387904 → laws_toIntS.l0 k xs acc i = some xs
  | 0, 0, _, _, _, _, hk, _ => by omega
  | 0, k + 1, i, acc, h, ha, hk, hl => by
    unfold laws_toIntS.l0
    rw [if_neg (by omega), ha, List.take_of_length_le (by omega)]
    simp
  | n + 1, 0, _, _, _, _, hk, _ => by omega
  | n + 1, k + 1, i, acc, h, ha, hk, hl => by
    have e1 : wrap64 ((i : Int) + 1) = ((i + 1 : Nat) : Int) := by unfold wrap64; omega
    have hlen : acc.length = xs.length := by rw [ha]; simp; omega
    unfold laws_toIntS.l0
    rw [if_pos (by omega), if_pos (by omega), if_pos (by omega), e1]
    clear e1
    refine toI_l0 xs n k (i + 1) _ (by omega) ?_ (by omega) hl
    have hi : i < xs.length := by omega
    rw [ha, Int.toNat_natCast, List.replicate_succ, List.set_append_right _ _ (by simp; omega), List.take_succ_eq_append_getElem hi, rdI xs i hi]
    have : i - (List.take i xs).length = 0 := by simp; omega
    rw [this]
    simp only [List.set_cons_zero, List.append_assoc, List.cons_append, List.nil_append]
theorem toI_f (xs : List Int) (k : Nat) (hk : xs.length < k) (hl : xs.length ≤ 1048576) : laws_toIntS.f k xs = some xs := by
  unfold laws_toIntS.f
  rw [if_pos (by omega), if_pos (by omega), Int.toNat_natCast]
  exact toI_l0 xs xs.length k 0 _ (by omega) (by simp) hk (by omega)

theorem szE_l0 (xs : List S127) (hG : ∀ x ∈ xs, x.f2.size ≤ 2 ^ 63 - 1) : ∀ (n k i : Nat) (left : Int), n + i = xs.length → n < k → xs.length < 4611686018427387904 → 0 ≤ left → left ≤ 1048576 →
    ∃ r, laws_szEntryS.l0 k xs left i = some r ∧ (r < 0 ∨ (0 ≤ r ∧ r ≤ 1048576 ∧ ∀ j : Nat, i ≤ j → j < xs.length → (rd_T127 xs j).f2.size ≤ 1048576))
  | 0, 0, _, _, _, hk, _, _, _ => by omega
  | 0, k + 1, i, left, h, hk, hl, h0, h1 => by
    unfold laws_szEntryS.l0
    rw [if_neg (by omega)]
    exact ⟨_, rfl, .inr ⟨h0, h1, fun j hj hj2 => by omega⟩⟩
  | n + 1, 0, _, _, _, hk, _, _, _ => by omega
  | n + 1, k + 1, i, left, h, hk, hl, h0, h1 => by
    have e1 : wrap64 ((i : Int) + 1) = ((i + 1 : Nat) : Int) := by unfold wrap64; omega
    have hi : i < xs.length := by omega
    have hg : (rd_T127 xs i).f2.size ≤ 2 ^ 63 - 1 := by rw [rdL xs i hi]; exact hG _ (List.getElem_mem hi)
    have e2 : wrap64 (left - ((rd_T127 xs i).f2.size : Int)) = left - ((rd_T127 xs i).f2.size : Int) := by unfold wrap64; omega
    unfold laws_szEntryS.l0 laws_szEntry.f
    rw [if_pos (by omega), if_pos (by omega), e1, e2]
    clear e1 e2
    by_cases hlt : left - ((rd_T127 xs i).f2.size : Int) < 0
    · rw [if_pos hlt, Option.bind_some, if_pos (by omega)]
      exact ⟨_, rfl, .inl (by omega)⟩
    · rw [if_neg hlt, Option.bind_some, if_neg hlt]
      obtain ⟨r, hr, hh⟩ := szE_l0 xs hG n k (i + 1) _ (by omega) (by omega) hl (by omega) (show left - ((rd_T127 xs i).f2.size : Int) ≤ 1048576 by omega)
      refine ⟨r, hr, hh.imp id fun ⟨a, b, c⟩ => ⟨a, b, fun j hj hj2 => ?_⟩⟩
      by_cases hji : j = i
      · subst hji; omega
      · exact c j (by omega) hj2
theorem sz_f (xs : List S127) (cf : List Int) (d : ByteArray) (a0 a1 a2 a3 a4 a5 a6 : Int) (a7 ls : Bool) (hG : ∀ x ∈ xs, x.f2.size ≤ 2 ^ 63 - 1) (hl : xs.length ≤ 2 ^ 63 - 1) (hc : cf.length ≤ 2 ^ 63 - 1) (hd : d.size ≤ 2 ^ 63 - 1) :
    ∃ r, laws_szMessage.f 3145735 a0 a1 a2 a3 a4 a5 a6 a7 xs cf d ls 1048576 = some r ∧ (r < 0 ∨ (xs.length ≤ 1048576 ∧ cf.length ≤ 1048576 ∧ d.size ≤ 1048576 ∧ ∀ j : Nat, j < xs.length → (rd_T127 xs j).f2.size ≤ 1048576)) := by
  unfold laws_szMessage.f laws_szEntryS.f laws_szIntS.f
  have e1 : wrap64 (1048576 - (xs.length : Int)) = 1048576 - (xs.length : Int) := by unfold wrap64; omega
  rw [e1]
  clear e1
  by_cases h1 : (1048576 : Int) - (xs.length : Int) < 0
  · rw [if_pos h1, Option.bind_some, if_pos (by omega)]
    exact ⟨_, rfl, .inl (by omega)⟩
  · rw [if_neg h1]
    obtain ⟨r, hr, hh⟩ := szE_l0 xs hG xs.length 3145735 0 (1048576 - (xs.length : Int)) (by omega) (by omega) (by omega) (by omega) (by omega)
    have hr' : laws_szEntryS.l0 3145735 xs (1048576 - (xs.length : Int)) 0 = some r := hr
    rw [hr', Option.bind_some]
    rcases hh with hh | ⟨ha, hb, hcc⟩
    · rw [if_pos hh]
      exact ⟨_, rfl, .inl (by omega)⟩
    · rw [if_neg (by omega)]
      have e2 : wrap64 (r - (cf.length : Int)) = r - (cf.length : Int) := by unfold wrap64; omega
      rw [e2]
      clear e2
      by_cases h2 : r - (cf.length : Int) < 0
      · rw [if_pos h2, Option.bind_some, if_pos (by omega)]
        exact ⟨_, rfl, .inl (by omega)⟩
      · rw [if_neg h2, Option.bind_some, if_neg h2]
        have e3 : wrap64 (r - (cf.length : Int) - (d.size : Int)) = r - (cf.length : Int) - (d.size : Int) := by unfold wrap64; omega
        rw [e3]
        clear e3
        by_cases h3 : r - (cf.length : Int) - (d.size : Int) < 0
        · rw [if_pos h3]
          exact ⟨_, rfl, .inl (by omega)⟩
        · rw [if_neg h3]
          exact ⟨_, rfl, .inr ⟨by omega, by omega, by omega, fun j hj => hcc j (by omega) hj⟩⟩

theorem eqE_l0 (xs : List S93) : ∀ (n k i : Nat), n + i = xs.length → n < k → xs.length < 4611686018427387904 → laws_eqEntryS.l0 k xs xs i = some true
  | 0, 0, _, _, hk, _ => by omega
  | 0, k + 1, i, h, hk, hl => by
    unfold laws_eqEntryS.l0
    rw [if_neg (by omega)]
  | n + 1, 0, _, _, hk, _ => by omega
  | n + 1, k + 1, i, h, hk, hl => by
    have e1 : wrap64 ((i : Int) + 1) = ((i + 1 : Nat) : Int) := by unfold wrap64; omega
    unfold laws_eqEntryS.l0 laws_eqEntry.f
    rw [if_pos (by omega), if_pos (by omega), if_pos (by omega), if_pos rfl, if_pos rfl, if_pos rfl, Option.bind_some, if_pos rfl, e1]
    clear e1
    exact eqE_l0 xs n k (i + 1) (by omega) (by omega) hl
theorem eqI_l0 (xs : List Int) : ∀ (n k i : Nat), n + i = xs.length → n < k → xs.length < 4611686018427387904 → laws_eqIntS.l0 k xs xs i = some true
  | 0, 0, _, _, hk, _ => by omega
  | 0, k + 1, i, h, hk, hl => by
    unfold laws_eqIntS.l0
    rw [if_neg (by omega)]
  | n + 1, 0, _, _, hk, _ => by omega
  | n + 1, k + 1, i, h, hk, hl => by
    have e1 : wrap64 ((i : Int) + 1) = ((i + 1 : Nat) : Int) := by unfold wrap64; omega
    unfold laws_eqIntS.l0
    rw [if_pos (by omega), if_pos (by omega), if_pos (by omega), if_pos rfl, e1]
    clear e1
    exact eqI_l0 xs n k (i + 1) (by omega) (by omega) hl
theorem eqM_f (xs : List S93) (cf : List Int) (d : ByteArray) (a0 a1 a2 a3 a4 a5 a6 : Int) (a7 ls : Bool) (hl : xs.length ≤ 1048576) (hc : cf.length ≤ 1048576) :
    laws_eqMessage.f 3145735 a0 a1 a2 a3 a4 a5 a6 a7 xs cf d ls a0 a1 a2 a3 a4 a5 a6 a7 xs cf d ls = some true := by
  unfold laws_eqMessage.f laws_eqEntryS.f laws_eqIntS.f
  have h1 : laws_eqEntryS.l0 3145735 xs xs 0 = some true := eqE_l0 xs xs.length 3145735 0 (by omega) (by omega) (by omega)
  have h2 : laws_eqIntS.l0 3145735 cf cf 0 = some true := eqI_l0 cf cf.length 3145735 0 (by omega) (by omega) (by omega)
  simp [h1, h2]
theorem toM_f (xs : List S127) (cf : List Int) (d : ByteArray) (a0 a1 a2 a3 a4 a5 a6 : Int) (a7 ls : Bool) (hl : xs.length ≤ 1048576) (hc : cf.length ≤ 1048576) :
    laws_toMessage.f 3145735 a0 a1 a2 a3 a4 a5 a6 a7 xs cf d ls = some (a0, a1, a2, a3, a4, a5, a6, a7, xs.map conv, cf, d, ls) := by
  unfold laws_toMessage.f
  rw [toE_f xs _ (by omega) hl, toI_f cf _ (by omega) hc]
  rfl
theorem short_conv (xs : List S127) (h : ∀ j : Nat, j < xs.length → (rd_T127 xs j).f2.size ≤ 1048576) : Short (xs.map conv) := by
  intro i
  by_cases hi : i < xs.length
  · rw [rdE _ i (by simpa using hi)]
    have := h i hi
    rw [rdL xs i hi] at this
    simpa [conv] using this
  · have : rd_T93 (xs.map conv) i = z93 := by simp [rd_T93, hi]
    rw [this]
    exact Nat.zero_le _
end Go.Proofs.Ytlbikcelfheohaa.PFnExactMessageOk
