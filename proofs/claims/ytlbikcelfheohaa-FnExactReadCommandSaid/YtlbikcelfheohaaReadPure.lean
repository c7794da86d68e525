import Derived.Test.YtlbikcelfheohaaState
import Derived.Test.YtlbikcelfheohaaCmdText
namespace Go.Proofs.Ytlbikcelfheohaa
open Go.RowKit Go.Proofs.YtlbikcelfheohaaW.PrintWords
set_option linter.unusedSimpArgs false
set_option linter.unusedVariables false

theorem ba_ext {a b : ByteArray} (h : a.toList = b.toList) : a = b := by
  rw [ByteArray.toList_eq, ByteArray.toList_eq] at h
  apply ByteArray.ext
  exact Array.toList_inj.1 h

theorem rvGo_bytes (s : ByteArray) (a : Nat) : ∀ (f k n e : Nat), (∀ b ∈ part s a k, 128 ≤ b ∧ b < 256) → a + k ≤ s.size → rvGo f s (a + k) (val (part s a k)) k = some (n, e) →
    ∃ m, e = a + m ∧ a + m ≤ s.size ∧ varN n = (part s a m).map (fun x : Nat => (x : Int))
  | 0, _, _, _, _, _, h => by simp [rvGo] at h
  | f + 1, k, n, e, hb, hle, h => by
    simp only [rvGo] at h
    by_cases hp : a + k < s.size
    · rw [if_pos hp] at h
      have hv := byN_lt s (a + k)
      have hps := part_succ s a k hp
      have hpl := part_length s a k hle
      have hval : val (part s a (k + 1)) = val (part s a k) + byN s (a + k) % 128 * 128 ^ k := by rw [hps, val_snoc, hpl]
      by_cases hlt : byN s (a + k) < 128
      · rw [if_pos hlt] at h
        rw [Nat.mod_eq_of_lt hlt] at hval
        split at h
        · cases h
        · rename_i hno
          simp only [Option.some.injEq, Prod.mk.injEq] at h
          obtain ⟨hn, he⟩ := h
          refine ⟨k + 1, by omega, by omega, ?_⟩
          have hcan := varN_canon (part s a k) (byN s (a + k)) hb hlt
          rw [← hps] at hcan
          rw [← hn, ← hval]
          refine hcan.2 ?_
          by_cases h0 : byN s (a + k) = 0
          · left
            have hk0 : k = 0 := by
              rcases Nat.eq_zero_or_pos k with h | h
              · exact h
              · exact absurd (.inl ⟨h0, h⟩) hno
            subst hk0
            exact part_zero s a
          · exact .inr h0
      · rw [if_neg hlt] at h
        have hb' : ∀ b ∈ part s a (k + 1), 128 ≤ b ∧ b < 256 := by
          intro b hbm
          rw [hps] at hbm
          rcases List.mem_append.1 hbm with h | h
          · exact hb b h
          · simp at h; omega
        have hmod : byN s (a + k) % 128 = byN s (a + k) - 128 := by omega
        rw [hmod] at hval
        rw [← hval] at h
        exact rvGo_bytes s a f (k + 1) n e hb' (by omega) h
    · rw [if_neg hp] at h
      cases h

/-- What a number was read from is its text. -/
theorem rv_bytes {s : ByteArray} {p : Int} {n e : Nat} (h : rv s p = some (n, e)) : s.extract p.toNat e = varS n := by
  have hr := rv_range h
  obtain ⟨a, rfl⟩ := Int.eq_ofNat_of_zero_le hr.1
  unfold rv at h
  rw [if_pos (by omega)] at h
  have hz : part s a 0 = [] := part_zero s a
  obtain ⟨m, rfl, hm, hv⟩ := rvGo_bytes s a 5 0 n e (by rw [hz]; simp) (by omega) (by rw [hz]; simpa [val] using h)
  apply ba_ext
  unfold varS
  rw [Int.toNat_natCast, Int.toNat_natCast]
  exact ((same_bytes n s a (a + m) hm).2 hv).symm

theorem extract_join (s : ByteArray) (a b c : Nat) (h1 : a ≤ b) (h2 : b ≤ c) : s.extract a b ++ s.extract b c = s.extract a c := by
  apply ByteArray.ext
  simp [ByteArray.data_append, ByteArray.data_extract, Nat.min_eq_left h1, Nat.max_eq_right h2]

theorem num_bytes {s : ByteArray} {p n p' : Int} {q : Bool} (h : rdNum s p q = (n, p', false)) : q = false ∧ 0 ≤ p ∧ p ≤ p' ∧ p' ≤ s.size ∧ s.extract p.toNat p'.toNat = varS n := by
  unfold rdNum at h
  cases q with
  | true => simp at h
  | false =>
    rcases hq : rv s p with _ | ⟨m, e⟩
    · rw [hq] at h; simp at h
    · rw [hq] at h
      have hr := rv_range hq
      have hb := rv_bytes hq
      simp at h
      obtain ⟨rfl, rfl⟩ := h
      exact ⟨rfl, by omega, by omega, by omega, by simpa using hb⟩
theorem byte_bytes {s : ByteArray} {p n p' : Int} {q : Bool} (hp : 0 ≤ p) (h : rdByte s p q = (n, p', false)) : q = false ∧ 0 ≤ p ∧ p ≤ p' ∧ p' ≤ s.size ∧ s.extract p.toNat p'.toNat = byteS n := by
  unfold rdByte at h
  split at h
  · simp at h
  · rename_i hno
    simp at h
    obtain ⟨rfl, rfl⟩ := h
    have hq : q = false := by cases q; rfl; exact absurd (.inl rfl) hno
    have hlt : p < s.size := by
      have : ¬ p ≥ s.size := fun x => hno (.inr x)
      omega
    obtain ⟨a, rfl⟩ := Int.eq_ofNat_of_zero_le hp
    refine ⟨hq, by omega, by omega, by omega, ?_⟩
    have ha : a < s.size := by omega
    have hr := bt_range s (a : Int)
    apply ByteArray.ext
    apply Array.toList_inj.1
    have e1 : ((a : Int) + 1).toNat = a + 1 := by omega
    rw [Int.toNat_natCast, e1]
    unfold byteS
    rw [strOfNums_data]
    have e2 : (s.extract a (a + 1)).data.toList = (s.data.toList.take (a + 1)).drop a := by simp [ByteArray.data_extract, List.drop_take]
    rw [e2]
    have hl : a < s.data.toList.length := by simpa using ha
    rw [List.take_succ_eq_append_getElem hl, List.drop_append_of_le_length (by simp; omega), List.drop_of_length_le (by simp; omega)]
    have hbt : bt s (a : Int) = ((s.data.toList[a]).toNat : Int) := by
      unfold bt
      rw [dif_pos (by simpa using ha)]
      simp
      rfl
    rw [hbt]
    have ha' : a < s.data.size := by simpa using ha
    have hlt2 := (s.data[a]).toNat_lt
    have e3 : (((s.data[a]).toNat : Int) % 256).toNat = (s.data[a]).toNat := by omega
    simp [e3]

theorem short_bytes {s t : ByteArray} {p p' : Int} {q : Bool} (hp : 0 ≤ p) (hps : p ≤ s.size) (h : rdShort s p q = (t, p', false)) : q = false ∧ 0 ≤ p ∧ p ≤ p' ∧ p' ≤ s.size ∧ s.extract p.toNat p'.toNat = shortS t := by
  unfold rdShort at h
  rcases hn : rdNum s p q with ⟨n, pn, qn⟩
  have hrange := rdNum_range s p q hp hps
  rw [hn] at h hrange
  simp only at h hrange
  unfold rdTake at h
  split at h
  · simp at h
  · rename_i hno
    simp at h
    obtain ⟨rfl, rfl⟩ := h
    have hqn : qn = false := by cases qn; rfl; exact absurd (.inl rfl) hno
    subst hqn
    have hle : n ≤ s.size - pn := by
      have : ¬ n > s.size - pn := fun x => hno (.inr x)
      omega
    obtain ⟨h1, h2, h3, h4, h5⟩ := num_bytes hn
    refine ⟨h1, h2, by omega, by omega, ?_⟩
    rw [← extract_join s p.toNat pn.toNat (pn + n).toNat (by omega) (by omega), h5]
    unfold shortS
    congr 1
    have : (s.extract pn.toNat (pn + n).toNat).size = n.toNat := by simp; omega
    rw [this, Int.toNat_of_nonneg hrange.1]

/-- The program's short text, read: the reference's. -/
theorem short_of_text {s t : ByteArray} {p p' : Int} {q : Bool} (h : rdText s p q = (t, p', false)) : rdShort s p q = (t, p', false) := by
  unfold rdText at h
  cases q with
  | true => simp at h
  | false =>
    unfold rs at h
    rcases hq : rv s p with _ | ⟨n, e⟩
    · rw [hq] at h; simp at h
    · rw [hq] at h
      have hr := rv_range hq
      simp only at h
      by_cases hc : n > 20000 ∨ (n : Int) > s.size - e
      · rw [if_pos hc] at h; simp at h
      · rw [if_neg hc] at h
        simp at h
        obtain ⟨rfl, rfl⟩ := h
        have hn : rdNum s p false = ((n : Int), (e : Int), false) := by simp [rdNum, hq]
        unfold rdShort
        rw [hn]
        unfold rdTake
        have hle : ¬ ((n : Int) > s.size - e) := fun x => hc (.inr x)
        rw [if_neg (by simpa using hle)]
        have e1 : ((e : Int) + (n : Int)).toNat = e + n := by omega
        simp only [Int.toNat_natCast, e1]
/-- And the other way round, where the text is not long. -/
theorem text_of_short {s t : ByteArray} {p p' : Int} {q : Bool} (h : rdShort s p q = (t, p', false)) (ht : t.size ≤ 20000) : rdText s p q = (t, p', false) := by
  unfold rdShort at h
  rcases hn : rdNum s p q with ⟨n, pn, qn⟩
  rw [hn] at h
  simp only at h
  unfold rdTake at h
  split at h
  · simp at h
  · rename_i hno
    simp at h
    obtain ⟨rfl, rfl⟩ := h
    have hqn : qn = false := by cases qn; rfl; exact absurd (.inl rfl) hno
    subst hqn
    have hle : n ≤ s.size - pn := by
      have : ¬ n > s.size - pn := fun x => hno (.inr x)
      omega
    unfold rdNum at hn
    cases q with
    | true => simp at hn
    | false =>
      rcases hq : rv s p with _ | ⟨m, e⟩
      · rw [hq] at hn; simp at hn
      · rw [hq] at hn
        have hr := rv_range hq
        simp at hn
        obtain ⟨rfl, rfl⟩ := hn
        have e1 : ((e : Int) + (m : Int)).toNat = e + m := by omega
        have hsz : (s.extract e (e + m)).size = m := by simp; omega
        rw [Int.toNat_natCast, e1, hsz] at ht
        unfold rdText rs
        rw [hq]
        simp only
        have hc : ¬ (m > 20000 ∨ (m : Int) > s.size - e) := by rintro (x | x) <;> omega
        rw [if_neg hc]
        simp [e1]
end Go.Proofs.Ytlbikcelfheohaa
