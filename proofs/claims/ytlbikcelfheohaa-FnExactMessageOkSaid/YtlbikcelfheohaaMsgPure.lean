import Derived.Test.YtlbikcelfheohaaPFnExactMessageOkx19
import Derived.Test.YtlbikcelfheohaaPFnExactMessageOkx10
namespace Go.Proofs.Ytlbikcelfheohaa.PFnExactMessageOk
open Go.RowKit Go.Proofs.YtlbikcelfheohaaW.PrintWords
set_option linter.unusedSimpArgs false
set_option linter.unusedVariables false

theorem in_f (a b c : Int) : impl_in.f a b c = some (decide (b ≤ a ∧ a ≤ c)) := by
  unfold impl_in.f
  by_cases h : a ≥ b
  · rw [if_pos h]; simp [show b ≤ a from h]
  · rw [if_neg h]; simp [show ¬ b ≤ a from h]
theorem l01In_f (a b c : Int) : spec_l01In.f a b c = some (decide (b ≤ a ∧ a ≤ c)) := by
  unfold spec_l01In.f
  by_cases h : a ≥ b
  · rw [if_pos h]; simp [show b ≤ a from h]
  · rw [if_neg h]; simp [show ¬ b ≤ a from h]

/-- From one place on: each is a node, and more than the one ahead. -/
def rises (xs : List Int) (i : Nat) : Nat → Bool
  | 0 => true
  | n + 1 => decide (1 ≤ rd xs i ∧ rd xs i ≤ 4) && (decide (i = 0) || decide (rd xs ((i : Int) - 1) < rd xs i)) && rises xs (i + 1) n
def confOk (xs : List Int) : Bool := rises xs 0 xs.length && decide (1 ≤ xs.length)

theorem rises_short (xs : List Int) : ∀ (n i : Nat), rises xs i n = true → (i = 0 ∨ (i : Int) ≤ rd xs ((i : Int) - 1)) → 0 < n → i + n ≤ 4
  | 0, _, _, _, h => by omega
  | n + 1, i, h, hi, _ => by
    simp only [rises, Bool.and_eq_true, Bool.or_eq_true, decide_eq_true_eq] at h
    obtain ⟨⟨h1, h2⟩, h3⟩ := h
    have hx : (i : Int) + 1 ≤ rd xs i := by
      rcases hi with rfl | hi
      · simpa using h1.1
      · rcases h2 with rfl | h2
        · simpa using h1.1
        · omega
    rcases Nat.eq_zero_or_pos n with rfl | hn
    · omega
    · have := rises_short xs n (i + 1) h3 (.inr (by rw [show ((i + 1 : Nat) : Int) - 1 = i from by omega]; omega)) hn
      omega
theorem confOk_short {xs : List Int} (h : confOk xs = true) : 1 ≤ xs.length ∧ xs.length ≤ 4 := by
  simp only [confOk, Bool.and_eq_true, decide_eq_true_eq] at h
  have := rises_short xs _ 0 h.1 (.inl rfl) (by omega)
  omega

theorem rise_l0 (xs : List Int) : ∀ (n k i : Nat), n + i = xs.length → n < k → xs.length < 4611686018427387904 → spec_l05Rise.l0 k xs 1 4 i = some (rises xs i n)
  | 0, 0, _, _, hk, _ => by omega
  | 0, k + 1, i, h, _, _ => by
    unfold spec_l05Rise.l0
    rw [if_neg (by omega)]
    rfl
  | n + 1, 0, _, _, hk, _ => by omega
  | n + 1, k + 1, i, h, hk, hl => by
    have e1 : wrap64 ((i : Int) + 1) = ((i + 1 : Nat) : Int) := by unfold wrap64; omega
    have e2 : 0 < (i : Int) → wrap64 ((i : Int) - 1) = (i : Int) - 1 := fun _ => by unfold wrap64; omega
    have ih := rise_l0 xs n k (i + 1) (by omega) (by omega) hl
    unfold spec_l05Rise.l0
    rw [if_pos (by omega), if_pos (by omega), l01In_f, Option.bind_some, e1]
    clear e1
    rw [ih]
    by_cases hin : 1 ≤ rd xs i ∧ rd xs i ≤ 4
    · rw [if_pos (by simpa using hin)]
      by_cases hi : (i : Int) > 0
      · rw [if_pos hi, e2 hi]
        clear e2
        rw [if_pos (by omega), if_pos (by omega)]
        by_cases hge : rd xs ((i : Int) - 1) ≥ rd xs i
        · rw [if_pos hge]
          have : ¬ i = 0 := by omega
          simp [rises, this, show ¬ rd xs ((i : Int) - 1) < rd xs i from by omega]
        · rw [if_neg hge]
          simp [rises, hin, show rd xs ((i : Int) - 1) < rd xs i from by omega]
      · rw [if_neg hi]
        have : i = 0 := by omega
        subst this
        simp only [rises]
        simp at hin
        simp [hin]
    · rw [if_neg (by simpa using hin)]
      simp only [rises]
      simp only [hin]
      simp
theorem iconf_l0 (xs : List Int) : ∀ (n k i : Nat), n + i = xs.length → n < k → xs.length < 4611686018427387904 → impl_ConfOk.l0 k xs xs xs.length i = some (rises xs i n && decide (1 ≤ xs.length))
  | 0, 0, _, _, hk, _ => by omega
  | 0, k + 1, i, h, _, _ => by
    unfold impl_ConfOk.l0
    rw [if_neg (by omega)]
    simp [rises]
    omega
  | n + 1, 0, _, _, hk, _ => by omega
  | n + 1, k + 1, i, h, hk, hl => by
    have e1 : wrap64 ((i : Int) + 1) = ((i + 1 : Nat) : Int) := by unfold wrap64; omega
    have e2 : 0 < (i : Int) → wrap64 ((i : Int) - 1) = (i : Int) - 1 := fun _ => by unfold wrap64; omega
    have ih := iconf_l0 xs n k (i + 1) (by omega) (by omega) hl
    unfold impl_ConfOk.l0
    rw [if_pos (by omega), if_pos (by omega), if_pos (by omega), in_f, Option.bind_some, e1]
    clear e1
    rw [ih]
    by_cases hin : 1 ≤ rd xs i ∧ rd xs i ≤ 4
    · rw [if_pos (by simpa using hin)]
      by_cases hi : (i : Int) > 0
      · rw [if_pos hi, e2 hi]
        clear e2
        rw [if_pos (by omega), if_pos (by omega)]
        by_cases hge : rd xs ((i : Int) - 1) ≥ rd xs i
        · rw [if_pos hge]
          have : ¬ i = 0 := by omega
          simp [rises, this, show ¬ rd xs ((i : Int) - 1) < rd xs i from by omega]
        · rw [if_neg hge]
          simp [rises, hin, show rd xs ((i : Int) - 1) < rd xs i from by omega]
      · rw [if_neg hi]
        have : i = 0 := by omega
        subst this
        simp only [rises]
        simp at hin
        simp [hin]
    · rw [if_neg (by simpa using hin)]
      simp only [rises]
      simp only [hin]
      simp
theorem iconf_f (xs : List Int) (k : Nat) (hk : xs.length < k) (hl : xs.length < 4611686018427387904) : impl_ConfOk.f k xs = some (confOk xs) := iconf_l0 xs xs.length k 0 (by omega) hk hl
theorem sconf_f (xs : List Int) (k : Nat) (hk : xs.length < k) (hl : xs.length < 4611686018427387904) : spec_ConfOk.f k xs = some (confOk xs) := by
  unfold spec_ConfOk.f spec_l05Rise.f
  rw [l01In_f, Option.bind_some]
  have h0 : spec_l05Rise.l0 k xs 1 4 0 = some (rises xs 0 xs.length) := rise_l0 xs xs.length k 0 (by omega) hk hl
  rw [h0]
  by_cases h : (1 : Int) ≤ (xs.length : Int) ∧ (xs.length : Int) ≤ 4
  · rw [if_pos (by simpa using h)]
    have : 1 ≤ xs.length := by omega
    simp [confOk, this]
  · rw [if_neg (by simpa using h)]
    cases hc : confOk xs with
    | false => rfl
    | true => have := confOk_short hc; omega

/-- A text's bytes. -/
def bytesFrom (s : ByteArray) (i : Nat) : Nat → List Int
  | 0 => []
  | n + 1 => bt s (i : Int) :: bytesFrom s (i + 1) n
theorem bytesFrom_length (s : ByteArray) : ∀ n i, (bytesFrom s i n).length = n
  | 0, _ => rfl
  | n + 1, i => by simp [bytesFrom, bytesFrom_length s n]
theorem bytesFrom_snoc (s : ByteArray) : ∀ (n i : Nat), bytesFrom s i (n + 1) = bytesFrom s i n ++ [bt s ((i + n : Nat) : Int)]
  | 0, i => by simp [bytesFrom]
  | n + 1, i => by
    have := bytesFrom_snoc s n (i + 1)
    rw [bytesFrom, this, bytesFrom, List.cons_append, show i + 1 + n = i + (n + 1) from by omega]
def readConf (s : ByteArray) : List Int × Bool := if confOk (bytesFrom s 0 s.size) then (bytesFrom s 0 s.size, true) else ([], false)

theorem iread_l0 (s : ByteArray) : ∀ (n k i : Nat) (acc : List Int), n + i = s.size → acc.length = i → n + s.size + 1 < k → s.size < 17592186044416 →
    impl_ReadConf.l0 k s acc s.size i = some (if confOk (acc ++ bytesFrom s i n) then (acc ++ bytesFrom s i n, true) else ([], false))
  | 0, 0, _, _, _, _, hk, _ => by omega
  | 0, k + 1, i, acc, h, ha, hk, hs => by
    unfold impl_ReadConf.l0
    rw [if_neg (by omega), iconf_f acc k (by omega) (by omega)]
    simp only [bytesFrom, List.append_nil, Option.bind_some]
    split <;> rfl
  | n + 1, 0, _, _, _, _, hk, _ => by omega
  | n + 1, k + 1, i, acc, h, ha, hk, hs => by
    have e1 : wrap64 ((i : Int) + 1) = ((i + 1 : Nat) : Int) := by unfold wrap64; omega
    have hb := bt_range s (i : Int)
    have e2 : wrap64 (bt s (i : Int)) = bt s (i : Int) := by unfold wrap64; omega
    unfold impl_ReadConf.l0
    rw [if_pos (by omega), if_pos (by omega), if_pos (by omega), if_pos (by omega), e1, e2]
    clear e1 e2
    rw [iread_l0 s n k (i + 1) (acc ++ [bt s (i : Int)]) (by omega) (by simp [ha]) (by omega) hs]
    simp only [bytesFrom, List.append_assoc, List.cons_append, List.nil_append]
    rfl
theorem iread_f (s : ByteArray) (k : Nat) (hk : s.size + s.size + 1 < k) (hs : s.size < 17592186044416) : impl_ReadConf.f k s = some (readConf s) := by
  have := iread_l0 s s.size k 0 [] (by omega) rfl hk hs
  simpa [impl_ReadConf.f, readConf] using this
theorem sread_l0 (s : ByteArray) : ∀ (n k i : Nat) (acc : List Int), n + i = s.size → acc = bytesFrom s 0 i → i ≤ 5 → n + s.size + 1 < k → s.size < 17592186044416 →
    spec_ReadConf.l0 k s acc i = some (readConf s)
  | n, 0, _, _, _, _, _, hk, _ => by omega
  | n, k + 1, i, acc, h, ha, h5, hk, hs => by
    have hlen : acc.length = i := by rw [ha, bytesFrom_length]
    have e1 : wrap64 ((i : Int) + 1) = ((i + 1 : Nat) : Int) := by unfold wrap64; omega
    have hb := bt_range s (i : Int)
    have e2 : wrap64 (bt s (i : Int)) = bt s (i : Int) := by unfold wrap64; omega
    have hfin : ∀ (hd : n = 0 ∨ i = 5), (if (acc.length : Int) = (s.size : Int) then ((spec_ConfOk.f k acc).bind fun t => (if t = true then (some (acc, true)) else (some ((([] : List Int)), false)))) else (some ((([] : List Int)), false))) = some (readConf s) := by
      intro hd
      by_cases he : acc.length = s.size
      · rw [if_pos (by omega), sconf_f acc k (by omega) (by omega), Option.bind_some]
        have hi : i = s.size := by omega
        subst ha
        unfold readConf
        rw [← hi]
        split <;> rfl
      · rw [if_neg (by omega)]
        unfold readConf
        have hn : ¬ confOk (bytesFrom s 0 s.size) = true := fun hc => by
          have := confOk_short hc
          rw [bytesFrom_length] at this
          rcases hd with h0 | h0 <;> omega
        rw [if_neg hn]
    unfold spec_ReadConf.l0
    by_cases h1 : (i : Int) < (s.size : Int)
    · rw [if_pos h1]
      by_cases h4 : (i : Int) ≤ 4
      · rw [if_pos h4, if_pos (by omega), if_pos (by omega), e1, e2]
        clear e1 e2
        obtain ⟨m, rfl⟩ : ∃ m, n = m + 1 := ⟨n - 1, by omega⟩
        refine sread_l0 s m k (i + 1) _ (by omega) ?_ (by omega) (by omega) hs
        rw [ha, bytesFrom_snoc s i 0]
        simp
      · rw [if_neg h4]
        exact hfin (.inr (by omega))
    · rw [if_neg h1]
      exact hfin (.inl (by omega))
theorem sread_f (s : ByteArray) (k : Nat) (hk : s.size + s.size + 1 < k) (hs : s.size < 17592186044416) : spec_ReadConf.f k s = some (readConf s) := sread_l0 s s.size k 0 [] (by omega) rfl (by omega) hk hs

def entryOk (t k : Int) (d : ByteArray) : Bool := decide (0 ≤ t ∧ t ≤ 100000) && (if k = 1 then d.toList == ([] : List UInt8) else if k = 2 then (readConf d).2 else if k = 3 then decide ((d.size : Int) ≤ 120) else false)
theorem ientry_f (t n : Int) (d : ByteArray) (k : Nat) (hk : d.size + d.size + 1 < k) (hs : d.size < 17592186044416) : impl_EntryOk.f k t n d = some (entryOk t n d) := by
  unfold impl_EntryOk.f entryOk
  rw [in_f, iread_f d k hk hs]
  by_cases h : 0 ≤ t ∧ t ≤ 100000
  · simp only [h, Option.bind_some, and_self, decide_true, if_true, Bool.true_and]
    split
    · rfl
    · split
      · rfl
      · split <;> rfl
  · simp only [h, Option.bind_some, decide_false, Bool.false_and]
    rfl
theorem sentry_f (t n : Int) (d : ByteArray) (k : Nat) (hk : d.size + d.size + 1 < k) (hs : d.size < 17592186044416) : spec_EntryOk.f k t n d = some (entryOk t n d) := by
  unfold spec_EntryOk.f entryOk
  rw [l01In_f, sread_f d k hk hs]
  by_cases h : 0 ≤ t ∧ t ≤ 100000
  · simp only [h, Option.bind_some, and_self, decide_true, if_true, Bool.true_and]
    split
    · rfl
    · split
      · rfl
      · split <;> rfl
  · simp only [h, Option.bind_some, decide_false, Bool.false_and]
    rfl

/-- The entries from one on: each right, the terms rising, none past the message's. -/
def ents (es : List S93) (mt : Int) : Nat → Nat → Int → Bool
  | _, 0, _ => true
  | i, n + 1, pt => entryOk (rd_T93 es i).f0 (rd_T93 es i).f1 (rd_T93 es i).f2 && !decide ((rd_T93 es i).f0 < pt) && !decide ((rd_T93 es i).f0 > mt) && ents es mt (i + 1) n (rd_T93 es i).f0
/-- The texts of the entries are short. -/
def Short (es : List S93) : Prop := ∀ i : Nat, (rd_T93 es i).f2.size ≤ 1048576

theorem isent_l0 (es : List S93) (hS : Short es) (a0 a1 a2 a3 a4 a5 a6 : Int) (a7 : Bool) (cf : List Int) (d : ByteArray) (ls : Bool) (hl : es.length < 4611686018427387904) : ∀ (n k i : Nat) (pt : Int), n + i = es.length → n + 2097154 < k →
    impl_sentOk.l0 k pt es es.length i a0 a1 a2 a3 a4 a5 a6 a7 es cf d ls = some (ents es a3 i n pt && decide (es.length ≤ 4) && (decide (es.length = 0) || a0 == 3))
  | 0, 0, _, _, _, hk => by omega
  | 0, k + 1, i, pt, h, hk => by
    unfold impl_sentOk.l0
    rw [if_neg (by omega)]
    simp only [ents, Bool.true_and]
    by_cases h4 : (es.length : Int) ≤ 4
    · rw [if_pos h4]
      have : es.length ≤ 4 := by omega
      by_cases h0 : (es.length : Int) = 0
      · rw [if_pos h0]
        have : es.length = 0 := by omega
        simp [this]
      · rw [if_neg h0]
        have h0' : ¬ es.length = 0 := by omega
        simp [this, h0']
    · rw [if_neg h4]
      have : ¬ es.length ≤ 4 := by omega
      simp [this]
  | n + 1, 0, _, _, _, hk => by omega
  | n + 1, k + 1, i, pt, h, hk => by
    have e1 : wrap64 ((i : Int) + 1) = ((i + 1 : Nat) : Int) := by unfold wrap64; omega
    have hsz := hS i
    unfold impl_sentOk.l0
    rw [if_pos (by omega), if_pos (by omega), if_pos (by omega), ientry_f _ _ _ k (by omega) (by omega), Option.bind_some, e1]
    clear e1
    rw [isent_l0 es hS a0 a1 a2 a3 a4 a5 a6 a7 cf d ls hl n k (i + 1) _ (by omega) (by omega)]
    simp only [ents]
    cases entryOk (rd_T93 es i).f0 (rd_T93 es i).f1 (rd_T93 es i).f2 with
    | false => simp
    | true =>
      simp only [if_true]
      by_cases c1 : (rd_T93 es i).f0 < pt
      · simp [c1]
      · rw [if_neg c1]
        by_cases c2 : (rd_T93 es i).f0 > a3
        · simp [c2]
        · rw [if_neg c2]
          simp only [c1, c2, decide_false, Bool.not_false, Bool.true_and]
theorem sment_l0 (es : List S93) (hS : Short es) (a0 a1 a2 a3 a4 a5 a6 : Int) (a7 : Bool) (cf : List Int) (d : ByteArray) (ls : Bool) (hl : es.length < 4611686018427387904) (hcf : cf.length ≤ 1048576) : ∀ (n k i : Nat) (pt : Int), n + i = es.length → n + 2097154 < k →
    spec_MessageOk.l0 k pt i a0 a1 a2 a3 a4 a5 a6 a7 es cf d ls = some (ents es a3 i n pt && (if a0 = 5 then confOk cf && decide ((d.size : Int) ≤ 60) else decide (cf.length = 0) && decide (d.toList = []) && !ls))
  | 0, 0, _, _, _, hk => by omega
  | 0, k + 1, i, pt, h, hk => by
    unfold spec_MessageOk.l0
    rw [if_neg (by omega), sconf_f cf k (by omega) (by omega)]
    simp only [ents, Bool.true_and, Option.bind_some]
    by_cases h5 : a0 = 5
    · rw [if_pos h5, if_pos h5]
      cases confOk cf <;> simp
    · rw [if_neg h5, if_neg h5]
      by_cases h0 : (cf.length : Int) = 0
      · rw [if_pos h0]
        have h0' : cf.length = 0 := by omega
        by_cases hd : d.toList = ([] : List UInt8)
        · rw [if_pos hd]; simp [h0', hd]
        · rw [if_neg hd]; simp [hd]
      · rw [if_neg h0]
        have : ¬ cf.length = 0 := by omega
        simp [this]
  | n + 1, 0, _, _, _, hk => by omega
  | n + 1, k + 1, i, pt, h, hk => by
    have e1 : wrap64 ((i : Int) + 1) = ((i + 1 : Nat) : Int) := by unfold wrap64; omega
    have hsz := hS i
    unfold spec_MessageOk.l0
    rw [if_pos (by omega), if_pos (by omega), sentry_f _ _ _ k (by omega) (by omega), Option.bind_some, e1]
    clear e1
    rw [sment_l0 es hS a0 a1 a2 a3 a4 a5 a6 a7 cf d ls hl hcf n k (i + 1) _ (by omega) (by omega)]
    simp only [ents]
    cases entryOk (rd_T93 es i).f0 (rd_T93 es i).f1 (rd_T93 es i).f2 with
    | false => simp
    | true =>
      simp only [if_true]
      by_cases c1 : (rd_T93 es i).f0 < pt
      · simp [c1]
      · rw [if_neg c1]
        by_cases c2 : (rd_T93 es i).f0 > a3
        · simp [c2]
        · rw [if_neg c2]
          simp only [c1, c2, decide_false, Bool.not_false, Bool.true_and]
end Go.Proofs.Ytlbikcelfheohaa.PFnExactMessageOk
