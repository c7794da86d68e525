import Derived.Test.YtlbikcelfheohaaBytes
import Derived.Test.YtlbikcelfheohaaPFnExactReadCommandx18
import Derived.Test.YtlbikcelfheohaaPFnExactReadCommandx10
namespace Go.Proofs.Ytlbikcelfheohaa
set_option linter.unusedSimpArgs false
set_option linter.unusedVariables false
open Go.RowKit Go.Proofs.YtlbikcelfheohaaW.PrintWords Go.Proofs.YtlbikcelfheohaaW.PrintMore

/-- A byte of a text. -/
def byN (s : ByteArray) (p : Nat) : Nat := (bt s (p : Int)).toNat
theorem byN_lt (s : ByteArray) (p : Nat) : byN s p < 256 := by have := bt_range s (p : Int); unfold byN; omega
theorem bt_byN (s : ByteArray) (p : Nat) : bt s (p : Int) = (byN s p : Int) := by have := bt_range s (p : Int); unfold byN; omega

/-- A number that stands in a text from a place on: itself and the place behind it. -/
def rvGo : Nat → ByteArray → Nat → Nat → Nat → Option (Nat × Nat)
  | 0, _, _, _, _ => none
  | f + 1, s, p, acc, k =>
    if p < s.size then
      if byN s p < 128 then
        if (byN s p = 0 ∧ 0 < k) ∨ 1000000000 < acc + byN s p * 128 ^ k then none else some (acc + byN s p * 128 ^ k, p + 1)
      else rvGo f s (p + 1) (acc + (byN s p - 128) * 128 ^ k) (k + 1)
    else none
def rv (s : ByteArray) (p : Int) : Option (Nat × Nat) := if 0 ≤ p ∧ p ≤ s.size then rvGo 5 s p.toNat 0 0 else none
/-- What the two programs' ReadVar hand back. -/
def rv3 : Option (Nat × Nat) → Int × Int × Bool
  | some (n, e) => (n, e, true)
  | none => (0, 0, false)

theorem wid (n : Nat) (h : n ≤ 4000000000000) : wrap64 (n : Int) = (n : Int) := by unfold wrap64; omega

theorem or_low (a h i : Nat) (ha : a < 2 ^ i) (hd : h % 2 ^ i = 0) (hi : i ≤ 63) (hh : h < 2 ^ 63) : bits .or .i64 (a : Int) (h : Int) = ((a + h : Nat) : Int) := by
  have hw : ∀ n : Int, 0 ≤ n → n < 2 ^ 63 → IntKind.i64.wrap n = n := by intro m h0 h1; rw [IntKind.wrap_i64]; omega
  have ha' : a < 2 ^ 63 := Nat.lt_of_lt_of_le ha (Nat.pow_le_pow_right (by decide) hi)
  have e1 := (bits_nat .i64 63 (by decide) hw a h ha' hh).2
  have e2 := (bits_nat .i64 63 (by decide) hw h a hh ha').2
  have e3 := bits_join .i64 63 (by decide) hw i (h : Int) (a : Int) (by omega) (by exact_mod_cast hd) (by exact_mod_cast hh) (by omega) (by exact_mod_cast ha) (by exact_mod_cast ha')
  rw [e1, Nat.or_comm, ← e2, e3]
  omega

theorem step_or (acc v k : Nat) (hk : k < 5) (ha : acc < 128 ^ k) (hv : v < 256) :
    bits .or .i64 (acc : Int) (shl .i64 (bits .and .i64 (v : Int) 127) (wrap64 (7 * (k : Int)))) = ((acc + v % 128 * 128 ^ k : Nat) : Int) := by
  rw [and127 v (by omega)]
  have hm : v % 128 < 128 := Nat.mod_lt _ (by omega)
  have key : ∀ i P : Nat, i ≤ 28 → P = 2 ^ i → shl .i64 ((v % 128 : Nat) : Int) (i : Int) = ((v % 128 * P : Nat) : Int) := by
    intro i P hi hP
    have hPle : P ≤ 2 ^ 28 := by rw [hP]; exact Nat.pow_le_pow_right (by decide) hi
    have hmul : v % 128 * P ≤ 127 * 2 ^ 28 := Nat.mul_le_mul (by omega) hPle
    unfold shl
    rw [Int.toNat_natCast, Nat.min_eq_left (by show i ≤ 64; omega), IntKind.wrap_i64]
    have : (((v % 128 : Nat) : Int) * 2 ^ i) = ((v % 128 * P : Nat) : Int) := by rw [hP]; simp
    rw [this]
    generalize v % 128 * P = q at *
    have : (2 : Nat) ^ 28 = 268435456 := by decide
    omega
  have fin : ∀ i P : Nat, i ≤ 28 → P = 2 ^ i → acc < P → bits .or .i64 (acc : Int) ((v % 128 * P : Nat) : Int) = ((acc + v % 128 * P : Nat) : Int) := by
    intro i P hi hP hac
    have hPle : P ≤ 2 ^ 28 := by rw [hP]; exact Nat.pow_le_pow_right (by decide) hi
    have hmul : v % 128 * P ≤ 127 * 2 ^ 28 := Nat.mul_le_mul (by omega) hPle
    refine or_low acc _ i (by rw [← hP]; exact hac) (by rw [hP]; exact Nat.mul_mod_left _ _) (by omega) ?_
    have : (2 : Nat) ^ 28 = 268435456 := by decide
    have : (2 : Nat) ^ 63 = 9223372036854775808 := by decide
    omega
  have e7 : wrap64 (7 * (k : Int)) = ((7 * k : Nat) : Int) := by rw [show (7 * (k : Int)) = ((7 * k : Nat) : Int) from by omega]; exact wid _ (by omega)
  rw [e7]
  have hp : 128 ^ k = 2 ^ (7 * k) := by rw [show (128 : Nat) = 2 ^ 7 from rfl, ← Nat.pow_mul]
  rw [key (7 * k) (128 ^ k) (by omega) hp, fin (7 * k) (128 ^ k) (by omega) hp ha]

theorem impl_rv_l0 (s : ByteArray) (at_ : Nat) (hs : s.size ≤ 1099511627776) (hat : at_ ≤ s.size) : ∀ (f k acc K : Nat), k + f = 5 → acc < 128 ^ k → 2 * f + 2 ≤ K →
    PFnExactReadCommand.impl_ReadVar.l0 K s (at_ : Int) (acc : Int) (k : Int) = some (rv3 (rvGo f s (at_ + k) acc k)) := by
  intro f
  induction f with
  | zero =>
    intro k acc K hk ha hK
    obtain ⟨K, rfl⟩ : ∃ m, K = m + 2 := ⟨K - 2, by omega⟩
    simp only [PFnExactReadCommand.impl_ReadVar.l0, PFnExactReadCommand.impl_ReadVar.j1]
    rw [if_neg (by omega)]
    simp [rvGo, rv3]
  | succ f ih =>
    intro k acc K hk ha hK
    obtain ⟨K, rfl⟩ : ∃ m, K = m + 2 := ⟨K - 2, by omega⟩
    simp only [PFnExactReadCommand.impl_ReadVar.l0, PFnExactReadCommand.impl_ReadVar.j1]
    have hb := byN_lt s (at_ + k)
    rw [if_pos (by omega), show ((at_ : Int) + (k : Int)) = ((at_ + k : Nat) : Int) from by omega, wid (at_ + k) (by omega), bt_byN, wid (byN s (at_ + k)) (by omega),
      show ((k : Int) + 1) = ((k + 1 : Nat) : Int) from by omega, wid (k + 1) (by omega), show (((at_ + k : Nat) : Int) + 1) = ((at_ + k + 1 : Nat) : Int) from by omega, wid (at_ + k + 1) (by omega),
      step_or acc (byN s (at_ + k)) k (by omega) ha hb, show (7 * (k : Int)) = ((7 * k : Nat) : Int) from by omega, wid (7 * k) (by omega)]
    simp only [rvGo]
    by_cases hp : at_ + k < s.size
    · rw [if_pos (decide_eq_true (by omega)), if_pos (by omega), if_pos (by exact_mod_cast hp), if_pos (by omega), if_pos hp]
      by_cases hv : byN s (at_ + k) < 128
      · have hmod : byN s (at_ + k) % 128 = byN s (at_ + k) := Nat.mod_eq_of_lt hv
        rw [if_neg (by omega), if_pos hv, hmod]
        by_cases hz : byN s (at_ + k) = 0
        · by_cases hk0 : 0 < k
          · rw [if_pos (by omega), if_pos (by omega), if_pos (.inl ⟨hz, hk0⟩)]; rfl
          · rw [if_pos (by omega), if_neg (by omega)]
            by_cases hM : 1000000000 < acc + byN s (at_ + k) * 128 ^ k
            · rw [if_pos (by omega), if_pos (.inr hM)]; rfl
            · rw [if_neg (by omega), if_neg (by rintro (⟨_, h⟩ | h) <;> omega)]; rfl
        · rw [if_neg (by omega)]
          by_cases hM : 1000000000 < acc + byN s (at_ + k) * 128 ^ k
          · rw [if_pos (by omega), if_pos (.inr hM)]; rfl
          · rw [if_neg (by omega), if_neg (by rintro (⟨h, _⟩ | h) <;> omega)]; rfl
      · have hmod : byN s (at_ + k) % 128 = byN s (at_ + k) - 128 := by omega
        rw [if_pos (by omega), if_neg hv, hmod]
        have hlt : acc + (byN s (at_ + k) - 128) * 128 ^ k < 128 ^ (k + 1) := by
          rw [Nat.pow_succ]
          have : (byN s (at_ + k) - 128) * 128 ^ k ≤ 127 * 128 ^ k := Nat.mul_le_mul_right _ (by omega)
          omega
        exact ih (k + 1) _ K (by omega) hlt (by omega)
    · rw [if_neg hp]
      have : decide (((at_ + k : Nat) : Int) < (s.size : Int)) = false := decide_eq_false (by omega)
      rw [this]
      rfl

theorem impl_rv_f (s : ByteArray) (p : Int) (hs : s.size ≤ 1099511627776) : PFnExactReadCommand.impl_ReadVar.f 12 s p = some (rv3 (rv s p)) := by
  unfold PFnExactReadCommand.impl_ReadVar.f PFnExactReadCommand.impl_in.f rv
  by_cases h : 0 ≤ p ∧ p ≤ s.size
  · obtain ⟨m, rfl⟩ := Int.eq_ofNat_of_zero_le h.1
    rw [if_pos (by omega), if_pos h]
    have := impl_rv_l0 s m hs (by omega) 5 0 0 12 (by omega) (by omega) (by omega)
    simp only [Option.bind_some]
    rw [if_pos (by simpa using h.2)]
    simpa using this
  · rw [if_neg h]
    by_cases h0 : p ≥ 0
    · rw [if_pos h0]
      simp only [Option.bind_some]
      rw [if_neg (by simp; omega)]
      rfl
    · rw [if_neg h0]
      rfl

/-! the reference's ReadVar: the same -/
def val : List Nat → Nat
  | [] => 0
  | b :: r => b % 128 + 128 * val r
theorem val_snoc : ∀ (L : List Nat) (v : Nat), val (L ++ [v]) = val L + v % 128 * 128 ^ L.length
  | [], v => by simp [val]
  | b :: r, v => by
    simp only [List.cons_append, val, val_snoc r v, List.length_cons, Nat.pow_succ]
    rw [Nat.mul_add, ← Nat.mul_assoc, Nat.mul_comm 128 (v % 128), Nat.mul_assoc, Nat.mul_comm 128 (128 ^ r.length)]
    omega
theorem val_lt : ∀ (L : List Nat), val L < 128 ^ L.length
  | [] => by simp [val]
  | b :: r => by
    have := val_lt r
    have hb : b % 128 < 128 := Nat.mod_lt _ (by omega)
    simp only [val, List.length_cons, Nat.pow_succ]
    omega
theorem varN_ne (n : Nat) : varN n ≠ [] := by rw [varN]; split <;> simp
theorem varN_zero {n : Nat} (h : varN n = [0]) : n = 0 := by
  rw [varN] at h
  split at h
  · simpa using h
  · simp at h
    exact absurd h.2 (varN_ne _)
theorem varN_end : ∀ (L : List Int) (n : Nat), varN n = L ++ [0] → L = []
  | [], _, _ => rfl
  | y :: r, n, h => by
    rw [varN] at h
    split at h
    · simp at h
    · rename_i hn
      simp at h
      have hr := varN_end r (n / 128) h.2
      subst hr
      have := varN_zero h.2
      omega
theorem varN_canon : ∀ (L : List Nat) (v : Nat), (∀ b ∈ L, 128 ≤ b ∧ b < 256) → v < 128 → (varN (val (L ++ [v])) = (L ++ [v]).map (fun b : Nat => (b : Int)) ↔ (L = [] ∨ v ≠ 0))
  | [], v, _, hv => by
    simp only [List.nil_append, val, List.map_cons, List.map_nil]
    rw [varN, dif_pos (by omega), Nat.mod_eq_of_lt hv]
    simp
  | b :: r, v, hb, hv => by
    by_cases hz : v = 0
    · subst hz
      constructor
      · intro h
        have : varN (val (b :: r ++ [0])) = ((b :: r).map (fun b : Nat => (b : Int))) ++ [0] := by rw [h]; simp
        have := varN_end _ _ this
        simp at this
      · rintro (h | h)
        · cases h
        · exact absurd rfl h
    · have hpos : 1 ≤ val (r ++ [v]) := by
        rw [val_snoc, Nat.mod_eq_of_lt hv]
        have : 1 ≤ v * 128 ^ r.length := Nat.mul_pos (by omega) (Nat.pow_pos (by omega))
        omega
      have hb0 := hb b (by simp)
      have ih := (varN_canon r v (fun x hx => hb x (by simp [hx])) hv).2 (.inr hz)
      simp only [List.cons_append, val, List.map_cons]
      rw [varN, dif_neg (by omega)]
      have e1 : (b % 128 + 128 * val (r ++ [v])) / 128 = val (r ++ [v]) := by omega
      have e2 : (b % 128 + 128 * val (r ++ [v])) % 128 + 128 = b := by omega
      rw [e1, e2, ih]
      simp [hz]

theorem varN_range : ∀ (n : Nat), ∀ x ∈ varN n, 0 ≤ x ∧ x < 256 := by
  intro n
  induction n using Nat.strongRecOn with
  | _ n ih =>
    intro x hx
    rw [varN] at hx
    split at hx
    · simp at hx; omega
    · rcases List.mem_cons.1 hx with h | h
      · omega
      · exact ih (n / 128) (by omega) x h

/-- The bytes of a text, as numbers. -/
def nums8 (s : ByteArray) : List Nat := s.data.toList.map (fun b => b.toNat)
theorem nums8_length (s : ByteArray) : (nums8 s).length = s.size := by simp [nums8]
theorem byN_nums (s : ByteArray) (p : Nat) (h : p < s.size) : (nums8 s)[p]? = some (byN s p) := by
  have hp : p < s.data.toList.length := by simpa using h
  unfold nums8 byN bt
  rw [List.getElem?_map, List.getElem?_eq_getElem hp]
  have h' : ((p : Int).toNat) < s.size := by simpa using h
  rw [dif_pos h']
  simp
  rfl
theorem same_bytes (n : Nat) (s : ByteArray) (a b : Nat) (hb : b ≤ s.size) :
    ((strOfNums (varN n)).toList = (s.extract a b).toList ↔ varN n = (((nums8 s).take b).drop a).map (fun x : Nat => (x : Int))) := by
  rw [ByteArray.toList_eq, ByteArray.toList_eq, strOfNums_data]
  have he : (s.extract a b).data.toList = (s.data.toList.take b).drop a := by
    simp [ByteArray.data_extract, List.drop_take]
  rw [he]
  have hr := varN_range n
  unfold nums8
  rw [← List.map_take, ← List.map_drop, List.map_map]
  generalize varN n = xs at *
  generalize List.drop a (List.take b s.data.toList) = bs
  constructor
  · intro h
    rw [← h, List.map_map]
    conv => lhs; rw [← List.map_id xs]
    apply List.map_congr_left
    intro x hx
    have := hr x hx
    simp only [Function.comp, id]
    rw [UInt8.toNat_ofNat']
    omega
  · intro h
    rw [h, List.map_map]
    conv => rhs; rw [← List.map_id bs]
    apply List.map_congr_left
    intro x hx
    simp

/-- The bytes of a text from a place on, so many of them. -/
def part (s : ByteArray) (a k : Nat) : List Nat := ((nums8 s).take (a + k)).drop a
theorem part_zero (s : ByteArray) (a : Nat) : part s a 0 = [] := by simp [part]
theorem part_length (s : ByteArray) (a k : Nat) (h : a + k ≤ s.size) : (part s a k).length = k := by simp [part, nums8_length]; omega
theorem part_succ (s : ByteArray) (a k : Nat) (h : a + k < s.size) : part s a (k + 1) = part s a k ++ [byN s (a + k)] := by
  have hl : a + k < (nums8 s).length := by rw [nums8_length]; exact h
  have hg : (nums8 s)[a + k] = byN s (a + k) := by
    have h1 := byN_nums s (a + k) h
    rw [List.getElem?_eq_getElem hl] at h1
    exact Option.some.inj h1
  unfold part
  rw [← Nat.add_assoc, List.take_succ_eq_append_getElem hl, hg, List.drop_append_of_le_length (by simp; omega)]

theorem spec_l01Var_f (n K : Nat) (h : n ≤ 1000000000) (hK : 6 ≤ K) (hK2 : K ≤ 100) : PFnExactReadCommand.spec_l01Var.f K (n : Int) = some (strOfNums (varN n)) := by
  have hp : 128 ^ 6 ≤ 128 ^ K := Nat.pow_le_pow_right (by omega) hK
  have := l01Var_l0 K n [] (by omega) (by omega) (by omega) (by simp; omega)
  simpa [PFnExactReadCommand.spec_l01Var.f] using this

theorem spec_rv_l0 (s : ByteArray) (at_ : Nat) (hs : s.size ≤ 1099511627776) (hat : at_ ≤ s.size) : ∀ (f k K : Nat), k + f = 5 → at_ + k ≤ s.size → (∀ b ∈ part s at_ k, 128 ≤ b ∧ b < 256) → 2 * f + 10 ≤ K → K ≤ 100 →
    PFnExactReadCommand.spec_ReadVar.l0 K s (at_ : Int) (val (part s at_ k) : Int) ((128 ^ k : Nat) : Int) ((at_ + k : Nat) : Int) = some (rv3 (rvGo f s (at_ + k) (val (part s at_ k)) k)) := by
  intro f
  induction f with
  | zero =>
    intro k K hk hle hb hK hK2
    obtain ⟨K, rfl⟩ : ∃ m, K = m + 2 := ⟨K - 2, by omega⟩
    have h5 : k = 5 := by omega
    subst h5
    simp only [PFnExactReadCommand.spec_ReadVar.l0, PFnExactReadCommand.spec_ReadVar.j1]
    rw [show ((at_ : Int) + 5) = ((at_ + 5 : Nat) : Int) from by omega, wid (at_ + 5) (by omega)]
    rw [show decide (((at_ + 5 : Nat) : Int) < ((at_ + 5 : Nat) : Int)) = false from decide_eq_false (by omega)]
    split <;> simp [rvGo, rv3]
  | succ f ih =>
    intro k K hk hle hb hK hK2
    obtain ⟨K, rfl⟩ : ∃ m, K = m + 2 := ⟨K - 2, by omega⟩
    simp only [PFnExactReadCommand.spec_ReadVar.l0, PFnExactReadCommand.spec_ReadVar.j1, rvGo]
    by_cases hp : at_ + k < s.size
    · have hv := byN_lt s (at_ + k)
      have hps := part_succ s at_ k hp
      have hpl := part_length s at_ k hle
      have hval : val (part s at_ (k + 1)) = val (part s at_ k) + byN s (at_ + k) % 128 * 128 ^ k := by rw [hps, val_snoc, hpl]
      have hvl := val_lt (part s at_ (k + 1))
      rw [part_length s at_ (k + 1) (by omega)] at hvl
      have hpow : 128 ^ (k + 1) ≤ 128 ^ 5 := Nat.pow_le_pow_right (by omega) (by omega)
      have h128 : (128 : Nat) ^ 5 = 34359738368 := by decide
      have hmm : byN s (at_ + k) % 128 * 128 ^ k ≤ val (part s at_ (k + 1)) := by omega
      rw [if_pos (by omega), if_pos hp, show ((at_ : Int) + 5) = ((at_ + 5 : Nat) : Int) from by omega, wid (at_ + 5) (by omega)]
      rw [show decide (((at_ + k : Nat) : Int) < ((at_ + 5 : Nat) : Int)) = true from decide_eq_true (by omega)]
      rw [if_pos rfl, if_pos (by omega), if_pos (by omega), bt_byN, wid (byN s (at_ + k)) (by omega), Int.tmod_eq_emod_of_nonneg (by omega)]
      rw [show ((byN s (at_ + k) : Int) % 128 * ((128 ^ k : Nat) : Int)) = ((byN s (at_ + k) % 128 * 128 ^ k : Nat) : Int) from by push_cast; rfl, wid (byN s (at_ + k) % 128 * 128 ^ k) (by omega)]
      rw [show ((val (part s at_ k) : Int) + ((byN s (at_ + k) % 128 * 128 ^ k : Nat) : Int)) = ((val (part s at_ (k + 1)) : Nat) : Int) from by rw [hval]; push_cast; rfl, wid (val (part s at_ (k + 1))) (by omega)]
      rw [show (((at_ + k : Nat) : Int) + 1) = ((at_ + k + 1 : Nat) : Int) from by omega, wid (at_ + k + 1) (by omega)]
      by_cases hlt : byN s (at_ + k) < 128
      · rw [if_pos (by omega), if_pos hlt]
        have hmod : byN s (at_ + k) % 128 = byN s (at_ + k) := Nat.mod_eq_of_lt hlt
        rw [hmod] at hval
        rw [← hval]
        by_cases hM : 1000000000 < val (part s at_ (k + 1))
        · rw [if_pos (by omega), if_pos (.inr hM)]; rfl
        · rw [if_neg (by omega), spec_l01Var_f _ K (by omega) (by omega) (by omega)]
          simp only [Option.bind_some]
          rw [if_pos (by omega), if_pos (by omega), if_pos (by omega), Int.toNat_natCast, Int.toNat_natCast]
          have hcan := varN_canon (part s at_ k) (byN s (at_ + k)) hb hlt
          rw [← hps] at hcan
          have hsb := same_bytes (val (part s at_ (k + 1))) s at_ (at_ + k + 1) (by omega)
          have hpart : ((nums8 s).take (at_ + k + 1)).drop at_ = part s at_ (k + 1) := rfl
          rw [hpart] at hsb
          by_cases hc : byN s (at_ + k) = 0 ∧ 0 < k
          · have hne : ¬ ((strOfNums (varN (val (part s at_ (k + 1))))).toList = (s.extract at_ (at_ + k + 1)).toList) := by
              rw [hsb, hcan]
              rintro (h | h)
              · rw [h] at hpl; simp at hpl; omega
              · exact h hc.1
            rw [if_neg hne, if_pos (.inl hc)]; rfl
          · have heq : (strOfNums (varN (val (part s at_ (k + 1))))).toList = (s.extract at_ (at_ + k + 1)).toList := by
              rw [hsb, hcan]
              by_cases h0 : byN s (at_ + k) = 0
              · left
                have hk0 : k = 0 := by
                  rcases Nat.eq_zero_or_pos k with h | h
                  · exact h
                  · exact absurd ⟨h0, h⟩ hc
                subst hk0
                exact part_zero s at_
              · exact .inr h0
            have hno : ¬ ((byN s (at_ + k) = 0 ∧ 0 < k) ∨ 1000000000 < val (part s at_ (k + 1))) := fun h => h.elim hc hM
            rw [if_pos heq, if_neg hno]; rfl
      · rw [if_neg (by omega), if_neg hlt]
        have hmod : byN s (at_ + k) % 128 = byN s (at_ + k) - 128 := by omega
        have hb' : ∀ b ∈ part s at_ (k + 1), 128 ≤ b ∧ b < 256 := by
          intro b hbm
          rw [hps] at hbm
          rcases List.mem_append.1 hbm with h | h
          · exact hb b h
          · simp at h; omega
        have := ih (k + 1) K (by omega) (by omega) hb' (by omega) (by omega)
        rw [hmod] at hval
        rw [← hval]
        rw [show (((128 ^ k : Nat) : Int) * 128) = ((128 ^ (k + 1) : Nat) : Int) from by rw [Nat.pow_succ]; push_cast; rfl, wid (128 ^ (k + 1)) (by omega)]
        exact this
    · rw [if_neg (by omega), if_neg hp]
      rfl

theorem spec_rv_f (s : ByteArray) (p : Int) (hs : s.size ≤ 1099511627776) : PFnExactReadCommand.spec_ReadVar.f 20 s p = some (rv3 (rv s p)) := by
  unfold PFnExactReadCommand.spec_ReadVar.f PFnExactReadCommand.spec_l01In.f rv
  by_cases h : 0 ≤ p ∧ p ≤ s.size
  · obtain ⟨m, rfl⟩ := Int.eq_ofNat_of_zero_le h.1
    rw [if_pos (by omega), if_pos h]
    have := spec_rv_l0 s m hs (by omega) 5 0 20 (by omega) (by omega) (by rw [part_zero]; simp) (by omega) (by omega)
    simp only [Option.bind_some]
    rw [if_pos (by simpa using h.2)]
    rw [part_zero] at this
    simpa [val] using this
  · rw [if_neg h]
    by_cases h0 : p ≥ 0
    · rw [if_pos h0]
      simp only [Option.bind_some]
      rw [if_neg (by simp; omega)]
      rfl
    · rw [if_neg h0]
      rfl
end Go.Proofs.Ytlbikcelfheohaa
