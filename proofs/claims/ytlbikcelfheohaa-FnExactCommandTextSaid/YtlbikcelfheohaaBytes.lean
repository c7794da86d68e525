import Derived.Test.YtlbikcelfheohaaBase
import Derived.Test.YtlbikcelfheohaaPFnExactReadCommandx5
import Derived.Test.YtlbikcelfheohaaPFnExactCommandTextx14
import Derived.Test.YtlbikcelfheohaaPFnExactCommandTextx13
import Derived.Laws.BitsLemmas
namespace Go.Proofs.Ytlbikcelfheohaa
open Go.RowKit Go.Proofs.YtlbikcelfheohaaW.PrintWords

/-- The bytes of a number, seven bits a byte. -/
def varN (n : Nat) : List Int := if h : n ≤ 127 then [(n : Int)] else ((n % 128 + 128 : Nat) : Int) :: varN (n / 128)
termination_by n
decreasing_by omega
/-- The text of a number. -/
def varS (n : Int) : ByteArray := strOfNums (varN n.toNat)

theorem strOfNums_append (a b : List Int) : strOfNums (a ++ b) = strOfNums a ++ strOfNums b := by
  apply ByteArray.ext
  simp [strOfNums, ByteArray.data_append]

theorem l01Var_l0 : ∀ (k : Nat) (n : Nat) (out : List Int), 1 ≤ k → n < 128 ^ k → n ≤ 9223372036854775807 → out.length + k < 140737488355328 →
    PFnExactReadCommand.spec_l01Var.l0 k (n : Int) out = some (strOfNums (out ++ varN n))
  | 0, _, _, h, _, _, _ => by omega
  | k + 1, n, out, _, hn, hm, ho => by
    simp only [PFnExactReadCommand.spec_l01Var.l0]
    rw [varN]
    by_cases h : n ≤ 127
    · rw [if_neg (by omega), if_pos (by omega), dif_pos h]
      have : ((n : Int) % 256) = (n : Int) := by omega
      rw [this]
    · have hk : 1 ≤ k := by
        rcases Nat.eq_zero_or_pos k with rfl | hk
        · simp at hn; omega
        · exact hk
      have hlt : n / 128 < 128 ^ k := by rw [Nat.pow_succ] at hn; omega
      have ih := l01Var_l0 k (n / 128) (out ++ [((n % 128 + 128 : Nat) : Int)]) hk hlt (by omega) (by rw [List.length_append]; simp; omega)
      rw [if_pos (by omega), if_pos (by omega), dif_neg h]
      have e1 : wrap64 (Int.tdiv (n : Int) 128) = ((n / 128 : Nat) : Int) := by
        rw [Int.tdiv_eq_ediv_of_nonneg (by omega)]; unfold wrap64; omega
      have e2 : (wrap64 ((Int.tmod (n : Int) 128) + 128)) % 256 = ((n % 128 + 128 : Nat) : Int) := by
        rw [Int.tmod_eq_emod_of_nonneg (by omega)]; unfold wrap64; omega
      rw [e1, e2, ih, List.append_assoc]
      rfl

theorem and127 (n : Nat) (h : n < 9223372036854775808) : bits .and .i64 (n : Int) 127 = ((n % 128 : Nat) : Int) := by
  have := bits_mask .i64 63 (by decide) (by intro m h0 h1; rw [IntKind.wrap_i64]; omega) 7 (by decide) (n : Int) (by omega) (by omega)
  simpa using this
theorem or128 (n : Nat) (h : n < 128) : bits .or .i64 (n : Int) 128 = ((n + 128 : Nat) : Int) := by
  have hx : ∀ m : Fin 128, bits .or .i64 ((m.1 : Nat) : Int) 128 = ((m.1 + 128 : Nat) : Int) := by decide +kernel
  exact hx ⟨n, h⟩

theorem VarText_l0 : ∀ (k : Nat) (n : Nat) (out : List Int), 1 ≤ k → n < 128 ^ k → n ≤ 9223372036854775807 → out.length + k < 140737488355328 →
    PFnExactCommandText.impl_VarText.l0 k (n : Int) out = some (strOfNums (out ++ varN n), true)
  | 0, _, _, h, _, _, _ => by omega
  | k + 1, n, out, _, hn, hm, ho => by
    simp only [PFnExactCommandText.impl_VarText.l0]
    rw [varN]
    by_cases h : n ≤ 127
    · rw [if_neg (by omega), if_pos (by omega), dif_pos h]
      have : ((n : Int) % 256) = (n : Int) := by omega
      rw [this]
    · have hk : 1 ≤ k := by
        rcases Nat.eq_zero_or_pos k with rfl | hk
        · simp at hn; omega
        · exact hk
      have hlt : n / 128 < 128 ^ k := by rw [Nat.pow_succ] at hn; omega
      have ih := VarText_l0 k (n / 128) (out ++ [((n % 128 + 128 : Nat) : Int)]) hk hlt (by omega) (by rw [List.length_append]; simp; omega)
      rw [if_pos (by omega), if_pos (by omega), dif_neg h]
      have e1 : (n : Int) / 128 = ((n / 128 : Nat) : Int) := by omega
      have e2 : (bits .or .i64 (bits .and .i64 (n : Int) 127) 128) % 256 = ((n % 128 + 128 : Nat) : Int) := by
        rw [and127 n (by omega), or128 _ (by omega)]; omega
      rw [e1, e2, ih, List.append_assoc]
      rfl

theorem spec_l01Var (n : Int) (w : World) (h0 : 0 ≤ n) (h1 : n ≤ 1000000000) :
    Calls Try.prog 37 #[.int .i64 n] w fun e w' => e = .returned (.string (varS n)) ∧ Below w.heap.size w w' := by
  refine PFnExactReadCommand.spec_l01Var.calls 6 n (varS n) w ?_
  obtain ⟨m, rfl⟩ := Int.eq_ofNat_of_zero_le h0
  have := l01Var_l0 6 m [] (by omega) (by omega) (by omega) (by simp)
  simpa [PFnExactReadCommand.spec_l01Var.f, varS] using this

theorem impl_VarText (n : Int) (w : World) (h0 : 0 ≤ n) (h1 : n ≤ 1000000000) :
    Calls Try.prog 81 #[.int .i64 n] w fun e w' => e = .returned (.tuple #[.string (varS n), .bool true]) ∧ Below w.heap.size w w' := by
  refine PFnExactCommandText.impl_VarText.calls 6 n (varS n) true w ?_
  obtain ⟨m, rfl⟩ := Int.eq_ofNat_of_zero_le h0
  have := VarText_l0 6 m [] (by omega) (by omega) (by omega) (by simp)
  have hi : PFnExactCommandText.impl_in.f (m : Int) 0 1000000000 = some true := by
    unfold PFnExactCommandText.impl_in.f
    rw [if_pos (by omega)]
    simp; omega
  unfold PFnExactCommandText.impl_VarText.f
  rw [hi]
  simpa [varS] using this

set_option maxHeartbeats 400000 in
theorem impl_varOf (n : Int) (w : World) (h0 : 0 ≤ n) (h1 : n ≤ 1000000000) :
    Calls Try.prog 40 #[.int .i64 n] w fun e w' => e = .returned (.string (varS n)) ∧ Below w.heap.size w w' := by
  go_enter Try.func40, Try.ntmps40
  go_wp2_with (first | (go_at_call 81; refine (impl_VarText _ _ h0 h1).mono ?_; rintro e w' ⟨rfl, hb⟩))
  go_ret
  exact ⟨rfl, hb⟩

theorem varN_length : ∀ (n : Nat), n ≤ 1000000000 → (varN n).length ≤ 5 := by
  have step : ∀ (k n : Nat), n < 128 ^ (k + 1) → (varN n).length ≤ k + 1 := by
    intro k
    induction k with
    | zero => intro n h; rw [varN, dif_pos (by omega)]; simp
    | succ k ih =>
      intro n h
      rw [varN]
      split
      · simp
      · have := ih (n / 128) (by rw [Nat.pow_succ] at h; omega)
        simp; omega
  intro n h
  exact step 4 n (by omega)
theorem varS_size (n : Int) (h0 : 0 ≤ n) (h1 : n ≤ 1000000000) : (varS n).size ≤ 5 := by
  unfold varS
  rw [strOfNums_size]
  exact varN_length _ (by omega)

/-- A text with its length ahead. -/
def shortS (s : ByteArray) : ByteArray := varS s.size ++ s

set_option maxHeartbeats 400000 in
theorem spec_l05Short (s : ByteArray) (w : World) (h1 : s.size ≤ 1000000000) :
    Calls Try.prog 38 #[.string s] w fun e w' => e = .returned (.string (shortS s)) ∧ Below w.heap.size w w' := by
  have hz := varS_size s.size (by omega) (by omega)
  go_enter Try.func38, Try.ntmps38
  go_wp2_with (first | (go_at_call 37; refine (spec_l01Var _ _ (by omega) (by omega)).mono ?_; rintro e w' ⟨rfl, hb⟩))
  go_ret
  exact ⟨rfl, hb⟩

set_option maxHeartbeats 400000 in
theorem impl_shortOf (s : ByteArray) (w : World) (h1 : s.size ≤ 1000000000) :
    Calls Try.prog 41 #[.string s] w fun e w' => e = .returned (.string (shortS s)) ∧ Below w.heap.size w w' := by
  have hz := varS_size s.size (by omega) (by omega)
  go_enter Try.func41, Try.ntmps41
  go_wp2_with (first | (go_at_call 40; refine (impl_varOf _ _ (by omega) (by omega)).mono ?_; rintro e w' ⟨rfl, hb⟩))
  go_ret
  exact ⟨rfl, hb⟩

theorem oneByte_l0 : ∀ (d k : Nat) (out xs : List Int) (i : Nat), i ≤ xs.length → xs.length - i = d → d < k → out.length + d < 140737488355328 → xs.length ≤ 140737488355328 →
    PFnExactCommandText.impl_oneByte.l0 k out xs (xs.length : Int) (i : Int) = some (strOfNums (out ++ (xs.drop i).map (· % 256))) := by
  intro d
  induction d with
  | zero =>
    intro k out xs i h0 hd hk _ _
    obtain ⟨k, rfl⟩ : ∃ m, k = m + 1 := ⟨k - 1, by omega⟩
    simp only [PFnExactCommandText.impl_oneByte.l0]
    rw [if_neg (by omega), List.drop_of_length_le (by omega)]
    simp
  | succ d ih =>
    intro k out xs i h0 hd hk ho hl
    obtain ⟨k, rfl⟩ : ∃ m, k = m + 1 := ⟨k - 1, by omega⟩
    simp only [PFnExactCommandText.impl_oneByte.l0]
    have hi : i < xs.length := by omega
    have e1 : rd xs (i : Int) = xs[i] := by simp [rd, hi]
    have e2 : wrap64 ((i : Int) + 1) = ((i + 1 : Nat) : Int) := by unfold wrap64; omega
    rw [if_pos (by omega), if_pos (by omega), if_pos (by omega), if_pos (by omega), e1, e2, ih k (out ++ [xs[i] % 256]) xs (i + 1) (by omega) (by omega) (by omega) (by
      rw [List.length_append, List.length_singleton]
      omega) hl]
    rw [List.drop_eq_getElem_cons hi, List.map_cons, List.append_assoc]
    rfl

theorem impl_oneByte (A : Option Addr) (c : Nat) (xs : List Int) (w : World) (hr : Kd.C (Kd.int .i64) w A xs.length xs) (hc : xs.length ≤ c) (hl : xs.length < 1000000000) :
    Calls Try.prog 39 #[.slice A xs.length c] w fun e w' => e = .returned (.string (strOfNums (xs.map (· % 256)))) ∧ Below w.heap.size w w' := by
  refine PFnExactCommandText.impl_oneByte.calls (xs.length + 1) A c xs _ w hr hc ?_
  have := oneByte_l0 xs.length (xs.length + 1) [] xs 0 (by omega) (by omega) (by omega) (by simp; omega) (by omega)
  simpa [PFnExactCommandText.impl_oneByte.f] using this
theorem row_one {W : World} {g : Nat} {x : Int} (h : W.cell? ⟨g, 0, none⟩ = some (.int .i64 x)) : Kd.C (Kd.int .i64) W (some ⟨g, 0, none⟩) 1 [x] := by
  refine ⟨rfl, by omega, fun _ => ⟨_, rfl, fun j p hj => ?_⟩⟩
  rcases j with _ | j
  · obtain rfl : x = p := by simpa using hj
    refine ⟨[.int .i64 x], rfl, rfl, fun i u hu => ?_⟩
    rcases i with _ | i
    · obtain rfl : Value.int .i64 x = u := by simpa using hu
      exact h
    · simp at hu
  · simp at hj
theorem row_three {W : World} {g : Nat} {x y z : Int} (h0 : W.cell? ⟨g, 0, none⟩ = some (.int .i64 x)) (h1 : W.cell? ⟨g, 1, none⟩ = some (.int .i64 y)) (h2 : W.cell? ⟨g, 2, none⟩ = some (.int .i64 z)) :
    Kd.C (Kd.int .i64) W (some ⟨g, 0, none⟩) 3 [x, y, z] := by
  refine ⟨rfl, by omega, fun _ => ⟨_, rfl, fun j p hj => ?_⟩⟩
  have step : ∀ (v : Int), W.cell? ⟨g, j, none⟩ = some (.int .i64 v) → p = v → ∃ c : List Value, c.length = (Kd.int .i64).sz ∧ (Kd.int .i64).K W p c ∧ ∀ i u, c[i]? = some u → W.cell? (Addr.add ⟨g, 0, none⟩ (j * (Kd.int .i64).sz + i)) = some u := by
    rintro v hv rfl
    refine ⟨[.int .i64 p], rfl, rfl, fun i u hu => ?_⟩
    rcases i with _ | i
    · obtain rfl : Value.int .i64 p = u := by simpa using hu
      have : Addr.add ⟨g, 0, none⟩ (j * (Kd.int .i64).sz + 0) = ⟨g, j, none⟩ := by
        show Addr.add ⟨g, 0, none⟩ (j * 1 + 0) = ⟨g, j, none⟩
        unfold Addr.add
        rcases j with _ | j <;> simp
      rw [this]
      exact hv
    · simp at hu
  rcases j with _ | _ | _ | j
  · exact step x h0 (by simpa using hj.symm)
  · exact step y h1 (by simpa using hj.symm)
  · exact step z h2 (by simpa using hj.symm)
  · simp at hj
theorem impl_oneByte1 (g : Nat) (x : Int) (w : World) (h : w.cell? ⟨g, 0, none⟩ = some (.int .i64 x)) :
    Calls Try.prog 39 #[.slice (some ⟨g, 0, none⟩) 1 1] w fun e w' => e = .returned (.string (strOfNums [x % 256])) ∧ Below w.heap.size w w' :=
  impl_oneByte _ 1 [x] w (row_one h) (by simp) (by simp)
theorem impl_oneByte3 (g : Nat) (x y z : Int) (w : World) (h0 : w.cell? ⟨g, 0, none⟩ = some (.int .i64 x)) (h1 : w.cell? ⟨g, 1, none⟩ = some (.int .i64 y)) (h2 : w.cell? ⟨g, 2, none⟩ = some (.int .i64 z)) :
    Calls Try.prog 39 #[.slice (some ⟨g, 0, none⟩) 3 3] w fun e w' => e = .returned (.string (strOfNums [x % 256, y % 256, z % 256])) ∧ Below w.heap.size w w' :=
  impl_oneByte _ 3 [x, y, z] w (row_three h0 h1 h2) (by simp) (by simp)
end Go.Proofs.Ytlbikcelfheohaa
