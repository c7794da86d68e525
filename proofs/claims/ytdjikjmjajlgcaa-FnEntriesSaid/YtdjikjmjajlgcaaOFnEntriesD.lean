/-
  FnEntries: whatever the arguments (any values of the parameters' types that can be read), the law returns true and each argument reads afterwards as it read before. Conditions: none.
-/
import Derived.Test.YtdjikjmjajlgcaaOFnEntriesB
import Derived.Test.YtdjikjmjajlgcaaPFnEntriesB
import Derived.Test.YtdjikjmjajlgcaaOFnEntriesA
import Derived.Test.YtdjikjmjajlgcaaOFnEntriesC
import Derived.Deep.Cut
import Derived.Test.YtdjikjmjajlgcaaWEqStruct
import Derived.Test.YtdjikjmjajlgcaaPFnEntriesA
import Derived.Test.YtdjikjmjajlgcaaRows
import Derived.WalkKit
import Derived.ProofKit
import Derived.OpenShut
import Derived.ShutString
import Derived.ChangeOld
import Derived.Below
import Derived.SizedLaws
import Derived.Carry
import Derived.KernelRfl

/-! ### YtdjikjmjajlgcaaRead -/
section
namespace Go.Proofs.Ytdjikjmjajlgcaa
set_option linter.unusedSimpArgs false
set_option linter.unusedVariables false
open Go.RowKit Go.Proofs.YtdjikjmjajlgcaaW.PrintWords Go.Proofs.YtdjikjmjajlgcaaW.PrintMore

/-- A byte of a text. -/
def byN (s : ByteArray) (p : Nat) : Nat := (bt s (p : Int)).toNat
theorem byN_lt (s : ByteArray) (p : Nat) : byN s p < 256 := by have := bt_range s (p : Int); unfold byN; omega
theorem bt_byN (s : ByteArray) (p : Nat) : bt s (p : Int) = (byN s p : Int) := by have := bt_range s (p : Int); unfold byN; omega

/-- A number that stands in a text from a place on: itself and the place behind it. -/
def rvGo : Nat → ByteArray → Nat → Nat → Nat → Option (Nat × Nat)
  | 0, _, _, _, _ => none
  | f + 1, s, p, acc, k =>
    if p < s.size then
      if byN s p < 128 then
        if (byN s p = 0 ∧ 0 < k) ∨ 1000000000 < acc + byN s p * 128 ^ k then none else some (acc + byN s p * 128 ^ k, p + 1)
      else rvGo f s (p + 1) (acc + (byN s p - 128) * 128 ^ k) (k + 1)
    else none
def rv (s : ByteArray) (p : Int) : Option (Nat × Nat) := if 0 ≤ p ∧ p ≤ s.size then rvGo 5 s p.toNat 0 0 else none
/-- What the two programs' ReadVar hand back. -/
def rv3 : Option (Nat × Nat) → Int × Int × Bool
  | some (n, e) => (n, e, true)
  | none => (0, 0, false)

theorem wid (n : Nat) (h : n ≤ 4000000000000) : wrap64 (n : Int) = (n : Int) := by unfold wrap64; omega

theorem or_low (a h i : Nat) (ha : a < 2 ^ i) (hd : h % 2 ^ i = 0) (hi : i ≤ 63) (hh : h < 2 ^ 63) : bits .or .i64 (a : Int) (h : Int) = ((a + h : Nat) : Int) := by
  have hw : ∀ n : Int, 0 ≤ n → n < 2 ^ 63 → IntKind.i64.wrap n = n := by intro m h0 h1; rw [IntKind.wrap_i64]; omega
  have ha' : a < 2 ^ 63 := Nat.lt_of_lt_of_le ha (Nat.pow_le_pow_right (by decide) hi)
  have e1 := (bits_nat .i64 63 (by decide) hw a h ha' hh).2
  have e2 := (bits_nat .i64 63 (by decide) hw h a hh ha').2
  have e3 := bits_join .i64 63 (by decide) hw i (h : Int) (a : Int) (by omega) (by exact_mod_cast hd) (by exact_mod_cast hh) (by omega) (by exact_mod_cast ha) (by exact_mod_cast ha')
  rw [e1, Nat.or_comm, ← e2, e3]
  omega

theorem step_or (acc v k : Nat) (hk : k < 5) (ha : acc < 128 ^ k) (hv : v < 256) :
    bits .or .i64 (acc : Int) (shl .i64 (bits .and .i64 (v : Int) 127) (wrap64 (7 * (k : Int)))) = ((acc + v % 128 * 128 ^ k : Nat) : Int) := by
  rw [and127 v (by omega)]
  have hm : v % 128 < 128 := Nat.mod_lt _ (by omega)
  have key : ∀ i P : Nat, i ≤ 28 → P = 2 ^ i → shl .i64 ((v % 128 : Nat) : Int) (i : Int) = ((v % 128 * P : Nat) : Int) := by
    intro i P hi hP
    have hPle : P ≤ 2 ^ 28 := by rw [hP]; exact Nat.pow_le_pow_right (by decide) hi
    have hmul : v % 128 * P ≤ 127 * 2 ^ 28 := Nat.mul_le_mul (by omega) hPle
    unfold shl
    rw [Int.toNat_natCast, Nat.min_eq_left (by show i ≤ 64; omega), IntKind.wrap_i64]
    have : (((v % 128 : Nat) : Int) * 2 ^ i) = ((v % 128 * P : Nat) : Int) := by rw [hP]; simp
    rw [this]
    generalize v % 128 * P = q at *
    have : (2 : Nat) ^ 28 = 268435456 := by decide
    omega
  have fin : ∀ i P : Nat, i ≤ 28 → P = 2 ^ i → acc < P → bits .or .i64 (acc : Int) ((v % 128 * P : Nat) : Int) = ((acc + v % 128 * P : Nat) : Int) := by
    intro i P hi hP hac
    have hPle : P ≤ 2 ^ 28 := by rw [hP]; exact Nat.pow_le_pow_right (by decide) hi
    have hmul : v % 128 * P ≤ 127 * 2 ^ 28 := Nat.mul_le_mul (by omega) hPle
    refine or_low acc _ i (by rw [← hP]; exact hac) (by rw [hP]; exact Nat.mul_mod_left _ _) (by omega) ?_
    have : (2 : Nat) ^ 28 = 268435456 := by decide
    have : (2 : Nat) ^ 63 = 9223372036854775808 := by decide
    omega
  have e7 : wrap64 (7 * (k : Int)) = ((7 * k : Nat) : Int) := by rw [show (7 * (k : Int)) = ((7 * k : Nat) : Int) from by omega]; exact wid _ (by omega)
  rw [e7]
  have hp : 128 ^ k = 2 ^ (7 * k) := by rw [show (128 : Nat) = 2 ^ 7 from rfl, ← Nat.pow_mul]
  rw [key (7 * k) (128 ^ k) (by omega) hp, fin (7 * k) (128 ^ k) (by omega) hp ha]

theorem impl_rv_l0 (s : ByteArray) (at_ : Nat) (hs : s.size ≤ 1099511627776) (hat : at_ ≤ s.size) : ∀ (f k acc K : Nat), k + f = 5 → acc < 128 ^ k → 2 * f + 2 ≤ K →
    PFnEntries.impl_ReadVar.l0 K s (at_ : Int) (acc : Int) (k : Int) = some (rv3 (rvGo f s (at_ + k) acc k)) := by
  intro f
  induction f with
  | zero =>
    intro k acc K hk ha hK
    obtain ⟨K, rfl⟩ : ∃ m, K = m + 2 := ⟨K - 2, by omega⟩
    simp only [PFnEntries.impl_ReadVar.l0, PFnEntries.impl_ReadVar.j1]
    rw [if_neg (by omega)]
    simp [rvGo, rv3]
  | succ f ih =>
    intro k acc K hk ha hK
    obtain ⟨K, rfl⟩ : ∃ m, K = m + 2 := ⟨K - 2, by omega⟩
    simp only [PFnEntries.impl_ReadVar.l0, PFnEntries.impl_ReadVar.j1]
    have hb := byN_lt s (at_ + k)
    rw [if_pos (by omega), show ((at_ : Int) + (k : Int)) = ((at_ + k : Nat) : Int) from by omega, wid (at_ + k) (by omega), bt_byN, wid (byN s (at_ + k)) (by omega),
      show ((k : Int) + 1) = ((k + 1 : Nat) : Int) from by omega, wid (k + 1) (by omega), show (((at_ + k : Nat) : Int) + 1) = ((at_ + k + 1 : Nat) : Int) from by omega, wid (at_ + k + 1) (by omega),
      step_or acc (byN s (at_ + k)) k (by omega) ha hb, show (7 * (k : Int)) = ((7 * k : Nat) : Int) from by omega, wid (7 * k) (by omega)]
    simp only [rvGo]
    by_cases hp : at_ + k < s.size
    · rw [if_pos (decide_eq_true (by omega)), if_pos (by omega), if_pos (by exact_mod_cast hp), if_pos (by omega), if_pos hp]
      by_cases hv : byN s (at_ + k) < 128
      · have hmod : byN s (at_ + k) % 128 = byN s (at_ + k) := Nat.mod_eq_of_lt hv
        rw [if_neg (by omega), if_pos hv, hmod]
        by_cases hz : byN s (at_ + k) = 0
        · by_cases hk0 : 0 < k
          · rw [if_pos (by omega), if_pos (by omega), if_pos (.inl ⟨hz, hk0⟩)]; rfl
          · rw [if_pos (by omega), if_neg (by omega)]
            by_cases hM : 1000000000 < acc + byN s (at_ + k) * 128 ^ k
            · rw [if_pos (by omega), if_pos (.inr hM)]; rfl
            · rw [if_neg (by omega), if_neg (by rintro (⟨_, h⟩ | h) <;> omega)]; rfl
        · rw [if_neg (by omega)]
          by_cases hM : 1000000000 < acc + byN s (at_ + k) * 128 ^ k
          · rw [if_pos (by omega), if_pos (.inr hM)]; rfl
          · rw [if_neg (by omega), if_neg (by rintro (⟨h, _⟩ | h) <;> omega)]; rfl
      · have hmod : byN s (at_ + k) % 128 = byN s (at_ + k) - 128 := by omega
        rw [if_pos (by omega), if_neg hv, hmod]
        have hlt : acc + (byN s (at_ + k) - 128) * 128 ^ k < 128 ^ (k + 1) := by
          rw [Nat.pow_succ]
          have : (byN s (at_ + k) - 128) * 128 ^ k ≤ 127 * 128 ^ k := Nat.mul_le_mul_right _ (by omega)
          omega
        exact ih (k + 1) _ K (by omega) hlt (by omega)
    · rw [if_neg hp]
      have : decide (((at_ + k : Nat) : Int) < (s.size : Int)) = false := decide_eq_false (by omega)
      rw [this]
      rfl

theorem impl_rv_f (s : ByteArray) (p : Int) (hs : s.size ≤ 1099511627776) : PFnEntries.impl_ReadVar.f 12 s p = some (rv3 (rv s p)) := by
  unfold PFnEntries.impl_ReadVar.f PFnEntries.impl_in.f rv
  by_cases h : 0 ≤ p ∧ p ≤ s.size
  · obtain ⟨m, rfl⟩ := Int.eq_ofNat_of_zero_le h.1
    rw [if_pos (by omega), if_pos h]
    have := impl_rv_l0 s m hs (by omega) 5 0 0 12 (by omega) (by omega) (by omega)
    simp only [Option.bind_some]
    rw [if_pos (by simpa using h.2)]
    simpa using this
  · rw [if_neg h]
    by_cases h0 : p ≥ 0
    · rw [if_pos h0]
      simp only [Option.bind_some]
      rw [if_neg (by simp; omega)]
      rfl
    · rw [if_neg h0]
      rfl

/-! the reference's ReadVar: the same -/
def val : List Nat → Nat
  | [] => 0
  | b :: r => b % 128 + 128 * val r
theorem val_snoc : ∀ (L : List Nat) (v : Nat), val (L ++ [v]) = val L + v % 128 * 128 ^ L.length
  | [], v => by simp [val]
  | b :: r, v => by
    simp only [List.cons_append, val, val_snoc r v, List.length_cons, Nat.pow_succ]
    rw [Nat.mul_add, ← Nat.mul_assoc, Nat.mul_comm 128 (v % 128), Nat.mul_assoc, Nat.mul_comm 128 (128 ^ r.length)]
    omega
theorem val_lt : ∀ (L : List Nat), val L < 128 ^ L.length
  | [] => by simp [val]
  | b :: r => by
    have := val_lt r
    have hb : b % 128 < 128 := Nat.mod_lt _ (by omega)
    simp only [val, List.length_cons, Nat.pow_succ]
    omega
theorem varN_ne (n : Nat) : varN n ≠ [] := by rw [varN]; split <;> simp
theorem varN_zero {n : Nat} (h : varN n = [0]) : n = 0 := by
  rw [varN] at h
  split at h
  · simpa using h
  · simp at h
    exact absurd h.2 (varN_ne _)
theorem varN_end : ∀ (L : List Int) (n : Nat), varN n = L ++ [0] → L = []
  | [], _, _ => rfl
  | y :: r, n, h => by
    rw [varN] at h
    split at h
    · simp at h
    · rename_i hn
      simp at h
      have hr := varN_end r (n / 128) h.2
      subst hr
      have := varN_zero h.2
      omega
theorem varN_canon : ∀ (L : List Nat) (v : Nat), (∀ b ∈ L, 128 ≤ b ∧ b < 256) → v < 128 → (varN (val (L ++ [v])) = (L ++ [v]).map (fun b : Nat => (b : Int)) ↔ (L = [] ∨ v ≠ 0))
  | [], v, _, hv => by
    simp only [List.nil_append, val, List.map_cons, List.map_nil]
    rw [varN, dif_pos (by omega), Nat.mod_eq_of_lt hv]
    simp
  | b :: r, v, hb, hv => by
    by_cases hz : v = 0
    · subst hz
      constructor
      · intro h
        have : varN (val (b :: r ++ [0])) = ((b :: r).map (fun b : Nat => (b : Int))) ++ [0] := by rw [h]; simp
        have := varN_end _ _ this
        simp at this
      · rintro (h | h)
        · cases h
        · exact absurd rfl h
    · have hpos : 1 ≤ val (r ++ [v]) := by
        rw [val_snoc, Nat.mod_eq_of_lt hv]
        have : 1 ≤ v * 128 ^ r.length := Nat.mul_pos (by omega) (Nat.pow_pos (by omega))
        omega
      have hb0 := hb b (by simp)
      have ih := (varN_canon r v (fun x hx => hb x (by simp [hx])) hv).2 (.inr hz)
      simp only [List.cons_append, val, List.map_cons]
      rw [varN, dif_neg (by omega)]
      have e1 : (b % 128 + 128 * val (r ++ [v])) / 128 = val (r ++ [v]) := by omega
      have e2 : (b % 128 + 128 * val (r ++ [v])) % 128 + 128 = b := by omega
      rw [e1, e2, ih]
      simp [hz]

theorem varN_range : ∀ (n : Nat), ∀ x ∈ varN n, 0 ≤ x ∧ x < 256 := by
  intro n
  induction n using Nat.strongRecOn with
  | _ n ih =>
    intro x hx
    rw [varN] at hx
    split at hx
    · simp at hx; omega
    · rcases List.mem_cons.1 hx with h | h
      · omega
      · exact ih (n / 128) (by omega) x h

/-- The bytes of a text, as numbers. -/
def nums8 (s : ByteArray) : List Nat := s.data.toList.map (fun b => b.toNat)
theorem nums8_length (s : ByteArray) : (nums8 s).length = s.size := by simp [nums8]
theorem byN_nums (s : ByteArray) (p : Nat) (h : p < s.size) : (nums8 s)[p]? = some (byN s p) := by
  have hp : p < s.data.toList.length := by simpa using h
  unfold nums8 byN bt
  rw [List.getElem?_map, List.getElem?_eq_getElem hp]
  have h' : ((p : Int).toNat) < s.size := by simpa using h
  rw [dif_pos h']
  simp
  rfl
theorem same_bytes (n : Nat) (s : ByteArray) (a b : Nat) (hb : b ≤ s.size) :
    ((strOfNums (varN n)).toList = (s.extract a b).toList ↔ varN n = (((nums8 s).take b).drop a).map (fun x : Nat => (x : Int))) := by
  rw [ByteArray.toList_eq, ByteArray.toList_eq, strOfNums_data]
  have he : (s.extract a b).data.toList = (s.data.toList.take b).drop a := by
    simp [ByteArray.data_extract, List.drop_take]
  rw [he]
  have hr := varN_range n
  unfold nums8
  rw [← List.map_take, ← List.map_drop, List.map_map]
  generalize varN n = xs at *
  generalize List.drop a (List.take b s.data.toList) = bs
  constructor
  · intro h
    rw [← h, List.map_map]
    conv => lhs; rw [← List.map_id xs]
    apply List.map_congr_left
    intro x hx
    have := hr x hx
    simp only [Function.comp, id]
    rw [UInt8.toNat_ofNat']
    omega
  · intro h
    rw [h, List.map_map]
    conv => rhs; rw [← List.map_id bs]
    apply List.map_congr_left
    intro x hx
    simp

/-- The bytes of a text from a place on, so many of them. -/
def part (s : ByteArray) (a k : Nat) : List Nat := ((nums8 s).take (a + k)).drop a
theorem part_zero (s : ByteArray) (a : Nat) : part s a 0 = [] := by simp [part]
theorem part_length (s : ByteArray) (a k : Nat) (h : a + k ≤ s.size) : (part s a k).length = k := by simp [part, nums8_length]; omega
theorem part_succ (s : ByteArray) (a k : Nat) (h : a + k < s.size) : part s a (k + 1) = part s a k ++ [byN s (a + k)] := by
  have hl : a + k < (nums8 s).length := by rw [nums8_length]; exact h
  have hg : (nums8 s)[a + k] = byN s (a + k) := by
    have h1 := byN_nums s (a + k) h
    rw [List.getElem?_eq_getElem hl] at h1
    exact Option.some.inj h1
  unfold part
  rw [← Nat.add_assoc, List.take_succ_eq_append_getElem hl, hg, List.drop_append_of_le_length (by simp; omega)]




end Go.Proofs.Ytdjikjmjajlgcaa
end

/-! ### YtdjikjmjajlgcaaState -/
section
namespace Go.Proofs.Ytdjikjmjajlgcaa
open Go.RowKit Go.Proofs.YtdjikjmjajlgcaaW.PrintWords
set_option linter.unusedSimpArgs false
set_option linter.unusedVariables false

/-- A reader's block: the text, the place, whether it was bad. -/
def Rd (T g : Nat) (s : ByteArray) (p : Int) (bad : Bool) (W : World) : Prop := W.heap[g]? = some (.cells #[.string s, .int .i64 p, .bool bad] T (0, 0))
theorem Rd.lt {T g : Nat} {s : ByteArray} {p : Int} {bad : Bool} {W : World} (h : Rd T g s p bad W) : g < W.heap.size := by
  unfold Rd at h
  rcases Nat.lt_or_ge g W.heap.size with h1 | h1
  · exact h1
  · rw [Array.getElem?_eq_none h1] at h; cases h
theorem Rd.cells {T g : Nat} {s : ByteArray} {p : Int} {bad : Bool} {W : World} (h : Rd T g s p bad W) :
    W.cell? ⟨g, 0, none⟩ = some (.string s) ∧ W.cell? ⟨g, 1, none⟩ = some (.int .i64 p) ∧ W.cell? ⟨g, 2, none⟩ = some (.bool bad) ∧ ∀ o, W.frozen? ⟨g, o, none⟩ = false := by
  unfold Rd at h
  refine ⟨?_, ?_, ?_, fun o => ?_⟩ <;> simp [World.cell?, World.frozen?, h]
theorem Rd.upd {T g g' : Nat} {s : ByteArray} {p : Int} {bad : Bool} {W W1 : World} (h : Rd T g s p bad W) (hu : Upd g' W W1) (hg : g ≠ g') : Rd T g s p bad W1 := (hu.block g h.lt hg).trans h
theorem Rd.below {T g : Nat} {s : ByteArray} {p : Int} {bad : Bool} {W W1 : World} (h : Rd T g s p bad W) (hb : Below W.heap.size W W1) : Rd T g s p bad W1 := (hb.block g h.lt).trans h
theorem Rd.far {T g : Nat} {s : ByteArray} {p : Int} {bad : Bool} {W : World} (h : Rd T g s p bad W) {a : Addr} (hg : g ≠ a.block) (v : Value) : Rd T g s p bad (W.setCell a v) := (Below.heap_setCell W a v g hg).trans h
theorem Rd.set1 {T g : Nat} {s : ByteArray} {p : Int} {bad : Bool} {W : World} (h : Rd T g s p bad W) (q : Int) : Rd T g s q bad (W.setCell ⟨g, 1, none⟩ (.int .i64 q)) := by
  unfold Rd at *
  simp [World.setCell, Array.getElem?_modify, h]
theorem Rd.set2 {T g : Nat} {s : ByteArray} {p : Int} {bad : Bool} {W : World} (h : Rd T g s p bad W) (q : Bool) : Rd T g s p q (W.setCell ⟨g, 2, none⟩ (.bool q)) := by
  unfold Rd at *
  simp [World.setCell, Array.getElem?_modify, h]
theorem Rd.new (T : Nat) (s : ByteArray) (p : Int) (bad : Bool) (W : World) : Rd T W.heap.size s p bad (W.alloc (.cells #[.string s, .int .i64 p, .bool bad] T)) := by
  unfold Rd
  simpa using heap_alloc_new W _

/-- What taking a number, a byte, a text does. -/
def rdNum (s : ByteArray) (p : Int) (bad : Bool) : Int × Int × Bool := if bad then (0, p, true) else match rv s p with
  | some (n, e) => (n, e, false)
  | none => (0, p, true)
def rdByte (s : ByteArray) (p : Int) (bad : Bool) : Int × Int × Bool := if bad = true ∨ p ≥ s.size then (0, p, true) else (bt s p, p + 1, false)

theorem impl_ReadVar (s : ByteArray) (p : Int) (w : World) (hs : s.size ≤ 1099511627776) :
    Calls Try.prog 146 #[.string s, .int .i64 p] w fun e w' => e = .returned (.tuple #[.int .i64 (rv3 (rv s p)).1, .int .i64 (rv3 (rv s p)).2.1, .bool (rv3 (rv s p)).2.2]) ∧ Below w.heap.size w w' := by
  refine (PFnEntries.impl_ReadVar.calls 12 s p _ _ _ w (impl_rv_f s p hs)).mono ?_
  rintro e w' ⟨rfl, nd, rfl⟩
  exact ⟨rfl, bl_drewN (Below.refl _ _) nd⟩

attribute [local go_sem] cell_grow

theorem impl_ReadVarH (s : ByteArray) (p : Int) (r : Int × Int × Bool) (w : World) (h : Hid (rv3 (rv s p) = r)) (hs : s.size ≤ 1099511627776) :
    Calls Try.prog 146 #[.string s, .int .i64 p] w fun e w' => e = .returned (.tuple #[.int .i64 r.1, .int .i64 r.2.1, .bool r.2.2]) ∧ Below w.heap.size w w' := by
  have := impl_ReadVar s p w hs
  rw [h.out] at this
  exact this

set_option maxHeartbeats 1000000 in
theorem impl_number (g : Nat) (s : ByteArray) (p : Int) (bad : Bool) (w : World) (hs : s.size ≤ 1099511627776) (hR : Rd 144 g s p bad w) :
    Calls Try.prog 97 #[.pointer (some ⟨g, 0, none⟩)] w fun e w' =>
      e = .returned (.int .i64 (rdNum s p bad).1) ∧ Rd 144 g s (rdNum s p bad).2.1 (rdNum s p bad).2.2 w' ∧ Upd g w w' := by
  have hlt := hR.lt
  obtain ⟨c0, c1, c2, hf⟩ := hR.cells
  cases bad with
  | true =>
    have Hq := Lib.hid (show rdNum s p true = (0, p, true) from by simp [rdNum])
    go_enter Try.func97, Try.ntmps97
    go_wp2_with fail
    refine wp_region_quiet_below (by kernel_rfl) (by kernel_rfl) ?_
    repeat (first | quiet_step (first | (go_at_call 146; exact Calls.regrown_of (impl_ReadVar _ _ _ hs))) | go_big_quiet_step (fail))
    refine wpQuiet_nil ?_
    intro W2 hw'
    have hbq := bl_regrown hw'
    clear hw'
    obtain ⟨hcq, hfq⟩ := bcell hbq
    go_wp2
    go_ret
    rw [Hq.out]
    exact ⟨rfl, (hR.below hbq).set2 true, ((Upd.refl g w).then hbq).set 2 _⟩
  | false =>
    rcases hq : rv s p with _ | ⟨n, e⟩
    · have Hq := Lib.hid (show rdNum s p false = (0, p, true) from by simp [rdNum, hq])
      have H3 := Lib.hid (show rv3 (rv s p) = (0, 0, false) from by rw [hq]; rfl)
      clear hq
      go_enter Try.func97, Try.ntmps97
      go_wp2_with fail
      refine wp_region_quiet_below (by kernel_rfl) (by kernel_rfl) ?_
      repeat (first | quiet_step (first | (go_at_call 146; exact Calls.regrown_of (impl_ReadVarH _ _ _ _ H3 hs))) | go_big_quiet_step (fail))
      refine wpQuiet_nil ?_
      intro W2 hw'
      have hbq := bl_regrown hw'
      clear hw'
      obtain ⟨hcq, hfq⟩ := bcell hbq
      go_wp2
      go_ret
      rw [Hq.out]
      exact ⟨rfl, (hR.below hbq).set2 true, ((Upd.refl g w).then hbq).set 2 _⟩
    · have Hq := Lib.hid (show rdNum s p false = ((n : Int), (e : Int), false) from by simp [rdNum, hq])
      have H3 := Lib.hid (show rv3 (rv s p) = ((n : Int), (e : Int), true) from by rw [hq]; rfl)
      clear hq
      go_enter Try.func97, Try.ntmps97
      go_wp2_with fail
      refine wp_region_quiet_below (by kernel_rfl) (by kernel_rfl) ?_
      repeat (first | quiet_step (first | (go_at_call 146; exact Calls.regrown_of (impl_ReadVarH _ _ _ _ H3 hs))) | go_big_quiet_step (fail))
      refine wpQuiet_nil ?_
      intro W2 hw'
      have hbq := bl_regrown hw'
      clear hw'
      obtain ⟨hcq, hfq⟩ := bcell hbq
      go_wp2
      go_ret
      rw [Hq.out]
      exact ⟨rfl, (hR.below hbq).set1 e, ((Upd.refl g w).then hbq).set 1 _⟩


/-! what the numbers read are -/
theorem rvGo_range (s : ByteArray) : ∀ (f p acc k n e : Nat), rvGo f s p acc k = some (n, e) → p < e ∧ e ≤ s.size ∧ n ≤ 1000000000
  | 0, _, _, _, _, _, h => by simp [rvGo] at h
  | f + 1, p, acc, k, n, e, h => by
    simp only [rvGo] at h
    split at h
    · split at h
      · split at h
        · cases h
        · rename_i h1 h2 h3
          have hn : ¬ (1000000000 < acc + byN s p * 128 ^ k) := fun x => h3 (.inr x)
          simp only [Option.some.injEq, Prod.mk.injEq] at h
          omega
      · have := rvGo_range s f (p + 1) _ _ n e h
        omega
    · cases h
theorem rv_range {s : ByteArray} {p : Int} {n e : Nat} (h : rv s p = some (n, e)) : 0 ≤ p ∧ p < (e : Int) ∧ e ≤ s.size ∧ n ≤ 1000000000 := by
  unfold rv at h
  split at h
  · rename_i hp
    have := rvGo_range s 5 _ 0 0 n e h
    omega
  · cases h

def rdTake (s : ByteArray) (p : Int) (bad : Bool) (n : Int) : ByteArray × Int × Bool := if bad = true ∨ n > s.size - p then (⟨#[]⟩, p, true) else (s.extract p.toNat (p + n).toNat, p + n, false)


/-- A world's first blocks. -/
def trunc (w : World) (g : Nat) : World := { w with heap := w.heap.extract 0 g }
theorem trunc_size {w : World} {g : Nat} (h : g ≤ w.heap.size) : (trunc w g).heap.size = g := by simp [trunc]; omega
theorem trunc_below {w : World} {g : Nat} (h : g ≤ w.heap.size) : Below (trunc w g).heap.size (trunc w g) w := by
  rw [trunc_size h]
  refine ⟨rfl, rfl, rfl, by rw [trunc_size h]; exact h, fun k hk => ?_⟩
  show w.heap[k]? = (w.heap.extract 0 g)[k]?
  rw [Array.getElem?_extract, if_pos (by omega)]
  simp
theorem upd_of {g : Nat} {w w' w0 : World} (h0 : Below w0.heap.size w0 w) (h1 : Below w0.heap.size w0 w') (hk : KeepBut w w' g none) : Upd g w w' :=
  ⟨h1.os.trans h0.os.symm, h1.tape.trans h0.tape.symm, h1.output.trans h0.output.symm, hk.1, fun k hk' hg => hk.2 k hk' hg (by simp)⟩


theorem byte_f (s : ByteArray) (p : Int) (bad : Bool) (hs : s.size ≤ 1099511627776) (hp0 : 0 ≤ p) (hp1 : p ≤ s.size) :
    PFnEntries.impl_reader_byte.f s p bad = some ((rdByte s p bad).1, s, (rdByte s p bad).2.1, (rdByte s p bad).2.2) := by
  unfold PFnEntries.impl_reader_byte.f rdByte
  have hb := bt_range s p
  have e2 : wrap64 (p + 1) = p + 1 := by unfold wrap64; omega
  have e3 : wrap64 (p + 1 - 1) = p := by unfold wrap64; omega
  have e4 : wrap64 (bt s p) = bt s p := by unfold wrap64; omega
  rw [e2, e3, e4]
  clear e2 e3 e4
  cases bad with
  | true => simp
  | false =>
    by_cases h : p ≥ s.size
    · rw [if_neg (by simp), if_pos h, if_pos (.inr h)]
    · rw [if_neg (by simp), if_neg h, if_pos hp0, if_pos (by omega), if_neg (by simpa using h)]


theorem impl_byte (g : Nat) (s : ByteArray) (p : Int) (bad : Bool) (w : World) (hs : s.size ≤ 1099511627776) (hp0 : 0 ≤ p) (hp1 : p ≤ s.size) (hR : Rd 144 g s p bad w) :
    Calls Try.prog 96 #[.pointer (some ⟨g, 0, none⟩)] w fun e w' =>
      e = .returned (.int .i64 (rdByte s p bad).1) ∧ Rd 144 g s (rdByte s p bad).2.1 (rdByte s p bad).2.2 w' ∧ Upd g w w' := by
  have hlt := Nat.le_of_lt hR.lt
  refine (PFnEntries.impl_reader_byte.calls g s p bad _ _ _ _ (trunc w g) w ⟨hR, Nat.le_of_eq (trunc_size hlt)⟩ (trunc_below hlt) (byte_f s p bad hs hp0 hp1)).mono ?_
  rintro e w' ⟨rfl, hI, hB, hK⟩
  exact ⟨rfl, hI.1, upd_of (trunc_below hlt) hB hK⟩

def rs (s : ByteArray) (p : Int) : Option (ByteArray × Int) := match rv s p with
  | some (n, e) => if n > 20000 ∨ (n : Int) > s.size - e then none else some (s.extract e (e + n), ((e + n : Nat) : Int))
  | none => none
def rs3 : Option (ByteArray × Int) → ByteArray × Int × Bool
  | some (t, e) => (t, e, true)
  | none => (⟨#[]⟩, 0, false)
def rdText (s : ByteArray) (p : Int) (bad : Bool) : ByteArray × Int × Bool := if bad then (⟨#[]⟩, p, true) else match rs s p with
  | some (t, e) => (t, e, false)
  | none => (⟨#[]⟩, p, true)


theorem bt_extract (s : ByteArray) (a b : Nat) (hab : a < b) (hb : b ≤ s.size) : bt (s.extract a b) 0 = bt s (a : Int) := by
  unfold bt
  have h1 : (0 : Int).toNat < (s.extract a b).size := by simp; omega
  have h2 : (a : Int).toNat < s.size := by simp; omega
  rw [dif_pos h1, dif_pos h2]
  congr 2
  simp [ByteArray.getElem_extract]



theorem rdNum_range (s : ByteArray) (p : Int) (bad : Bool) (hp0 : 0 ≤ p) (hp1 : p ≤ s.size) : 0 ≤ (rdNum s p bad).1 ∧ (rdNum s p bad).1 ≤ 1000000000 ∧ 0 ≤ (rdNum s p bad).2.1 ∧ (rdNum s p bad).2.1 ≤ s.size := by
  unfold rdNum
  cases bad with
  | true => simp; omega
  | false =>
    rcases hq : rv s p with _ | ⟨n, e⟩
    · simp; omega
    · have := rv_range hq
      simp; omega
theorem rdByte_range (s : ByteArray) (p : Int) (bad : Bool) (hp0 : 0 ≤ p) (hp1 : p ≤ s.size) : 0 ≤ (rdByte s p bad).1 ∧ (rdByte s p bad).1 ≤ 255 ∧ 0 ≤ (rdByte s p bad).2.1 ∧ (rdByte s p bad).2.1 ≤ s.size := by
  unfold rdByte
  have := bt_range s p
  split
  · simp; omega
  · rename_i h
    have : ¬ p ≥ s.size := fun x => h (.inr x)
    simp; omega

/-- The reference's short text. -/
def rdShort (s : ByteArray) (p : Int) (bad : Bool) : ByteArray × Int × Bool := rdTake s (rdNum s p bad).2.1 (rdNum s p bad).2.2 (rdNum s p bad).1

end Go.Proofs.Ytdjikjmjajlgcaa
end

/-! ### YtdjikjmjajlgcaaReadEnt -/
section
namespace Go.Proofs.Ytdjikjmjajlgcaa
open Go.RowKit Go.Proofs.YtdjikjmjajlgcaaW.PrintWords
set_option linter.unusedSimpArgs false
set_option linter.unusedVariables false

/-! impl.ReadEntry at any text; the text of a right entry is read back. (own) -/
theorem rdNumH_range {s : ByteArray} {p : Int} {bad : Bool} {n p' : Int} {bad' : Bool} (h : Hid (rdNum s p bad = (n, p', bad'))) (hp : 0 ≤ p ∧ p ≤ s.size) : 0 ≤ p' ∧ p' ≤ s.size := by
  have := rdNum_range s p bad hp.1 hp.2
  rw [h.out] at this
  exact this.2.2
theorem rdByteH_range {s : ByteArray} {p : Int} {bad : Bool} {n p' : Int} {bad' : Bool} (h : Hid (rdByte s p bad = (n, p', bad'))) (hp : 0 ≤ p ∧ p ≤ s.size) : 0 ≤ p' ∧ p' ≤ s.size := by
  have := rdByte_range s p bad hp.1 hp.2
  rw [h.out] at this
  exact this.2.2
theorem rbyteH (g : Nat) (s : ByteArray) (p : Int) (bad : Bool) (n : Int) (p' : Int) (bad' : Bool) (w : World) (h : Hid (rdByte s p bad = (n, p', bad'))) (hs : s.size ≤ 1099511627776) (hp : 0 ≤ p ∧ p ≤ s.size) (hR : Rd 144 g s p bad w) :
    Calls Try.prog 96 #[.pointer (some ⟨g, 0, none⟩)] w fun e w' => e = .returned (.int .i64 n) ∧ Rd 144 g s p' bad' w' ∧ Upd g w w' := by
  have := impl_byte g s p bad w hs hp.1 hp.2 hR
  rw [h.out] at this
  exact this
theorem rnumH (g : Nat) (s : ByteArray) (p : Int) (bad : Bool) (n : Int) (p' : Int) (bad' : Bool) (w : World) (h : Hid (rdNum s p bad = (n, p', bad'))) (hs : s.size ≤ 1099511627776) (hR : Rd 144 g s p bad w) :
    Calls Try.prog 97 #[.pointer (some ⟨g, 0, none⟩)] w fun e w' => e = .returned (.int .i64 n) ∧ Rd 144 g s p' bad' w' ∧ Upd g w w' := by
  have := impl_number g s p bad w hs hR
  rw [h.out] at this
  exact this
theorem rrestH (g : Nat) (s : ByteArray) (p : Int) (bad : Bool) (w : World) (hp : 0 ≤ p ∧ p ≤ s.size) (hR : Rd 144 g s p bad w) :
    Calls Try.prog 98 #[.pointer (some ⟨g, 0, none⟩)] w fun e w' => e = .returned (.string (s.extract p.toNat s.size)) ∧ Rd 144 g s s.size bad w' ∧ Upd g w w' := by
  have hlt := Nat.le_of_lt hR.lt
  refine (PFnEntries.impl_reader_rest.calls g s p bad (s.extract p.toNat s.size) s s.size bad (trunc w g) w ⟨hR, Nat.le_of_eq (trunc_size hlt)⟩ (trunc_below hlt) ?_).mono ?_
  · unfold PFnEntries.impl_reader_rest.f
    rw [if_pos hp.1, if_pos hp.2]
  · rintro e w' ⟨rfl, hI, hB, hK⟩
    exact ⟨rfl, hI.1, upd_of (trunc_below hlt) hB hK⟩
theorem blk_upd {T b g : Nat} {cs : Array Value} {W W1 : World} (h : Blk T b cs W) (hu : Upd g W W1) (hne : b ≠ g) : Blk T b cs W1 := h.upd hu hne
theorem calls_at' {P : Program} {f : Nat} {args : Array Value} {E : World} {Q : Ending → World → Prop} (R : World → Prop) (h : R E) (k : ∀ W, R W → Calls P f args W Q) : Calls P f args E Q := k E h
theorem wp_at' {P : Program} {c : Code} {Q : Exit → Act → World → Prop} {a : Act} {E : World} (R : World → Prop) (h : R E) (k : ∀ W, R W → c.wp P Q a W) : c.wp P Q a E := k E h

/-- What ReadEntry hands back. -/
def rentV (b : Bool) (ix t k : Int) (d : ByteArray) : Value := if b then .tuple #[.int .i64 ix, .agg #[.int .i64 t, .int .i64 k, .string d], .bool true] else .tuple #[.int .i64 0, .agg #[.int .i64 0, .int .i64 0, .string ⟨#[]⟩], .bool false]

set_option maxHeartbeats 4000000 in
set_option maxRecDepth 100000 in
theorem impl_ReadEntry (s : ByteArray) (hs : s.size ≤ 1099511627776) (mk ix t k p1 p2 p3 p4 : Int) (q1 q2 q3 q4 : Bool) (d : ByteArray) (w : World)
    (h1 : Hid (rdByte s 0 false = (mk, p1, q1))) (h2 : Hid (rdNum s p1 q1 = (ix, p2, q2))) (h3 : Hid (rdNum s p2 q2 = (t, p3, q3))) (h4 : Hid (rdByte s p3 q3 = (k, p4, q4))) (h5 : Hid (s.extract p4.toNat s.size = d))
    (eo ei e69 : Bool) (H1 : Hid (entryOk t k d = eo)) (H2 : Hid (inB ix 1 1000000 = ei)) (H3 : (mk != 69) = !e69) :
    Calls Try.prog 23 #[.string s] w fun e w' => e = .returned (rentV (!q4 && e69 && eo && ei) ix t k d) ∧ Below w.heap.size w w' := by
  have g0 : 0 ≤ (0 : Int) ∧ (0 : Int) ≤ s.size := by omega
  have g1 := rdByteH_range h1 g0
  have g2 := rdNumH_range h2 g1
  have g3 := rdNumH_range h3 g2
  have g4 := rdByteH_range h4 g3
  have hd : d.size ≤ 1099511627776 := by rw [← h5.out, ByteArray.size_extract]; omega
  go_enter Try.func23, Try.ntmps23
  go_wp2_with fail
  refine calls_at' (fun W => Blk 54 w.heap.size #[.int .i64 0, .int .i64 0, .string ⟨#[]⟩] W ∧ Rd 144 (w.heap.size + 1) s 0 false W ∧ Below w.heap.size w W) ⟨(Blk.new _ _ w).alloc _, by have := Rd.new 144 s 0 false (w.alloc (.cells #[.int .i64 0, .int .i64 0, .string ⟨#[]⟩] 54)); simpa using this, (by repeat (first | exact Below.refl _ _ | apply bl_alloc | apply bl_drewN | apply bl_drew | refine bl_set ?_ (by simp) | refine bl_then ?_ (by assumption)))⟩ ?_
  rintro W0 ⟨k3, R0, B0⟩
  refine (rbyteH _ _ _ _ _ _ _ _ h1 hs g0 R0).mono ?_
  rintro e W1 ⟨rfl, R1, U1⟩
  replace k3 := k3.upd U1 (by omega)
  have B1 := U1.below B0 (by omega)
  clear R0 U1 B0 W0
  go_wp2_with fail
  refine (rnumH _ _ _ _ _ _ _ _ h2 hs R1).mono ?_
  rintro e W2 ⟨rfl, R2, U2⟩
  replace k3 := k3.upd U2 (by omega)
  have B2 := U2.below B1 (by omega)
  clear R1 U2 B1 W1
  go_wp2_with fail
  refine (rnumH _ _ _ _ _ _ _ _ h3 hs R2).mono ?_
  rintro e W3 ⟨rfl, R3, U3⟩
  replace k3 := k3.upd U3 (by omega)
  have B3 := U3.below B2 (by omega)
  have l3 := R3.lt
  clear R2 U3 B2 W2
  go_wp2_with fail
  obtain ⟨b8, hb8⟩ : ∃ b8, b8 = W3.heap.size := ⟨_, rfl⟩
  refine calls_at' (fun W => Blk 54 w.heap.size #[.int .i64 0, .int .i64 0, .string ⟨#[]⟩] W ∧ Rd 144 (w.heap.size + 1) s p3 q3 W ∧ Below w.heap.size w W ∧ Blk 54 b8 #[.int .i64 t, .int .i64 0, .string ⟨#[]⟩] W) ⟨k3.alloc _, R3.below (bl_alloc (Below.refl _ _) _), bl_alloc B3 _, Blk.newE _ _ W3 hb8⟩ ?_
  rw [← hb8]
  have n8 : w.heap.size + 1 < b8 := by omega
  clear hb8 k3 R3 B3 l3 W3
  rintro W4 ⟨k3, R4, B4, k8⟩
  refine (rbyteH _ _ _ _ _ _ _ _ h4 hs g3 R4).mono ?_
  rintro e W5 ⟨rfl, R5, U5⟩
  replace k3 := k3.upd U5 (by omega)
  replace k8 := k8.upd U5 (by omega)
  have B5 := U5.below B4 (by omega)
  clear R4 U5 B4 W4
  have c81 := k8.cell 1 rfl
  have f81 := k8.free 1
  have l8 := k8.lt
  go_wp2_with fail
  refine calls_at' (fun W => Blk 54 w.heap.size #[.int .i64 0, .int .i64 0, .string ⟨#[]⟩] W ∧ Rd 144 (w.heap.size + 1) s p4 q4 W ∧ Below w.heap.size w W ∧ Blk 54 b8 #[.int .i64 t, .int .i64 k, .string ⟨#[]⟩] W) ⟨k3.far (by show w.heap.size ≠ b8; omega) _, R5.far (by show w.heap.size + 1 ≠ b8; omega) _, bl_set B5 (by show w.heap.size ≤ b8; omega), k8.set 1 _ rfl⟩ ?_
  clear c81 f81 l8 k3 R5 B5 k8 W5
  rintro W6 ⟨k3, R6, B6, k8⟩
  have hr := rrestH _ _ _ _ _ g4 R6
  rw [h5.out] at hr
  refine hr.mono ?_
  clear hr
  rintro e W7 ⟨rfl, R7, U7⟩
  replace k3 := k3.upd U7 (by omega)
  replace k8 := k8.upd U7 (by omega)
  have B7 := U7.below B6 (by omega)
  clear R6 U7 B6 W6
  have c82 := k8.cell 2 rfl
  have f82 := k8.free 2
  have l8 := k8.lt
  go_upto_region 7 with fail
  refine wp_at' (fun W => Blk 54 w.heap.size #[.int .i64 0, .int .i64 0, .string ⟨#[]⟩] W ∧ Rd 144 (w.heap.size + 1) s s.size q4 W ∧ Below w.heap.size w W ∧ Blk 54 b8 #[.int .i64 t, .int .i64 k, .string d] W) ⟨k3.far (by show w.heap.size ≠ b8; omega) _, R7.far (by show w.heap.size + 1 ≠ b8; omega) _, bl_set B7 (by show w.heap.size ≤ b8; omega), k8.set 2 _ rfl⟩ ?_
  clear c82 f82 l8 k3 R7 B7 k8 W7
  rintro W8 ⟨k3, R8, B8, k8⟩
  obtain ⟨r0, r1, r2, rf⟩ := R8.cells
  have rl := R8.lt
  have c80 := k8.cell 0 rfl
  have c81 := k8.cell 1 rfl
  have c82 := k8.cell 2 rfl
  have l8 := k8.lt
  have x0 := k3.cell 0 rfl
  have x1 := k3.cell 1 rfl
  have x2 := k3.cell 2 rfl
  have y0 := k3.free 0
  have y1 := k3.free 1
  have y2 := k3.free 2
  have l3 := k3.lt
  have n38 : w.heap.size ≠ b8 := by omega
  rcases q4 with _ | _
  · rcases e69 with _ | _
    · go_wp2_with fail
      refine bodyPost_ret (v := .tuple #[.int .i64 0, .agg #[.int .i64 0, .int .i64 0, .string ⟨#[]⟩], .bool false]) ?_ rfl ⟨rfl, ?_⟩
      · simp only [results, Try.results23]
        go_simp
      · first | exact bl_set (bl_set (bl_set B8 (Nat.le_refl _)) (Nat.le_refl _)) (Nat.le_refl _) | exact B8
    · rcases eo with _ | _
      · go_wp2_with fail
        refine (impl_EntryOkH _ _ _ false _ H1 hd).mono ?_
        rintro e W9 ⟨rfl, hb9⟩
        clear r0 r1 r2 rf rl c80 c81 c82 l8 x0 x1 x2 y0 y1 y2 l3 R8
        replace k3 := k3.below hb9
        replace k8 := k8.below hb9
        replace B8 := bl_then B8 hb9
        clear hb9 W8
        have c80 := k8.cell 0 rfl
        have c81 := k8.cell 1 rfl
        have c82 := k8.cell 2 rfl
        have l8 := k8.lt
        have x0 := k3.cell 0 rfl
        have x1 := k3.cell 1 rfl
        have x2 := k3.cell 2 rfl
        have y0 := k3.free 0
        have y1 := k3.free 1
        have y2 := k3.free 2
        have l3 := k3.lt
        go_wp2_with fail
        refine bodyPost_ret (v := .tuple #[.int .i64 0, .agg #[.int .i64 0, .int .i64 0, .string ⟨#[]⟩], .bool false]) ?_ rfl ⟨rfl, ?_⟩
        · simp only [results, Try.results23]
          go_simp
        · first | exact bl_set (bl_set (bl_set B8 (Nat.le_refl _)) (Nat.le_refl _)) (Nat.le_refl _) | exact B8
      · go_wp2_with fail
        refine (impl_EntryOkH _ _ _ true _ H1 hd).mono ?_
        rintro e W9 ⟨rfl, hb9⟩
        clear r0 r1 r2 rf rl c80 c81 c82 l8 x0 x1 x2 y0 y1 y2 l3 R8
        replace k3 := k3.below hb9
        replace k8 := k8.below hb9
        replace B8 := bl_then B8 hb9
        clear hb9 W8
        have c80 := k8.cell 0 rfl
        have c81 := k8.cell 1 rfl
        have c82 := k8.cell 2 rfl
        have l8 := k8.lt
        have x0 := k3.cell 0 rfl
        have x1 := k3.cell 1 rfl
        have x2 := k3.cell 2 rfl
        have y0 := k3.free 0
        have y1 := k3.free 1
        have y2 := k3.free 2
        have l3 := k3.lt
        rcases ei with _ | _
        · go_wp2_with (first | (go_at_call 93; (with_reducible refine (impl_inH' _ _ _ false _ H2).mono ?_); rintro e w' ⟨rfl, rfl⟩))
          refine bodyPost_ret (v := .tuple #[.int .i64 0, .agg #[.int .i64 0, .int .i64 0, .string ⟨#[]⟩], .bool false]) ?_ rfl ⟨rfl, ?_⟩
          · simp only [results, Try.results23]
            go_simp
          · first | exact bl_set (bl_set (bl_set B8 (Nat.le_refl _)) (Nat.le_refl _)) (Nat.le_refl _) | exact B8
        · go_wp2_with (first | (go_at_call 93; (with_reducible refine (impl_inH' _ _ _ true _ H2).mono ?_); rintro e w' ⟨rfl, rfl⟩))
          go_region
          all_goals go_wp2_with fail
          all_goals refine bodyPost_ret (v := .tuple #[.int .i64 ix, .agg #[.int .i64 t, .int .i64 k, .string d], .bool true]) ?_ rfl ⟨rfl, ?_⟩
          rotate_left
          · repeat (first | exact B8 | apply bl_drew | apply bl_drewN | refine bl_set ?_ (Nat.le_refl _))
          simp only [results, Try.results23]
          go_simp
  · go_wp2_with fail
    refine bodyPost_ret (v := .tuple #[.int .i64 0, .agg #[.int .i64 0, .int .i64 0, .string ⟨#[]⟩], .bool false]) ?_ rfl ⟨rfl, ?_⟩
    · simp only [results, Try.results23]
      go_simp
    · first | exact bl_set (bl_set (bl_set B8 (Nat.le_refl _)) (Nat.le_refl _)) (Nat.le_refl _) | exact B8
end Go.Proofs.Ytdjikjmjajlgcaa
end

/-! ### YtdjikjmjajlgcaaReadEntP -/
section
namespace Go.Proofs.Ytdjikjmjajlgcaa
open Go.RowKit Go.Proofs.YtdjikjmjajlgcaaW.PrintWords
set_option linter.unusedSimpArgs false
set_option linter.unusedVariables false

/-! A right entry's text is read back. (own) -/
theorem nums8_append (a b : ByteArray) : nums8 (a ++ b) = nums8 a ++ nums8 b := by simp [nums8, ByteArray.data_append]
theorem nums8_str (xs : List Int) (h : ∀ x ∈ xs, 0 ≤ x ∧ x < 256) : nums8 (strOfNums xs) = xs.map Int.toNat := by
  unfold nums8
  rw [strOfNums_data, List.map_map]
  apply List.map_congr_left
  intro x hx
  have := h x hx
  simp only [Function.comp]
  rw [UInt8.toNat_ofNat']
  omega
theorem byN_at {s : ByteArray} {pre rest : List Nat} {b : Nat} (h : nums8 s = pre ++ b :: rest) : byN s pre.length = b ∧ pre.length < s.size := by
  have hl : pre.length < s.size := by rw [← nums8_length, h]; simp
  have h1 := byN_nums s pre.length hl
  rw [h] at h1
  simp at h1
  exact ⟨h1.symm, hl⟩
theorem rvGo_fwd (s : ByteArray) : ∀ (f m k acc : Nat) (pre post : List Nat), 1 ≤ f → m < 128 ^ f → nums8 s = pre ++ (varN m).map Int.toNat ++ post → (0 < k → m ≠ 0) → acc + m * 128 ^ k ≤ 1000000000 →
    rvGo f s pre.length acc k = some (acc + m * 128 ^ k, pre.length + (varN m).length)
  | 0, _, _, _, _, _, h, _, _, _, _ => by omega
  | f + 1, m, k, acc, pre, post, _, hm, hs, hk, hl => by
    unfold rvGo
    by_cases h7 : m ≤ 127
    · have hv : varN m = [(m : Int)] := by rw [varN, dif_pos h7]
      rw [hv] at hs ⊢
      obtain ⟨hb, hp⟩ := byN_at (s := s) (pre := pre) (b := m) (rest := post) (by rw [hs]; simp)
      rw [if_pos hp, hb, if_pos (by omega), if_neg (by rintro (⟨h1, h2⟩ | h1); exact hk h2 h1; omega)]
      simp
    · have hv : varN m = ((m % 128 + 128 : Nat) : Int) :: varN (m / 128) := by rw [varN, dif_neg h7]
      rw [hv] at hs ⊢
      obtain ⟨hb, hp⟩ := byN_at (s := s) (pre := pre) (b := m % 128 + 128) (rest := (varN (m / 128)).map Int.toNat ++ post) (by rw [hs]; simp; omega)
      rw [if_pos hp, hb, if_neg (by omega)]
      have hf : 1 ≤ f := by
        rcases f with _ | f
        · simp at hm; omega
        · omega
      have e1 : acc + (m % 128 + 128 - 128) * 128 ^ k + m / 128 * 128 ^ (k + 1) = acc + m * 128 ^ k := by
        have : m = m % 128 + 128 * (m / 128) := by omega
        conv => rhs; rw [this]
        rw [Nat.add_sub_cancel, Nat.add_mul, Nat.pow_succ]
        have e2 : m / 128 * (128 ^ k * 128) = 128 * (m / 128) * 128 ^ k := by rw [Nat.mul_comm (128 ^ k) 128, ← Nat.mul_assoc, Nat.mul_comm (m / 128) 128]
        rw [e2]
        omega
      have ih := rvGo_fwd s f (m / 128) (k + 1) (acc + (m % 128 + 128 - 128) * 128 ^ k) (pre ++ [m % 128 + 128]) post hf (by rw [Nat.pow_succ] at hm; omega) (by rw [hs]; simp; omega) (by intro _; omega) (by rw [e1]; exact hl)
      rw [e1] at ih
      simp only [List.length_append, List.length_singleton] at ih
      rw [ih]
      simp only [List.length_cons]
      congr 2
      omega
theorem rdNum_fwd {s : ByteArray} {n : Int} {pre post : List Nat} {p : Int} (h0 : 0 ≤ n) (h1 : n ≤ 1000000000) (hs : nums8 s = pre ++ (varN n.toNat).map Int.toNat ++ post) (hp : p = pre.length) :
    rdNum s p false = (n, ((pre.length + (varN n.toNat).length : Nat) : Int), false) := by
  subst hp
  obtain ⟨m, rfl⟩ := Int.eq_ofNat_of_zero_le h0
  simp only [Int.toNat_natCast] at hs ⊢
  have hz : pre.length ≤ s.size := by rw [← nums8_length, hs]; simp
  have := rvGo_fwd s 5 m 0 0 pre post (by omega) (by omega) hs (by omega) (by omega)
  unfold rdNum rv
  rw [if_neg (by simp), if_pos ⟨by omega, by omega⟩, Int.toNat_natCast, this]
  simp
theorem rdByte_fwd {s : ByteArray} {b : Nat} {pre post : List Nat} {p : Int} (hs : nums8 s = pre ++ b :: post) (hp : p = pre.length) : rdByte s p false = ((b : Int), ((pre.length + 1 : Nat) : Int), false) := by
  subst hp
  obtain ⟨hb, hl⟩ := byN_at hs
  unfold rdByte
  rw [if_neg (by simp; omega), bt_byN, hb]
  simp
theorem extract_tail (a b : ByteArray) : (a ++ b).extract a.size (a ++ b).size = b := by
  apply ByteArray.ext
  have h1 : a.data.extract a.size (a.size + b.size) = #[] := by
    apply Array.eq_empty_of_size_eq_zero
    rw [Array.size_extract]
    show min (a.size + b.size) a.size - a.size = 0
    omega
  have h2 : b.data.extract 0 b.size = b.data := by
    show b.data.extract 0 b.data.size = b.data
    simp
  simp [ByteArray.data_extract, ByteArray.data_append, ByteArray.size_append, h1, h2]

theorem entry_reads (i t k : Int) (d : ByteArray) (hok : entryOk t k d = true) (hi : inB i 1 1000000 = true) : ∃ p2 p3 p4 : Int,
    rdByte (entryS i t k d) 0 false = (69, 1, false) ∧ rdNum (entryS i t k d) 1 false = (i, p2, false) ∧ rdNum (entryS i t k d) p2 false = (t, p3, false) ∧ rdByte (entryS i t k d) p3 false = (k, p4, false) ∧ (entryS i t k d).extract p4.toNat (entryS i t k d).size = d := by
  obtain ⟨ht0, ht1, hk0, hk1, hdz⟩ := entryOk_parts hok
  obtain ⟨hi0, hi1⟩ := inB_iff.1 hi
  have n1 : nums8 (⟨#[69]⟩ : ByteArray) = [69] := rfl
  have n2 : nums8 (varS i) = (varN i.toNat).map Int.toNat := nums8_str _ (varN_range _)
  have n3 : nums8 (varS t) = (varN t.toNat).map Int.toNat := nums8_str _ (varN_range _)
  have n4 : nums8 (byteS k) = [k.toNat] := by
    have : byteS k = strOfNums [k] := by unfold byteS; rw [show k % 256 = k from by omega]
    rw [this, nums8_str [k] (by intro x hx; simp at hx; omega)]
    rfl
  have hs : nums8 (entryS i t k d) = [69] ++ (varN i.toNat).map Int.toNat ++ (varN t.toNat).map Int.toNat ++ [k.toNat] ++ nums8 d := by
    unfold entryS
    rw [nums8_append, nums8_append, nums8_append, nums8_append, n1, n2, n3, n4]
  have a1 := rdByte_fwd (s := entryS i t k d) (b := 69) (pre := []) (p := 0) (post := (varN i.toNat).map Int.toNat ++ ((varN t.toNat).map Int.toNat ++ ([k.toNat] ++ nums8 d))) (by rw [hs]; simp) rfl
  have a2 := rdNum_fwd (s := entryS i t k d) (n := i) (pre := [69]) (p := 1) (post := (varN t.toNat).map Int.toNat ++ ([k.toNat] ++ nums8 d)) (by omega) (by omega) (by rw [hs]; simp) rfl
  have a3 := rdNum_fwd (s := entryS i t k d) (n := t) (pre := [69] ++ (varN i.toNat).map Int.toNat) (p := (([69] : List Nat).length + (varN i.toNat).length : Nat)) (post := [k.toNat] ++ nums8 d) (by omega) (by omega) (by rw [hs]; simp) (by simp; omega)
  have a4 := rdByte_fwd (s := entryS i t k d) (b := k.toNat) (pre := [69] ++ (varN i.toNat).map Int.toNat ++ (varN t.toNat).map Int.toNat) (p := ((([69] ++ (varN i.toNat).map Int.toNat : List Nat)).length + (varN t.toNat).length : Nat)) (post := nums8 d) (by rw [hs]; simp) (by simp; omega)
  refine ⟨_, _, _, a1, a2, a3, by rw [a4, show ((k.toNat : Nat) : Int) = k from by omega], ?_⟩
  rw [Int.toNat_natCast]
  have hz : ([69] ++ (varN i.toNat).map Int.toNat ++ (varN t.toNat).map Int.toNat).length + 1 = ((⟨#[69]⟩ : ByteArray) ++ varS i ++ varS t ++ byteS k).size := by
    have : ((⟨#[69]⟩ : ByteArray) ++ varS i ++ varS t ++ byteS k).size = (nums8 ((⟨#[69]⟩ : ByteArray) ++ varS i ++ varS t ++ byteS k)).length := (nums8_length _).symm
    rw [this, nums8_append, nums8_append, nums8_append, n1, n2, n3, n4]
    simp
    try omega
  rw [hz]
  exact extract_tail _ d

/-- ReadEntry gives a right entry back. -/
theorem impl_ReadEntry_back (i t k : Int) (d : ByteArray) (hok : entryOk t k d = true) (hi : inB i 1 1000000 = true) (w : World) :
    Calls Try.prog 23 #[.string (entryS i t k d)] w fun e w' => e = .returned (.tuple #[.int .i64 i, .agg #[.int .i64 t, .int .i64 k, .string d], .bool true]) ∧ Below w.heap.size w w' := by
  obtain ⟨p2, p3, p4, h1, h2, h3, h4, h5⟩ := entry_reads i t k d hok hi
  obtain ⟨ht0, ht1, hk0, hk1, hdz⟩ := entryOk_parts hok
  obtain ⟨hi0, hi1⟩ := inB_iff.1 hi
  have s1 := varS_size i (by omega) (by omega)
  have s2 := varS_size t (by omega) (by omega)
  have s3 := byteS_size k
  have s4 : (⟨#[69]⟩ : ByteArray).size = 1 := rfl
  exact impl_ReadEntry (entryS i t k d) (by unfold entryS; simp only [ByteArray.size_append]; omega) 69 i t k 1 p2 p3 p4 false false false false d w (Lib.hid h1) (Lib.hid h2) (Lib.hid h3) (Lib.hid h4) (Lib.hid h5) true true true (Lib.hid hok) (Lib.hid hi) rfl
theorem impl_ReadEntry_none (w : World) :
    Calls Try.prog 23 #[.string ⟨#[]⟩] w fun e w' => e = .returned (.tuple #[.int .i64 0, .agg #[.int .i64 0, .int .i64 0, .string ⟨#[]⟩], .bool false]) ∧ Below w.heap.size w w' :=
  impl_ReadEntry ⟨#[]⟩ (by decide) 0 0 0 0 0 0 0 0 true true true true _ w (Lib.hid rfl) (Lib.hid rfl) (Lib.hid rfl) (Lib.hid rfl) (Lib.hid rfl) _ _ false (Lib.hid rfl) (Lib.hid rfl) rfl
end Go.Proofs.Ytdjikjmjajlgcaa
end

/-! ### YtdjikjmjajlgcaaEntFin -/
section
namespace Go.Proofs.Ytdjikjmjajlgcaa
open Go.RowKit Go.Proofs.YtdjikjmjajlgcaaW.PrintWords PFnEntries
set_option linter.unusedSimpArgs false
set_option linter.unusedVariables false

theorem eqf_ent (d : Nat) (w : World) (x0 y0 x1 y1 : Int) (x2 y2 : ByteArray) :
    (Op.equalIn (d + 2) 54 (.agg #[.int .i64 x0, .int .i64 x1, .string x2]) (.agg #[.int .i64 y0, .int .i64 y1, .string y2])).run Try.prog w = .ok (x0 == y0 && (x1 == y1 && (x2.toList == y2.toList))) w := by
  refine eqA_of Try.underlying54 (by kernel_rfl) ?_
  iterate 2 (refine eqf_cons (by rfl) (by go_simp; rfl) (by go_simp; rfl) (by go_simp) ?_)
  exact eqf_last (by rfl) (by go_simp; rfl) (by go_simp; rfl) (by go_simp)

/-- The right confs. -/
def confs15 : List (List Int) := [[1], [2], [3], [4], [1, 2], [1, 3], [1, 4], [2, 3], [2, 4], [3, 4], [1, 2, 3], [1, 2, 4], [1, 3, 4], [2, 3, 4], [1, 2, 3, 4]]
theorem conf_cases (xs : List Int) (h : confOk xs = true) : xs ∈ confs15 := by
  obtain ⟨h1, h4⟩ := confOk_short h
  have four : ∀ a : Int, 1 ≤ a → a ≤ 4 → a = 1 ∨ a = 2 ∨ a = 3 ∨ a = 4 := fun a _ _ => by omega
  rcases xs with _ | ⟨a, _ | ⟨b, _ | ⟨c, _ | ⟨e, _ | ⟨f, r⟩⟩⟩⟩⟩
  · simp at h1
  · simp [confOk, rises, rd] at h
    rcases four a (by omega) (by omega) with rfl | rfl | rfl | rfl <;> decide
  · simp [confOk, rises, rd] at h
    rcases four a (by omega) (by omega) with rfl | rfl | rfl | rfl <;> rcases four b (by omega) (by omega) with rfl | rfl | rfl | rfl <;> first | (exfalso; omega) | decide
  · simp [confOk, rises, rd] at h
    rcases four a (by omega) (by omega) with rfl | rfl | rfl | rfl <;> rcases four b (by omega) (by omega) with rfl | rfl | rfl | rfl <;> first | (exfalso; omega) | (rcases four c (by omega) (by omega) with rfl | rfl | rfl | rfl <;> first | (exfalso; omega) | decide)
  · simp [confOk, rises, rd] at h
    rcases four a (by omega) (by omega) with rfl | rfl | rfl | rfl <;> rcases four b (by omega) (by omega) with rfl | rfl | rfl | rfl <;> first | (exfalso; omega) | (rcases four c (by omega) (by omega) with rfl | rfl | rfl | rfl <;> first | (exfalso; omega) | (rcases four e (by omega) (by omega) with rfl | rfl | rfl | rfl <;> first | (exfalso; omega) | decide))
  · simp at h4
    try omega
theorem most_all (xs : List Int) (h : confOk xs = true) : impl_Most.f 12 xs xs = some true ∧ impl_Most.f 12 xs [] = some false ∧ impl_Most.f 12 xs (xs.take 1) = some (decide (xs.length = 1)) ∧ laws_sameInts.f 12 xs xs = some true ∧ readConf (strOfNums (PFnEntries.confBs xs)) = (xs, true) := by
  have hm := conf_cases xs h
  simp only [confs15, List.mem_cons, List.not_mem_nil, or_false] at hm
  rcases hm with rfl | rfl | rfl | rfl | rfl | rfl | rfl | rfl | rfl | rfl | rfl | rfl | rfl | rfl | rfl <;> exact ⟨by decide +kernel, by decide +kernel, by decide +kernel, by decide +kernel, by decide +kernel⟩

theorem big_C (A : Option Addr) (c : Nat) (bs : List Int) (q : Bool) (w : World) (hq : Hid (decide ((bs.length : Int) > 1048576) = q)) (hr : Kd.C (Kd.int .u8) w A bs.length bs) (hc : bs.length ≤ c) :
    Calls Try.prog 19 #[.slice A bs.length c] w fun e w' => e = .returned (.bool q) ∧ Below w.heap.size w w' := by
  obtain rfl := hq.out
  refine (PFnEntries.laws_big.calls A c bs _ w hr hc rfl).mono ?_
  rintro e w' h
  first | exact h | (obtain ⟨rfl, n, rfl⟩ := h; exact ⟨rfl, bl_drewN (Below.refl _ _) n⟩) | (obtain ⟨rfl, rfl⟩ := h; exact ⟨rfl, Below.refl _ _⟩)
theorem spec_confH (A : Option Addr) (c : Nat) (xs : List Int) (b : Bool) (w : World) (h : Hid (confOk xs = b)) (hr : Kd.C (Kd.int .i64) w A xs.length xs) (hc : xs.length ≤ c) (hl : xs.length ≤ 1048576) :
    Calls Try.prog 27 #[.slice A xs.length c] w fun e w' => e = .returned (.bool b) ∧ Below w.heap.size w w' := by
  have hf := PFnEntries.sconf_f xs (xs.length + 1) (by omega) (by omega)
  rw [h.out] at hf
  refine (PFnEntries.spec_ConfOk.calls (xs.length + 1) A c xs _ w hr hc hf).mono ?_
  rintro e w' h
  first | exact h | (obtain ⟨rfl, n, rfl⟩ := h; exact ⟨rfl, bl_drewN (Below.refl _ _) n⟩)
theorem impl_confH (A : Option Addr) (c : Nat) (xs : List Int) (b : Bool) (w : World) (h : Hid (confOk xs = b)) (hr : Kd.C (Kd.int .i64) w A xs.length xs) (hc : xs.length ≤ c) (hl : xs.length ≤ 1048576) :
    Calls Try.prog 29 #[.slice A xs.length c] w fun e w' => e = .returned (.bool b) ∧ Below w.heap.size w w' := by
  have hf := PFnEntries.iconf_f xs (xs.length + 1) (by omega) (by omega)
  rw [h.out] at hf
  refine (PFnEntries.impl_ConfOk.calls (xs.length + 1) A c xs _ w hr hc hf).mono ?_
  rintro e w' h
  first | exact h | (obtain ⟨rfl, n, rfl⟩ := h; exact ⟨rfl, bl_drewN (Below.refl _ _) n⟩)
theorem impl_confTextH (A : Option Addr) (c : Nat) (xs : List Int) (b : Bool) (s : ByteArray) (w : World) (h : Hid (confOk xs = b)) (hs : Hid ((if b then strOfNums (PFnEntries.confBs xs) else ⟨#[]⟩) = s)) (hr : Kd.C (Kd.int .i64) w A xs.length xs) (hc : xs.length ≤ c) (hl : xs.length ≤ 1048576) :
    Calls Try.prog 25 #[.slice A xs.length c] w fun e w' => e = .returned (.tuple #[.string s, .bool b]) ∧ Below w.heap.size w w' := by
  have hf := PFnEntries.ictext_f xs (xs.length + 1) (by omega) (by omega)
  rw [h.out] at hf
  obtain rfl := hs.out
  have hf2 : PFnEntries.impl_ConfText.f (xs.length + 1) xs = some (if b then strOfNums (PFnEntries.confBs xs) else ⟨#[]⟩, b) := by
    rw [hf]; cases b <;> rfl
  refine (PFnEntries.impl_ConfText.calls (xs.length + 1) A c xs _ _ w hr hc hf2).mono ?_
  rintro e w' h
  first | exact h | (obtain ⟨rfl, n, rfl⟩ := h; exact ⟨rfl, bl_drewN (Below.refl _ _) n⟩)
theorem impl_readConfH (s : ByteArray) (xs : List Int) (b : Bool) (w : World) (h : Hid (readConf s = (xs, b))) (hs : s.size ≤ 1048576) :
    Calls Try.prog 26 #[.string s] w fun e w' => (∃ (A : Option Addr) (c : Nat), e = .returned (.tuple #[.slice A xs.length c, .bool b]) ∧ xs.length ≤ c ∧ Kd.C (Kd.int .i64) w' A xs.length xs) ∧ Below w.heap.size w w' := by
  have hf := PFnEntries.iread_f s (s.size + s.size + 2) (by omega) (by omega)
  rw [h.out] at hf
  refine (PFnEntries.impl_ReadConf.calls (s.size + s.size + 2) s xs b w hf).mono ?_
  rintro e w' ⟨v, rfl, hR, hb⟩
  obtain ⟨A, c, rfl, hcap, hC⟩ := Kd.R_reads hR
  exact ⟨⟨A, c, rfl, hcap, hC⟩, hb⟩
theorem most_C (A : Option Addr) (c : Nat) (xs : List Int) (A1 : Option Addr) (n1 c1 : Nat) (ys : List Int) (hn1 : ys.length = n1) (r : Bool) (w : World) (hr : Kd.C (Kd.int .i64) w A xs.length xs) (hc : xs.length ≤ c) (hr1 : Kd.C (Kd.int .i64) w A1 ys.length ys) (hc1 : ys.length ≤ c1) (h : PFnEntries.impl_Most.f 12 xs ys = some r) :
    Calls Try.prog 30 #[.slice A xs.length c, .slice A1 n1 c1] w fun e w' => e = .returned (.bool r) ∧ Below w.heap.size w w' := by
  obtain rfl := hn1
  refine (PFnEntries.impl_Most.calls 12 A c xs A1 c1 ys r w hr hc hr1 hc1 h).mono ?_
  rintro e w' h
  first | exact h | (obtain ⟨rfl, n, rfl⟩ := h; exact ⟨rfl, bl_drewN (Below.refl _ _) n⟩)
theorem same_C (A : Option Addr) (c : Nat) (xs : List Int) (A1 : Option Addr) (c1 : Nat) (ys : List Int) (r : Bool) (w : World) (hr : Kd.C (Kd.int .i64) w A xs.length xs) (hc : xs.length ≤ c) (hr1 : Kd.C (Kd.int .i64) w A1 ys.length ys) (hc1 : ys.length ≤ c1) (h : PFnEntries.laws_sameInts.f 12 xs ys = some r) :
    Calls Try.prog 28 #[.slice A xs.length c, .slice A1 ys.length c1] w fun e w' => e = .returned (.bool r) ∧ Below w.heap.size w w' := by
  refine (PFnEntries.laws_sameInts.calls 12 A c xs A1 c1 ys r w hr hc hr1 hc1 h).mono ?_
  rintro e w' h
  first | exact h | (obtain ⟨rfl, n, rfl⟩ := h; exact ⟨rfl, bl_drewN (Below.refl _ _) n⟩)
theorem C_take1 {w : World} {A : Option Addr} {xs : List Int} (h : Kd.C (Kd.int .i64) w A xs.length xs) (h1 : 1 ≤ xs.length) : Kd.C (Kd.int .i64) w A (xs.take 1).length (xs.take 1) := by
  obtain ⟨ha, hb, hc⟩ := h
  have hl : (xs.take 1).length = 1 := by simp; omega
  refine ⟨rfl, by omega, fun _ => ?_⟩
  obtain ⟨ad, e, hcell⟩ := hc (by omega)
  refine ⟨ad, e, fun j p hj => hcell j p ?_⟩
  rw [List.getElem?_take] at hj
  split at hj
  · exact hj
  · cases hj
theorem C_empty (w : World) (A : Option Addr) : Kd.C (Kd.int .i64) w A ([] : List Int).length [] := ⟨rfl, by simp, fun h => by simp at h⟩

theorem impl_EntryTextH (i t k : Int) (d : ByteArray) (T : ByteArray) (q : Bool) (w : World) (h : Hid (entryT i t k d = T)) (h2 : Hid (entryOkI i t k d = q)) (hd : d.size ≤ 1099511627776) :
    Calls Try.prog 21 #[.int .i64 i, .agg #[.int .i64 t, .int .i64 k, .string d]] w fun e w' => e = .returned (.tuple #[.string T, .bool q]) ∧ Below w.heap.size w w' := by
  have := impl_EntryText i t k d w hd
  rw [h.out, h2.out] at this
  exact this
theorem spec_EntryTextH (i t k : Int) (d : ByteArray) (T : ByteArray) (q : Bool) (w : World) (h : Hid (entryT i t k d = T)) (h2 : Hid (entryOkI i t k d = q)) (hd : d.size ≤ 1099511627776) :
    Calls Try.prog 22 #[.int .i64 i, .agg #[.int .i64 t, .int .i64 k, .string d]] w fun e w' => e = .returned (.tuple #[.string T, .bool q]) ∧ Below w.heap.size w w' := by
  have := spec_EntryText i t k d w hd
  rw [h.out, h2.out] at this
  exact this
/-- What ReadEntry gives back of an entry's text. -/
theorem impl_ReadEntryH (i t k : Int) (d : ByteArray) (T : ByteArray) (q : Bool) (w : World) (h : Hid (entryT i t k d = T)) (h2 : Hid (entryOkI i t k d = q)) :
    Calls Try.prog 23 #[.string T] w fun e w' => e = .returned (.tuple #[.int .i64 (if q then i else 0), .agg #[.int .i64 (if q then t else 0), .int .i64 (if q then k else 0), .string (if q then d else ⟨#[]⟩)], .bool q]) ∧ Below w.heap.size w w' := by
  obtain rfl := h.out
  have hq := h2.out
  cases q with
  | true =>
    have he : entryT i t k d = entryS i t k d := by unfold entryT; rw [if_pos hq]
    rw [he]
    unfold entryOkI at hq
    simp only [Bool.and_eq_true] at hq
    exact impl_ReadEntry_back i t k d hq.1 hq.2 w
  | false =>
    have he : entryT i t k d = ⟨#[]⟩ := by unfold entryT; rw [if_neg (by rw [hq]; simp)]
    rw [he]
    exact impl_ReadEntry_none w

attribute [local go_sem high] eqf_ent
set_option maxRecDepth 100000 in
set_option maxHeartbeats 4000000 in
theorem FnEntries_walk (v : Value) (W : World) (h : ArgOf Try.prog W 51 v) :
    Calls Try.prog 5 #[v] W fun e w' => e = .returned (.bool true) ∧ Below W.heap.size W w' := by
  obtain ⟨A, bs, c, rfl, hcap, hC, hlen, -⟩ := arg_slice Try.underlying51 (by kernel_rfl) (opens_int Try.underlying5) h
  clear h
  have HC := Lib.hid hC
  clear hC
  by_cases hbig : (bs.length : Int) > 1048576
  · have hq := Lib.hid (decide_eq_true hbig)
    clear hbig
    go_enter Try.func5, Try.ntmps5
    go_wp2_with fail
    refine (big_C A c bs true W hq HC.out hcap).mono ?_
    rintro e W1 ⟨rfl, B1⟩
    go_wp2_with fail
    go_ret
    exact ⟨rfl, B1⟩
  have hb : bs.length ≤ 1048576 := by omega
  have hq := Lib.hid (decide_eq_false hbig)
  clear hbig
  go_enter Try.func5, Try.ntmps5
  go_wp2_with fail
  refine (big_C A c bs false W hq HC.out hcap).mono ?_
  rintro e W1 ⟨rfl, B1⟩
  go_wp2_with fail
  refine (PFnEntries.drawEntryText_C A c bs W1 hb (Kd.C_below HC.out B1) hcap).mono ?_
  rintro e W2 ⟨⟨i, t, k, d, rfl, hd⟩, B2'⟩
  have B2 := bl_then B1 B2'
  clear B1 B2' W1
  go_wp2_with fail
  obtain ⟨b4, hb4⟩ : ∃ b4, b4 = W2.heap.size := ⟨_, rfl⟩
  refine calls_at' (fun X => Below W.heap.size W X ∧ Blk 54 b4 #[.int .i64 t, .int .i64 k, .string d] X) ⟨bl_alloc B2 _, Blk.newE _ _ W2 hb4⟩ ?_
  rw [← hb4]
  clear hb4 B2 W2
  rintro W3 ⟨B3, k4⟩
  obtain ⟨T, hT⟩ : ∃ T, Hid (entryT i t k d = T) := ⟨_, Lib.hid rfl⟩
  obtain ⟨ok, hok⟩ : ∃ ok, Hid (entryOkI i t k d = ok) := ⟨_, Lib.hid rfl⟩
  refine (impl_EntryTextH i t k d T ok W3 hT hok (by omega)).mono ?_
  rintro e W4 ⟨rfl, B4'⟩
  have B4 := bl_then B3 B4'
  replace k4 := k4.below B4'
  clear B3 B4' W3
  have c40 := k4.cell 0 rfl
  have c41 := k4.cell 1 rfl
  have c42 := k4.cell 2 rfl
  have l4 := k4.lt
  go_wp2_with fail
  refine (spec_EntryTextH i t k d T ok W4 hT hok (by omega)).mono ?_
  rintro e W5 ⟨rfl, B5'⟩
  have B5 := bl_then B4 B5'
  replace k4 := k4.below B5'
  clear B4 B5' W4 c40 c41 c42 l4
  have hre := impl_ReadEntryH i t k d T ok W5 hT hok
  go_wp2_with fail
  cases ok with
  | true =>
    simp only [if_true] at hre
    refine hre.mono ?_
    clear hre
    rintro e W6 ⟨rfl, B6'⟩
    have B6 := bl_then B5 B6'
    replace k4 := k4.below B6'
    clear B5 B6' W5
    go_upto_region 7 with fail
    obtain ⟨b10, hb10⟩ : ∃ b10, b10 = W6.heap.size := ⟨_, rfl⟩
    refine wp_at' (fun X => Below W.heap.size W X ∧ Blk 54 b4 #[.int .i64 t, .int .i64 k, .string d] X ∧ Blk 54 b10 #[.int .i64 t, .int .i64 k, .string d] X) ⟨bl_alloc B6 _, k4.alloc _, Blk.newE _ _ W6 hb10⟩ ?_
    rw [← hb10]
    clear hb10 B6 k4 W6
    rintro W7 ⟨B7, k4, k10⟩
    have c40 := k4.cell 0 rfl
    have c41 := k4.cell 1 rfl
    have c42 := k4.cell 2 rfl
    have l4 := k4.lt
    have c50 := k10.cell 0 rfl
    have c51 := k10.cell 1 rfl
    have c52 := k10.cell 2 rfl
    have l10 := k10.lt
    go_upto_region 9 with fail
    clear c40 c41 c42 l4 c50 c51 c52 l10 k4 k10
    go_wp2_with fail
    refine (PFnEntries.drawConfText_C A c bs _ hb (Kd.C_below HC.out B7) hcap).mono ?_
    rintro e X0 ⟨A2, c2, xs, rfl, h1, h2, hC2, hb0⟩
    have D0 := bl_then B7 hb0
    have HX := Lib.hid hC2
    clear B7 hb0 hC2
    obtain ⟨q2, hq2⟩ : ∃ q, Hid (confOk xs = q) := ⟨_, Lib.hid rfl⟩
    cases q2 with
    | true =>
      obtain ⟨m1, m2, m3, m4, m5⟩ := most_all xs hq2.out
      have hne := (confOk_short hq2.out).1
      have hsz : (strOfNums (PFnEntries.confBs xs)).size ≤ 1048576 := by rw [strOfNums_size]; simp [PFnEntries.confBs]; omega
      obtain ⟨s, hs⟩ : ∃ s, Hid (strOfNums (PFnEntries.confBs xs) = s) := ⟨_, Lib.hid rfl⟩
      rw [hs.out] at m5 hsz
      have M1 := Lib.hid m1
      have M2 := Lib.hid m2
      have M3 := Lib.hid m3
      have M4 := Lib.hid m4
      have M5 := Lib.hid m5
      clear m1 m2 m3 m4 m5
      go_wp2_with fail
      refine (impl_confTextH A2 c2 xs true s _ hq2 (Lib.hid (by simpa using hs.out)) HX.out h1 (by omega)).mono ?_
      rintro e X1 ⟨rfl, hb1⟩
      have D1 := bl_then D0 hb1
      have HX1 := Lib.hid (Kd.C_below HX.out hb1)
      clear D0 hb1 HX X0
      go_wp2_with fail
      refine (impl_readConfH s xs true _ M5 hsz).mono ?_
      rintro e X2 ⟨⟨A3, c3, rfl, h3, hC3⟩, hb2⟩
      have D2 := bl_then D1 hb2
      have HX2 := Lib.hid (Kd.C_below HX1.out hb2)
      have HY2 := Lib.hid hC3
      clear D1 hb2 HX1 hC3 X1
      go_wp2_with fail
      refine (spec_confH A2 c2 xs true _ hq2 HX2.out h1 (by omega)).mono ?_
      rintro e X3 ⟨rfl, hb3⟩
      have D3 := bl_then D2 hb3
      have HX3 := Lib.hid (Kd.C_below HX2.out hb3)
      have HY3 := Lib.hid (Kd.C_below HY2.out hb3)
      clear D2 hb3 HX2 HY2 X2
      go_wp2_with fail
      refine (same_C A3 c3 xs A2 c2 xs true _ HY3.out h3 HX3.out h1 M4.out).mono ?_
      rintro e X4 ⟨rfl, hb4⟩
      have D4 := bl_then D3 hb4
      have HX4 := Lib.hid (Kd.C_below HX3.out hb4)
      clear D3 hb4 HX3 HY3 X3
      go_wp2_with fail
      refine (impl_confH A2 c2 xs true _ hq2 HX4.out h1 (by omega)).mono ?_
      rintro e X5 ⟨rfl, hb5⟩
      have D5 := bl_then D4 hb5
      have HX5 := Lib.hid (Kd.C_below HX4.out hb5)
      clear D4 hb5 HX4 X4
      go_wp2_with fail
      refine (most_C A2 c2 xs A2 _ c2 xs rfl true _ HX5.out h1 HX5.out h1 M1.out).mono ?_
      rintro e X6 ⟨rfl, hb6⟩
      have D6 := bl_then D5 hb6
      have HX6 := Lib.hid (Kd.C_below HX5.out hb6)
      clear D5 hb6 HX5 X5
      go_wp2_with fail
      refine (most_C A2 c2 xs (some ⟨X6.heap.size, 0, none⟩) 0 0 [] rfl false _ (Kd.C_below HX6.out (bl_alloc (Below.refl _ _) _)) h1 (C_empty _ _) (by simp) M2.out).mono ?_
      rintro e X7 ⟨rfl, hb7⟩
      have D7 := bl_then (bl_alloc D6 _) hb7
      have HX7 := Lib.hid (Kd.C_below (Kd.C_below HX6.out (bl_alloc (Below.refl _ _) _)) hb7)
      clear D6 hb7 HX6
      obtain ⟨r1, hr1⟩ : ∃ r1, decide (xs.length = 1) = r1 := ⟨_, rfl⟩
      have hr2 : ((xs.length : Int) == 1) = r1 := by rw [← hr1, Bool.eq_iff_iff]; simp; omega
      rw [hr1] at M3
      clear hr1
      have hc1 : 1 ≤ c2 := by omega
      have hc2 : (1 : Int) ≤ (c2 : Int) := by omega
      cases r1 with
      | true =>
        go_wp2_with fail
        refine (most_C A2 c2 xs A2 1 c2 (xs.take 1) (by simp; omega) true _ HX7.out h1 (C_take1 HX7.out hne) (by simp; omega) M3.out).mono ?_
        rintro e X8 ⟨rfl, hb8⟩
        go_wp2_with fail
        go_ret
        exact ⟨rfl, bl_then D7 hb8⟩
      | false =>
        go_wp2_with fail
        refine (most_C A2 c2 xs A2 1 c2 (xs.take 1) (by simp; omega) false _ HX7.out h1 (C_take1 HX7.out hne) (by simp; omega) M3.out).mono ?_
        rintro e X8 ⟨rfl, hb8⟩
        go_wp2_with fail
        go_ret
        exact ⟨rfl, bl_then D7 hb8⟩
    | false =>
      obtain ⟨s, hs⟩ : ∃ s, Hid ((⟨#[]⟩ : ByteArray) = s) := ⟨_, Lib.hid rfl⟩
      have M5 : Hid (readConf s = ([], false)) := Lib.hid (by rw [← hs.out]; decide +kernel)
      have hsz : s.size ≤ 1048576 := by rw [← hs.out]; decide
      go_wp2_with fail
      refine (impl_confTextH A2 c2 xs false s _ hq2 (Lib.hid (by simpa using hs.out)) HX.out h1 (by omega)).mono ?_
      rintro e X1 ⟨rfl, hb1⟩
      have D1 := bl_then D0 hb1
      have HX1 := Lib.hid (Kd.C_below HX.out hb1)
      clear D0 hb1 HX X0
      go_wp2_with fail
      refine (impl_readConfH s [] false _ M5 hsz).mono ?_
      rintro e X2 ⟨⟨A3, c3, rfl, h3, hC3⟩, hb2⟩
      have D2 := bl_then D1 hb2
      have HX2 := Lib.hid (Kd.C_below HX1.out hb2)
      clear D1 hb2 HX1 hC3 X1
      go_wp2_with fail
      refine (spec_confH A2 c2 xs false _ hq2 HX2.out h1 (by omega)).mono ?_
      rintro e X3 ⟨rfl, hb3⟩
      have D3 := bl_then D2 hb3
      have HX3 := Lib.hid (Kd.C_below HX2.out hb3)
      clear D2 hb3 HX2 X2
      go_wp2_with fail
      refine (impl_confH A2 c2 xs false _ hq2 HX3.out h1 (by omega)).mono ?_
      rintro e X5 ⟨rfl, hb5⟩
      have D5 := bl_then D3 hb5
      clear D3 hb5 HX3 X3
      go_wp2_with fail
      go_ret
      exact ⟨rfl, D5⟩
  | false =>
    simp only [Bool.false_eq_true, if_false] at hre
    refine hre.mono ?_
    clear hre
    rintro e W6 ⟨rfl, B6'⟩
    have B6 := bl_then B5 B6'
    clear B5 B6' W5 k4
    go_upto_region 7 with fail
    refine wp_at' (fun X => Below W.heap.size W X) (bl_alloc B6 _) ?_
    clear B6
    intro W7 B7
    go_upto_region 9 with fail
    go_wp2_with fail
    refine (PFnEntries.drawConfText_C A c bs _ hb (Kd.C_below HC.out B7) hcap).mono ?_
    rintro e X0 ⟨A2, c2, xs, rfl, h1, h2, hC2, hb0⟩
    have D0 := bl_then B7 hb0
    have HX := Lib.hid hC2
    clear B7 hb0 hC2
    obtain ⟨q2, hq2⟩ : ∃ q, Hid (confOk xs = q) := ⟨_, Lib.hid rfl⟩
    cases q2 with
    | true =>
      obtain ⟨m1, m2, m3, m4, m5⟩ := most_all xs hq2.out
      have hne := (confOk_short hq2.out).1
      have hsz : (strOfNums (PFnEntries.confBs xs)).size ≤ 1048576 := by rw [strOfNums_size]; simp [PFnEntries.confBs]; omega
      obtain ⟨s, hs⟩ : ∃ s, Hid (strOfNums (PFnEntries.confBs xs) = s) := ⟨_, Lib.hid rfl⟩
      rw [hs.out] at m5 hsz
      have M1 := Lib.hid m1
      have M2 := Lib.hid m2
      have M3 := Lib.hid m3
      have M4 := Lib.hid m4
      have M5 := Lib.hid m5
      clear m1 m2 m3 m4 m5
      go_wp2_with fail
      refine (impl_confTextH A2 c2 xs true s _ hq2 (Lib.hid (by simpa using hs.out)) HX.out h1 (by omega)).mono ?_
      rintro e X1 ⟨rfl, hb1⟩
      have D1 := bl_then D0 hb1
      have HX1 := Lib.hid (Kd.C_below HX.out hb1)
      clear D0 hb1 HX X0
      go_wp2_with fail
      refine (impl_readConfH s xs true _ M5 hsz).mono ?_
      rintro e X2 ⟨⟨A3, c3, rfl, h3, hC3⟩, hb2⟩
      have D2 := bl_then D1 hb2
      have HX2 := Lib.hid (Kd.C_below HX1.out hb2)
      have HY2 := Lib.hid hC3
      clear D1 hb2 HX1 hC3 X1
      go_wp2_with fail
      refine (spec_confH A2 c2 xs true _ hq2 HX2.out h1 (by omega)).mono ?_
      rintro e X3 ⟨rfl, hb3⟩
      have D3 := bl_then D2 hb3
      have HX3 := Lib.hid (Kd.C_below HX2.out hb3)
      have HY3 := Lib.hid (Kd.C_below HY2.out hb3)
      clear D2 hb3 HX2 HY2 X2
      go_wp2_with fail
      refine (same_C A3 c3 xs A2 c2 xs true _ HY3.out h3 HX3.out h1 M4.out).mono ?_
      rintro e X4 ⟨rfl, hb4⟩
      have D4 := bl_then D3 hb4
      have HX4 := Lib.hid (Kd.C_below HX3.out hb4)
      clear D3 hb4 HX3 HY3 X3
      go_wp2_with fail
      refine (impl_confH A2 c2 xs true _ hq2 HX4.out h1 (by omega)).mono ?_
      rintro e X5 ⟨rfl, hb5⟩
      have D5 := bl_then D4 hb5
      have HX5 := Lib.hid (Kd.C_below HX4.out hb5)
      clear D4 hb5 HX4 X4
      go_wp2_with fail
      refine (most_C A2 c2 xs A2 _ c2 xs rfl true _ HX5.out h1 HX5.out h1 M1.out).mono ?_
      rintro e X6 ⟨rfl, hb6⟩
      have D6 := bl_then D5 hb6
      have HX6 := Lib.hid (Kd.C_below HX5.out hb6)
      clear D5 hb6 HX5 X5
      go_wp2_with fail
      refine (most_C A2 c2 xs (some ⟨X6.heap.size, 0, none⟩) 0 0 [] rfl false _ (Kd.C_below HX6.out (bl_alloc (Below.refl _ _) _)) h1 (C_empty _ _) (by simp) M2.out).mono ?_
      rintro e X7 ⟨rfl, hb7⟩
      have D7 := bl_then (bl_alloc D6 _) hb7
      have HX7 := Lib.hid (Kd.C_below (Kd.C_below HX6.out (bl_alloc (Below.refl _ _) _)) hb7)
      clear D6 hb7 HX6
      obtain ⟨r1, hr1⟩ : ∃ r1, decide (xs.length = 1) = r1 := ⟨_, rfl⟩
      have hr2 : ((xs.length : Int) == 1) = r1 := by rw [← hr1, Bool.eq_iff_iff]; simp; omega
      rw [hr1] at M3
      clear hr1
      have hc1 : 1 ≤ c2 := by omega
      have hc2 : (1 : Int) ≤ (c2 : Int) := by omega
      cases r1 with
      | true =>
        go_wp2_with fail
        refine (most_C A2 c2 xs A2 1 c2 (xs.take 1) (by simp; omega) true _ HX7.out h1 (C_take1 HX7.out hne) (by simp; omega) M3.out).mono ?_
        rintro e X8 ⟨rfl, hb8⟩
        go_wp2_with fail
        go_ret
        exact ⟨rfl, bl_then D7 hb8⟩
      | false =>
        go_wp2_with fail
        refine (most_C A2 c2 xs A2 1 c2 (xs.take 1) (by simp; omega) false _ HX7.out h1 (C_take1 HX7.out hne) (by simp; omega) M3.out).mono ?_
        rintro e X8 ⟨rfl, hb8⟩
        go_wp2_with fail
        go_ret
        exact ⟨rfl, bl_then D7 hb8⟩
    | false =>
      obtain ⟨s, hs⟩ : ∃ s, Hid ((⟨#[]⟩ : ByteArray) = s) := ⟨_, Lib.hid rfl⟩
      have M5 : Hid (readConf s = ([], false)) := Lib.hid (by rw [← hs.out]; decide +kernel)
      have hsz : s.size ≤ 1048576 := by rw [← hs.out]; decide
      go_wp2_with fail
      refine (impl_confTextH A2 c2 xs false s _ hq2 (Lib.hid (by simpa using hs.out)) HX.out h1 (by omega)).mono ?_
      rintro e X1 ⟨rfl, hb1⟩
      have D1 := bl_then D0 hb1
      have HX1 := Lib.hid (Kd.C_below HX.out hb1)
      clear D0 hb1 HX X0
      go_wp2_with fail
      refine (impl_readConfH s [] false _ M5 hsz).mono ?_
      rintro e X2 ⟨⟨A3, c3, rfl, h3, hC3⟩, hb2⟩
      have D2 := bl_then D1 hb2
      have HX2 := Lib.hid (Kd.C_below HX1.out hb2)
      clear D1 hb2 HX1 hC3 X1
      go_wp2_with fail
      refine (spec_confH A2 c2 xs false _ hq2 HX2.out h1 (by omega)).mono ?_
      rintro e X3 ⟨rfl, hb3⟩
      have D3 := bl_then D2 hb3
      have HX3 := Lib.hid (Kd.C_below HX2.out hb3)
      clear D2 hb3 HX2 X2
      go_wp2_with fail
      refine (impl_confH A2 c2 xs false _ hq2 HX3.out h1 (by omega)).mono ?_
      rintro e X5 ⟨rfl, hb5⟩
      have D5 := bl_then D3 hb5
      clear D3 hb5 HX3 X3
      go_wp2_with fail
      go_ret
      exact ⟨rfl, D5⟩
end Go.Proofs.Ytdjikjmjajlgcaa
end

/-! ### YtdjikjmjajlgcaaRowFnEntries -/
section
namespace Go.Proofs.Ytdjikjmjajlgcaa.fnEntries
open Go.ChangeShapes Go.WideShapes Go.ChangeAt Go.RowKit
theorem own : ownKnob Try.prog.godebug = none := by kernel_rfl
theorem laidOut : laidOutB Try.prog = true := by kernel_rfl
set_option maxRecDepth 100000 in
theorem lifted (os : Os) (started : os.Started) (H : Type) (enc : TypeId × Value → H) :
    ReturnsInHanded {} Try.checked os 5 .any (Rows.fnEntriesSpec.pre6 enc Try.prog Try.f5 Rows.fnEntriesRow.domain false) (Rows.fnEntriesSpec.post enc Try.prog Try.f5 false true false false) := by
  refine returnsInHanded_of_change_sized (C := Try.checked) own started (by kernel_rfl) Try.func5
    (ChangeSpec.witness6 (enc := enc) (C := Try.checked) false ⟨#[], #[.slice none 0 0], []⟩ 20 (by kernel_rfl) (by kernel_rfl) (by kernel_rfl) (by kernel_rfl)) ?_
  intro W base args ds gs before hval0 hW hcnd hsz0 _
  have hval : ∀ (j : Nat) t v, Try.f5.params[j]? = some t → args[j]? = some v → Value.okWide Try.prog W .any base t v := hval0
  have hW' := hW
  obtain ⟨p, q, hA0, hV, rfl, hfz, hnd⟩ := hW
  have hA : DataW.TrodAll enc Try.prog W 0 (fun _ => true) true Try.f5.params.toList args.toList ds p := hA0
  rw [Try.params5] at hA hval
  obtain ⟨v0, vs0, d0, ds0, p0, q0, hargs, rfl, rfl, h0, r0⟩ := trodAll_cons hA
  obtain ⟨rfl, rfl, rfl⟩ := trodAll_nil r0
  obtain rfl : args = #[v0] := by cases args; simp_all
  obtain ⟨rfl, rfl⟩ := trodVars_none hV
  have k0 := h0
  have lt0 : ∀ x ∈ p0, x.block < W.heap.size := by obtain ⟨m, hm⟩ := k0; exact DataW.trod_lt m _ _ _ hm
  have a0 : ArgOf Try.prog W 51 v0 := ⟨⟨base, hval 0 51 v0 rfl rfl⟩, by obtain ⟨m, hm⟩ := k0; exact ⟨H, enc, m, _, hm⟩⟩
  clear hA0 hval0 hsz0
  refine (FnEntries_walk v0 W a0).mono fun e W' ⟨he, bel⟩ => ?_
  subst he
  exact ⟨_, rfl, _, _, _, [], _, [], hW', trodAll_mk1 (shut_bool Try.underlying4 _), (trodAll_cons_mk (Below.trod laidOut (by kernel_rfl) (of_decide_eq_true (by kernel_rfl)) k0 bel lt0) trodAll_mk0), rfl, bel.frame _, fun h => by cases h⟩
theorem over : Rows.fnEntriesRow.holds Try.pinned (OpenSpec.ofChange Rows.fnEntriesSpec) :=
  OpenClaim.holds_of_wide 5 Try.f5 rfl rfl rfl rfl rfl rfl rfl ⟨rfl, rfl, rfl, rfl, rfl⟩ rfl rfl rfl rfl rfl (by kernel_rfl) Try.func5 (by kernel_rfl)
    (of_decide_eq_true (by kernel_rfl)) (by unfold Func.isWrapper; first | (rw [if_pos (by decide +kernel)]; kernel_rfl) | (rw [if_neg (by decide +kernel)]; exact ⟨rfl, rfl⟩))
    (fun os started H enc _ => lifted os started H enc)
theorem proved : Rows.FnEntriesSaid := over
#print axioms proved
end Go.Proofs.Ytdjikjmjajlgcaa.fnEntries
namespace Go.Proofs.Ytdjikjmjajlgcaa
/-- The row, under a short name, for the claim. -/
theorem fnEntries_holds : Rows.FnEntriesSaid := fnEntries.proved
end Go.Proofs.Ytdjikjmjajlgcaa
end
