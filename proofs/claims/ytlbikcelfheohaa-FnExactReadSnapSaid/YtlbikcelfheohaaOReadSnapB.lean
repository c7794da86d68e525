import Derived.Test.YtlbikcelfheohaaOReadSnapA
import Derived.Test.YtlbikcelfheohaaPReadSnapB
import Derived.Deep.RegionHeld3

/-! ### YtlbikcelfheohaaConfFnExactReadSnap -/
section
namespace Go.Proofs.Ytlbikcelfheohaa.PFnExactReadSnap
open Go.RowKit Go.Proofs.YtlbikcelfheohaaW.PrintWords
set_option linter.unusedSimpArgs false
set_option linter.unusedVariables false

theorem in_f (a b c : Int) : impl_in.f a b c = some (decide (b ≤ a ∧ a ≤ c)) := by
  unfold impl_in.f
  by_cases h : a ≥ b
  · rw [if_pos h]; simp [show b ≤ a from h]
  · rw [if_neg h]; simp [show ¬ b ≤ a from h]
theorem l01In_f (a b c : Int) : spec_l01In.f a b c = some (decide (b ≤ a ∧ a ≤ c)) := by
  unfold spec_l01In.f
  by_cases h : a ≥ b
  · rw [if_pos h]; simp [show b ≤ a from h]
  · rw [if_neg h]; simp [show ¬ b ≤ a from h]

theorem rise_l0 (xs : List Int) : ∀ (n k i : Nat), n + i = xs.length → n < k → xs.length < 4611686018427387904 → spec_l05Rise.l0 k xs 1 4 i = some (rises xs i n)
  | 0, 0, _, _, hk, _ => by omega
  | 0, k + 1, i, h, _, _ => by
    unfold spec_l05Rise.l0
    rw [if_neg (by omega)]
    rfl
  | n + 1, 0, _, _, hk, _ => by omega
  | n + 1, k + 1, i, h, hk, hl => by
    have e1 : wrap64 ((i : Int) + 1) = ((i + 1 : Nat) : Int) := by unfold wrap64; omega
    have e2 : 0 < (i : Int) → wrap64 ((i : Int) - 1) = (i : Int) - 1 := fun _ => by unfold wrap64; omega
    have ih := rise_l0 xs n k (i + 1) (by omega) (by omega) hl
    unfold spec_l05Rise.l0
    rw [if_pos (by omega), if_pos (by omega), l01In_f, Option.bind_some, e1]
    clear e1
    rw [ih]
    by_cases hin : 1 ≤ rd xs i ∧ rd xs i ≤ 4
    · rw [if_pos (by simpa using hin)]
      by_cases hi : (i : Int) > 0
      · rw [if_pos hi, e2 hi]
        clear e2
        rw [if_pos (by omega), if_pos (by omega)]
        by_cases hge : rd xs ((i : Int) - 1) ≥ rd xs i
        · rw [if_pos hge]
          have : ¬ i = 0 := by omega
          simp [rises, this, show ¬ rd xs ((i : Int) - 1) < rd xs i from by omega]
        · rw [if_neg hge]
          simp [rises, hin, show rd xs ((i : Int) - 1) < rd xs i from by omega]
      · rw [if_neg hi]
        have : i = 0 := by omega
        subst this
        simp only [rises]
        simp at hin
        simp [hin]
    · rw [if_neg (by simpa using hin)]
      simp only [rises]
      simp only [hin]
      simp
theorem iconf_l0 (xs : List Int) : ∀ (n k i : Nat), n + i = xs.length → n < k → xs.length < 4611686018427387904 → impl_ConfOk.l0 k xs xs xs.length i = some (rises xs i n && decide (1 ≤ xs.length))
  | 0, 0, _, _, hk, _ => by omega
  | 0, k + 1, i, h, _, _ => by
    unfold impl_ConfOk.l0
    rw [if_neg (by omega)]
    simp [rises]
    omega
  | n + 1, 0, _, _, hk, _ => by omega
  | n + 1, k + 1, i, h, hk, hl => by
    have e1 : wrap64 ((i : Int) + 1) = ((i + 1 : Nat) : Int) := by unfold wrap64; omega
    have e2 : 0 < (i : Int) → wrap64 ((i : Int) - 1) = (i : Int) - 1 := fun _ => by unfold wrap64; omega
    have ih := iconf_l0 xs n k (i + 1) (by omega) (by omega) hl
    unfold impl_ConfOk.l0
    rw [if_pos (by omega), if_pos (by omega), if_pos (by omega), in_f, Option.bind_some, e1]
    clear e1
    rw [ih]
    by_cases hin : 1 ≤ rd xs i ∧ rd xs i ≤ 4
    · rw [if_pos (by simpa using hin)]
      by_cases hi : (i : Int) > 0
      · rw [if_pos hi, e2 hi]
        clear e2
        rw [if_pos (by omega), if_pos (by omega)]
        by_cases hge : rd xs ((i : Int) - 1) ≥ rd xs i
        · rw [if_pos hge]
          have : ¬ i = 0 := by omega
          simp [rises, this, show ¬ rd xs ((i : Int) - 1) < rd xs i from by omega]
        · rw [if_neg hge]
          simp [rises, hin, show rd xs ((i : Int) - 1) < rd xs i from by omega]
      · rw [if_neg hi]
        have : i = 0 := by omega
        subst this
        simp only [rises]
        simp at hin
        simp [hin]
    · rw [if_neg (by simpa using hin)]
      simp only [rises]
      simp only [hin]
      simp
theorem iconf_f (xs : List Int) (k : Nat) (hk : xs.length < k) (hl : xs.length < 4611686018427387904) : impl_ConfOk.f k xs = some (confOk xs) := iconf_l0 xs xs.length k 0 (by omega) hk hl
theorem sconf_f (xs : List Int) (k : Nat) (hk : xs.length < k) (hl : xs.length < 4611686018427387904) : spec_ConfOk.f k xs = some (confOk xs) := by
  unfold spec_ConfOk.f spec_l05Rise.f
  rw [l01In_f, Option.bind_some]
  have h0 : spec_l05Rise.l0 k xs 1 4 0 = some (rises xs 0 xs.length) := rise_l0 xs xs.length k 0 (by omega) hk hl
  rw [h0]
  by_cases h : (1 : Int) ≤ (xs.length : Int) ∧ (xs.length : Int) ≤ 4
  · rw [if_pos (by simpa using h)]
    have : 1 ≤ xs.length := by omega
    simp [confOk, this]
  · rw [if_neg (by simpa using h)]
    cases hc : confOk xs with
    | false => rfl
    | true => have := confOk_short hc; omega

theorem iread_l0 (s : ByteArray) : ∀ (n k i : Nat) (acc : List Int), n + i = s.size → acc.length = i → n + s.size + 1 < k → s.size < 17592186044416 →
    impl_ReadConf.l0 k s acc s.size i = some (if confOk (acc ++ bytesFrom s i n) then (acc ++ bytesFrom s i n, true) else ([], false))
  | 0, 0, _, _, _, _, hk, _ => by omega
  | 0, k + 1, i, acc, h, ha, hk, hs => by
    unfold impl_ReadConf.l0
    rw [if_neg (by omega), iconf_f acc k (by omega) (by omega)]
    simp only [bytesFrom, List.append_nil, Option.bind_some]
    split <;> rfl
  | n + 1, 0, _, _, _, _, hk, _ => by omega
  | n + 1, k + 1, i, acc, h, ha, hk, hs => by
    have e1 : wrap64 ((i : Int) + 1) = ((i + 1 : Nat) : Int) := by unfold wrap64; omega
    have hb := bt_range s (i : Int)
    have e2 : wrap64 (bt s (i : Int)) = bt s (i : Int) := by unfold wrap64; omega
    unfold impl_ReadConf.l0
    rw [if_pos (by omega), if_pos (by omega), if_pos (by omega), if_pos (by omega), e1, e2]
    clear e1 e2
    rw [iread_l0 s n k (i + 1) (acc ++ [bt s (i : Int)]) (by omega) (by simp [ha]) (by omega) hs]
    simp only [bytesFrom, List.append_assoc, List.cons_append, List.nil_append]
    rfl
theorem iread_f (s : ByteArray) (k : Nat) (hk : s.size + s.size + 1 < k) (hs : s.size < 17592186044416) : impl_ReadConf.f k s = some (readConf s) := by
  have := iread_l0 s s.size k 0 [] (by omega) rfl hk hs
  simpa [impl_ReadConf.f, readConf] using this
theorem sread_l0 (s : ByteArray) : ∀ (n k i : Nat) (acc : List Int), n + i = s.size → acc = bytesFrom s 0 i → i ≤ 5 → n + s.size + 1 < k → s.size < 17592186044416 →
    spec_ReadConf.l0 k s acc i = some (readConf s)
  | n, 0, _, _, _, _, _, hk, _ => by omega
  | n, k + 1, i, acc, h, ha, h5, hk, hs => by
    have hlen : acc.length = i := by rw [ha, bytesFrom_length]
    have e1 : wrap64 ((i : Int) + 1) = ((i + 1 : Nat) : Int) := by unfold wrap64; omega
    have hb := bt_range s (i : Int)
    have e2 : wrap64 (bt s (i : Int)) = bt s (i : Int) := by unfold wrap64; omega
    have hfin : ∀ (hd : n = 0 ∨ i = 5), (if (acc.length : Int) = (s.size : Int) then ((spec_ConfOk.f k acc).bind fun t => (if t = true then (some (acc, true)) else (some ((([] : List Int)), false)))) else (some ((([] : List Int)), false))) = some (readConf s) := by
      intro hd
      by_cases he : acc.length = s.size
      · rw [if_pos (by omega), sconf_f acc k (by omega) (by omega), Option.bind_some]
        have hi : i = s.size := by omega
        subst ha
        unfold readConf
        rw [← hi]
        split <;> rfl
      · rw [if_neg (by omega)]
        unfold readConf
        have hn : ¬ confOk (bytesFrom s 0 s.size) = true := fun hc => by
          have := confOk_short hc
          rw [bytesFrom_length] at this
          rcases hd with h0 | h0 <;> omega
        rw [if_neg hn]
    unfold spec_ReadConf.l0
    by_cases h1 : (i : Int) < (s.size : Int)
    · rw [if_pos h1]
      by_cases h4 : (i : Int) ≤ 4
      · rw [if_pos h4, if_pos (by omega), if_pos (by omega), e1, e2]
        clear e1 e2
        obtain ⟨m, rfl⟩ : ∃ m, n = m + 1 := ⟨n - 1, by omega⟩
        refine sread_l0 s m k (i + 1) _ (by omega) ?_ (by omega) (by omega) hs
        rw [ha, bytesFrom_snoc s i 0]
        simp
      · rw [if_neg h4]
        exact hfin (.inr (by omega))
    · rw [if_neg h1]
      exact hfin (.inl (by omega))
theorem sread_f (s : ByteArray) (k : Nat) (hk : s.size + s.size + 1 < k) (hs : s.size < 17592186044416) : spec_ReadConf.f k s = some (readConf s) := sread_l0 s s.size k 0 [] (by omega) rfl (by omega) hk hs

/-- A conf in bytes. -/
def confBs (xs : List Int) : List Int := xs.map (fun x => x % 256)
theorem take_confBs (xs : List Int) (i : Nat) (h : i < xs.length) : (confBs xs).take (i + 1) = (confBs xs).take i ++ [rd xs (i : Int) % 256] := by
  have hl : i < (confBs xs).length := by simpa [confBs] using h
  rw [List.take_succ_eq_append_getElem hl]
  simp [confBs, rd, h]
theorem sctext_l0 (xs : List Int) (hl : xs.length ≤ 1099511627776) : ∀ (n k i : Nat), n + i = xs.length → n < k → spec_ConfText.l0 k xs ((confBs xs).take i) i = some (strOfNums (confBs xs), true)
  | _, 0, _, _, hk => by omega
  | 0, k + 1, i, h, hk => by
    unfold spec_ConfText.l0
    rw [if_neg (by omega), List.take_of_length_le (by simp [confBs]; omega)]
  | n + 1, k + 1, i, h, hk => by
    have e1 : wrap64 ((i : Int) + 1) = ((i + 1 : Nat) : Int) := by unfold wrap64; omega
    unfold spec_ConfText.l0
    rw [if_pos (by omega), if_pos (by omega), if_pos (by simp [confBs]; omega), e1, ← take_confBs xs i (by omega)]
    clear e1
    exact sctext_l0 xs hl n k (i + 1) (by omega) (by omega)
theorem sctext_f (xs : List Int) (k : Nat) (hk : xs.length < k) (hl : xs.length ≤ 1099511627776) : spec_ConfText.f k xs = some (if confOk xs then (strOfNums (confBs xs), true) else (⟨#[]⟩, false)) := by
  unfold spec_ConfText.f
  rw [sconf_f xs k hk (by omega), Option.bind_some]
  have := sctext_l0 xs hl xs.length k 0 (by omega) hk
  cases hc : confOk xs with
  | false => rw [if_neg (by simp)]; rfl
  | true => rw [if_pos rfl]; exact this
theorem onebyte_l0 (xs : List Int) (hl : xs.length ≤ 1099511627776) : ∀ (n k i : Nat), n + i = xs.length → n < k → impl_oneByte.l0 k ((confBs xs).take i) xs xs.length i = some (strOfNums (confBs xs))
  | _, 0, _, _, hk => by omega
  | 0, k + 1, i, h, hk => by
    unfold impl_oneByte.l0
    rw [if_neg (by omega), List.take_of_length_le (by simp [confBs]; omega)]
  | n + 1, k + 1, i, h, hk => by
    have e1 : wrap64 ((i : Int) + 1) = ((i + 1 : Nat) : Int) := by unfold wrap64; omega
    unfold impl_oneByte.l0
    rw [if_pos (by omega), if_pos (by omega), if_pos (by omega), if_pos (by simp [confBs]; omega), e1, ← take_confBs xs i (by omega)]
    clear e1
    exact onebyte_l0 xs hl n k (i + 1) (by omega) (by omega)
theorem ictext_f (xs : List Int) (k : Nat) (hk : xs.length < k) (hl : xs.length ≤ 1099511627776) : impl_ConfText.f k xs = some (if confOk xs then (strOfNums (confBs xs), true) else (⟨#[]⟩, false)) := by
  unfold impl_ConfText.f
  rw [iconf_f xs k hk (by omega), Option.bind_some]
  have h0 : impl_oneByte.f k xs = some (strOfNums (confBs xs)) := onebyte_l0 xs hl xs.length k 0 (by omega) hk
  cases hc : confOk xs with
  | false => rw [if_neg (by simp)]; rfl
  | true => rw [if_pos rfl, h0]; rfl
end Go.Proofs.Ytlbikcelfheohaa.PFnExactReadSnap
end

/-! ### YtlbikcelfheohaaSnapT -/
section
namespace Go.Proofs.Ytlbikcelfheohaa
open Go.RowKit Go.Proofs.YtlbikcelfheohaaW.PrintWords
set_option linter.unusedSimpArgs false
set_option linter.unusedVariables false

/-! The text of a snapshot. (own) -/
def confS (cf : List Int) : ByteArray := strOfNums (PFnExactReadSnap.confBs cf)
def snapIn (i t : Int) (cf : List Int) (body : ByteArray) : ByteArray := varS i ++ varS t ++ shortS (confS cf) ++ shortS body
def snapOk (i t : Int) (cf : List Int) (body : ByteArray) : Bool := confOk cf && inB i 0 1000000 && inB t 0 100000 && decide (body.size ≤ 20000) && decide ((snapIn i t cf body).size + 4 ≤ 20000)
theorem confS_size (cf : List Int) : (confS cf).size = cf.length := by simp [confS, PFnExactReadSnap.confBs, strOfNums_size]

theorem spec_ConfTextH (A : Option Addr) (c : Nat) (cf : List Int) (b : Bool) (w : World) (hb : Hid (confOk cf = b)) (hC : Kd.C (Kd.int .i64) w A cf.length cf) (hc : cf.length ≤ c) (hl : cf.length ≤ 1048576) :
    Calls Try.prog 93 #[.slice A cf.length c] w fun e w' => e = .returned (.tuple #[.string (if b then confS cf else ⟨#[]⟩), .bool b]) ∧ Below w.heap.size w w' := by
  have hf := PFnExactReadSnap.sctext_f cf 1048577 (by omega) (by omega)
  rw [hb.out] at hf
  refine PFnExactReadSnap.spec_ConfText.calls 1048577 A c cf _ _ w hC hc (hf.trans ?_)
  cases b <;> rfl
theorem impl_ConfTextH (A : Option Addr) (c : Nat) (cf : List Int) (b : Bool) (w : World) (hb : Hid (confOk cf = b)) (hC : Kd.C (Kd.int .i64) w A cf.length cf) (hc : cf.length ≤ c) (hl : cf.length ≤ 1048576) :
    Calls Try.prog 96 #[.slice A cf.length c] w fun e w' => e = .returned (.tuple #[.string (if b then confS cf else ⟨#[]⟩), .bool b]) ∧ Below w.heap.size w w' := by
  have hf := PFnExactReadSnap.ictext_f cf 1048577 (by omega) (by omega)
  rw [hb.out] at hf
  refine PFnExactReadSnap.impl_ConfText.calls 1048577 A c cf _ _ w hC hc (hf.trans ?_)
  cases b <;> rfl
theorem spec_l01InH (n lo hi : Int) (b : Bool) (w : World) (h : Hid (inB n lo hi = b)) :
    Calls Try.prog 33 #[.int .i64 n, .int .i64 lo, .int .i64 hi] w fun e w' => e = .returned (.bool b) ∧ w = w' := by
  have := spec_l01In n lo hi w
  rw [h.out] at this
  exact this
theorem impl_inH (n lo hi : Int) (b : Bool) (w : World) (h : Hid (inB n lo hi = b)) :
    Calls Try.prog 34 #[.int .i64 n, .int .i64 lo, .int .i64 hi] w fun e w' => e = .returned (.bool b) ∧ w = w' := by
  have := impl_in n lo hi w
  rw [h.out] at this
  exact this
theorem spec_Sealed_yes (s : ByteArray) (w : World) (hs : s.size ≤ 20000) :
    Calls Try.prog 94 #[.string s] w fun e w' => e = .returned (.tuple #[.string (sealS s), .bool true]) ∧ Below w.heap.size w w' :=
  PFnExactReadSnap.spec_Sealed.calls 200001 s _ _ w (spec_seal_f s hs 200001 (by omega))
theorem impl_Sealed_yes (s : ByteArray) (w : World) (hs : s.size ≤ 20000) :
    Calls Try.prog 95 #[.string s] w fun e w' => e = .returned (.tuple #[.string (sealS s), .bool true]) ∧ Below w.heap.size w w' :=
  PFnExactReadSnap.impl_Sealed.calls 200001 s _ _ w (impl_seal_f s hs 200001 (by omega))
theorem impl_Sealed_no (s : ByteArray) (w : World) (hs : 20000 < s.size) :
    Calls Try.prog 95 #[.string s] w fun e w' => e = .returned (.tuple #[.string ⟨#[]⟩, .bool false]) ∧ Below w.heap.size w w' :=
  PFnExactReadSnap.impl_Sealed.calls 200001 s _ _ w (impl_seal_no s hs 200001)

attribute [local go_sem] cell_grow ByteArray.size_append

/-- What is known of a snapshot's numbers, taken apart. -/
theorem snapOk_parts (i t : Int) (cf : List Int) (body : ByteArray) (b1 b2 b3 : Bool) (h1 : confOk cf = b1) (h2 : inB i 0 1000000 = b2) (h3 : inB t 0 100000 = b3) :
    snapOk i t cf body = (b1 && b2 && b3 && decide (body.size ≤ 20000) && decide ((snapIn i t cf body).size + 4 ≤ 20000)) := by
  unfold snapOk; rw [h1, h2, h3]
theorem snapIn_size (i t : Int) (cf : List Int) (body : ByteArray) : (snapIn i t cf body).size = (varS i).size + (varS t).size + ((varS cf.length).size + cf.length) + ((varS body.size).size + body.size) := by
  unfold snapIn shortS
  simp only [ByteArray.size_append, confS_size]

set_option maxHeartbeats 1000000 in
set_option maxRecDepth 100000 in
theorem spec_SnapText_no1 (i t : Int) (A : Option Addr) (c : Nat) (cf : List Int) (body : ByteArray) (H1 : Hid (confOk cf = false)) (w : World) (hC : Kd.C (Kd.int .i64) w A cf.length cf) (hc : cf.length ≤ c) (hl : cf.length ≤ 1048576) (hb : body.size ≤ 1099511627776) :
    Calls Try.prog 61 #[.agg #[.int .i64 i, .int .i64 t, .slice A cf.length c, .string body]] w fun e w' =>
      e = .returned (.tuple #[.string ⟨#[]⟩, .bool false]) ∧ Below w.heap.size w w' := by
  have HC := Lib.hid hC
  clear hC
  go_enter Try.func61, Try.ntmps61
  go_wp2_with (first | (go_at_call 93; refine (spec_ConfTextH _ _ cf false _ H1 (Kd.C_below HC.out (by repeat (first | exact Below.refl _ _ | apply bl_alloc | apply bl_drewN | apply bl_drew | refine bl_set ?_ (by simp) | refine bl_then ?_ (by assumption)))) hc hl).mono ?_; rintro e w' ⟨rfl, hb⟩; obtain ⟨hc, hf⟩ := bcell hb; have hz : w.heap.size < w'.heap.size := (by have := hb.size; simp at this ⊢; omega)))
  all_goals
    go_ret2
    exact ⟨rfl, (by repeat (first | exact Below.refl _ _ | apply bl_alloc | apply bl_drewN | apply bl_drew | refine bl_set ?_ (by simp) | refine bl_then ?_ (by assumption)))⟩

set_option maxHeartbeats 1000000 in
set_option maxRecDepth 100000 in
theorem spec_SnapText_no2 (i t : Int) (A : Option Addr) (c : Nat) (cf : List Int) (body : ByteArray) (H1 : Hid (confOk cf = true)) (H2 : Hid (inB i 0 1000000 = false)) (w : World) (hC : Kd.C (Kd.int .i64) w A cf.length cf) (hc : cf.length ≤ c) (hl : cf.length ≤ 1048576) (hb : body.size ≤ 1099511627776) :
    Calls Try.prog 61 #[.agg #[.int .i64 i, .int .i64 t, .slice A cf.length c, .string body]] w fun e w' =>
      e = .returned (.tuple #[.string ⟨#[]⟩, .bool false]) ∧ Below w.heap.size w w' := by
  have HC := Lib.hid hC
  clear hC
  go_enter Try.func61, Try.ntmps61
  go_wp2_with (first
    | (go_at_call 93; refine (spec_ConfTextH _ _ cf true _ H1 (Kd.C_below HC.out (by repeat (first | exact Below.refl _ _ | apply bl_alloc | apply bl_drewN | apply bl_drew | refine bl_set ?_ (by simp) | refine bl_then ?_ (by assumption)))) hc hl).mono ?_; rintro e w' ⟨rfl, hb⟩; obtain ⟨hc, hf⟩ := bcell hb; have hz : w.heap.size < w'.heap.size := (by have := hb.size; simp at this ⊢; omega))
    | (go_at_call 33; (with_reducible refine (spec_l01InH _ _ _ false _ H2).mono ?_); rintro e w' ⟨rfl, rfl⟩))
  all_goals
    go_ret2
    exact ⟨rfl, (by repeat (first | exact Below.refl _ _ | apply bl_alloc | apply bl_drewN | apply bl_drew | refine bl_set ?_ (by simp) | refine bl_then ?_ (by assumption)))⟩

set_option maxHeartbeats 1000000 in
set_option maxRecDepth 100000 in
theorem spec_SnapText_no3 (i t : Int) (A : Option Addr) (c : Nat) (cf : List Int) (body : ByteArray) (H1 : Hid (confOk cf = true)) (H2 : Hid (inB i 0 1000000 = true)) (H3 : Hid (inB t 0 100000 = false)) (w : World) (hC : Kd.C (Kd.int .i64) w A cf.length cf) (hc : cf.length ≤ c) (hl : cf.length ≤ 1048576) (hb : body.size ≤ 1099511627776) :
    Calls Try.prog 61 #[.agg #[.int .i64 i, .int .i64 t, .slice A cf.length c, .string body]] w fun e w' =>
      e = .returned (.tuple #[.string ⟨#[]⟩, .bool false]) ∧ Below w.heap.size w w' := by
  have HC := Lib.hid hC
  clear hC
  go_enter Try.func61, Try.ntmps61
  go_wp2_with (first
    | (go_at_call 93; refine (spec_ConfTextH _ _ cf true _ H1 (Kd.C_below HC.out (by repeat (first | exact Below.refl _ _ | apply bl_alloc | apply bl_drewN | apply bl_drew | refine bl_set ?_ (by simp) | refine bl_then ?_ (by assumption)))) hc hl).mono ?_; rintro e w' ⟨rfl, hb⟩; obtain ⟨hc, hf⟩ := bcell hb; have hz : w.heap.size < w'.heap.size := (by have := hb.size; simp at this ⊢; omega))
    | (go_at_call 33; (with_reducible refine (spec_l01InH _ _ _ true _ H2).mono ?_); rintro e w' ⟨rfl, rfl⟩)
    | (go_at_call 33; (with_reducible refine (spec_l01InH _ _ _ false _ H3).mono ?_); rintro e w' ⟨rfl, rfl⟩))
  all_goals
    go_ret2
    exact ⟨rfl, (by repeat (first | exact Below.refl _ _ | apply bl_alloc | apply bl_drewN | apply bl_drew | refine bl_set ?_ (by simp) | refine bl_then ?_ (by assumption)))⟩

set_option maxHeartbeats 1000000 in
set_option maxRecDepth 100000 in
theorem spec_SnapText_no4 (i t : Int) (A : Option Addr) (c : Nat) (cf : List Int) (body : ByteArray) (H1 : Hid (confOk cf = true)) (H2 : Hid (inB i 0 1000000 = true)) (H3 : Hid (inB t 0 100000 = true)) (hz : 20000 < body.size) (w : World) (hC : Kd.C (Kd.int .i64) w A cf.length cf) (hc : cf.length ≤ c) (hl : cf.length ≤ 1048576) (hb : body.size ≤ 1099511627776) :
    Calls Try.prog 61 #[.agg #[.int .i64 i, .int .i64 t, .slice A cf.length c, .string body]] w fun e w' =>
      e = .returned (.tuple #[.string ⟨#[]⟩, .bool false]) ∧ Below w.heap.size w w' := by
  have HC := Lib.hid hC
  clear hC
  go_enter Try.func61, Try.ntmps61
  go_wp2_with (first
    | (go_at_call 93; refine (spec_ConfTextH _ _ cf true _ H1 (Kd.C_below HC.out (by repeat (first | exact Below.refl _ _ | apply bl_alloc | apply bl_drewN | apply bl_drew | refine bl_set ?_ (by simp) | refine bl_then ?_ (by assumption)))) hc hl).mono ?_; rintro e w' ⟨rfl, hb⟩; obtain ⟨hc, hf⟩ := bcell hb; have hz : w.heap.size < w'.heap.size := (by have := hb.size; simp at this ⊢; omega))
    | (go_at_call 33; (with_reducible refine (spec_l01InH _ _ _ true _ H2).mono ?_); rintro e w' ⟨rfl, rfl⟩)
    | (go_at_call 33; (with_reducible refine (spec_l01InH _ _ _ true _ H3).mono ?_); rintro e w' ⟨rfl, rfl⟩))
  all_goals
    go_ret2
    exact ⟨rfl, (by repeat (first | exact Below.refl _ _ | apply bl_alloc | apply bl_drewN | apply bl_drew | refine bl_set ?_ (by simp) | refine bl_then ?_ (by assumption)))⟩

set_option maxHeartbeats 1000000 in
set_option maxRecDepth 100000 in
theorem spec_SnapText_no5 (i t : Int) (A : Option Addr) (c : Nat) (cf : List Int) (body : ByteArray) (H1 : Hid (confOk cf = true)) (H2 : Hid (inB i 0 1000000 = true)) (H3 : Hid (inB t 0 100000 = true)) (hbz : body.size ≤ 20000) (hz : ¬ (varS i).size + (varS t).size + (shortS (confS cf)).size + (shortS body).size + 4 ≤ 20000) (w : World) (hC : Kd.C (Kd.int .i64) w A cf.length cf) (hc : cf.length ≤ c) (hl : cf.length ≤ 1048576) (hb : body.size ≤ 1099511627776) :
    Calls Try.prog 61 #[.agg #[.int .i64 i, .int .i64 t, .slice A cf.length c, .string body]] w fun e w' =>
      e = .returned (.tuple #[.string ⟨#[]⟩, .bool false]) ∧ Below w.heap.size w w' := by
  have HC := Lib.hid hC
  clear hC
  obtain ⟨hi0, hi1⟩ := inB_iff.1 H2.out
  obtain ⟨ht0, ht1⟩ := inB_iff.1 H3.out
  have hcl := (confOk_short H1.out).2
  have s1 := varS_size i (by omega) (by omega)
  have s2 := varS_size t (by omega) (by omega)
  have s3 := varS_size cf.length (by omega) (by omega)
  have s4 := varS_size body.size (by omega) (by omega)
  have s5 : (shortS (confS cf)).size ≤ 9 := by unfold shortS; rw [ByteArray.size_append, confS_size]; omega
  have s6 : (shortS body).size ≤ 20005 := by unfold shortS; rw [ByteArray.size_append]; omega
  have s7 : (confS cf).size ≤ 4 := by rw [confS_size]; omega
  go_enter Try.func61, Try.ntmps61
  go_wp2_with (first
    | (go_at_call 93; refine (spec_ConfTextH _ _ cf true _ H1 (Kd.C_below HC.out (by repeat (first | exact Below.refl _ _ | apply bl_alloc | apply bl_drewN | apply bl_drew | refine bl_set ?_ (by simp) | refine bl_then ?_ (by assumption)))) hc hl).mono ?_; rintro e w' ⟨rfl, hb⟩; obtain ⟨hc, hf⟩ := bcell hb; have hz : w.heap.size < w'.heap.size := (by have := hb.size; simp at this ⊢; omega))
    | (go_at_call 33; (with_reducible refine (spec_l01InH _ _ _ true _ H2).mono ?_); rintro e w' ⟨rfl, rfl⟩)
    | (go_at_call 33; (with_reducible refine (spec_l01InH _ _ _ true _ H3).mono ?_); rintro e w' ⟨rfl, rfl⟩))
  refine wp_region_quiet_below (by kernel_rfl) (by kernel_rfl) ?_
  repeat (first | quiet_step (first | (go_at_call 37; exact Calls.regrown_of (spec_l01Var _ _ (by omega) (by omega))) | (go_at_call 38; exact Calls.regrown_of (spec_l05Short _ _ (by omega)))) | go_big_quiet_step (fail))
  refine wpQuiet_nil ?_
  intro W2 hw'
  have hbq := bl_regrown hw'
  clear hw'
  obtain ⟨hcq, hfq⟩ := bcell hbq
  go_wp2
  all_goals
    go_ret2
    exact ⟨rfl, (by repeat (first | exact Below.refl _ _ | apply bl_alloc | apply bl_drewN | apply bl_drew | refine bl_set ?_ (by simp) | refine bl_then ?_ (by assumption)))⟩

set_option maxHeartbeats 1000000 in
set_option maxRecDepth 100000 in
theorem spec_SnapText_yes (i t : Int) (A : Option Addr) (c : Nat) (cf : List Int) (body : ByteArray) (H1 : Hid (confOk cf = true)) (H2 : Hid (inB i 0 1000000 = true)) (H3 : Hid (inB t 0 100000 = true)) (hbz : body.size ≤ 20000) (hz : (varS i).size + (varS t).size + (shortS (confS cf)).size + (shortS body).size + 4 ≤ 20000) (w : World) (hC : Kd.C (Kd.int .i64) w A cf.length cf) (hc : cf.length ≤ c) (hl : cf.length ≤ 1048576) (hb : body.size ≤ 1099511627776) :
    Calls Try.prog 61 #[.agg #[.int .i64 i, .int .i64 t, .slice A cf.length c, .string body]] w fun e w' =>
      e = .returned (.tuple #[.string (sealS (varS i ++ varS t ++ shortS (confS cf) ++ shortS body)), .bool true]) ∧ Below w.heap.size w w' := by
  have HC := Lib.hid hC
  clear hC
  obtain ⟨hi0, hi1⟩ := inB_iff.1 H2.out
  obtain ⟨ht0, ht1⟩ := inB_iff.1 H3.out
  have hcl := (confOk_short H1.out).2
  have s1 := varS_size i (by omega) (by omega)
  have s2 := varS_size t (by omega) (by omega)
  have s3 := varS_size cf.length (by omega) (by omega)
  have s4 := varS_size body.size (by omega) (by omega)
  have s5 : (shortS (confS cf)).size ≤ 9 := by unfold shortS; rw [ByteArray.size_append, confS_size]; omega
  have s6 : (shortS body).size ≤ 20005 := by unfold shortS; rw [ByteArray.size_append]; omega
  have s7 : (confS cf).size ≤ 4 := by rw [confS_size]; omega
  go_enter Try.func61, Try.ntmps61
  go_wp2_with (first
    | (go_at_call 93; refine (spec_ConfTextH _ _ cf true _ H1 (Kd.C_below HC.out (by repeat (first | exact Below.refl _ _ | apply bl_alloc | apply bl_drewN | apply bl_drew | refine bl_set ?_ (by simp) | refine bl_then ?_ (by assumption)))) hc hl).mono ?_; rintro e w' ⟨rfl, hb⟩; obtain ⟨hc, hf⟩ := bcell hb; have hz : w.heap.size < w'.heap.size := (by have := hb.size; simp at this ⊢; omega))
    | (go_at_call 33; (with_reducible refine (spec_l01InH _ _ _ true _ H2).mono ?_); rintro e w' ⟨rfl, rfl⟩)
    | (go_at_call 33; (with_reducible refine (spec_l01InH _ _ _ true _ H3).mono ?_); rintro e w' ⟨rfl, rfl⟩))
  refine wp_region_quiet_below (by kernel_rfl) (by kernel_rfl) ?_
  repeat (first | quiet_step (first | (go_at_call 37; exact Calls.regrown_of (spec_l01Var _ _ (by omega) (by omega))) | (go_at_call 38; exact Calls.regrown_of (spec_l05Short _ _ (by omega)))) | go_big_quiet_step (fail))
  refine wpQuiet_nil ?_
  intro W2 hw'
  have hbq := bl_regrown hw'
  clear hw'
  obtain ⟨hcq, hfq⟩ := bcell hbq
  go_wp2_with (first | (go_at_call 94; refine (spec_Sealed_yes _ _ (by simp only [ByteArray.size_append]; omega)).mono ?_; rintro e w' ⟨rfl, hb⟩; obtain ⟨hc, hf⟩ := bcell hb))
  all_goals
    go_ret2
    exact ⟨rfl, (by repeat (first | exact Below.refl _ _ | apply bl_alloc | apply bl_drewN | apply bl_drew | refine bl_set ?_ (by simp) | refine bl_then ?_ (by assumption)))⟩

set_option maxHeartbeats 1000000 in
set_option maxRecDepth 100000 in
theorem impl_SnapText_no1 (i t : Int) (A : Option Addr) (c : Nat) (cf : List Int) (body : ByteArray) (b1 : Bool) (H1 : Hid (confOk cf = b1)) (H2 : Hid (inB i 0 1000000 = false)) (w : World) (hC : Kd.C (Kd.int .i64) w A cf.length cf) (hc : cf.length ≤ c) (hl : cf.length ≤ 1048576) (hb : body.size ≤ 1099511627776) :
    Calls Try.prog 64 #[.agg #[.int .i64 i, .int .i64 t, .slice A cf.length c, .string body]] w fun e w' =>
      e = .returned (.tuple #[.string ⟨#[]⟩, .bool false]) ∧ Below w.heap.size w w' := by
  have HC := Lib.hid hC
  clear hC
  go_enter Try.func64, Try.ntmps64
  go_wp2_with (first
    | (go_at_call 96; refine (impl_ConfTextH _ _ cf b1 _ H1 (Kd.C_below HC.out (by repeat (first | exact Below.refl _ _ | apply bl_alloc | apply bl_drewN | apply bl_drew | refine bl_set ?_ (by simp) | refine bl_then ?_ (by assumption)))) hc hl).mono ?_; rintro e w' ⟨rfl, hb⟩; obtain ⟨hc, hf⟩ := bcell hb; have hz : w.heap.size < w'.heap.size := (by have := hb.size; simp at this ⊢; omega))
    | (go_at_call 34; (with_reducible refine (impl_inH _ _ _ false _ H2).mono ?_); rintro e w' ⟨rfl, rfl⟩))
  all_goals
    go_ret2
    exact ⟨rfl, (by repeat (first | exact Below.refl _ _ | apply bl_alloc | apply bl_drewN | apply bl_drew | refine bl_set ?_ (by simp) | refine bl_then ?_ (by assumption)))⟩

set_option maxHeartbeats 1000000 in
set_option maxRecDepth 100000 in
theorem impl_SnapText_no2 (i t : Int) (A : Option Addr) (c : Nat) (cf : List Int) (body : ByteArray) (b1 : Bool) (H1 : Hid (confOk cf = b1)) (H2 : Hid (inB i 0 1000000 = true)) (H3 : Hid (inB t 0 100000 = false)) (w : World) (hC : Kd.C (Kd.int .i64) w A cf.length cf) (hc : cf.length ≤ c) (hl : cf.length ≤ 1048576) (hb : body.size ≤ 1099511627776) :
    Calls Try.prog 64 #[.agg #[.int .i64 i, .int .i64 t, .slice A cf.length c, .string body]] w fun e w' =>
      e = .returned (.tuple #[.string ⟨#[]⟩, .bool false]) ∧ Below w.heap.size w w' := by
  have HC := Lib.hid hC
  clear hC
  go_enter Try.func64, Try.ntmps64
  go_wp2_with (first
    | (go_at_call 96; refine (impl_ConfTextH _ _ cf b1 _ H1 (Kd.C_below HC.out (by repeat (first | exact Below.refl _ _ | apply bl_alloc | apply bl_drewN | apply bl_drew | refine bl_set ?_ (by simp) | refine bl_then ?_ (by assumption)))) hc hl).mono ?_; rintro e w' ⟨rfl, hb⟩; obtain ⟨hc, hf⟩ := bcell hb; have hz : w.heap.size < w'.heap.size := (by have := hb.size; simp at this ⊢; omega))
    | (go_at_call 34; (with_reducible refine (impl_inH _ _ _ true _ H2).mono ?_); rintro e w' ⟨rfl, rfl⟩)
    | (go_at_call 34; (with_reducible refine (impl_inH _ _ _ false _ H3).mono ?_); rintro e w' ⟨rfl, rfl⟩))
  all_goals
    go_ret2
    exact ⟨rfl, (by repeat (first | exact Below.refl _ _ | apply bl_alloc | apply bl_drewN | apply bl_drew | refine bl_set ?_ (by simp) | refine bl_then ?_ (by assumption)))⟩

set_option maxHeartbeats 1000000 in
set_option maxRecDepth 100000 in
theorem impl_SnapText_no3 (i t : Int) (A : Option Addr) (c : Nat) (cf : List Int) (body : ByteArray) (H1 : Hid (confOk cf = false)) (H2 : Hid (inB i 0 1000000 = true)) (H3 : Hid (inB t 0 100000 = true)) (w : World) (hC : Kd.C (Kd.int .i64) w A cf.length cf) (hc : cf.length ≤ c) (hl : cf.length ≤ 1048576) (hb : body.size ≤ 1099511627776) :
    Calls Try.prog 64 #[.agg #[.int .i64 i, .int .i64 t, .slice A cf.length c, .string body]] w fun e w' =>
      e = .returned (.tuple #[.string ⟨#[]⟩, .bool false]) ∧ Below w.heap.size w w' := by
  have HC := Lib.hid hC
  clear hC
  go_enter Try.func64, Try.ntmps64
  go_wp2_with (first
    | (go_at_call 96; refine (impl_ConfTextH _ _ cf false _ H1 (Kd.C_below HC.out (by repeat (first | exact Below.refl _ _ | apply bl_alloc | apply bl_drewN | apply bl_drew | refine bl_set ?_ (by simp) | refine bl_then ?_ (by assumption)))) hc hl).mono ?_; rintro e w' ⟨rfl, hb⟩; obtain ⟨hc, hf⟩ := bcell hb; have hz : w.heap.size < w'.heap.size := (by have := hb.size; simp at this ⊢; omega))
    | (go_at_call 34; (with_reducible refine (impl_inH _ _ _ true _ H2).mono ?_); rintro e w' ⟨rfl, rfl⟩)
    | (go_at_call 34; (with_reducible refine (impl_inH _ _ _ true _ H3).mono ?_); rintro e w' ⟨rfl, rfl⟩))
  all_goals
    go_ret2
    exact ⟨rfl, (by repeat (first | exact Below.refl _ _ | apply bl_alloc | apply bl_drewN | apply bl_drew | refine bl_set ?_ (by simp) | refine bl_then ?_ (by assumption)))⟩

set_option maxHeartbeats 1000000 in
set_option maxRecDepth 100000 in
theorem impl_SnapText_no4 (i t : Int) (A : Option Addr) (c : Nat) (cf : List Int) (body : ByteArray) (H1 : Hid (confOk cf = true)) (H2 : Hid (inB i 0 1000000 = true)) (H3 : Hid (inB t 0 100000 = true)) (hz : 20000 < body.size) (w : World) (hC : Kd.C (Kd.int .i64) w A cf.length cf) (hc : cf.length ≤ c) (hl : cf.length ≤ 1048576) (hb : body.size ≤ 1099511627776) :
    Calls Try.prog 64 #[.agg #[.int .i64 i, .int .i64 t, .slice A cf.length c, .string body]] w fun e w' =>
      e = .returned (.tuple #[.string ⟨#[]⟩, .bool false]) ∧ Below w.heap.size w w' := by
  have HC := Lib.hid hC
  clear hC
  go_enter Try.func64, Try.ntmps64
  go_wp2_with (first
    | (go_at_call 96; refine (impl_ConfTextH _ _ cf true _ H1 (Kd.C_below HC.out (by repeat (first | exact Below.refl _ _ | apply bl_alloc | apply bl_drewN | apply bl_drew | refine bl_set ?_ (by simp) | refine bl_then ?_ (by assumption)))) hc hl).mono ?_; rintro e w' ⟨rfl, hb⟩; obtain ⟨hc, hf⟩ := bcell hb; have hz : w.heap.size < w'.heap.size := (by have := hb.size; simp at this ⊢; omega))
    | (go_at_call 34; (with_reducible refine (impl_inH _ _ _ true _ H2).mono ?_); rintro e w' ⟨rfl, rfl⟩)
    | (go_at_call 34; (with_reducible refine (impl_inH _ _ _ true _ H3).mono ?_); rintro e w' ⟨rfl, rfl⟩))
  all_goals
    go_ret2
    exact ⟨rfl, (by repeat (first | exact Below.refl _ _ | apply bl_alloc | apply bl_drewN | apply bl_drew | refine bl_set ?_ (by simp) | refine bl_then ?_ (by assumption)))⟩

set_option maxHeartbeats 1000000 in
set_option maxRecDepth 100000 in
theorem impl_SnapText_no5 (i t : Int) (A : Option Addr) (c : Nat) (cf : List Int) (body : ByteArray) (H1 : Hid (confOk cf = true)) (H2 : Hid (inB i 0 1000000 = true)) (H3 : Hid (inB t 0 100000 = true)) (hbz : body.size ≤ 20000) (hz : 20000 < (varS i).size + (varS t).size + (shortS (confS cf)).size + (shortS body).size) (w : World) (hC : Kd.C (Kd.int .i64) w A cf.length cf) (hc : cf.length ≤ c) (hl : cf.length ≤ 1048576) (hb : body.size ≤ 1099511627776) :
    Calls Try.prog 64 #[.agg #[.int .i64 i, .int .i64 t, .slice A cf.length c, .string body]] w fun e w' =>
      e = .returned (.tuple #[.string ⟨#[]⟩, .bool false]) ∧ Below w.heap.size w w' := by
  have HC := Lib.hid hC
  clear hC
  obtain ⟨hi0, hi1⟩ := inB_iff.1 H2.out
  obtain ⟨ht0, ht1⟩ := inB_iff.1 H3.out
  have hcl := (confOk_short H1.out).2
  have s1 := varS_size i (by omega) (by omega)
  have s2 := varS_size t (by omega) (by omega)
  have s3 := varS_size cf.length (by omega) (by omega)
  have s4 := varS_size body.size (by omega) (by omega)
  have s5 : (shortS (confS cf)).size ≤ 9 := by unfold shortS; rw [ByteArray.size_append, confS_size]; omega
  have s6 : (shortS body).size ≤ 20005 := by unfold shortS; rw [ByteArray.size_append]; omega
  have s7 : (confS cf).size ≤ 4 := by rw [confS_size]; omega
  go_enter Try.func64, Try.ntmps64
  go_wp2_with (first
    | (go_at_call 96; refine (impl_ConfTextH _ _ cf true _ H1 (Kd.C_below HC.out (by repeat (first | exact Below.refl _ _ | apply bl_alloc | apply bl_drewN | apply bl_drew | refine bl_set ?_ (by simp) | refine bl_then ?_ (by assumption)))) hc hl).mono ?_; rintro e w' ⟨rfl, hb⟩; obtain ⟨hc, hf⟩ := bcell hb; have hz : w.heap.size < w'.heap.size := (by have := hb.size; simp at this ⊢; omega))
    | (go_at_call 34; (with_reducible refine (impl_inH _ _ _ true _ H2).mono ?_); rintro e w' ⟨rfl, rfl⟩)
    | (go_at_call 34; (with_reducible refine (impl_inH _ _ _ true _ H3).mono ?_); rintro e w' ⟨rfl, rfl⟩))
  refine wp_region_quiet_below (by kernel_rfl) (by kernel_rfl) ?_
  repeat (first | quiet_step (first | (go_at_call 40; exact Calls.regrown_of (impl_varOf _ _ (by omega) (by omega))) | (go_at_call 41; exact Calls.regrown_of (impl_shortOf _ _ (by omega))) | (go_at_call 95; exact Calls.regrown_of (impl_Sealed_no _ _ (by simp only [ByteArray.size_append]; omega)))) | go_big_quiet_step (fail))
  refine wpQuiet_nil ?_
  intro W2 hw'
  have hbq := bl_regrown hw'
  clear hw'
  obtain ⟨hcq, hfq⟩ := bcell hbq
  go_wp2
  all_goals
    go_ret2
    exact ⟨rfl, (by repeat (first | exact Below.refl _ _ | apply bl_alloc | apply bl_drewN | apply bl_drew | refine bl_set ?_ (by simp) | refine bl_then ?_ (by assumption)))⟩

set_option maxHeartbeats 1000000 in
set_option maxRecDepth 100000 in
theorem impl_SnapText_no6 (i t : Int) (A : Option Addr) (c : Nat) (cf : List Int) (body : ByteArray) (H1 : Hid (confOk cf = true)) (H2 : Hid (inB i 0 1000000 = true)) (H3 : Hid (inB t 0 100000 = true)) (hbz : body.size ≤ 20000) (hz : (varS i).size + (varS t).size + (shortS (confS cf)).size + (shortS body).size ≤ 20000) (hz2 : 20000 < (sealS (varS i ++ varS t ++ shortS (confS cf) ++ shortS body)).size) (w : World) (hC : Kd.C (Kd.int .i64) w A cf.length cf) (hc : cf.length ≤ c) (hl : cf.length ≤ 1048576) (hb : body.size ≤ 1099511627776) :
    Calls Try.prog 64 #[.agg #[.int .i64 i, .int .i64 t, .slice A cf.length c, .string body]] w fun e w' =>
      e = .returned (.tuple #[.string ⟨#[]⟩, .bool false]) ∧ Below w.heap.size w w' := by
  have HC := Lib.hid hC
  clear hC
  obtain ⟨hi0, hi1⟩ := inB_iff.1 H2.out
  obtain ⟨ht0, ht1⟩ := inB_iff.1 H3.out
  have hcl := (confOk_short H1.out).2
  have s1 := varS_size i (by omega) (by omega)
  have s2 := varS_size t (by omega) (by omega)
  have s3 := varS_size cf.length (by omega) (by omega)
  have s4 := varS_size body.size (by omega) (by omega)
  have s5 : (shortS (confS cf)).size ≤ 9 := by unfold shortS; rw [ByteArray.size_append, confS_size]; omega
  have s6 : (shortS body).size ≤ 20005 := by unfold shortS; rw [ByteArray.size_append]; omega
  have s7 : (confS cf).size ≤ 4 := by rw [confS_size]; omega
  go_enter Try.func64, Try.ntmps64
  go_wp2_with (first
    | (go_at_call 96; refine (impl_ConfTextH _ _ cf true _ H1 (Kd.C_below HC.out (by repeat (first | exact Below.refl _ _ | apply bl_alloc | apply bl_drewN | apply bl_drew | refine bl_set ?_ (by simp) | refine bl_then ?_ (by assumption)))) hc hl).mono ?_; rintro e w' ⟨rfl, hb⟩; obtain ⟨hc, hf⟩ := bcell hb; have hz : w.heap.size < w'.heap.size := (by have := hb.size; simp at this ⊢; omega))
    | (go_at_call 34; (with_reducible refine (impl_inH _ _ _ true _ H2).mono ?_); rintro e w' ⟨rfl, rfl⟩)
    | (go_at_call 34; (with_reducible refine (impl_inH _ _ _ true _ H3).mono ?_); rintro e w' ⟨rfl, rfl⟩))
  refine wp_region_quiet_below (by kernel_rfl) (by kernel_rfl) ?_
  repeat (first | quiet_step (first | (go_at_call 40; exact Calls.regrown_of (impl_varOf _ _ (by omega) (by omega))) | (go_at_call 41; exact Calls.regrown_of (impl_shortOf _ _ (by omega))) | (go_at_call 95; exact Calls.regrown_of (impl_Sealed_yes _ _ (by simp only [ByteArray.size_append]; omega)))) | go_big_quiet_step (fail))
  refine wpQuiet_nil ?_
  intro W2 hw'
  have hbq := bl_regrown hw'
  clear hw'
  obtain ⟨hcq, hfq⟩ := bcell hbq
  go_wp2
  all_goals
    go_ret2
    exact ⟨rfl, (by repeat (first | exact Below.refl _ _ | apply bl_alloc | apply bl_drewN | apply bl_drew | refine bl_set ?_ (by simp) | refine bl_then ?_ (by assumption)))⟩

set_option maxHeartbeats 1000000 in
set_option maxRecDepth 100000 in
theorem impl_SnapText_yes (i t : Int) (A : Option Addr) (c : Nat) (cf : List Int) (body : ByteArray) (H1 : Hid (confOk cf = true)) (H2 : Hid (inB i 0 1000000 = true)) (H3 : Hid (inB t 0 100000 = true)) (hbz : body.size ≤ 20000) (hz : (varS i).size + (varS t).size + (shortS (confS cf)).size + (shortS body).size ≤ 20000) (hz2 : (sealS (varS i ++ varS t ++ shortS (confS cf) ++ shortS body)).size ≤ 20000) (w : World) (hC : Kd.C (Kd.int .i64) w A cf.length cf) (hc : cf.length ≤ c) (hl : cf.length ≤ 1048576) (hb : body.size ≤ 1099511627776) :
    Calls Try.prog 64 #[.agg #[.int .i64 i, .int .i64 t, .slice A cf.length c, .string body]] w fun e w' =>
      e = .returned (.tuple #[.string (sealS (varS i ++ varS t ++ shortS (confS cf) ++ shortS body)), .bool true]) ∧ Below w.heap.size w w' := by
  have HC := Lib.hid hC
  clear hC
  obtain ⟨hi0, hi1⟩ := inB_iff.1 H2.out
  obtain ⟨ht0, ht1⟩ := inB_iff.1 H3.out
  have hcl := (confOk_short H1.out).2
  have s1 := varS_size i (by omega) (by omega)
  have s2 := varS_size t (by omega) (by omega)
  have s3 := varS_size cf.length (by omega) (by omega)
  have s4 := varS_size body.size (by omega) (by omega)
  have s5 : (shortS (confS cf)).size ≤ 9 := by unfold shortS; rw [ByteArray.size_append, confS_size]; omega
  have s6 : (shortS body).size ≤ 20005 := by unfold shortS; rw [ByteArray.size_append]; omega
  have s7 : (confS cf).size ≤ 4 := by rw [confS_size]; omega
  go_enter Try.func64, Try.ntmps64
  go_wp2_with (first
    | (go_at_call 96; refine (impl_ConfTextH _ _ cf true _ H1 (Kd.C_below HC.out (by repeat (first | exact Below.refl _ _ | apply bl_alloc | apply bl_drewN | apply bl_drew | refine bl_set ?_ (by simp) | refine bl_then ?_ (by assumption)))) hc hl).mono ?_; rintro e w' ⟨rfl, hb⟩; obtain ⟨hc, hf⟩ := bcell hb; have hz : w.heap.size < w'.heap.size := (by have := hb.size; simp at this ⊢; omega))
    | (go_at_call 34; (with_reducible refine (impl_inH _ _ _ true _ H2).mono ?_); rintro e w' ⟨rfl, rfl⟩)
    | (go_at_call 34; (with_reducible refine (impl_inH _ _ _ true _ H3).mono ?_); rintro e w' ⟨rfl, rfl⟩))
  refine wp_region_quiet_below (by kernel_rfl) (by kernel_rfl) ?_
  repeat (first | quiet_step (first | (go_at_call 40; exact Calls.regrown_of (impl_varOf _ _ (by omega) (by omega))) | (go_at_call 41; exact Calls.regrown_of (impl_shortOf _ _ (by omega))) | (go_at_call 95; exact Calls.regrown_of (impl_Sealed_yes _ _ (by simp only [ByteArray.size_append]; omega)))) | go_big_quiet_step (fail))
  refine wpQuiet_nil ?_
  intro W2 hw'
  have hbq := bl_regrown hw'
  clear hw'
  obtain ⟨hcq, hfq⟩ := bcell hbq
  go_wp2
  all_goals
    go_ret2
    exact ⟨rfl, (by repeat (first | exact Below.refl _ _ | apply bl_alloc | apply bl_drewN | apply bl_drew | refine bl_set ?_ (by simp) | refine bl_then ?_ (by assumption)))⟩

theorem spec_SnapText (i t : Int) (A : Option Addr) (c : Nat) (cf : List Int) (body : ByteArray) (ok : Bool) (w : World) (hok : Hid (snapOk i t cf body = ok)) (hC : Kd.C (Kd.int .i64) w A cf.length cf) (hc : cf.length ≤ c) (hl : cf.length ≤ 1048576) (hb : body.size ≤ 1099511627776) :
    Calls Try.prog 61 #[.agg #[.int .i64 i, .int .i64 t, .slice A cf.length c, .string body]] w fun e w' =>
      e = .returned (.tuple #[.string (if ok then sealS (snapIn i t cf body) else ⟨#[]⟩), .bool ok]) ∧ Below w.heap.size w w' := by
  obtain ⟨b1, h1⟩ : ∃ b1, confOk cf = b1 := ⟨_, rfl⟩
  obtain ⟨b2, h2⟩ : ∃ b2, inB i 0 1000000 = b2 := ⟨_, rfl⟩
  obtain ⟨b3, h3⟩ : ∃ b3, inB t 0 100000 = b3 := ⟨_, rfl⟩
  have hp := snapOk_parts i t cf body b1 b2 b3 h1 h2 h3
  rw [hok.out] at hp
  have hfold : varS i ++ varS t ++ shortS (confS cf) ++ shortS body = snapIn i t cf body := rfl
  have hz : (snapIn i t cf body).size = (varS i).size + (varS t).size + (shortS (confS cf)).size + (shortS body).size := by rw [← hfold]; simp only [ByteArray.size_append]
  cases b1 with
  | false => simp at hp; subst hp; exact spec_SnapText_no1 i t A c cf body (Lib.hid h1) w hC hc hl hb
  | true =>
    cases b2 with
    | false => simp at hp; subst hp; exact spec_SnapText_no2 i t A c cf body (Lib.hid h1) (Lib.hid h2) w hC hc hl hb
    | true =>
      cases b3 with
      | false => simp at hp; subst hp; exact spec_SnapText_no3 i t A c cf body (Lib.hid h1) (Lib.hid h2) (Lib.hid h3) w hC hc hl hb
      | true =>
        by_cases hbz : body.size ≤ 20000
        · by_cases hs : (snapIn i t cf body).size + 4 ≤ 20000
          · simp [hbz, hs] at hp; subst hp
            exact spec_SnapText_yes i t A c cf body (Lib.hid h1) (Lib.hid h2) (Lib.hid h3) hbz (by omega) w hC hc hl hb
          · simp [hs] at hp; subst hp
            exact spec_SnapText_no5 i t A c cf body (Lib.hid h1) (Lib.hid h2) (Lib.hid h3) hbz (by omega) w hC hc hl hb
        · simp [hbz] at hp; subst hp
          exact spec_SnapText_no4 i t A c cf body (Lib.hid h1) (Lib.hid h2) (Lib.hid h3) (by omega) w hC hc hl hb
theorem impl_SnapText (i t : Int) (A : Option Addr) (c : Nat) (cf : List Int) (body : ByteArray) (ok : Bool) (w : World) (hok : Hid (snapOk i t cf body = ok)) (hC : Kd.C (Kd.int .i64) w A cf.length cf) (hc : cf.length ≤ c) (hl : cf.length ≤ 1048576) (hb : body.size ≤ 1099511627776) :
    Calls Try.prog 64 #[.agg #[.int .i64 i, .int .i64 t, .slice A cf.length c, .string body]] w fun e w' =>
      e = .returned (.tuple #[.string (if ok then sealS (snapIn i t cf body) else ⟨#[]⟩), .bool ok]) ∧ Below w.heap.size w w' := by
  obtain ⟨b1, h1⟩ : ∃ b1, confOk cf = b1 := ⟨_, rfl⟩
  obtain ⟨b2, h2⟩ : ∃ b2, inB i 0 1000000 = b2 := ⟨_, rfl⟩
  obtain ⟨b3, h3⟩ : ∃ b3, inB t 0 100000 = b3 := ⟨_, rfl⟩
  have hp := snapOk_parts i t cf body b1 b2 b3 h1 h2 h3
  rw [hok.out] at hp
  have hfold : varS i ++ varS t ++ shortS (confS cf) ++ shortS body = snapIn i t cf body := rfl
  have hz : (snapIn i t cf body).size = (varS i).size + (varS t).size + (shortS (confS cf)).size + (shortS body).size := by rw [← hfold]; simp only [ByteArray.size_append]
  have hz2 : (sealS (varS i ++ varS t ++ shortS (confS cf) ++ shortS body)).size = (snapIn i t cf body).size + 4 := by rw [hfold, sealS_size]
  cases b2 with
  | false => simp at hp; subst hp; exact impl_SnapText_no1 i t A c cf body b1 (Lib.hid h1) (Lib.hid h2) w hC hc hl hb
  | true =>
    cases b3 with
    | false => simp at hp; subst hp; exact impl_SnapText_no2 i t A c cf body b1 (Lib.hid h1) (Lib.hid h2) (Lib.hid h3) w hC hc hl hb
    | true =>
      cases b1 with
      | false => simp at hp; subst hp; exact impl_SnapText_no3 i t A c cf body (Lib.hid h1) (Lib.hid h2) (Lib.hid h3) w hC hc hl hb
      | true =>
        by_cases hbz : body.size ≤ 20000
        · by_cases hs : (snapIn i t cf body).size + 4 ≤ 20000
          · simp [hbz, hs] at hp; subst hp
            exact impl_SnapText_yes i t A c cf body (Lib.hid h1) (Lib.hid h2) (Lib.hid h3) hbz (by omega) (by omega) w hC hc hl hb
          · simp [hs] at hp; subst hp
            by_cases hs2 : (snapIn i t cf body).size ≤ 20000
            · exact impl_SnapText_no6 i t A c cf body (Lib.hid h1) (Lib.hid h2) (Lib.hid h3) hbz (by omega) (by omega) w hC hc hl hb
            · exact impl_SnapText_no5 i t A c cf body (Lib.hid h1) (Lib.hid h2) (Lib.hid h3) hbz (by omega) w hC hc hl hb
        · simp [hbz] at hp; subst hp
          exact impl_SnapText_no4 i t A c cf body (Lib.hid h1) (Lib.hid h2) (Lib.hid h3) (by omega) w hC hc hl hb
end Go.Proofs.Ytlbikcelfheohaa
end
