import Derived.Test.YtdjikjmjajlgcaaOFnPutsB
import Derived.Test.YtdjikjmjajlgcaaPFnPutsB
import Derived.Test.YtdjikjmjajlgcaaOFnPutsC
import Derived.Lib.SliceRun
import Derived.Test.YtdjikjmjajlgcaaOFnPutsA

/-! ### YtdjikjmjajlgcaaLogOk -/
section
namespace Go.Proofs.Ytdjikjmjajlgcaa.PFnPuts
open Go.RowKit Go.Proofs.YtdjikjmjajlgcaaW.PrintWords
set_option linter.unusedSimpArgs false
set_option linter.unusedVariables false

/-! Right logs: both programs' are one plain law. (own) -/
def logEnts (xs : List S54) : Nat → Nat → Int → Bool
  | _, 0, _ => true
  | i, n + 1, pt => entryOk (rd_T54 xs i).f0 (rd_T54 xs i).f1 (rd_T54 xs i).f2 && !decide ((rd_T54 xs i).f0 < pt) && logEnts xs (i + 1) n (rd_T54 xs i).f0
def logOkB (s t : Int) (xs : List S54) : Bool := decide (0 ≤ s ∧ s ≤ 1000000) && (decide (0 ≤ t ∧ t ≤ 100000) && (decide (xs.length ≤ 60) && (decide (s + xs.length ≤ 1000000) && logEnts xs 0 xs.length t)))
/-- The texts of the entries are short. -/
def ShortE (xs : List S54) : Prop := ∀ i : Nat, (rd_T54 xs (i : Int)).f2.size ≤ 1000
theorem short_mem {xs : List S54} (h : ∀ x ∈ xs, x.f2.size ≤ 1000) : ShortE xs := by
  intro i
  by_cases hi : i < xs.length
  · have : rd_T54 xs (i : Int) = xs[i] := by simp [rd_T54, hi]
    rw [this]
    exact h _ (List.getElem_mem hi)
  · have : rd_T54 xs (i : Int) = z54 := by simp [rd_T54, hi]
    rw [this]
    exact Nat.zero_le _
theorem ilog_l0 (xs : List S54) (hS : ShortE xs) (hl : xs.length ≤ 1048576) : ∀ (n k i : Nat) (pt : Int), n + i = xs.length → n + 3000 < k → impl_LogOk.l0 k pt xs xs.length i = some (logEnts xs i n pt)
  | n, 0, _, _, _, hk => by omega
  | 0, k + 1, i, pt, h, _ => by
    unfold impl_LogOk.l0
    rw [if_neg (by omega)]
    rfl
  | n + 1, k + 1, i, pt, h, hk => by
    have e1 : wrap64 ((i : Int) + 1) = ((i + 1 : Nat) : Int) := by unfold wrap64; omega
    have hs := hS i
    unfold impl_LogOk.l0
    rw [if_pos (by omega), if_pos (by omega), if_pos (by omega), ientry_f _ _ _ k (by omega) (by omega), Option.bind_some, e1, ilog_l0 xs hS hl n k (i + 1) _ (by omega) (by omega)]
    simp only [logEnts]
    cases entryOk (rd_T54 xs (i : Int)).f0 (rd_T54 xs (i : Int)).f1 (rd_T54 xs (i : Int)).f2 with
    | false => simp
    | true =>
      by_cases hlt : (rd_T54 xs (i : Int)).f0 < pt
      · simp [hlt]
      · simp [hlt]
theorem slog_l0 (xs : List S54) (hS : ShortE xs) (hl : xs.length ≤ 1048576) (a b : Int) : ∀ (n k i : Nat) (pt : Int), n + i = xs.length → n + 3000 < k → spec_LogOk.l0 k pt i a b xs = some (logEnts xs i n pt)
  | n, 0, _, _, _, hk => by omega
  | 0, k + 1, i, pt, h, _ => by
    unfold spec_LogOk.l0
    rw [if_neg (by omega)]
    rfl
  | n + 1, k + 1, i, pt, h, hk => by
    have e1 : wrap64 ((i : Int) + 1) = ((i + 1 : Nat) : Int) := by unfold wrap64; omega
    have hs := hS i
    unfold spec_LogOk.l0
    rw [if_pos (by omega), if_pos (by omega), sentry_f _ _ _ k (by omega) (by omega), Option.bind_some, e1, slog_l0 xs hS hl a b n k (i + 1) _ (by omega) (by omega)]
    simp only [logEnts]
    cases entryOk (rd_T54 xs (i : Int)).f0 (rd_T54 xs (i : Int)).f1 (rd_T54 xs (i : Int)).f2 with
    | false => simp
    | true =>
      by_cases hlt : (rd_T54 xs (i : Int)).f0 < pt
      · simp [hlt]
      · simp [hlt]
theorem ilog_f (s t : Int) (xs : List S54) (hS : ShortE xs) (hl : xs.length ≤ 1048576) : impl_LogOk.f 1100000 s t xs = some (logOkB s t xs) := by
  have hj : ∀ q, impl_LogOk.j0 1100000 q s t xs = some (!q && logEnts xs 0 xs.length t) := fun q => by
    unfold impl_LogOk.j0
    cases q with
    | true => simp
    | false =>
      simp only [Bool.false_eq_true, if_false]
      have := ilog_l0 xs hS hl xs.length 1099999 0 t (by omega) (by omega)
      simpa using this
  unfold impl_LogOk.f logOkB
  rw [in_f, in_f, Option.bind_some, Option.bind_some, hj, hj]
  by_cases h1 : 0 ≤ s ∧ s ≤ 1000000
  · by_cases h2 : 0 ≤ t ∧ t ≤ 100000
    · by_cases h3 : (xs.length : Int) > 60
      · simp [h1, h2, h3, show ¬ xs.length ≤ 60 from by omega]
      · have e : wrap64 (s + (xs.length : Int)) = s + (xs.length : Int) := by unfold wrap64; omega
        simp [h1, h2, h3, e, show xs.length ≤ 60 from by omega]
        by_cases h4 : s + (xs.length : Int) ≤ 1000000
        · simp [h4, show ¬ 1000000 < s + (xs.length : Int) from by omega]
        · simp [h4, show 1000000 < s + (xs.length : Int) from by omega]
    · simp [h1, h2]
  · simp [h1]
theorem slog_f (s t : Int) (xs : List S54) (hS : ShortE xs) (hl : xs.length ≤ 1048576) : spec_LogOk.f 1100000 s t xs = some (logOkB s t xs) := by
  have hj : ∀ q, spec_LogOk.j0 1100000 q s t xs = some (!q && logEnts xs 0 xs.length t) := fun q => by
    unfold spec_LogOk.j0
    cases q with
    | true => simp
    | false =>
      simp only [Bool.false_eq_true, if_false]
      have := slog_l0 xs hS hl s t xs.length 1099999 0 t (by omega) (by omega)
      simpa using this
  unfold spec_LogOk.f logOkB
  rw [l01In_f, l01In_f, Option.bind_some, Option.bind_some, hj, hj]
  by_cases h1 : 0 ≤ s ∧ s ≤ 1000000
  · by_cases h2 : 0 ≤ t ∧ t ≤ 100000
    · by_cases h3 : (xs.length : Int) > 60
      · simp [h1, h2, h3, show ¬ xs.length ≤ 60 from by omega]
      · have e : wrap64 (s + (xs.length : Int)) = s + (xs.length : Int) := by unfold wrap64; omega
        simp [h1, h2, h3, e, show xs.length ≤ 60 from by omega]
        by_cases h4 : s + (xs.length : Int) ≤ 1000000
        · simp [h4, show ¬ 1000000 < s + (xs.length : Int) from by omega]
        · simp [h4, show 1000000 < s + (xs.length : Int) from by omega]
    · simp [h1, h2]
  · simp [h1]
theorem impl_LogOkH (s t : Int) (A : Option Addr) (c : Nat) (xs : List S54) (q : Bool) (w : World) (h : Hid (logOkB s t xs = q)) (hS : ShortE xs) (hl : xs.length ≤ 1048576) (hr : Kd.C k54 w A xs.length xs) (hc : xs.length ≤ c) :
    Calls Try.prog 41 #[.agg #[.int .i64 s, .int .i64 t, .slice A xs.length c]] w fun e w' => e = .returned (.bool q) ∧ Below w.heap.size w w' := by
  have hf := ilog_f s t xs hS hl
  rw [h.out] at hf
  exact impl_LogOk.calls 1100000 s t A c xs q w hr hc hf
theorem spec_LogOkH (s t : Int) (A : Option Addr) (c : Nat) (xs : List S54) (q : Bool) (w : World) (h : Hid (logOkB s t xs = q)) (hS : ShortE xs) (hl : xs.length ≤ 1048576) (hr : Kd.C k54 w A xs.length xs) (hc : xs.length ≤ c) :
    Calls Try.prog 35 #[.agg #[.int .i64 s, .int .i64 t, .slice A xs.length c]] w fun e w' => e = .returned (.bool q) ∧ Below w.heap.size w w' := by
  have hf := slog_f s t xs hS hl
  rw [h.out] at hf
  exact spec_LogOk.calls 1100000 s t A c xs q w hr hc hf
end Go.Proofs.Ytdjikjmjajlgcaa.PFnPuts
end

/-! ### YtdjikjmjajlgcaaLogClone -/
section
namespace Go.Proofs.Ytdjikjmjajlgcaa.PFnPuts
open Go.RowKit Go.Proofs.YtdjikjmjajlgcaaW.PrintWords
set_option linter.unusedSimpArgs false
set_option linter.unusedVariables false

/-! A copy of entries: slices.Clone. (own) -/
theorem eql_ents_nil (w : World) (a : Option Addr) (n c : Nat) : (binOp .eql 29 (.slice a n c) (.slice none 0 0)).run Try.prog w = .ok (.bool a.isNone) w := Go.Lib.run_eql_slice_nil w 29 54 a n c 0 0 Try.underlying29
attribute [local go_sem] eql_ents_nil
set_option maxHeartbeats 1000000 in
set_option maxRecDepth 100000 in
theorem clone_C (A : Option Addr) (c : Nat) (xs : List S54) (w : World) (hr : Kd.C k54 w A xs.length xs) (hc : xs.length ≤ c) (hl : xs.length ≤ 1048576) (hnil : A = none → c = 0) :
    Calls Try.prog 115 #[.slice A xs.length c] w fun e w' => ∃ v, e = .returned v ∧ Kd.R k54 54 w' w.heap.size (fun k => w.heap.size ≤ k) v xs ∧ Below w.heap.size w w' := by
  have HC := Lib.hid hr
  clear hr
  rcases A with _ | ad
  · have h0 := hnil rfl
    have hx : xs = [] := List.eq_nil_of_length_eq_zero (by omega)
    subst hx h0
    go_enter Try.func115, Try.ntmps115
    go_wp2_with fail
    go_ret
    exact ⟨_, rfl, Kd.R_nil _ _ _ _ _, Below.refl _ _⟩
  · have hE := ents_empty (w := w) (W := w) (Nat.le_refl _)
    go_enter Try.func115, Try.ntmps115
    go_wp2_with (first | (refine Kd.R_append_rows (w0 := w) k54 w.heap.size rfl (.tmp 5) (.tmp 6) 29 54 (.agg #[.int .i64 0, .int .i64 0, .string ⟨#[]⟩]) 32 rfl Try.underlying29 (by kernel_rfl) rfl (by decide) (by decide) (.slice (some ⟨w.heap.size, 0, none⟩) 0 0) [] xs (some ad) xs.length c (fun k => w.heap.size ≤ k) (fun _ => False) rfl rfl hE.1 (Kd.C_below HC.out (bl_alloc (Below.refl _ _) _)) (fun x cs hx => by rw [k54_open hx]; exact k54_mkM _ _ _ x) (fun k h => h.elim) (fun k hk => by simp at hk; omega) (bl_alloc (Below.refl _ _) _) (by simp) (by simp; omega) ?_; intro v1 w1 hR1 hB1 hg1 hat1))
    go_ret
    exact ⟨v1, rfl, by simpa using hR1, hB1⟩
set_option maxHeartbeats 1000000 in
set_option maxRecDepth 100000 in
theorem cloneLog_C (s t : Int) (A : Option Addr) (c : Nat) (xs : List S54) (w : World) (hr : Kd.C k54 w A xs.length xs) (hc : xs.length ≤ c) (hl : xs.length ≤ 1048576) (hnil : A = none → c = 0) (hx : ∀ x ∈ xs, x.f2.size ≤ 200) :
    Calls Try.prog 109 #[.agg #[.int .i64 s, .int .i64 t, .slice A xs.length c]] w fun e w' => (∃ v, e = .returned (.agg #[.int .i64 s, .int .i64 t, v]) ∧ Ents w w' v xs) ∧ Below w.heap.size w w' := by
  have HC := Lib.hid hr
  clear hr
  go_enter Try.func109, Try.ntmps109
  go_wp2_with fail
  refine calls_at (fun X => Blk 67 w.heap.size #[.int .i64 s, .int .i64 t, .slice A xs.length c] X ∧ Blk 67 (w.heap.size + 1) #[.int .i64 0, .int .i64 0, .slice none 0 0] X ∧ Below w.heap.size w X) ⟨(Blk.new _ _ w).alloc _, Blk.newE _ _ (w.alloc _) (by simp), bl_alloc (bl_alloc (Below.refl _ _) _) _⟩ ?_
  rintro X ⟨k1, k2, hB⟩
  refine (clone_C A c xs X (Kd.C_below HC.out hB) hc hl hnil).mono ?_
  rintro e W1 ⟨v, rfl, hR, hB1⟩
  have he : Ents w W1 v xs := ⟨Kd.R_mono (Kd.R_lower hR hB.size) (fun k hk => Nat.le_trans hB.size hk), hx⟩
  replace k1 := k1.below hB1
  replace k2 := k2.below hB1
  have hB2 := bl_then hB hB1
  obtain ⟨A2, c2, rfl, -, -⟩ := Kd.R_reads hR
  have HE := Lib.hid he
  clear he hR hB hB1 X
  have a0 := k1.cell 0 rfl
  have a1 := k1.cell 1 rfl
  have a2 := k1.cell 2 rfl
  have b2 := k1.free 2
  have l1 := k1.lt
  have c0 := k2.cell 0 rfl
  have c1 := k2.cell 1 rfl
  have c2' := k2.cell 2 rfl
  have f0 := k2.free 0
  have f1 := k2.free 1
  have f2 := k2.free 2
  have l2 := k2.lt
  go_wp2_with fail
  have m1 : w.heap.size + 1 ≠ w.heap.size := by omega
  have y0 := k2.far (a := ⟨w.heap.size, 2, none⟩) m1 (.slice A2 xs.length c2)
  have e0 := HE.out.far k1 (by decide) 2 (.slice A2 xs.length c2)
  have y1 := y0.set 0 (.int .i64 s) (cs' := #[.int .i64 s, .int .i64 0, .slice none 0 0]) rfl
  have e1 := e0.far y0 (by decide) 0 (.int .i64 s)
  have y2 := y1.set 1 (.int .i64 t) (cs' := #[.int .i64 s, .int .i64 t, .slice none 0 0]) rfl
  have e2 := e1.far y1 (by decide) 1 (.int .i64 t)
  have y3 := y2.set 2 (.slice A2 xs.length c2) (cs' := #[.int .i64 s, .int .i64 t, .slice A2 xs.length c2]) rfl
  have e3 := e2.far y2 (by decide) 2 (.slice A2 xs.length c2)
  exact bodyPost_ret (results_cell_row rfl _ _ (w.heap.size + 1) 67 #[.int .i64 s, .int .i64 t, .slice A2 xs.length c2] (0, 0) _ rfl y3 Try.underlying67 rfl (by kernel_rfl)) rfl ⟨⟨_, rfl, e3⟩, bl_set (bl_set (bl_set (bl_set hB2 (Nat.le_refl _)) (Nat.le_succ _)) (Nat.le_succ _)) (Nat.le_succ _)⟩
end Go.Proofs.Ytdjikjmjajlgcaa.PFnPuts
end

/-! ### YtdjikjmjajlgcaaLogPutD -/
section
namespace Go.Proofs.Ytdjikjmjajlgcaa.PFnPuts
open Go.RowKit Go.Proofs.YtdjikjmjajlgcaaW.PrintWords
set_option linter.unusedSimpArgs false
set_option linter.unusedVariables false

theorem place_C (n : Int) {w0 w : World} {g : Nat} (hc : Cur w0 w g) :
    Calls Try.prog 107 #[.pointer (some ⟨g, 0, none⟩), .int .i64 n] w fun e w' => ∃ r : Int, e = .returned (.int .i64 r) ∧ Cur w0 w' g ∧ KeepBut w w' g none := by
  obtain ⟨bs, i, s, h1, h2, h3, h4, h5⟩ := hc
  obtain ⟨q, i1, s1, e1, g2, g3⟩ := once_t bs i s 15 h2 h3 h1
  have hf : ∃ r i' h', spec_l01Place.f bs i s n = some (r, i', h') ∧ 0 ≤ i' ∧ i' ≤ (bs.length : Int) := by
    unfold spec_l01Place.f
    rw [e1, Option.bind_some]
    cases q with
    | true =>
      obtain ⟨r2, i2, s2, e2, -, g4, g5⟩ := pickInt_t bs i1 s1 [-1, n, wrap64 (n + 1), 9223372036854775807, -9223372036854775808] (by simp) g2 g3 h1
      simp only [if_true]
      rw [e2, Option.bind_some]
      exact ⟨_, _, _, rfl, g4, g5⟩
    | false =>
      obtain ⟨r2, i2, s2, e2, -, g4, g5⟩ := below_t bs i1 s1 n g2 g3 h1
      simp only [Bool.false_eq_true, if_false]
      rw [e2, Option.bind_some]
      exact ⟨_, _, _, rfl, g4, g5⟩
  obtain ⟨r, i', s', e, h6, h7⟩ := hf
  refine (spec_l01Place.calls g bs i s n r i' s' w0 w h4 h5 e).mono ?_
  rintro e w' ⟨rfl, k1, k2, k3⟩
  exact ⟨r, rfl, ⟨bs, i', s', h1, h6, h7, k1, k2⟩, k3⟩
theorem last_C (s t : Int) (A : Option Addr) (c : Nat) (xs : List S54) (w : World) (hr : Kd.C k54 w A xs.length xs) (hc : xs.length ≤ c) (hl : xs.length ≤ 1048576) :
    Calls Try.prog 103 #[.agg #[.int .i64 s, .int .i64 t, .slice A xs.length c]] w fun e w' => (∃ a b : Int, e = .returned (.tuple #[.int .i64 a, .int .i64 b])) ∧ Below w.heap.size w w' := by
  have hf : ∃ a b, spec_LogLast.f s t xs = some (a, b) := by
    unfold spec_LogLast.f
    by_cases h : (xs.length : Int) = 0
    · rw [if_pos h]; exact ⟨_, _, rfl⟩
    · have e : wrap64 ((xs.length : Int) - 1) = (xs.length : Int) - 1 := by unfold wrap64; omega
      rw [if_neg h, e, if_pos (by omega), if_pos (by omega)]
      exact ⟨_, _, rfl⟩
  obtain ⟨a, b, e⟩ := hf
  refine (spec_LogLast.calls s t A c xs a b w hr hc e).mono ?_
  rintro e w' ⟨rfl, hb⟩
  exact ⟨⟨a, b, rfl⟩, hb⟩
theorem kcellR {g r : Nat} {W w1 : World} (h : KeepBut W w1 g (some r)) : (∀ b o, b < W.heap.size → b ≠ g → b ≠ r → w1.cell? ⟨b, o, none⟩ = W.cell? ⟨b, o, none⟩) ∧ (∀ b o, b < W.heap.size → b ≠ g → b ≠ r → w1.frozen? ⟨b, o, none⟩ = W.frozen? ⟨b, o, none⟩) :=
  ⟨fun b o hb hg hr => by simp only [World.cell?, h.2 b hb hg (by simpa using hr)], fun b o hb hg hr => by simp only [World.frozen?, h.2 b hb hg (by simpa using hr)]⟩
theorem Ents.farB {w W : World} {v : Value} {xs : List S54} {b : Nat} (h : Ents w W v xs) (hne : ∀ k, w.heap.size ≤ k → k ≠ b) (o : Nat) (u : Value) : Ents w (W.setCell ⟨b, o, none⟩ u) v xs := ⟨Kd.R_far h.1 (p := ⟨b, o, none⟩) hne u, h.2⟩
theorem LR.row {w0 a b : World} {g r : Nat} (h : LR w0 g (some r) a b) (hgr : g ≠ r) (hr : w0.heap.size ≤ r) (o : Nat) (u : Value) : LR w0 g (some r) a (b.setCell ⟨r, o, none⟩ u) :=
  ⟨fun c => (h.1 c).far (p := ⟨r, o, none⟩) hgr hr u, by simpa using h.2.1, fun i hi hg hne => (Below.heap_setCell b ⟨r, o, none⟩ u i (fun e => hne (by rw [e]))).trans (h.2.2 i hi hg hne)⟩
/-- What is to be put, under way. -/
def PutAt (E W1 : World) (g b6 b9 : Nat) (s t : Int) (v : Value) (xs : List S54) (W : World) : Prop := Dw E W1 g W ∧ Blk 67 b6 #[.int .i64 s, .int .i64 t, v] W ∧ Ents W1 W v xs ∧ ∃ (te ke : Int) (de : ByteArray), de.size ≤ 200 ∧ Blk 54 b9 #[.int .i64 te, .int .i64 ke, .string de] W ∧ some b9 ≠ v.ownBlock
theorem Ents.farN {w W : World} {v : Value} {xs : List S54} {b : Nat} (h : Ents w W v xs) (hne : some b ≠ v.ownBlock) (o : Nat) (u : Value) : Ents w (W.setCell ⟨b, o, none⟩ u) v xs :=
  ⟨Kd.R_mono (Kd.R_far (Kd.R_far1 h.1 rfl hne) (p := ⟨b, o, none⟩) (fun k hk => hk.2) u) (fun k hk => hk.1), h.2⟩

set_option maxHeartbeats 4000000 in
set_option maxRecDepth 100000 in
theorem drawLogPut_C (A : Option Addr) (c : Nat) (bs : List Int) (w : World) (hb : bs.length ≤ 1048576) (hr : Kd.C (Kd.int .u8) w A bs.length bs) (hc : bs.length ≤ c) :
    Calls Try.prog 31 #[.slice A bs.length c] w fun e w' => (∃ (s t i : Int) (v : Value) (xs : List S54) (te ke : Int) (de : ByteArray), e = .returned (.tuple #[.agg #[.int .i64 s, .int .i64 t, v], .int .i64 i, .agg #[.int .i64 te, .int .i64 ke, .string de]]) ∧ xs.length ≤ 100 ∧ Ents w w' v xs ∧ de.size ≤ 200) ∧ Below w.heap.size w w' := by
  go_enter Try.func31, Try.ntmps31
  go_wp2_with fail
  obtain ⟨E, hE⟩ : ∃ E, E = (w.alloc (.cells #[.int .i64 0, .int .i64 0, .slice none 0 0] 67)).alloc (.cells #[.int .i64 0, .int .i64 0, .string ⟨#[]⟩] 54) := ⟨_, rfl⟩
  have k2 : Blk 67 w.heap.size #[.int .i64 0, .int .i64 0, .slice none 0 0] E := by rw [hE]; exact (Blk.new _ _ w).alloc _
  have k4 : Blk 54 (w.heap.size + 1) #[.int .i64 0, .int .i64 0, .string ⟨#[]⟩] E := by rw [hE]; exact Blk.newE _ _ (w.alloc _) (by simp)
  have HE : Below w.heap.size w E := by rw [hE]; exact (by repeat (first | exact Below.refl _ _ | apply bl_alloc | apply bl_drewN | apply bl_drew | refine bl_set ?_ (by simp) | refine bl_then ?_ (by assumption)))
  rw [← hE]
  clear hE
  refine (new_C0 A c bs w E hb HE hr hc).mono ?_
  rintro e W1 ⟨g, rfl, hC1, hgE, hBE1⟩
  have k2W := k2.below hBE1
  have k4W := k4.below hBE1
  clear k2
  have lE := k4.lt
  have hge := hC1.ge
  have hgl := hC1.lt
  have hws := hC1.bl.size
  clear hr
  go_wp2_with fail
  refine (logAny_C hC1).mono ?_
  rintro e W2 ⟨⟨s, t, v, xs, rfl, hn, he⟩, D2⟩
  obtain ⟨A2, c2, rfl, hcap, hC⟩ := Kd.R_reads he.1
  have HEn := Lib.hid he
  clear he hC
  go_wp2_with fail
  obtain ⟨b6, hb6⟩ : ∃ b6, b6 = W2.heap.size := ⟨_, rfl⟩
  have z2 := D2.size
  refine calls_at (fun X => Dw w W1 g X ∧ Blk 67 b6 #[.int .i64 s, .int .i64 t, .slice A2 xs.length c2] X ∧ Ents W1 X (.slice A2 xs.length c2) xs) ⟨D2.alloc _, Blk.newE _ _ W2 hb6, HEn.out.below (bl_alloc (Below.refl _ _) _)⟩ ?_
  rw [← hb6]
  have n6 : W1.heap.size ≤ b6 := by omega
  clear hb6 D2 HEn z2 W2 hC1
  rintro W3 ⟨D3, k6, he⟩
  obtain ⟨A3, c3, hv, hcap3, hC3⟩ := Kd.R_reads he.1
  have hA : A2 = A3 := by injection hv
  subst hA
  have HEn := Lib.hid he
  clear he hv
  refine (last_C s t A2 c2 xs W3 hC3 hcap (by omega)).mono ?_
  rintro e W4 ⟨⟨la, lb, rfl⟩, hb4⟩
  have D4 := D3.below hb4
  replace k6 := k6.below hb4
  replace HEn := Lib.hid (HEn.out.below hb4)
  clear D3 hb4 hC3 W3
  go_wp2_with fail
  refine (below_C 2 D4.1).mono ?_
  rintro e W5 ⟨r5, rfl, -, hc5, hk5⟩
  have D5 := D4.step hc5 hk5
  replace k6 := blk_keep k6 hk5 (by omega)
  replace HEn := Lib.hid (HEn.out.keep hk5 hgl)
  clear D4 hc5 hk5 W4
  go_wp2_with fail
  refine (ent_C D5.1 _).mono ?_
  rintro e W6 ⟨⟨te, ke, de, rfl, hde⟩, D6⟩
  have D7 := D5.step D6.1 D6.2
  replace k6 := blk_keep k6 D6.2 (by omega)
  replace HEn := Lib.hid (HEn.out.keep D6.2 hgl)
  clear D5 D6 W5
  have l6 := k6.lt
  go_wp2_with fail
  obtain ⟨b9, hb9⟩ : ∃ b9, b9 = W6.heap.size := ⟨_, rfl⟩
  refine calls_at (PutAt w W1 g b6 b9 s t (.slice A2 xs.length c2) xs) ⟨D7.alloc _, k6.alloc _, HEn.out.below (bl_alloc (Below.refl _ _) _), te, ke, de, hde, Blk.newE _ _ W6 hb9, fun e => by have := Kd.R_lt HEn.out.1 b9 e.symm; omega⟩ ?_
  rw [← hb9]
  have n9 : b6 < b9 := by omega
  clear hb9 D7 HEn k6 l6 W6 hde
  intro W7 hP
  refine (once_C 8 hP.1.1).mono ?_
  rintro e W8 ⟨q, rfl, hc8, hk8⟩
  have hQ : PutAt w W1 g b6 b9 s t (.slice A2 xs.length c2) xs W8 := by
    obtain ⟨D, k6, he, te, ke, de, hde, k9, hne⟩ := hP
    exact ⟨D.step hc8 hk8, blk_keep k6 hk8 (by omega), he.keep hk8 hgl, te, ke, de, hde, blk_keep k9 hk8 (by omega), hne⟩
  clear hP hc8 hk8 W7
  go_upto_if 26 with fail
  go_cut [] from 27 to 28 (fun wx => PutAt w W1 g b6 b9 s t (.slice A2 xs.length c2) xs wx)
  case first =>
    cases q with
    | false =>
      go_wp2_with fail
      go_meet
      exact hQ
    | true =>
      obtain ⟨D, k6, he, te, ke, de, hde, k9, hne⟩ := hQ
      have HEn := Lib.hid he
      clear he
      go_wp2_with fail
      refine (any_C D.1).mono ?_
      rintro e W9 ⟨⟨te2, ke2, de2, rfl, hde2⟩, DD⟩
      have D9 := D.step DD.1 DD.2
      have q6 := blk_keep k6 DD.2 (by omega)
      have q9 := blk_keep k9 DD.2 (by omega)
      have HE9 := Lib.hid (HEn.out.keep DD.2 hgl)
      clear D DD k6 k9 HEn
      have c90 := q9.cell 0 rfl
      have c91 := q9.cell 1 rfl
      have c92 := q9.cell 2 rfl
      have f90 := q9.free 0
      have f91 := q9.free 1
      have f92 := q9.free 2
      have l9 := q9.lt
      go_wp2_with fail
      go_meet
      exact ⟨dw_ent D9 hgl (by omega) hws te2 ke2 de2, ((q6.far (a := ⟨b9, 0, none⟩) (by show b6 ≠ b9; omega) _).far (a := ⟨b9, 1, none⟩) (by show b6 ≠ b9; omega) _).far (a := ⟨b9, 2, none⟩) (by show b6 ≠ b9; omega) _, ((HE9.out.farN hne 0 _).farN hne 1 _).farN hne 2 _, te2, ke2, de2, hde2, ((q9.set 0 _ rfl).set 1 _ rfl).set 2 _ rfl, hne⟩
  case rest =>
    have hP := hcut
    clear hQ hcut
    obtain ⟨D, k6, he, te, ke, de, hde, k9, hne⟩ := hP
    have HEn := Lib.hid he
    clear he
    have c60 := k6.cell 0 rfl
    have c61 := k6.cell 1 rfl
    have c62 := k6.cell 2 rfl
    have l6 := k6.lt
    have c90 := k9.cell 0 rfl
    have c91 := k9.cell 1 rfl
    have c92 := k9.cell 2 rfl
    have l9 := k9.lt
    have n6g : b6 ≠ g := by omega
    have n9g : b9 ≠ g := by omega
    go_upto_region 7 with fail
    have n2g : w.heap.size ≠ g := by omega
    have n4g : w.heap.size + 1 ≠ g := by omega
    have n62 : b6 ≠ w.heap.size := by omega
    have n92 : b9 ≠ w.heap.size := by omega
    have hBE := D.1.bl
    have k2c : Blk 67 w.heap.size #[.int .i64 0, .int .i64 0, .slice none 0 0] wc := blk_keep k2W D.2 n2g
    have k4c : Blk 54 (w.heap.size + 1) #[.int .i64 0, .int .i64 0, .string ⟨#[]⟩] wc := blk_keep k4W D.2 n4g
    refine wp_region_flowT (L := LR w g (some w.heap.size)) (M := LD w g) (J := fun W => Blk 67 w.heap.size #[.int .i64 0, .int .i64 0, .slice none 0 0] W) (J1 := fun W => Blk 67 w.heap.size #[.int .i64 s, .int .i64 t, .slice A2 xs.length c2] W) 11 k2c (fun _ _ h k => blk_keep h k.2 n2g) (fun _ _ h k => blk_keep h k.2 n2g) (LR.of w g _) (LR.drew w g _) (LR.trans w g _) [2, 5, 6, 9] 40 13 (by kernel_rfl) (by rfl) (by kernel_rfl) (by kernel_rfl) (by kernel_rfl) (by kernel_rfl) ?_
    iterate 8 (refine flowT_valE (by decide) ?_; apply Exists.intro; refine ⟨fun A wq hLq hbq hdq => ?_, ?_⟩; focus (obtain ⟨hkc, hkf⟩ := kcellR hLq.2; have hkz := hLq.2.1; (try simp [go_sem, baseF, deps, dep1, Region.binds] at hbq); (try simp [go_sem, baseF, deps, dep1, Region.binds] at hdq); go_simp; first | exact ⟨LD.refl _ _ _, rfl⟩ | (fail)))
    refine flowT_R (by decide) (fun _ u => ∃ r : Int, u = .int .i64 r) (fun _ _ _ h _ => h) (fun A wq hLq hbq hdq => ?_) ?_
    · (try simp [go_sem, baseF, deps, dep1, Region.binds] at hbq)
      (try simp [go_sem, baseF, deps, dep1, Region.binds] at hdq)
      go_simp
      refine (place_C _ (hLq.1 D.1)).mono ?_
      rintro e w5 ⟨r, rfl, hc5, hk5⟩
      exact ⟨_, rfl, ⟨fun _ => hc5, hk5⟩, r, rfl⟩
    refine flowT_R (by decide) (fun _ u => ∃ r : Int, u = .int .i64 r) (fun _ _ _ h _ => h) (fun A wq hLq hbq hdq => ?_) ?_
    · (try simp [go_sem, baseF, deps, dep1, Region.binds] at hdq)
      obtain ⟨h31, r, h37⟩ := hdq
      go_simp
      first | exact ⟨LD.refl _ _ _, _, rfl⟩
    (refine flowT_valE (by decide) ?_; apply Exists.intro; refine ⟨fun A wq hLq hbq hdq => ?_, ?_⟩; focus (obtain ⟨hkc, hkf⟩ := kcellR hLq.2; have hkz := hLq.2.1; (try simp [go_sem, baseF, deps, dep1, Region.binds] at hbq); (try simp [go_sem, baseF, deps, dep1, Region.binds] at hdq); go_simp; first | exact ⟨LD.refl _ _ _, rfl⟩ | (fail)))
    refine flowT_store rfl (fun A wq hLq hJ hbq hdq => ?_) ?_
    · (try simp [go_sem, baseF, deps, dep1, Region.binds] at hbq)
      (try simp [go_sem, baseF, deps, dep1, Region.binds] at hdq)
      have y0 := hJ.cell 0 rfl
      have y1 := hJ.cell 1 rfl
      have y2 := hJ.cell 2 rfl
      have z0 := hJ.free 0
      have z1 := hJ.free 1
      have z2 := hJ.free 2
      have ly := hJ.lt
      go_simp
      exact ⟨(((LR.of w g (some w.heap.size) _ _ (LD.refl w g wq)).row (fun e => n2g e.symm) (Nat.le_refl _) 0 _).row (fun e => n2g e.symm) (Nat.le_refl _) 1 _).row (fun e => n2g e.symm) (Nat.le_refl _) 2 _, ((hJ.set 0 _ rfl).set 1 _ rfl).set 2 _ rfl⟩
    refine flowT_R (by decide) (fun _ u => ∃ r : Int, u = .int .i64 r) (fun _ _ _ h _ => h) (fun A wq hLq hbq hdq => ?_) ?_
    · (try simp [go_sem, baseF, deps, dep1, Region.binds] at hdq)
      have hr38 : ∃ r : Int, A.tmps[38]?.getD undef = .int .i64 r := by first | exact hdq | exact hdq.1 | exact hdq.2
      obtain ⟨r, h38⟩ := hr38
      go_simp
      first | exact ⟨LD.refl _ _ _, r, rfl⟩ | exact ⟨LD.refl _ _ _, r, h38⟩
    with_reducible refine flowT_tail ?_
    intro x wq hLq hall hJ1
    have k2q := hJ1 (by decide)
    have k4q := blk_keepR k4c hLq.2 n4g (by simp)
    have hBq := (hLq.1 D.1).bl
    have h9E : Ents W1 wq (.slice A2 xs.length c2) xs := ⟨Kd.R_step HEn.out.1 (fun k hk hlt => hLq.2.2 k hlt (by omega) (by simp; omega)), HEn.out.2⟩
    have HE9 := Lib.hid h9E
    clear h9E
    simp only [allT] at hall
    obtain ⟨⟨r3, hr3⟩, h39, -, -, hall⟩ := hall
    have y0 := k4q.cell 0 rfl
    have y1 := k4q.cell 1 rfl
    have y2 := k4q.cell 2 rfl
    have z0 := k4q.free 0
    have z1 := k4q.free 1
    have z2 := k4q.free 2
    have ly := k4q.lt
    have q0 := k2q.cell 0 rfl
    have q1 := k2q.cell 1 rfl
    have q2 := k2q.cell 2 rfl
    have lq := k2q.lt
    refine ⟨?_⟩
    simp [seqUpon, lastUpon, frameOf, Act.put, List.take, hr3, h39, hall]
    clear hall hr3 h39
    go_simp
    go_wp2_with fail
    have hn1 : ∀ k, W1.heap.size ≤ k → k ≠ w.heap.size + 1 := fun k hk => by omega
    have hE3 := ((HE9.out.farB hn1 0 (.int .i64 te)).farB hn1 1 (.int .i64 ke)).farB hn1 2 (.string de)
    have hw1 : w.heap.size ≤ W1.heap.size := by omega
    refine bodyPost_ret (v := .tuple #[.agg #[.int .i64 s, .int .i64 t, .slice A2 xs.length c2], .int .i64 r3, .agg #[.int .i64 te, .int .i64 ke, .string de]]) ?_ rfl ⟨⟨s, t, r3, _, xs, te, ke, de, rfl, hn, hE3.lower hw1, hde⟩, bl_set (bl_set (bl_set hBq (Nat.le_succ _)) (Nat.le_succ _)) (Nat.le_succ _)⟩
    simp only [results, Try.results31]
    go_simp
end Go.Proofs.Ytdjikjmjajlgcaa.PFnPuts
end

/-! ### YtdjikjmjajlgcaaFlowG -/
section
namespace Go.Proofs.Ytdjikjmjajlgcaa
open Go.RowKit
set_option linter.unusedVariables false

/-! XFlow's rule for regions some of whose operations are guarded ('&&', '||'), the guards decided. (own) -/
section
variable {P : Program}
/-- What is to be shown of one operation: wanted, it goes; not wanted, it leaves nothing. -/
def gObl (P : Program) (l0 : List Oper) (o : Oper) (R : VPred) (A : Act) (w : World) : Prop :=
  if Region.wanted o (yielded l0.toArray A.tmps) = true then flowUpon P R w ((execOp A.eval o).run P w) else R w undef
def FlowG (P : Program) (w : World) (a : Act) (bs : List Nat) (Q : Exit → Act → World → Prop) (l0 : List Oper) : List Oper → Nat → FTab → Prop
  | [], _, T => ∀ x w', Below w.heap.size w w' → allT x w' T → Q .normal (frameOf x l0 0 a) w'
  | o :: rest, i, T => ∃ R : VPred, VMono R ∧
      (∀ A w', Below w.heap.size w w' → baseF A a bs → deps T A w' o.after.toList → gObl P l0 o R A w') ∧ FlowG P w a bs Q l0 rest (i + 1) (addT o i R T)

theorem flowG_table {w : World} {a : Act} {bs : List Nat} {Q : Exit → Act → World → Prop} {l0 : List Oper} : ∀ (rest : List Oper) (i : Nat) (T : FTab), (∀ k d R, (k, d, R) ∈ T → k < i) → FlowG P w a bs Q l0 rest i T →
    ∃ T' : FTab, (∀ x ∈ T, x ∈ T') ∧ (∀ k d R, (k, d, R) ∈ T' → k < i → (k, d, R) ∈ T) ∧ (∀ k d R, (k, d, R) ∈ T' → k < i + rest.length) ∧
      (∀ (j : Nat) (o : Oper), rest[j]? = some o → ∃ R, VMono R ∧ (∀ d' R', (i + j, d', R') ∈ T' → o.dst = some d' ∧ R' = R) ∧
        (∀ A w', Below w.heap.size w w' → baseF A a bs → (∀ e ∈ o.after.toList, Region.binds .any e = true → ∀ d R, (e.on, d, R) ∈ T' → R w' (A.eval (.tmp d))) → gObl P l0 o R A w')) ∧
      (∀ x w', Below w.heap.size w w' → allT x w' T' → Q .normal (frameOf x l0 0 a) w')
  | [], i, T, hT, h => ⟨T, fun _ h => h, fun _ _ _ h _ => h, fun k d R hm => by simpa using hT k d R hm, fun j o hj => by simp at hj, h⟩
  | o :: rest, i, T, hT, h => by
    obtain ⟨R, hmono, hobl, hrest⟩ := h
    have hT1 : ∀ k d R', (k, d, R') ∈ addT o i R T → k < i + 1 := fun k d R' hm => by
      unfold addT at hm
      split at hm
      · rcases List.mem_cons.1 hm with hm | hm
        · simp only [Prod.mk.injEq] at hm; omega
        · have := hT k d R' hm; omega
      · have := hT k d R' hm; omega
    have hsub : ∀ y ∈ T, y ∈ addT o i R T := fun y hy => by
      unfold addT
      split
      · exact .tail _ hy
      · exact hy
    obtain ⟨T', h1, h2, h3, h4, h5⟩ := flowG_table rest (i + 1) (addT o i R T) hT1 hrest
    refine ⟨T', fun y hy => h1 y (hsub y hy), fun k d R' hm hk => ?_, fun k d R' hm => ?_, fun j o' hj => ?_, h5⟩
    · have := h2 k d R' hm (by omega)
      unfold addT at this
      split at this
      · rcases List.mem_cons.1 this with hm | hm
        · simp only [Prod.mk.injEq] at hm; omega
        · exact hm
      · exact this
    · have := h3 k d R' hm
      simp only [List.length_cons]; omega
    · cases j with
      | zero =>
        simp only [List.getElem?_cons_zero, Option.some.injEq] at hj
        subst hj
        refine ⟨R, hmono, fun d' R' hm => ?_, fun A w' hb hbase hd => hobl A w' hb hbase (deps_of fun e he hbn d R' hm => hd e he hbn d R' (h1 _ (hsub _ hm)))⟩
        have := h2 _ d' R' hm (by omega)
        unfold addT at this
        split at this
        · rename_i dd hdd
          rcases List.mem_cons.1 this with hm | hm
          · simp only [Prod.mk.injEq] at hm
            exact ⟨by rw [hdd, hm.2.1], hm.2.2⟩
          · have := hT _ d' R' hm; omega
        · have := hT _ d' R' this; omega
      | succ j =>
        simp only [List.getElem?_cons_succ] at hj
        obtain ⟨R2, a1, a2, a3⟩ := h4 j o' hj
        exact ⟨R2, a1, fun d' R' hm => a2 d' R' (by rw [show i + 1 + j = i + (j + 1) from by omega]; exact hm), a3⟩

/-- The places written are not written twice, and lie in the frame. -/
def gflowB (n : Nat) : List Oper → Bool
  | [] => true
  | o :: r => (match o.dst with | some d => decide (d < n) && r.all (fun o' => o'.dst != some d) | none => true) && gflowB n r
theorem gflowB_spec {n : Nat} : ∀ {l : List Oper}, gflowB n l = true → ∀ (i : Nat) (o : Oper), l[i]? = some o → ∀ d, o.dst = some d → d < n ∧ ∀ (j : Nat) (o' : Oper), l[j]? = some o' → i < j → o'.dst ≠ some d
  | [], _, i, o, hi => by simp at hi
  | o0 :: r, h, i, o, hi => by
    simp only [gflowB, Bool.and_eq_true] at h
    obtain ⟨hd, hr⟩ := h
    cases i with
    | zero =>
      simp only [List.getElem?_cons_zero, Option.some.injEq] at hi
      subst hi
      intro d hdd
      rw [hdd] at hd
      simp only [Bool.and_eq_true, decide_eq_true_eq, List.all_eq_true, bne_iff_ne] at hd
      refine ⟨hd.1, fun j o' hj hlt => ?_⟩
      cases j with
      | zero => omega
      | succ j => exact hd.2 o' (List.mem_of_getElem? (by simpa using hj))
    | succ i =>
      have h2 := gflowB_spec hr i o (by simpa using hi)
      refine fun d hdd => ⟨(h2 d hdd).1, fun j o' hj hlt => ?_⟩
      cases j with
      | zero => omega
      | succ j => exact (h2 d hdd).2 j o' (by simpa using hj) (by omega)

theorem wp_region_flowG {id : Nat} {Q : Exit → Act → World → Prop} {a : Act} {w : World} {l : List Oper} (bs : List Nat) (n : Nat) (hm : P.follows .mixedOrders = true) (hn : a.tmps.size = n)
    (hB : gflowB n l = true) (hO : flowO l 0 = true) (hbs : bs.all (fun t => l.all (fun o => o.dst != some t)) = true) (h : FlowG P w a bs Q l l 0 []) : (Code.region id l.toArray true).wp P Q a w := by
  obtain ⟨T, -, -, hlen, hobl, hfin⟩ := flowG_table l 0 [] (by simp) h
  subst hn
  refine wp_region_any hm ?_
  refine wpAny_inv (fun listed A w' => listed.size = l.length ∧ Below w.heap.size w w' ∧ A.defers = a.defers ∧ A.tmps.size = a.tmps.size ∧ (∀ t, a.tmps[t]? ≠ A.tmps[t]? → ∃ (i : Nat) (o : Oper), l[i]? = some o ∧ o.dst = some t) ∧
      (∀ i d R, (i, d, R) ∈ T → listed.getD i false = true → R w' (A.eval (.tmp d)))) ?_ ?_ (fun listed => unl listed.toList) ?_ _ _ _ _ ?_ ?_
  · rintro listed A w' i ⟨hsz, hbel, hdef, hts, hdiff, hall⟩ hi
    obtain ⟨hun, o, ho, haft⟩ := mem_ready.1 hi
    have ho' : l[i]? = some o := by simpa using ho
    have hd := gflowB_spec hB i o ho'
    obtain ⟨R, hmono, huniq, hob⟩ := hobl i o ho'
    simp only [Nat.zero_add] at huniq
    have hob' := hob A w' hbel (baseF_of fun t ht => by
        have h1 := List.all_eq_true.1 hbs t ht
        have h2 : ∀ o ∈ l, o.dst ≠ some t := fun o ho => by simpa using List.all_eq_true.1 h1 o ho
        have h3 : a.tmps[t]? = A.tmps[t]? := Classical.byContradiction fun hne => by
          obtain ⟨i, o, hi, hd⟩ := hdiff t hne
          exact h2 o (List.mem_of_getElem? hi) hd
        simp only [Act.eval, Array.getD_eq_getD_getElem?, h3]) fun e he hb d R hmem => hall _ d R hmem (haft e (by simpa using he) hb)
    have key : ∀ (v : Value) (w2 : World), Below w'.heap.size w' w2 → R w2 v → ((listed.setIfInBounds i true).size = l.length ∧ Below w.heap.size w w2 ∧ (A.put o.dst v).defers = a.defers ∧ (A.put o.dst v).tmps.size = a.tmps.size ∧ (∀ t, a.tmps[t]? ≠ (A.put o.dst v).tmps[t]? → ∃ (i : Nat) (o : Oper), l[i]? = some o ∧ o.dst = some t) ∧
        (∀ j d R, (j, d, R) ∈ T → (listed.setIfInBounds i true).getD j false = true → R w2 ((A.put o.dst v).eval (.tmp d)))) := by
      intro v w2 hb2 hR
      refine ⟨by simpa using hsz, hbel.trans ⟨hb2.os, hb2.tape, hb2.output, hb2.size, fun k hk => hb2.block k (Nat.lt_of_lt_of_le hk hbel.size)⟩, ?_, ?_, ?_, ?_⟩
      · rw [← hdef]; unfold Act.put; split <;> rfl
      · rw [← hts]; unfold Act.put; split <;> simp
      · intro t ht
        by_cases hdt : o.dst = some t
        · exact ⟨i, o, ho', hdt⟩
        · refine hdiff t fun he => ht ?_
          rw [he]
          unfold Act.put
          split
          · rename_i t' ht'
            have : t' ≠ t := fun e => hdt (by rw [ht', e])
            rw [Array.getElem?_setIfInBounds_ne this]
          · rfl
      · intro k d R' hmem hk
        by_cases hki : i = k
        · subst hki
          obtain ⟨hod, rfl⟩ := huniq d R' hmem
          rw [eval_put_eq hod (by rw [hts]; exact (hd d hod).1)]
          exact hR
        · have hk' : listed.getD k false = true := by rw [getD_set_ne false hki] at hk; exact hk
          have hold := hall k d R' hmem hk'
          have hkl : k < l.length := by simpa using hlen k d R' hmem
          have hko : l[k]? = some l[k] := by simp [hkl]
          obtain ⟨R2, hmono2, huniq2, -⟩ := hobl k l[k] hko
          simp only [Nat.zero_add] at huniq2
          obtain ⟨hod, rfl⟩ := huniq2 d R' hmem
          have hne : o.dst ≠ some d := fun hd0 => by
            rcases Nat.lt_or_gt_of_ne hki with h | h
            · exact (hd d hd0).2 k l[k] hko h hod
            · exact (gflowB_spec hB k l[k] hko d hod).2 i o ho' h hd0
          rw [eval_put_ne hne]
          exact hmono2 _ _ _ hold hb2
    unfold wpOp
    rw [ho]
    unfold gObl at hob'
    simp only []
    by_cases hw : Region.wanted o (yielded l.toArray A.tmps) = true
    · rw [if_pos hw] at hob' ⊢
      exact .inl (flow_upon hob' fun v w2 hb2 hR => key v w2 hb2 hR)
    · rw [if_neg hw] at hob' ⊢
      exact key undef w' (Below.refl _ _) hob'
  · rintro listed A w' ⟨hsz, hbel, hdef, hts, hdiff, hall⟩ hno
    have hdone : ∀ k, k < l.length → listed.getD k false = true := by
      intro k
      induction k using Nat.strongRecOn with
      | _ k ih =>
        intro hk
        refine Classical.byContradiction fun hf => hno k (mem_ready.2 ⟨?_, l[k], by simp [hk], fun e he hb => ?_⟩)
        · have hks : k < listed.size := by omega
          simp only [Array.getD_eq_getD_getElem?, Array.getElem?_eq_getElem hks, Option.getD_some] at hf ⊢
          simpa using hf
        · have hlt := flowO_spec hO k l[k] (by simp [hk]) e (by simpa using he) hb
          exact ih e.on (by omega) (by omega)
    have hx : frameOf (fun i => match (l[i]?).bind (·.dst) with | some d => A.eval (.tmp d) | none => undef) l 0 a = A := by
      refine frame_eq _ A l 0 a hdef hts (fun i o d hi hd hlt => ?_) hdiff
      simp only [Nat.zero_add, hi, Option.bind_some, hd, Act.eval, Array.getD_eq_getD_getElem?]
      have : d < A.tmps.size := by rw [hts]; exact hlt
      simp [this]
    have := hfin (fun i => match (l[i]?).bind (·.dst) with | some d => A.eval (.tmp d) | none => undef) w' hbel (allT_of fun k d R hmem => by
      have hkl : k < l.length := by simpa using hlen k d R hmem
      have hko : l[k]? = some l[k] := by simp [hkl]
      obtain ⟨R2, -, huniq2, -⟩ := hobl k l[k] hko
      simp only [Nat.zero_add] at huniq2
      obtain ⟨hod, -⟩ := huniq2 d R hmem
      simp only [hko, Option.bind_some, hod]
      exact hall k d R hmem (hdone k hkl))
    rw [hx] at this
    exact this
  · rintro listed A w' i ⟨hsz, -⟩ hi
    obtain ⟨hun, o, ho, -⟩ := mem_ready.1 hi
    have hil : i < listed.size := by have := (Array.getElem?_eq_some_iff.1 ho).1; simp at this; omega
    simp only [Array.toList_setIfInBounds]
    refine unl_set _ _ ?_
    simp only [Array.getD_eq_getD_getElem?, Array.getElem?_eq_getElem hil, Option.getD_some] at hun
    simp [hil, hun]
  · simp [unl_rep]
  · exact ⟨by simp, ⟨rfl, rfl, rfl, Nat.le_refl _, fun _ _ => rfl⟩, rfl, rfl, fun t ht => absurd rfl ht, fun i d R _ hl => by simp [Array.getD_eq_getD_getElem?, Array.getElem?_replicate] at hl; split at hl <;> simp at hl⟩


section
variable {w : World} {a : Act} {bs : List Nat} {Q : Exit → Act → World → Prop} {l0 rest : List Oper} {i : Nat} {T : FTab} {d : Tmp} {op : Op} {ty : TypeId} {pos : String} {es : Array Edge}
theorem bcellA {W w1 : World} (hb : Below W.heap.size W w1) : (∀ p : Addr, p.block < W.heap.size → w1.cell? p = W.cell? p) ∧ (∀ p : Addr, p.block < W.heap.size → w1.frozen? p = W.frozen? p) := ⟨fun p h => hb.cell h, fun p h => hb.frozen h⟩
theorem yielded_of {ops : Array Oper} {tmps : Array Value} {j d : Nat} {b : Bool} (h : (ops[j]?).bind (·.dst) = some d) (hv : tmps[d]?.getD undef = .bool b) : yielded ops tmps j = some b := by
  unfold yielded
  rw [h]
  show (match tmps[d]? with | some (.bool b) => some b | _ => none) = some b
  rcases ht : tmps[d]? with _ | v
  · rw [ht] at hv; cases hv
  · rw [ht] at hv
    simp at hv
    subst hv
    rfl
theorem gObl_none {o : Oper} {R : VPred} {A : Act} {w : World} (hg : o.guard = none) (h : flowUpon P R w ((execOp A.eval o).run P w)) : gObl P l0 o R A w := by
  unfold gObl
  rw [if_pos (by simp [Region.wanted, hg])]
  exact h
theorem flowG_R (R : VPred) (hm : VMono R)
    (h : ∀ A w', Below w.heap.size w w' → baseF A a bs → deps T A w' es.toList → flowUpon P R w' ((execOp A.eval ⟨some d, op, ty, pos, es, none⟩).run P w'))
    (k : FlowG P w a bs Q l0 rest (i + 1) ((i, d, R) :: T)) : FlowG P w a bs Q l0 (⟨some d, op, ty, pos, es, none⟩ :: rest) i T :=
  ⟨R, hm, fun A w' hB hb hd => gObl_none rfl (h A w' hB hb hd), k⟩
theorem flowG_valE
    (h : ∃ e, (∀ A w', Below w.heap.size w w' → baseF A a bs → deps T A w' es.toList → flowUpon P (fun _ v => v = e) w' ((execOp A.eval ⟨some d, op, ty, pos, es, none⟩).run P w')) ∧
      FlowG P w a bs Q l0 rest (i + 1) ((i, d, fun _ v => v = e) :: T)) : FlowG P w a bs Q l0 (⟨some d, op, ty, pos, es, none⟩ :: rest) i T :=
  let ⟨e, h, k⟩ := h
  flowG_R _ (vmono_eq e) h k
/-- A guarded operation whose guard has said yes. -/
theorem flowG_yesE {j : Nat} {want : Bool}
    (h : ∃ e, (∀ A w', Below w.heap.size w w' → baseF A a bs → deps T A w' es.toList → yielded l0.toArray A.tmps j = some want ∧ flowUpon P (fun _ v => v = e) w' ((execOp A.eval ⟨some d, op, ty, pos, es, some (j, want)⟩).run P w')) ∧
      FlowG P w a bs Q l0 rest (i + 1) ((i, d, fun _ v => v = e) :: T)) : FlowG P w a bs Q l0 (⟨some d, op, ty, pos, es, some (j, want)⟩ :: rest) i T := by
  obtain ⟨e, h, k⟩ := h
  refine ⟨_, vmono_eq e, fun A w' hB hb hd => ?_, k⟩
  obtain ⟨h1, h2⟩ := h A w' hB hb hd
  unfold gObl
  rw [if_pos (by simp [Region.wanted, h1])]
  exact h2
/-- A guarded operation whose guard has said no: it is passed over. -/
theorem flowG_no {j : Nat} {want : Bool}
    (h : ∀ A w', Below w.heap.size w w' → baseF A a bs → deps T A w' es.toList → yielded l0.toArray A.tmps j = some (!want))
    (k : FlowG P w a bs Q l0 rest (i + 1) ((i, d, fun _ v => v = undef) :: T)) : FlowG P w a bs Q l0 (⟨some d, op, ty, pos, es, some (j, want)⟩ :: rest) i T := by
  refine ⟨_, vmono_eq undef, fun A w' hB hb hd => ?_, k⟩
  unfold gObl
  rw [if_neg (by simp [Region.wanted, h A w' hB hb hd])]
end
end
end Go.Proofs.Ytdjikjmjajlgcaa
end

/-! ### YtdjikjmjajlgcaaLogPutI -/
section
namespace Go.Proofs.Ytdjikjmjajlgcaa.PFnPuts
open Go.RowKit Go.Proofs.YtdjikjmjajlgcaaW.PrintWords
set_option linter.unusedSimpArgs false
set_option linter.unusedVariables false

theorem impl_lastOfH (s t : Int) (A : Option Addr) (c : Nat) (xs : List S54) (w : World) (hr : Kd.C k54 w A xs.length xs) (hc : xs.length ≤ c) :
    Calls Try.prog 108 #[.agg #[.int .i64 s, .int .i64 t, .slice A xs.length c]] w fun e w' => e = .returned (.int .i64 (wrap64 (s + xs.length))) ∧ Below w.heap.size w w' :=
  impl_lastOf.calls s t A c xs _ w hr hc rfl
theorem impl_lastOfH2 (s t : Int) (A : Option Addr) (c : Nat) (xs : List S54) (w : World) (h0 : 0 ≤ s) (h1 : s ≤ 1000000) (hl : xs.length ≤ 1000) (hr : Kd.C k54 w A xs.length xs) (hc : xs.length ≤ c) :
    Calls Try.prog 108 #[.agg #[.int .i64 s, .int .i64 t, .slice A xs.length c]] w fun e w' => e = .returned (.int .i64 (s + xs.length)) ∧ Below w.heap.size w w' := by
  have h := impl_lastOfH s t A c xs w hr hc
  rw [show wrap64 (s + (xs.length : Int)) = s + xs.length from by unfold wrap64; omega] at h
  exact h
theorem impl_inB2 (n lo hi : Int) (b : Bool) (w : World) (h : Hid (inB n lo hi = b)) :
    Calls Try.prog 93 #[.int .i64 n, .int .i64 lo, .int .i64 hi] w fun e w' => e = .returned (.bool b) ∧ Below w.heap.size w w' := by
  have := impl_in n lo hi w
  rw [h.out] at this
  exact this.mono (by rintro e w' ⟨rfl, rfl⟩; exact ⟨rfl, Below.refl _ _⟩)
/-- What LogPut puts together. -/
def putXs (s ix : Int) (xs : List S54) (e : S54) : List S54 := xs.take (ix - s - 1).toNat ++ [e]

attribute [local go_sem] flowUpon
set_option maxHeartbeats 2000000 in
set_option maxRecDepth 100000 in
theorem impl_LogPut_no1 (s t ix : Int) (Ad : Option Addr) (c : Nat) (xs : List S54) (te ke : Int) (de : ByteArray) (w : World) (hr : Kd.C k54 w Ad xs.length xs) (hc : xs.length ≤ c) (hl : xs.length ≤ 1000) (hS : ShortE xs) (H1 : Hid (logOkB s t xs = false)) :
    Calls Try.prog 32 #[.agg #[.int .i64 s, .int .i64 t, .slice Ad xs.length c], .int .i64 ix, .agg #[.int .i64 te, .int .i64 ke, .string de]] w fun e w' => e = .returned (.tuple #[.agg #[.int .i64 0, .int .i64 0, .slice none 0 0], .bool false]) ∧ Below w.heap.size w w' := by
  have HC := Lib.hid hr
  clear hr
  go_enter Try.func32, Try.ntmps32
  go_wp2_with fail
  refine wp_at (fun X => Below w.heap.size w X ∧ Blk 67 w.heap.size #[.int .i64 s, .int .i64 t, .slice Ad xs.length c] X ∧ Blk 54 (w.heap.size + 1) #[.int .i64 te, .int .i64 ke, .string de] X ∧ Blk 67 (w.heap.size + 1 + 1) #[.int .i64 0, .int .i64 0, .slice none 0 0] X) ⟨(by repeat (first | exact Below.refl _ _ | apply bl_alloc | apply bl_drewN | apply bl_drew | refine bl_set ?_ (by simp) | refine bl_then ?_ (by assumption))), ((Blk.new _ _ w).alloc _).alloc _, (Blk.newE _ _ (w.alloc _) (by simp)).alloc _, Blk.newE _ _ ((w.alloc _).alloc _) (by simp)⟩ ?_
  rintro X ⟨hB, k3, k5, k6⟩
  have c0 := k3.cell 0 rfl
  have c1 := k3.cell 1 rfl
  have c2 := k3.cell 2 rfl
  have l3 := k3.lt
  refine wp_region_flowG [1, 3] 43 (by kernel_rfl) (by rfl) (by kernel_rfl) (by kernel_rfl) (by kernel_rfl) ?_
  iterate 4 (refine flowG_valE ?_; apply Exists.intro; refine ⟨fun A wq hBq hbq hdq => ?_, ?_⟩; focus (obtain ⟨hcq, hfq⟩ := bcellA hBq; (try simp [go_sem, baseF, deps, dep1, Region.binds] at hbq); (try simp [go_sem, baseF, deps, dep1, Region.binds, NewSl] at hdq); go_simp <;> first | exact ⟨Below.refl _ _, rfl⟩ | (rw [if_neg]; (focus (exact ⟨Below.refl _ _, rfl⟩)); (focus ((try simp only [ByteArray.size_append]); omega))) | (first | (go_at_call 41; exact (impl_LogOkH s t Ad c xs false _ H1 hS (by omega) (Kd.C_below HC.out (bl_then hB hBq)) hc)))))
  iterate 9 (refine flowG_no (fun A wq hBq hbq hdq => ?_) ?_; focus ((try simp [go_sem, baseF, deps, dep1, Region.binds] at hdq); refine yielded_of rfl ?_; simp [hdq]))
  (refine flowG_valE ?_; apply Exists.intro; refine ⟨fun A wq hBq hbq hdq => ?_, ?_⟩; focus (obtain ⟨hcq, hfq⟩ := bcellA hBq; (try simp [go_sem, baseF, deps, dep1, Region.binds] at hbq); (try simp [go_sem, baseF, deps, dep1, Region.binds, NewSl] at hdq); go_simp <;> first | exact ⟨Below.refl _ _, rfl⟩ | (rw [if_neg]; (focus (exact ⟨Below.refl _ _, rfl⟩)); (focus ((try simp only [ByteArray.size_append]); omega))) | (fail)))
  refine fun x wq hBq hall => ?_
  obtain ⟨hcq, hfq⟩ := bcellA hBq
  simp only [allT] at hall
  simp [frameOf, Act.put, hall]
  clear hall
  have k6q := k6.below hBq
  have y0 := k6q.cell 0 rfl
  have y1 := k6q.cell 1 rfl
  have y2 := k6q.cell 2 rfl
  have z0 := k6q.free 0
  have z1 := k6q.free 1
  have z2 := k6q.free 2
  have ly := k6q.lt
  go_wp2_with fail
  refine bodyPost_ret (v := .tuple #[.agg #[.int .i64 0, .int .i64 0, .slice none 0 0], .bool false]) ?_ rfl ⟨rfl, ?_⟩
  · simp only [results, Try.results32]
    go_simp
  · have hle : w.heap.size ≤ w.heap.size + 1 + 1 := by omega
    exact bl_set (bl_set (bl_set (bl_then hB hBq) hle) hle) hle
set_option maxHeartbeats 2000000 in
set_option maxRecDepth 100000 in
theorem impl_LogPut_no2 (s t ix : Int) (Ad : Option Addr) (c : Nat) (xs : List S54) (te ke : Int) (de : ByteArray) (w : World) (hr : Kd.C k54 w Ad xs.length xs) (hc : xs.length ≤ c) (hl : xs.length ≤ 1000) (hS : ShortE xs) (H1 : Hid (logOkB s t xs = true)) (H2 : Hid (inB ix (IntKind.i64.wrap (s + 1)) (IntKind.i64.wrap (s + (xs.length : Int) + 1)) = false)) :
    Calls Try.prog 32 #[.agg #[.int .i64 s, .int .i64 t, .slice Ad xs.length c], .int .i64 ix, .agg #[.int .i64 te, .int .i64 ke, .string de]] w fun e w' => e = .returned (.tuple #[.agg #[.int .i64 0, .int .i64 0, .slice none 0 0], .bool false]) ∧ Below w.heap.size w w' := by
  have HC := Lib.hid hr
  have hs : 0 ≤ s ∧ s ≤ 1000000 := by
    have h := H1.out
    unfold logOkB at h
    simp only [Bool.and_eq_true, decide_eq_true_eq] at h
    exact h.1
  obtain ⟨hs0, hs1⟩ := hs
  clear hr
  go_enter Try.func32, Try.ntmps32
  go_wp2_with fail
  refine wp_at (fun X => Below w.heap.size w X ∧ Blk 67 w.heap.size #[.int .i64 s, .int .i64 t, .slice Ad xs.length c] X ∧ Blk 54 (w.heap.size + 1) #[.int .i64 te, .int .i64 ke, .string de] X ∧ Blk 67 (w.heap.size + 1 + 1) #[.int .i64 0, .int .i64 0, .slice none 0 0] X) ⟨(by repeat (first | exact Below.refl _ _ | apply bl_alloc | apply bl_drewN | apply bl_drew | refine bl_set ?_ (by simp) | refine bl_then ?_ (by assumption))), ((Blk.new _ _ w).alloc _).alloc _, (Blk.newE _ _ (w.alloc _) (by simp)).alloc _, Blk.newE _ _ ((w.alloc _).alloc _) (by simp)⟩ ?_
  rintro X ⟨hB, k3, k5, k6⟩
  have c0 := k3.cell 0 rfl
  have c1 := k3.cell 1 rfl
  have c2 := k3.cell 2 rfl
  have l3 := k3.lt
  refine wp_region_flowG [1, 3] 43 (by kernel_rfl) (by rfl) (by kernel_rfl) (by kernel_rfl) (by kernel_rfl) ?_
  iterate 4 (refine flowG_valE ?_; apply Exists.intro; refine ⟨fun A wq hBq hbq hdq => ?_, ?_⟩; focus (obtain ⟨hcq, hfq⟩ := bcellA hBq; (try simp [go_sem, baseF, deps, dep1, Region.binds] at hbq); (try simp [go_sem, baseF, deps, dep1, Region.binds, NewSl] at hdq); go_simp <;> first | exact ⟨Below.refl _ _, rfl⟩ | (rw [if_neg]; (focus (exact ⟨Below.refl _ _, rfl⟩)); (focus ((try simp only [ByteArray.size_append]); omega))) | (first | (go_at_call 41; exact (impl_LogOkH s t Ad c xs true _ H1 hS (by omega) (Kd.C_below HC.out (bl_then hB hBq)) hc)))))
  iterate 9 (refine flowG_yesE ?_; apply Exists.intro; refine ⟨fun A wq hBq hbq hdq => ⟨?_, ?_⟩, ?_⟩; (focus ((try simp [go_sem, baseF, deps, dep1, Region.binds] at hdq); refine yielded_of rfl ?_; simp [hdq])); focus (obtain ⟨hcq, hfq⟩ := bcellA hBq; (try simp [go_sem, baseF, deps, dep1, Region.binds] at hbq); (try simp [go_sem, baseF, deps, dep1, Region.binds, NewSl] at hdq); go_simp <;> first | exact ⟨Below.refl _ _, rfl⟩ | (rw [if_neg]; (focus (exact ⟨Below.refl _ _, rfl⟩)); (focus ((try simp only [ByteArray.size_append]); omega))) | (first | (go_at_call 108; exact (impl_lastOfH2 s t Ad c xs _ hs0 hs1 hl (Kd.C_below HC.out (bl_then hB hBq)) hc)) | (go_at_call 93; exact (impl_inB2 _ _ _ false _ H2)))))
  (refine flowG_valE ?_; apply Exists.intro; refine ⟨fun A wq hBq hbq hdq => ?_, ?_⟩; focus (obtain ⟨hcq, hfq⟩ := bcellA hBq; (try simp [go_sem, baseF, deps, dep1, Region.binds] at hbq); (try simp [go_sem, baseF, deps, dep1, Region.binds, NewSl] at hdq); go_simp <;> first | exact ⟨Below.refl _ _, rfl⟩ | (rw [if_neg]; (focus (exact ⟨Below.refl _ _, rfl⟩)); (focus ((try simp only [ByteArray.size_append]); omega))) | (fail)))
  refine fun x wq hBq hall => ?_
  obtain ⟨hcq, hfq⟩ := bcellA hBq
  simp only [allT] at hall
  simp [frameOf, Act.put, hall]
  clear hall
  have k6q := k6.below hBq
  have y0 := k6q.cell 0 rfl
  have y1 := k6q.cell 1 rfl
  have y2 := k6q.cell 2 rfl
  have z0 := k6q.free 0
  have z1 := k6q.free 1
  have z2 := k6q.free 2
  have ly := k6q.lt
  go_wp2_with fail
  refine bodyPost_ret (v := .tuple #[.agg #[.int .i64 0, .int .i64 0, .slice none 0 0], .bool false]) ?_ rfl ⟨rfl, ?_⟩
  · simp only [results, Try.results32]
    go_simp
  · have hle : w.heap.size ≤ w.heap.size + 1 + 1 := by omega
    exact bl_set (bl_set (bl_set (bl_then hB hBq) hle) hle) hle
end Go.Proofs.Ytdjikjmjajlgcaa.PFnPuts
end

/-! ### YtdjikjmjajlgcaaLogPutJ -/
section
namespace Go.Proofs.Ytdjikjmjajlgcaa.PFnPuts
open Go.RowKit Go.Proofs.YtdjikjmjajlgcaaW.PrintWords
set_option linter.unusedSimpArgs false
set_option linter.unusedVariables false

/-! impl.LogPut: the way on. (own) -/
theorem grown_below {w w' : World} (row : Option Nat) (h : Below w.heap.size w w') : w.grownBy w' row := ⟨h.os, h.tape, h.output, h.size, fun k hk _ => h.block k hk⟩
theorem grown_drew1 (row : Option Nat) (w : World) : w.grownBy w.drew row := ⟨rfl, rfl, rfl, Nat.le_refl _, fun _ _ _ => rfl⟩
theorem gcell {r : Option Nat} {W w1 : World} (h : W.grownBy w1 r) : (∀ b o, b < W.heap.size → some b ≠ r → w1.cell? ⟨b, o, none⟩ = W.cell? ⟨b, o, none⟩) ∧ (∀ b o, b < W.heap.size → some b ≠ r → w1.frozen? ⟨b, o, none⟩ = W.frozen? ⟨b, o, none⟩) :=
  ⟨fun b o hb hg => World.cell?_of_block (w := W) (h.block b hb hg), fun b o hb hg => World.frozen?_of_block (w := W) (h.block b hb hg)⟩
theorem blk_grown {T b : Nat} {row : Option Nat} {cs : Array Value} {W W1 : World} (h : Blk T b cs W) (hg : W.grownBy W1 row) (hne : some b ≠ row) : Blk T b cs W1 := (hg.block b h.lt hne).trans h
theorem bl_grown {w0 W W1 : World} {row : Option Nat} (h : Below w0.heap.size w0 W) (hg : W.grownBy W1 row) (hrow : ∀ k, row = some k → w0.heap.size ≤ k) : Below w0.heap.size w0 W1 :=
  ⟨hg.os.trans h.os, hg.tape.trans h.tape, hg.output.trans h.output, Nat.le_trans h.size hg.size, fun k hk => (hg.block k (Nat.lt_of_lt_of_le hk h.size) (fun e => by have := hrow k e.symm; omega)).trans (h.block k hk)⟩

attribute [local go_sem] flowUpon flowUponL
set_option maxHeartbeats 2000000 in
set_option maxRecDepth 100000 in
theorem impl_LogPut_on (s t : Int) (kn : Nat) (Ad : Option Addr) (c : Nat) (xs : List S54) (te ke : Int) (de : ByteArray) (w : World) (hr : Kd.C k54 w Ad xs.length xs) (hc : xs.length ≤ c) (hx : ∀ x ∈ xs, x.f2.size ≤ 200) (hde : de.size ≤ 200) (hnil : Ad = none → c = 0) (H1 : Hid (logOkB s t xs = true)) (hkn : kn ≤ xs.length) (ys : List S54) (hys : ys = xs.take kn ++ [⟨te, ke, de⟩]) (q : Bool) (H3 : Hid (logOkB s t ys = q)) :
    Calls Try.prog 32 #[.agg #[.int .i64 s, .int .i64 t, .slice Ad xs.length c], .int .i64 (s + 1 + (kn : Int)), .agg #[.int .i64 te, .int .i64 ke, .string de]] w fun e w' => (∃ v zs, e = .returned (.tuple #[.agg #[.int .i64 (if q then s else 0), .int .i64 (if q then t else 0), v], .bool q]) ∧ zs = (if q then ys else []) ∧ Ents w w' v zs) ∧ Below w.heap.size w w' := by
  have HC := Lib.hid hr
  have hs : (0 ≤ s ∧ s ≤ 1000000) ∧ xs.length ≤ 60 := by
    have h := H1.out
    unfold logOkB at h
    simp only [Bool.and_eq_true, decide_eq_true_eq] at h
    exact ⟨h.1, h.2.2.1⟩
  obtain ⟨⟨hs0, hs1⟩, hl⟩ := hs
  have hS : ShortE xs := short_mem (fun x h => by have := hx x h; omega)
  have hSy : ShortE ys := short_mem (fun x h => by
    rw [hys] at h
    rcases List.mem_append.1 h with h | h
    · have := hx x (List.mem_of_mem_take h); omega
    · rw [List.mem_singleton] at h; rw [h]; show de.size ≤ 1000; omega)
  have hly : ys.length = kn + 1 := by rw [hys]; simp [Nat.min_eq_left hkn]
  have hyx : ∀ x ∈ ys, x.f2.size ≤ 200 := fun x h => by
    rw [hys] at h
    rcases List.mem_append.1 h with h | h
    · exact hx x (List.mem_of_mem_take h)
    · rw [List.mem_singleton] at h; rw [h]; exact hde
  have H2 : Hid (inB (s + 1 + (kn : Int)) (IntKind.i64.wrap (s + 1)) (IntKind.i64.wrap (s + (xs.length : Int) + 1)) = true) := Lib.hid (by
    rw [show IntKind.i64.wrap (s + 1) = s + 1 from by rw [IntKind.wrap_i64]; omega, show IntKind.i64.wrap (s + (xs.length : Int) + 1) = s + xs.length + 1 from by rw [IntKind.wrap_i64]; omega]
    rw [inB_iff]
    omega)
  clear hr
  go_enter Try.func32, Try.ntmps32
  go_wp2_with fail
  refine wp_at (fun X => Below w.heap.size w X ∧ Blk 67 w.heap.size #[.int .i64 s, .int .i64 t, .slice Ad xs.length c] X ∧ Blk 54 (w.heap.size + 1) #[.int .i64 te, .int .i64 ke, .string de] X ∧ Blk 67 (w.heap.size + 1 + 1) #[.int .i64 0, .int .i64 0, .slice none 0 0] X) ⟨(by repeat (first | exact Below.refl _ _ | apply bl_alloc | apply bl_drewN | apply bl_drew | refine bl_set ?_ (by simp) | refine bl_then ?_ (by assumption))), ((Blk.new _ _ w).alloc _).alloc _, (Blk.newE _ _ (w.alloc _) (by simp)).alloc _, Blk.newE _ _ ((w.alloc _).alloc _) (by simp)⟩ ?_
  rintro X ⟨hB, k3, k5, k6⟩
  have c0 := k3.cell 0 rfl
  have c1 := k3.cell 1 rfl
  have c2 := k3.cell 2 rfl
  have l3 := k3.lt
  refine wp_region_flowG [1, 3] 43 (by kernel_rfl) (by rfl) (by kernel_rfl) (by kernel_rfl) (by kernel_rfl) ?_
  iterate 4 (refine flowG_valE ?_; apply Exists.intro; refine ⟨fun A wq hBq hbq hdq => ?_, ?_⟩; focus (obtain ⟨hcq, hfq⟩ := bcellA hBq; (try simp [go_sem, baseF, deps, dep1, Region.binds] at hbq); (try simp [go_sem, baseF, deps, dep1, Region.binds, NewSl] at hdq); go_simp <;> first | exact ⟨Below.refl _ _, rfl⟩ | (rw [if_neg]; (focus (exact ⟨Below.refl _ _, rfl⟩)); (focus ((try simp only [ByteArray.size_append]); omega))) | (first | (go_at_call 41; exact (impl_LogOkH s t Ad c xs true _ H1 hS (by omega) (Kd.C_below HC.out (bl_then hB hBq)) hc)))))
  iterate 9 (refine flowG_yesE ?_; apply Exists.intro; refine ⟨fun A wq hBq hbq hdq => ⟨?_, ?_⟩, ?_⟩; (focus ((try simp [go_sem, baseF, deps, dep1, Region.binds] at hdq); refine yielded_of rfl ?_; simp [hdq])); focus (obtain ⟨hcq, hfq⟩ := bcellA hBq; (try simp [go_sem, baseF, deps, dep1, Region.binds] at hbq); (try simp [go_sem, baseF, deps, dep1, Region.binds, NewSl] at hdq); go_simp <;> first | exact ⟨Below.refl _ _, rfl⟩ | (rw [if_neg]; (focus (exact ⟨Below.refl _ _, rfl⟩)); (focus ((try simp only [ByteArray.size_append]); omega))) | (first | (go_at_call 108; exact (impl_lastOfH2 s t Ad c xs _ hs0 hs1 (by omega) (Kd.C_below HC.out (bl_then hB hBq)) hc)) | (go_at_call 93; exact (impl_inB2 _ _ _ true _ H2)))))
  (refine flowG_valE ?_; apply Exists.intro; refine ⟨fun A wq hBq hbq hdq => ?_, ?_⟩; focus (obtain ⟨hcq, hfq⟩ := bcellA hBq; (try simp [go_sem, baseF, deps, dep1, Region.binds] at hbq); (try simp [go_sem, baseF, deps, dep1, Region.binds, NewSl] at hdq); go_simp <;> first | exact ⟨Below.refl _ _, rfl⟩ | (rw [if_neg]; (focus (exact ⟨Below.refl _ _, rfl⟩)); (focus ((try simp only [ByteArray.size_append]); omega))) | (fail)))
  refine fun x wq hBq hall => ?_
  simp only [allT] at hall
  simp [frameOf, Act.put, hall]
  clear hall
  replace k3 := k3.below hBq
  replace k5 := k5.below hBq
  replace k6 := k6.below hBq
  replace hB := bl_then hB hBq
  clear c0 c1 c2 l3 hBq
  have c0 := k3.cell 0 rfl
  have c1 := k3.cell 1 rfl
  have c2 := k3.cell 2 rfl
  have l3 := k3.lt
  go_wp2_with fail
  refine (cloneLog_C s t Ad c xs wq (Kd.C_below HC.out hB) hc (by omega) hnil hx).mono ?_
  rintro e W2 ⟨⟨v, rfl, hE⟩, hB2⟩
  obtain ⟨A2, c2', rfl, hcap2, hC2⟩ := Kd.R_reads hE.1
  have hq3 := k3.lt
  have hq6 := k6.lt
  have hle : w.heap.size ≤ wq.heap.size := hB.size
  replace k3 := k3.below hB2
  replace k5 := k5.below hB2
  replace k6 := k6.below hB2
  replace hB := bl_then hB hB2
  have hz := hB2.size
  clear c0 c1 c2 l3 hB2 hC2
  go_upto_region 4 with fail
  obtain ⟨b8, hb8⟩ : ∃ b8, b8 = W2.heap.size := ⟨_, rfl⟩
  refine wp_at (fun Y => Below w.heap.size w Y ∧ Blk 67 w.heap.size #[.int .i64 s, .int .i64 t, .slice Ad xs.length c] Y ∧ Blk 54 (w.heap.size + 1) #[.int .i64 te, .int .i64 ke, .string de] Y ∧ Blk 67 (w.heap.size + 1 + 1) #[.int .i64 0, .int .i64 0, .slice none 0 0] Y ∧ Ents wq Y (.slice A2 xs.length c2') xs ∧ Blk 67 b8 #[.int .i64 s, .int .i64 t, .slice A2 xs.length c2'] Y) ⟨bl_alloc hB _, k3.alloc _, k5.alloc _, k6.alloc _, hE.below (bl_alloc (Below.refl _ _) _), Blk.newE _ _ W2 hb8⟩ ?_
  rw [← hb8]
  have n8 : w.heap.size + 1 + 1 < b8 := by omega
  have n8q : wq.heap.size ≤ b8 := by omega
  clear hb8 hB k3 k5 k6 hE hz W2
  rintro Y ⟨hB, k3, k5, k6, hE, k8⟩
  obtain ⟨row, hrowE⟩ : ∃ row, row = (Value.slice A2 xs.length c2').ownBlock := ⟨_, rfl⟩
  have hrow : ∀ k, row = some k → wq.heap.size ≤ k := fun k hk => hE.1.1 k (hrowE.symm.trans hk)
  have n8v : some b8 ≠ row := by rw [hrowE]; exact Kd.R_ne hE.1 k8 (by decide)
  have n3v : some w.heap.size ≠ row := fun e => by have := hrow _ e.symm; omega
  have n5v : some (w.heap.size + 1) ≠ row := fun e => by have := hrow _ e.symm; omega
  have n6v : some (w.heap.size + 1 + 1) ≠ row := fun e => by have := hrow _ e.symm; omega
  have hrlt : ∀ b, row = some b → b < Y.heap.size := fun b hb => Kd.R_lt hE.1 b (hrowE.symm.trans hb)
  have HE := Lib.hid hE
  clear hE
  refine wp_region_flowT (L := fun a b => a.grownBy b row) (M := fun a b => Below a.heap.size a b) (J := fun W => Ents wq W (.slice A2 xs.length c2') xs) (J1 := fun _ => True) 10 (HE.out.below (bl_drew (Below.refl _ _))) (fun a b h k => h.below k) (fun _ _ _ _ => trivial) (fun a b h => grown_below _ h) (fun w => grown_drew1 _ w) (fun a b c h k => h.trans k) [1, 3, 5, 8] 43 12 (by kernel_rfl) (by rfl) (by kernel_rfl) (by kernel_rfl) (by kernel_rfl) (by kernel_rfl) ?_
  (refine flowT_valE (by decide) ?_; apply Exists.intro; refine ⟨fun A wq hLq hbq hdq => ?_, ?_⟩; focus ((try simp [go_sem, baseF, deps, dep1, Region.binds] at hbq); (try simp [go_sem, baseF, deps, dep1, Region.binds] at hdq); go_simp; first | exact ⟨Below.refl _ _, rfl⟩ | (fail)))
  refine flowT_valE (by decide) ⟨.slice A2 xs.length c2', fun A wr hLq hbq hdq => ?_, ?_⟩
  · have q := blk_grown k8 hLq n8v
    have qc := q.cell 2 rfl
    have ql := q.lt
    (try simp [go_sem, baseF, deps, dep1, Region.binds] at hbq)
    (try simp [go_sem, baseF, deps, dep1, Region.binds] at hdq)
    go_simp
    first | exact Below.refl _ _ | exact ⟨Below.refl _ _, rfl⟩
  iterate 2 (refine flowT_valE (by decide) ?_; apply Exists.intro; refine ⟨fun A wq hLq hbq hdq => ?_, ?_⟩; focus ((try simp [go_sem, baseF, deps, dep1, Region.binds] at hbq); (try simp [go_sem, baseF, deps, dep1, Region.binds] at hdq); go_simp; first | exact ⟨Below.refl _ _, rfl⟩ | (fail)))
  refine flowT_valE (by decide) ⟨.int .i64 s, fun A wr hLq hbq hdq => ?_, ?_⟩
  · have q := blk_grown k3 hLq n3v
    have qc := q.cell 0 rfl
    have ql := q.lt
    (try simp [go_sem, baseF, deps, dep1, Region.binds] at hbq)
    (try simp [go_sem, baseF, deps, dep1, Region.binds] at hdq)
    go_simp
    first | exact Below.refl _ _ | exact ⟨Below.refl _ _, rfl⟩
  refine flowT_valE (by decide) ⟨.int .i64 ((kn : Int) + 1), fun A wr hLq hbq hdq => ?_, ?_⟩
  · have E1 : IntKind.i64.wrap (s + 1 + (kn : Int) - s) = (kn : Int) + 1 := (by rw [IntKind.wrap_i64]; omega)
    (try simp [go_sem, baseF, deps, dep1, Region.binds] at hbq)
    (try simp [go_sem, baseF, deps, dep1, Region.binds] at hdq)
    go_simp
    first | exact Below.refl _ _ | exact ⟨Below.refl _ _, E1⟩ | exact ⟨Below.refl _ _, by rw [E1]⟩ | exact ⟨Below.refl _ _, by rw [IntKind.wrap_i64]; omega⟩
  refine flowT_valE (by decide) ⟨.int .i64 (kn : Int), fun A wr hLq hbq hdq => ?_, ?_⟩
  · have E1 : IntKind.i64.wrap ((kn : Int) + 1 - 1) = (kn : Int) := (by rw [IntKind.wrap_i64]; omega)
    (try simp [go_sem, baseF, deps, dep1, Region.binds] at hbq)
    (try simp [go_sem, baseF, deps, dep1, Region.binds] at hdq)
    go_simp
    first | exact Below.refl _ _ | exact ⟨Below.refl _ _, E1⟩ | exact ⟨Below.refl _ _, by rw [E1]⟩ | exact ⟨Below.refl _ _, by rw [IntKind.wrap_i64]; omega⟩
  refine flowT_valE (by decide) ⟨.slice A2 kn c2', fun A wr hLq hbq hdq => ?_, ?_⟩
  · have E1 : (kn : Int) ≤ (c2' : Int) := by omega
    (try simp [go_sem, baseF, deps, dep1, Region.binds] at hbq)
    (try simp [go_sem, baseF, deps, dep1, Region.binds] at hdq)
    go_simp
    first | exact Below.refl _ _ | exact ⟨Below.refl _ _, rfl⟩
  refine flowT_valE (by decide) ⟨.agg #[.int .i64 te, .int .i64 ke, .string de], fun A wr hLq hbq hdq => ?_, ?_⟩
  · have q := blk_grown k5 hLq n5v
    have qc := q.cell 0 rfl
    have qc1 := q.cell 1 rfl
    have qc2 := q.cell 2 rfl
    have ql := q.lt
    (try simp [go_sem, baseF, deps, dep1, Region.binds] at hbq)
    (try simp [go_sem, baseF, deps, dep1, Region.binds] at hdq)
    go_simp
    first | exact Below.refl _ _ | exact ⟨Below.refl _ _, rfl⟩
  refine flowT_R (by decide) (fun W u => ∃ b : Nat, u = .slice (some ⟨b, 0, none⟩) 1 1 ∧ Y.heap.size ≤ b ∧ Blk 54 b #[.int .i64 te, .int .i64 ke, .string de] W) (fun W W' u ⟨b, e, hb, hk⟩ hL => ⟨b, e, hb, blk_grown hk hL (fun e => by have := hrlt b e.symm; omega)⟩) (fun A wr hLq hbq hdq => ?_) ?_
  · (try simp [go_sem, baseF, deps, dep1, Region.binds] at hbq)
    (try simp [go_sem, baseF, deps, dep1, Region.binds] at hdq)
    go_simp
    first
      | exact ⟨bl_alloc (Below.refl _ _) _, wr.heap.size, rfl, hLq.size, Blk.new _ _ wr⟩
      | exact ⟨bl_alloc (Below.refl _ _) _, hLq.size, Blk.new _ _ wr⟩
     
  refine flowT_row rfl (fun W u => Kd.R k54 54 W wq.heap.size (fun k => wq.heap.size ≤ k) u ys) (fun W W' u hR hL => Kd.R_below hR hL) (fun A wr hLq hJ hbq hdq => ?_) ?_
  · (try simp [go_sem, baseF, deps, dep1, Region.binds] at hbq)
    (try simp [go_sem, baseF, deps, dep1, Region.binds] at hdq)
    obtain ⟨h33, b, h35, hb, hk⟩ := hdq
    have hYs : wq.heap.size ≤ Y.heap.size := by have := k8.lt; omega
    have hys2 := hLq.size
    have hlt : (xs.take kn).length = kn := by simp [Nat.min_eq_left hkn]
    obtain ⟨v1, w1, hrun, hR1, hg1, hat1⟩ := run_append_R (P := Try.prog) k54 wr wq.heap.size 29 29 54 (.agg #[.int .i64 0, .int .i64 0, .string ⟨#[]⟩]) 32 Try.underlying29 (by kernel_rfl) rfl (by decide) (by decide) (.slice A2 kn c2') (xs.take kn) (⟨te, ke, de⟩ : S54) [.int .i64 te, .int .i64 ke, .string de] _ (fun _ => False) ⟨b, 0, none⟩ 1 (by simpa using World.news_of_block (cs := #[.int .i64 te, .int .i64 ke, .string de]) (t := 54) (fr := (0, 0)) hk) (k54_mkM wr _ _ ⟨te, ke, de⟩) (fun k h => h.elim) (fun k hk => by omega) (Kd.R_take hJ.1 hkn) (by omega) (by omega)
    have h33' : A.eval (.tmp 33) = .slice A2 kn c2' := by simpa [Act.eval, Array.getD_eq_getD_getElem?] using h33
    have h35' : A.eval (.tmp 35) = .slice (some ⟨b, 0, none⟩) 1 1 := by simpa [Act.eval, Array.getD_eq_getD_getElem?] using h35
    rw [exec_append (by rw [h33', h35']; exact hrun)]
    have hown : (Value.slice A2 kn c2').ownBlock = row := by rw [hrowE]; cases A2 <;> rfl
    rw [hown] at hg1
    rw [← hys] at hR1
    exact ⟨hg1, hR1, trivial⟩
  (refine flowT_valE (by decide) ?_; apply Exists.intro; refine ⟨fun A wq hLq hbq hdq => ?_, ?_⟩; focus ((try simp [go_sem, baseF, deps, dep1, Region.binds] at hbq); (try simp [go_sem, baseF, deps, dep1, Region.binds] at hdq); go_simp; first | exact ⟨Below.refl _ _, rfl⟩ | (fail)))
  with_reducible refine flowT_tail ?_
  intro x wr hLq hall _
  simp only [allT] at hall
  obtain ⟨h11, hR1, -, hall⟩ := hall
  obtain ⟨A6, c6, h6, hcap6, -⟩ := Kd.R_reads hR1
  rw [hly] at h6
  rw [h6] at hR1
  have HR1 : Ents wq wr (.slice A6 (kn + 1) c6) ys := ⟨hR1, hyx⟩
  clear hR1
  have hB9 : Below w.heap.size w wr := bl_grown hB hLq (fun k hk => by have := hrow k hk; omega)
  have q8 := blk_grown k8 hLq n8v
  have q6 := blk_grown k6 hLq n6v
  have c2q := q8.cell 2 rfl
  have f2q := q8.free 2
  have l2q := q8.lt
  refine ⟨?_⟩
  simp [seqUpon, lastUpon, frameOf, Act.put, List.take, h11, h6, hall]
  clear hall h6 h11
  go_simp
  go_upto_region 5 with fail
  refine wp_at (fun Z => Below w.heap.size w Z ∧ Blk 67 b8 #[.int .i64 s, .int .i64 t, .slice A6 (kn + 1) c6] Z ∧ Blk 67 (w.heap.size + 1 + 1) #[.int .i64 0, .int .i64 0, .slice none 0 0] Z ∧ Ents wq Z (.slice A6 (kn + 1) c6) ys) ⟨bl_set hB9 (by show w.heap.size ≤ b8; omega), q8.set 2 _ rfl, q6.far (a := ⟨b8, 2, none⟩) (by show w.heap.size + 1 + 1 ≠ b8; omega) _, HR1.far q8 (by decide) 2 _⟩ ?_
  clear hB9 q8 q6 c2q f2q l2q HR1 HE hLq hB k3 k5 k6 k8 n8v n3v n5v n6v
  rintro Z ⟨hB, k8, k6, hE⟩
  have hC := (Kd.R_reads hE.1)
  obtain ⟨A7, c7, hv7, hcap7, hC7⟩ := hC
  have hA : A6 = A7 ∧ c6 = c7 := by injection hv7 with h1 h2 h3; exact ⟨h1, h3⟩
  obtain ⟨rfl, rfl⟩ := hA
  have hok := impl_LogOkH s t A6 c6 ys q Z H3 hSy (by omega) hC7 hcap7
  rw [hly] at hok
  have HE := Lib.hid hE
  have c0 := k8.cell 0 rfl
  have c1 := k8.cell 1 rfl
  have c2 := k8.cell 2 rfl
  have l8 := k8.lt
  clear hE hC7 hv7
  go_wp2_with fail
  refine hok.mono ?_
  clear hok
  rintro e Z2 ⟨rfl, hb⟩
  replace hB := bl_then hB hb
  replace k8 := k8.below hb
  replace k6 := k6.below hb
  replace HE := Lib.hid (HE.out.below hb)
  clear c0 c1 c2 l8 hb
  have y0 := k6.cell 0 rfl
  have y1 := k6.cell 1 rfl
  have y2 := k6.cell 2 rfl
  have z0 := k6.free 0
  have z1 := k6.free 1
  have z2 := k6.free 2
  have ly := k6.lt
  have hle2 : w.heap.size ≤ w.heap.size + 1 + 1 := by omega
  cases q with
  | false =>
    go_wp2_with fail
    refine bodyPost_ret (v := .tuple #[.agg #[.int .i64 0, .int .i64 0, .slice none 0 0], .bool false]) ?_ rfl ⟨⟨_, rfl, Kd.R_nil _ _ _ _ _, by simp⟩, ?_⟩
    · simp only [results, Try.results32]
      go_simp
    · exact bl_set (bl_set (bl_set hB hle2) hle2) hle2
  | true =>
    have c0 := k8.cell 0 rfl
    have c1 := k8.cell 1 rfl
    have c2 := k8.cell 2 rfl
    have l8 := k8.lt
    go_wp2_with fail
    refine bodyPost_ret (v := .tuple #[.agg #[.int .i64 s, .int .i64 t, .slice A6 (kn + 1) c6], .bool true]) ?_ rfl ⟨⟨_, rfl, ?_⟩, ?_⟩
    · simp only [results, Try.results32]
      go_simp
    · have q0 := k6.set 0 (.int .i64 s) (cs' := #[.int .i64 s, .int .i64 0, .slice none 0 0]) rfl
      have q1 := q0.set 1 (.int .i64 t) (cs' := #[.int .i64 s, .int .i64 t, .slice none 0 0]) rfl
      have hfin := (((HE.out.far k6 (by decide) 0 (.int .i64 s)).far q0 (by decide) 1 (.int .i64 t)).far q1 (by decide) 2 (.slice A6 (kn + 1) c6)).lower hle
      first | exact hfin | (rw [hys] at hfin; exact hfin)
    · exact bl_set (bl_set (bl_set hB hle2) hle2) hle2
end Go.Proofs.Ytdjikjmjajlgcaa.PFnPuts
end

/-! ### YtdjikjmjajlgcaaFlowD -/
section
namespace Go.Proofs.Ytdjikjmjajlgcaa
open Go.RowKit
set_option linter.unusedVariables false
set_option linter.unusedSimpArgs false

/-! The flow rule with a tail and with facts that die: what is known of an operation whose number is in dead holds until j0 has run (rows that j0 writes on). (own) -/
section
variable {P : Program} {L M : World → World → Prop} {J J1 : World → Prop} {j0 : Nat} {anc dead late : List Nat}
def liveT (anc dead : List Nat) (i : Nat) (T : FTab) : FTab := if anc.contains i then T else T.filter (fun x => !dead.contains x.1)
theorem liveT_sub {anc dead : List Nat} {i : Nat} {T : FTab} {x : Nat × Tmp × VPred} (h : x ∈ liveT anc dead i T) : x ∈ T ∧ (anc.contains i = true ∨ dead.contains x.1 = false) := by
  unfold liveT at h
  split at h
  · rename_i hc; exact ⟨h, .inl hc⟩
  · have := List.mem_filter.1 h
    exact ⟨this.1, .inr (by simpa using this.2)⟩
theorem liveT_mem {anc dead : List Nat} {i : Nat} {T : FTab} {x : Nat × Tmp × VPred} (h : x ∈ T) (hc : anc.contains i = true ∨ dead.contains x.1 = false) : x ∈ liveT anc dead i T := by
  unfold liveT
  split
  · exact h
  · rename_i hn
    exact List.mem_filter.2 ⟨h, by rcases hc with hc | hc; exact absurd hc hn; rw [hc]; rfl⟩
def MonoD (L M : World → World → Prop) (j0 : Nat) (dead late : List Nat) (i : Nat) (R : VPred) : Prop := if i = j0 then VMonoL M R else if dead.contains i || late.contains i then VMonoL M R else VMonoL L R
def FlowD (P : Program) (L M : World → World → Prop) (J J1 : World → Prop) (j0 : Nat) (anc dead late : List Nat) (w : World) (a : Act) (bs : List Nat) (Q : Exit → Act → World → Prop) (l0 : List Oper) (n0 : Nat) : Nat → List Oper → Nat → FTab → Prop
  | 0, rest, _, T => ∀ x w', L w w' → allT x w' (T.filter (fun x => !dead.contains x.1)) → (j0 < n0 → J1 w') → SeqUpon P (Q .normal) rest (frameOf x (l0.take n0) 0 a) w'
  | _ + 1, [], _, _ => False
  | m + 1, o :: rest, i, T => ∃ R : VPred, MonoD L M j0 dead late i R ∧
      (∀ A w', L w w' → (i = j0 → J w') → baseF A a bs → deps (liveT anc dead i T) A w' o.after.toList → flowUponL P (if i = j0 then L else M) (fun W u => R W u ∧ (i = j0 → J1 W)) w' ((execOp A.eval o).run P w')) ∧ FlowD P L M J J1 j0 anc dead late w a bs Q l0 n0 m rest (i + 1) (addT o i R T)

theorem flow_tableD {w : World} {a : Act} {bs : List Nat} {Q : Exit → Act → World → Prop} {l0 : List Oper} {n0 : Nat} : ∀ (m : Nat) (rest : List Oper) (i : Nat) (T : FTab), (∀ k d R, (k, d, R) ∈ T → k < i) → FlowD P L M J J1 j0 anc dead late w a bs Q l0 n0 m rest i T →
    ∃ (T' : FTab), m ≤ rest.length ∧ (∀ x ∈ T, x ∈ T') ∧ (∀ k d R, (k, d, R) ∈ T' → k < i → (k, d, R) ∈ T) ∧ (∀ k d R, (k, d, R) ∈ T' → k < i + m) ∧
      (∀ (j : Nat) (o : Oper), rest[j]? = some o → j < m → ∃ R, MonoD L M j0 dead late (i + j) R ∧ (∀ d' R', (i + j, d', R') ∈ T' → o.dst = some d' ∧ R' = R) ∧
        (∀ A w', L w w' → (i + j = j0 → J w') → baseF A a bs → (∀ e ∈ o.after.toList, Region.binds .any e = true → ∀ d R, (e.on, d, R) ∈ T' → (anc.contains (i + j) = true ∨ dead.contains e.on = false) → R w' (A.eval (.tmp d))) → flowUponL P (if i + j = j0 then L else M) (fun W u => R W u ∧ (i + j = j0 → J1 W)) w' ((execOp A.eval o).run P w'))) ∧
      (∀ x w', L w w' → allT x w' (T'.filter (fun x => !dead.contains x.1)) → (j0 < n0 → J1 w') → SeqUpon P (Q .normal) (rest.drop m) (frameOf x (l0.take n0) 0 a) w')
  | 0, rest, i, T, hT, h => ⟨T, by simp, fun _ h => h, fun _ _ _ h _ => h, fun k d R hm => by simpa using hT k d R hm, fun j o hj hl => by omega, by rw [List.drop_zero]; exact h⟩
  | m + 1, [], i, T, hT, h => h.elim
  | m + 1, o :: rest, i, T, hT, h => by
    obtain ⟨R, hmono, hobl, hrest⟩ := h
    have hT1 : ∀ k d R', (k, d, R') ∈ addT o i R T → k < i + 1 := fun k d R' hm => by
      unfold addT at hm
      split at hm
      · rcases List.mem_cons.1 hm with hm | hm
        · simp only [Prod.mk.injEq] at hm; omega
        · have := hT k d R' hm; omega
      · have := hT k d R' hm; omega
    have hsub : ∀ y ∈ T, y ∈ addT o i R T := fun y hy => by
      unfold addT
      split
      · exact .tail _ hy
      · exact hy
    obtain ⟨T', hlen, h1, h2, h3, h4, h5⟩ := flow_tableD m rest (i + 1) (addT o i R T) hT1 hrest
    refine ⟨T', by simp only [List.length_cons]; omega, fun y hy => h1 y (hsub y hy), fun k d R' hm hk => ?_, fun k d R' hm => ?_, fun j o' hj hjl => ?_, by simpa using h5⟩
    · have := h2 k d R' hm (by omega)
      unfold addT at this
      split at this
      · rcases List.mem_cons.1 this with hm | hm
        · simp only [Prod.mk.injEq] at hm; omega
        · exact hm
      · exact this
    · have := h3 k d R' hm
      omega
    · cases j with
      | zero =>
        simp only [List.getElem?_cons_zero, Option.some.injEq] at hj
        subst hj
        refine ⟨R, hmono, fun d' R' hm => ?_, fun A w' hb hj hbase hd => hobl A w' hb hj hbase (deps_of fun e he hbn d R' hm => hd e he hbn d R' (h1 _ (hsub _ (liveT_sub hm).1)) (by simpa using (liveT_sub hm).2))⟩
        have := h2 _ d' R' hm (by omega)
        unfold addT at this
        split at this
        · rename_i dd hdd
          rcases List.mem_cons.1 this with hm | hm
          · simp only [Prod.mk.injEq] at hm
            exact ⟨by rw [hdd, hm.2.1], hm.2.2⟩
          · have := hT _ d' R' hm; omega
        · have := hT _ d' R' this; omega
      | succ j =>
        simp only [List.getElem?_cons_succ] at hj
        obtain ⟨R2, a1, a2, a3⟩ := h4 j o' hj (by omega)
        rw [show i + 1 + j = i + (j + 1) from by omega] at a1 a2 a3
        exact ⟨R2, a1, a2, a3⟩

theorem wp_region_flowD {id : Nat} {Q : Exit → Act → World → Prop} {a : Act} {w : World} {l : List Oper} (j0 : Nat) (hJ0 : J w.drew) (hJM : ∀ a b, J a → M a b → J b) (hJ1M : ∀ a b, J1 a → M a b → J1 b) (hML : ∀ a b, M a b → L a b) (hdr : ∀ w : World, L w w.drew) (htr : ∀ a b c, L a b → L b c → L a c) (bs : List Nat) (n n0 : Nat) (hm : P.follows .mixedOrders = true) (hn : a.tmps.size = n)
    (hB : flowB n l = true) (hO : flowO l 0 = true) (hT : tailB l n0 = true) (hj0 : j0 < l.length) (hanc : anc.all (fun i => i == j0 || (ancF l j0 (edgesOf l j0)).contains i) = true) (hlate : late.all (fun i => (ancF l i (edgesOf l i)).contains j0) = true) (hbs : bs.all (fun t => (l.take n0).all (fun o => o.dst != some t)) = true) (h : FlowD P L M J J1 j0 anc dead late w a bs Q l n0 n0 l 0 []) : (Code.region id l.toArray true).wp P Q a w := by
  obtain ⟨T, hn0, -, -, hlen, hobl, hfin⟩ := flow_tableD n0 l 0 [] (by simp) h
  subst hn
  have htake : ∀ i, i < n0 → (l.take n0)[i]? = l[i]? := fun i hi => by rw [List.getElem?_take, if_pos hi]
  -- what the frame is when all the first ones are done
  have hframe : ∀ (A : Act) (w' : World) (listed : Array Bool), (∀ k, k < n0 → listed.getD k false = true) → (∀ k, n0 ≤ k → k < l.length → listed.getD k false = false) → L w w' → A.defers = a.defers → A.tmps.size = a.tmps.size →
      (∀ t, a.tmps[t]? ≠ A.tmps[t]? → ∃ (i : Nat) (o : Oper), l[i]? = some o ∧ o.dst = some t ∧ listed.getD i false = true) → (∀ i d R, (i, d, R) ∈ T → listed.getD i false = true → (dead.contains i = true → listed.getD j0 false = false) → R w' (A.eval (.tmp d))) → (listed.getD j0 false = true → J1 w') → seqUpon P (Q .normal) (l.drop n0) A w' := by
    intro A w' listed hdone hno hbel hdef hts hdiff hall hJ1
    have hx : frameOf (fun i => match (l[i]?).bind (·.dst) with | some d => A.eval (.tmp d) | none => undef) (l.take n0) 0 a = A := by
      refine frame_eq _ A (l.take n0) 0 a hdef hts (fun i o d hi hd hlt => ?_) (fun t ht => ?_)
      · have hi1 : i < n0 := by have := (List.getElem?_eq_some_iff.1 hi).1; simp at this; omega
        rw [htake i hi1] at hi
        simp only [Nat.zero_add, hi, Option.bind_some, hd, Act.eval, Array.getD_eq_getD_getElem?]
        have : d < A.tmps.size := by rw [hts]; exact hlt
        simp [this]
      · obtain ⟨j, oj, hj, hdj, hlj⟩ := hdiff t ht
        have hjl : j < l.length := (List.getElem?_eq_some_iff.1 hj).1
        have hj1 : j < n0 := by
          by_cases hjj : j < n0
          · exact hjj
          · rw [hno j (by omega) hjl] at hlj; cases hlj
        exact ⟨j, oj, (htake j hj1).trans hj, hdj⟩
    have hq := hfin (fun i => match (l[i]?).bind (·.dst) with | some d => A.eval (.tmp d) | none => undef) w' hbel (allT_of fun k d R hmem' => by
      have hmem := (List.mem_filter.1 hmem').1
      have hnd : dead.contains k = false := by simpa using (List.mem_filter.1 hmem').2
      have hk1 : k < n0 := by simpa using hlen k d R hmem
      have hkl : k < l.length := by omega
      have hko : l[k]? = some l[k] := by simp [hkl]
      obtain ⟨R2, -, huniq2, -⟩ := hobl k l[k] hko hk1
      simp only [Nat.zero_add] at huniq2
      obtain ⟨hod, -⟩ := huniq2 d R hmem
      simp only [hko, Option.bind_some, hod]
      exact hall k d R hmem (hdone k hk1) (fun e => by rw [hnd] at e; cases e)) (fun h => hJ1 (hdone j0 h))
    rw [hx] at hq
    exact hq.out
  refine wp_region_any hm ?_
  refine wpAny_inv (fun listed A w' => listed.size = l.length ∧ (∀ (j : Nat) (o : Oper), l[j]? = some o → listed.getD j false = true → ∀ e ∈ o.after.toList, Region.binds .any e = true → listed.getD e.on false = true) ∧
      (((∀ k, n0 ≤ k → k < l.length → listed.getD k false = false) ∧ L w w' ∧ A.defers = a.defers ∧ A.tmps.size = a.tmps.size ∧ (∀ t, a.tmps[t]? ≠ A.tmps[t]? → ∃ (i : Nat) (o : Oper), l[i]? = some o ∧ o.dst = some t ∧ listed.getD i false = true) ∧
      (∀ i d R, (i, d, R) ∈ T → listed.getD i false = true → (dead.contains i = true → listed.getD j0 false = false) → R w' (A.eval (.tmp d))) ∧ (listed.getD j0 false = false → J w') ∧ (listed.getD j0 false = true → J1 w')) ∨ (∃ k, n0 < k ∧ k ≤ l.length ∧ (∀ i, i < k → listed.getD i false = true) ∧ (∀ i, k ≤ i → i < l.length → listed.getD i false = false) ∧ seqUpon P (Q .normal) (l.drop k) A w'))) ?_ ?_ (fun listed => unl listed.toList) ?_ _ _ _ _ ?_ ?_
  · rintro listed A w' i ⟨hsz, hcl, hI⟩ hi
    obtain ⟨hun, o, ho, haft⟩ := mem_ready.1 hi
    have ho' : l[i]? = some o := by simpa using ho
    have hil : i < l.length := (List.getElem?_eq_some_iff.1 ho').1
    obtain ⟨hg, hd⟩ := flowB_spec hB i o ho'
    have haft' : ∀ e ∈ o.after.toList, Region.binds .any e = true → listed.getD e.on false = true := fun e he hb => haft e (by simpa using he) hb
    have hcl' : ∀ (j : Nat) (oj : Oper), l[j]? = some oj → (listed.setIfInBounds i true).getD j false = true → ∀ e ∈ oj.after.toList, Region.binds .any e = true → (listed.setIfInBounds i true).getD e.on false = true := by
      intro j oj hj hlj e he hb
      by_cases hij : i = j
      · subst hij
        obtain rfl : o = oj := by rw [ho'] at hj; exact Option.some.inj hj
        exact getD_set_mono (haft' e he hb)
      · rw [getD_set_ne false hij] at hlj
        exact getD_set_mono (hcl j oj hj hlj e he hb)
    have hself : (listed.setIfInBounds i true).getD i false = true := getD_set_self (by omega)
    have hunF : listed.getD i false = false := by
      rw [getD_ft (by omega)]; simpa using hun
    unfold wpOp
    rw [ho]
    simp only [Region.wanted, hg, if_true]
    -- a step of the tail
    have htailstep : ∀ k, n0 ≤ k → (∀ j, j < k → listed.getD j false = true) → (∀ j, k ≤ j → j < l.length → listed.getD j false = false) → k ≤ i → seqUpon P (Q .normal) (l.drop k) A w' → o.wp P A w' (fun a' w2 => (listed.setIfInBounds i true).size = l.length ∧ (∀ (j : Nat) (o : Oper), l[j]? = some o → (listed.setIfInBounds i true).getD j false = true → ∀ e ∈ o.after.toList, Region.binds .any e = true → (listed.setIfInBounds i true).getD e.on false = true) ∧
      (((∀ k, n0 ≤ k → k < l.length → (listed.setIfInBounds i true).getD k false = false) ∧ L w w2 ∧ a'.defers = a.defers ∧ a'.tmps.size = a.tmps.size ∧ (∀ t, a.tmps[t]? ≠ a'.tmps[t]? → ∃ (i_1 : Nat) (o : Oper), l[i_1]? = some o ∧ o.dst = some t ∧ (listed.setIfInBounds i true).getD i_1 false = true) ∧
      (∀ i_1 d R, (i_1, d, R) ∈ T → (listed.setIfInBounds i true).getD i_1 false = true → (dead.contains i_1 = true → (listed.setIfInBounds i true).getD j0 false = false) → R w2 (a'.eval (.tmp d))) ∧ ((listed.setIfInBounds i true).getD j0 false = false → J w2) ∧ ((listed.setIfInBounds i true).getD j0 false = true → J1 w2)) ∨ (∃ k, n0 < k ∧ k ≤ l.length ∧ (∀ i_1, i_1 < k → (listed.setIfInBounds i true).getD i_1 false = true) ∧ (∀ i_1, k ≤ i_1 → i_1 < l.length → (listed.setIfInBounds i true).getD i_1 false = false) ∧ seqUpon P (Q .normal) (l.drop k) a' w2))) Q := by
      intro k hk hdone hno hki hseq
      obtain rfl : i = k := by
        rcases Nat.lt_or_ge k i with hlt | hge
        · have := tail_listed hT (by omega) ho' hcl haft' k hlt
          rw [hno k (Nat.le_refl _) (by omega)] at this
          cases this
        · omega
      have hdc : l.drop i = o :: l.drop (i + 1) := by
        rw [List.drop_eq_getElem_cons hil]
        congr 1
        have := List.getElem?_eq_getElem hil
        rw [ho'] at this
        exact (Option.some.inj this).symm
      rw [hdc] at hseq
      simp only [seqUpon] at hseq
      refine last_upon hseq fun v w2 hv => ⟨by simpa using hsz, hcl', .inr ⟨i + 1, by omega, by omega, fun j hj => ?_, fun j hj hjl => ?_, hv⟩⟩
      · by_cases hji : i = j
        · subst hji; exact hself
        · exact getD_set_mono (hdone j (by omega))
      · rw [getD_set_ne false (by omega)]; exact hno j (by omega) hjl
    rcases hI with ⟨hno, hbel, hdef, hts, hdiff, hall, hJ, hJ1⟩ | ⟨k, hk0, hkl, hdone, hno, hseq⟩
    · by_cases hil1 : i < n0
      · obtain ⟨R, hmono, huniq, hob⟩ := hobl i o ho' hil1
        simp only [Nat.zero_add] at huniq hmono hob
        have hstep : ∀ v w2, (L w' w2) → (∀ k d R', (k, d, R') ∈ T → i ≠ k → listed.getD k false = true → (dead.contains k = true → (listed.setIfInBounds i true).getD j0 false = false) → R' w2 (A.eval (.tmp d))) → R w2 v → ((listed.setIfInBounds i true).getD j0 false = false → J w2) → ((listed.setIfInBounds i true).getD j0 false = true → J1 w2) → (listed.setIfInBounds i true).size = l.length ∧ (∀ (j : Nat) (o : Oper), l[j]? = some o → (listed.setIfInBounds i true).getD j false = true → ∀ e ∈ o.after.toList, Region.binds .any e = true → (listed.setIfInBounds i true).getD e.on false = true) ∧
      (((∀ k, n0 ≤ k → k < l.length → (listed.setIfInBounds i true).getD k false = false) ∧ L w w2 ∧ (A.put o.dst v).defers = a.defers ∧ (A.put o.dst v).tmps.size = a.tmps.size ∧ (∀ t, a.tmps[t]? ≠ (A.put o.dst v).tmps[t]? → ∃ (i_1 : Nat) (o : Oper), l[i_1]? = some o ∧ o.dst = some t ∧ (listed.setIfInBounds i true).getD i_1 false = true) ∧
      (∀ i_1 d R, (i_1, d, R) ∈ T → (listed.setIfInBounds i true).getD i_1 false = true → (dead.contains i_1 = true → (listed.setIfInBounds i true).getD j0 false = false) → R w2 ((A.put o.dst v).eval (.tmp d))) ∧ ((listed.setIfInBounds i true).getD j0 false = false → J w2) ∧ ((listed.setIfInBounds i true).getD j0 false = true → J1 w2)) ∨ (∃ k, n0 < k ∧ k ≤ l.length ∧ (∀ i_1, i_1 < k → (listed.setIfInBounds i true).getD i_1 false = true) ∧ (∀ i_1, k ≤ i_1 → i_1 < l.length → (listed.setIfInBounds i true).getD i_1 false = false) ∧ seqUpon P (Q .normal) (l.drop k) (A.put o.dst v) w2)) := by
          intro v w2 hb2 hkeep hR hJ2 hJ3
          refine ⟨by simpa using hsz, hcl', .inl ⟨fun k hk hkl => ?_, htr _ _ _ hbel hb2, ?_, ?_, ?_, ?_, hJ2, hJ3⟩⟩
          · rw [getD_set_ne false (by omega)]; exact hno k hk hkl
          · rw [← hdef]; unfold Act.put; split <;> rfl
          · rw [← hts]; unfold Act.put; split <;> simp
          · intro t ht
            by_cases hdt : o.dst = some t
            · exact ⟨i, o, ho', hdt, hself⟩
            · refine (hdiff t fun he => ht ?_).imp fun j => Exists.imp fun oj h => ⟨h.1, h.2.1, getD_set_mono h.2.2⟩
              rw [he]
              unfold Act.put
              split
              · rename_i t' ht'
                have : t' ≠ t := fun e => hdt (by rw [ht', e])
                rw [Array.getElem?_setIfInBounds_ne this]
              · rfl
          · intro k d R' hmem hk hdk
            have hk1 : k < n0 := by simpa using hlen k d R' hmem
            by_cases hki : i = k
            · subst hki
              obtain ⟨hod, rfl⟩ := huniq d R' hmem
              rw [eval_put_eq hod (by rw [hts]; exact (hd d hod).1)]
              exact hR
            · have hk' : listed.getD k false = true := by rw [getD_set_ne false hki] at hk; exact hk
              have hkl : k < l.length := by omega
              have hko : l[k]? = some l[k] := by simp [hkl]
              obtain ⟨R2, hmono2, huniq2, -⟩ := hobl k l[k] hko hk1
              simp only [Nat.zero_add] at huniq2
              obtain ⟨hod, -⟩ := huniq2 d R' hmem
              have hne : o.dst ≠ some d := fun hd0 => by
                rcases Nat.lt_or_gt_of_ne hki with h | h
                · exact (hd d hd0).2 k l[k] hko h hod
                · exact ((flowB_spec hB k l[k] hko).2 d hod).2 i o ho' h hd0
              rw [eval_put_ne hne]
              exact hkeep k d R' hmem hki hk' hdk
        have hbase : baseF A a bs := baseF_of fun t ht => by
          have h1 := List.all_eq_true.1 hbs t ht
          have h2 : ∀ o ∈ l.take n0, o.dst ≠ some t := fun o ho => by simpa using List.all_eq_true.1 h1 o ho
          have h3 : a.tmps[t]? = A.tmps[t]? := Classical.byContradiction fun hne => by
            obtain ⟨j, oj, hj, hdj, hlj⟩ := hdiff t hne
            have hjl : j < l.length := (List.getElem?_eq_some_iff.1 hj).1
            have hj1 : j < n0 := by
              by_cases hjj : j < n0
              · exact hjj
              · rw [hno j (by omega) hjl] at hlj; cases hlj
            exact h2 oj (List.mem_of_getElem? ((htake j hj1).trans hj)) hdj
          simp only [Act.eval, Array.getD_eq_getD_getElem?, h3]
        have hancU : anc.contains i = true → listed.getD j0 false = false := fun ha => by
          rcases Bool.eq_false_or_eq_true (listed.getD j0 false) with h | h
          · exfalso
            have h1 := List.all_eq_true.1 hanc i (by simpa using ha)
            simp only [Bool.or_eq_true, beq_iff_eq] at h1
            rcases h1 with h1 | h1
            · rw [h1, h] at hunF; cases hunF
            · have := anc_listed hcl j0 (edgesOf l j0) (fun k hk => edges_listed hcl j0 h k hk) i (by simpa using h1)
              rw [this] at hunF; cases hunF
          · exact h
        have hobA := hob A w' hbel (fun e => hJ (by rw [← e]; exact hunF)) hbase fun e he hb d R hmem hli => hall _ d R hmem (haft' e he hb) (fun hde => (hli.elim (fun ha => hancU ha) (fun h => by rw [h] at hde; cases hde)))
        have hmonoM : ∀ k d R', (k, d, R') ∈ T → VMonoL M R' := fun k d R' hmem => by
          have hk1 : k < n0 := by simpa using hlen k d R' hmem
          have hkl : k < l.length := by omega
          obtain ⟨R2, hmono2, huniq2, -⟩ := hobl k l[k] (by simp [hkl]) hk1
          simp only [Nat.zero_add] at huniq2 hmono2
          obtain ⟨-, rfl⟩ := huniq2 d R' hmem
          unfold MonoD at hmono2
          split at hmono2
          · exact hmono2
          · split at hmono2
            · exact hmono2
            · exact fun a b v hr hM => hmono2 a b v hr (hML _ _ hM)
        by_cases hij : i = j0
        · rw [if_pos hij] at hobA
          refine .inl (flow_uponL hobA fun v w2 hb2 hR => hstep v w2 hb2 (fun k d R' hmem hki hk' hdk => ?_) hR.1 (fun h => by rw [← hij, hself] at h; cases h) (fun _ => hR.2 hij))
          have hk1 : k < n0 := by simpa using hlen k d R' hmem
          have hkl : k < l.length := by omega
          obtain ⟨R2, hmono2, huniq2, -⟩ := hobl k l[k] (by simp [hkl]) hk1
          simp only [Nat.zero_add] at huniq2 hmono2
          obtain ⟨-, rfl⟩ := huniq2 d R' hmem
          unfold MonoD at hmono2
          rw [if_neg (by omega)] at hmono2
          split at hmono2
          · rename_i hdd
            rcases Bool.or_eq_true _ _ ▸ hdd with hdd | hdd
            · have := hdk hdd
              rw [← hij, hself] at this; cases this
            · exfalso
              have h1 := List.all_eq_true.1 hlate k (by simpa using hdd)
              have := anc_listed hcl k (edgesOf l k) (fun j hj => edges_listed hcl k hk' j hj) j0 (by simpa using h1)
              rw [← hij, hunF] at this; cases this
          · rename_i hdd
            exact hmono2 _ _ _ (hall k d R' hmem hk' (fun h => absurd (by rw [h]; rfl) hdd)) hb2
        · rw [if_neg hij] at hobA
          have hj0e : (listed.setIfInBounds i true).getD j0 false = false → listed.getD j0 false = false := fun h => by rwa [getD_set_ne false hij] at h
          exact .inl (flow_uponL hobA fun v w2 hb2 hR => hstep v w2 (hML _ _ hb2) (fun k d R' hmem hki hk' hdk => hmonoM k d R' hmem _ _ _ (hall k d R' hmem hk' (fun h => hj0e (hdk h))) hb2) hR.1 (fun h => hJM _ _ (hJ (hj0e h)) hb2) (fun h => hJ1M _ _ (hJ1 (by rwa [getD_set_ne false hij] at h)) hb2))
      · have hdone : ∀ j, j < n0 → listed.getD j false = true := fun j hj => tail_listed hT (by omega) ho' hcl haft' j (by omega)
        exact .inl (htailstep n0 (Nat.le_refl _) hdone hno (by omega) (hframe A w' listed hdone hno hbel hdef hts hdiff hall hJ1))
    · have hki : k ≤ i := by
        rcases Nat.lt_or_ge i k with hlt | hge
        · rw [hdone i hlt] at hunF; cases hunF
        · exact hge
      exact .inl (htailstep k (by omega) hdone hno hki hseq)
  · rintro listed A w' ⟨hsz, hcl, hI⟩ hno
    have hdone : ∀ k, k < l.length → listed.getD k false = true := by
      intro k
      induction k using Nat.strongRecOn with
      | _ k ih =>
        intro hk
        refine Classical.byContradiction fun hf => hno k (mem_ready.2 ⟨?_, l[k], by simp [hk], fun e he hb => ?_⟩)
        · have hks : k < listed.size := by omega
          simp only [Array.getD_eq_getD_getElem?, Array.getElem?_eq_getElem hks, Option.getD_some] at hf ⊢
          simpa using hf
        · have hlt := flowO_spec hO k l[k] (by simp [hk]) e (by simpa using he) hb
          exact ih e.on (by omega) (by omega)
    rcases hI with ⟨hnl, hbel, hdef, hts, hdiff, hall, -, hJ1⟩ | ⟨k, hk0, hkl, -, hnl, hseq⟩
    · have hnn : n0 = l.length := by
        rcases Nat.lt_or_ge n0 l.length with h | h
        · have := hnl n0 (Nat.le_refl _) h
          rw [hdone n0 h] at this; cases this
        · omega
      have := hframe A w' listed (fun k hk => hdone k (by omega)) hnl hbel hdef hts hdiff hall hJ1
      rw [hnn, List.drop_length] at this
      exact this
    · have hkk : k = l.length := by
        rcases Nat.lt_or_ge k l.length with h | h
        · have := hnl k (Nat.le_refl _) h
          rw [hdone k h] at this; cases this
        · omega
      rw [hkk, List.drop_length] at hseq
      exact hseq
  · rintro listed A w' i ⟨hsz, -⟩ hi
    obtain ⟨hun, o, ho, -⟩ := mem_ready.1 hi
    have hil : i < listed.size := by have := (Array.getElem?_eq_some_iff.1 ho).1; simp at this; omega
    simp only [Array.toList_setIfInBounds]
    refine unl_set _ _ ?_
    simp only [Array.getD_eq_getD_getElem?, Array.getElem?_eq_getElem hil, Option.getD_some] at hun
    simp [hil, hun]
  · simp [unl_rep]
  · refine ⟨by simp, fun j o _ hl => ?_, .inl ⟨fun k hk hkl => ?_, hdr w, rfl, rfl, fun t ht => absurd rfl ht, fun i d R _ hl => ?_, fun _ => hJ0, fun hl => ?_⟩⟩
    · simp [Array.getD_eq_getD_getElem?, Array.getElem?_replicate] at hl; split at hl <;> simp at hl
    · simp [Array.getD_eq_getD_getElem?, Array.getElem?_replicate]; split <;> simp
    · simp [Array.getD_eq_getD_getElem?, Array.getElem?_replicate] at hl; split at hl <;> simp at hl
    · simp [Array.getD_eq_getD_getElem?, Array.getElem?_replicate] at hl; split at hl <;> simp at hl

section
variable {w : World} {a : Act} {bs : List Nat} {Q : Exit → Act → World → Prop} {l0 rest : List Oper} {n0 m i : Nat} {T : FTab} {d : Tmp} {op : Op} {ty : TypeId} {pos : String} {es : Array Edge} {g : Option (Nat × Bool)}
theorem flowD_valE (hij : i ≠ j0)
    (h : ∃ e, (∀ A w', L w w' → baseF A a bs → deps (liveT anc dead i T) A w' es.toList → flowUponL P M (fun _ v => v = e) w' ((execOp A.eval ⟨some d, op, ty, pos, es, g⟩).run P w')) ∧
      FlowD P L M J J1 j0 anc dead late w a bs Q l0 n0 m rest (i + 1) ((i, d, fun _ v => v = e) :: T)) : FlowD P L M J J1 j0 anc dead late w a bs Q l0 n0 (m + 1) (⟨some d, op, ty, pos, es, g⟩ :: rest) i T := by
  obtain ⟨e, h, k⟩ := h
  refine ⟨_, ?_, by rw [if_neg hij]; exact fun A w' hl _ hb hd => flowUponL_imp (h A w' hl hb hd) (fun _ _ hr => ⟨hr, fun e => absurd e hij⟩), k⟩
  unfold MonoD
  rw [if_neg hij]
  split <;> exact fun _ _ _ h _ => h
theorem flowD_R (hij : i ≠ j0) (R : VPred) (hm : if dead.contains i || late.contains i then VMonoL M R else VMonoL L R)
    (h : ∀ A w', L w w' → baseF A a bs → deps (liveT anc dead i T) A w' es.toList → flowUponL P M R w' ((execOp A.eval ⟨some d, op, ty, pos, es, g⟩).run P w'))
    (k : FlowD P L M J J1 j0 anc dead late w a bs Q l0 n0 m rest (i + 1) ((i, d, R) :: T)) : FlowD P L M J J1 j0 anc dead late w a bs Q l0 n0 (m + 1) (⟨some d, op, ty, pos, es, g⟩ :: rest) i T := ⟨R, by unfold MonoD; rw [if_neg hij]; exact hm, by rw [if_neg hij]; exact fun A w' hl _ hb hd => flowUponL_imp (h A w' hl hb hd) (fun _ _ hr => ⟨hr, fun e => absurd e hij⟩), k⟩
theorem flowD_row (hij : i = j0) (R : VPred) (hm : VMonoL M R)
    (h : ∀ A w', L w w' → J w' → baseF A a bs → deps (liveT anc dead i T) A w' es.toList → flowUponL P L (fun W u => R W u ∧ J1 W) w' ((execOp A.eval ⟨some d, op, ty, pos, es, g⟩).run P w'))
    (k : FlowD P L M J J1 j0 anc dead late w a bs Q l0 n0 m rest (i + 1) ((i, d, R) :: T)) : FlowD P L M J J1 j0 anc dead late w a bs Q l0 n0 (m + 1) (⟨some d, op, ty, pos, es, g⟩ :: rest) i T := ⟨R, by unfold MonoD; rw [if_pos hij]; exact hm, by rw [if_pos hij]; exact fun A w' hl hj hb hd => flowUponL_imp (h A w' hl (hj hij) hb hd) (fun _ _ hr => ⟨hr.1, fun _ => hr.2⟩), k⟩
theorem flowD_tail
    (h : ∀ x w', L w w' → allT x w' (T.filter (fun x => !dead.contains x.1)) → (j0 < n0 → J1 w') → SeqUpon P (Q .normal) rest (frameOf x (l0.take n0) 0 a) w') : FlowD P L M J J1 j0 anc dead late w a bs Q l0 n0 0 rest i T := h
end
end
end Go.Proofs.Ytdjikjmjajlgcaa
end

/-! ### YtdjikjmjajlgcaaAppendE -/
section
namespace Go.Proofs.Ytdjikjmjajlgcaa.PFnPuts
open Go.RowKit Go.Proofs.YtdjikjmjajlgcaaW.PrintWords
set_option linter.unusedSimpArgs false
set_option linter.unusedVariables false

/-! append of entries onto an empty slice literal: memory is made, nothing is written. (own) -/
theorem append_empty_R (W : World) (b base : Nat) (hb : Blk 54 b #[] W) (hbase : base ≤ b) (A : Option Addr) (c : Nat) (ys : List S54) (hC : Kd.C k54 W A ys.length ys) (hl : ys.length ≤ 1000) :
    ∃ v1 w1, (Builtin.append_ #[29, 29] 29 #[.slice (some ⟨b, 0, none⟩) 0 0, .slice A ys.length c]).run Try.prog W = .ok v1 w1 ∧ Kd.R k54 54 w1 base (fun k => base ≤ k) v1 ys ∧ Below W.heap.size W w1 := by
  have ht : Try.prog.underlying 29 = some (.slice 54) := Try.underlying29
  have hinfo : (Try.prog.info? 54).map (fun i => (i.zero, i.size, i.bytes)) = some (some (.agg #[.int .i64 0, .int .i64 0, .string ⟨#[]⟩]), 3, 32) := by kernel_rfl
  have hbl := hb.lt
  cases hi : Try.prog.info? 54 with
  | none => rw [hi] at hinfo; simp at hinfo
  | some i =>
    rw [hi] at hinfo
    simp only [Option.map_some, Option.some.injEq, Prod.mk.injEq] at hinfo
    obtain ⟨i1, i2, i3⟩ := hinfo
    rcases Nat.eq_zero_or_pos ys.length with h0 | h0
    · obtain rfl : ys = [] := List.eq_nil_of_length_eq_zero h0
      refine ⟨.slice (some ⟨b, 0, none⟩) 0 0, W, ?_, ⟨fun k hk => ?_, [], ⟨by simp, .inr ⟨b, 0, #[], rfl, hbase, hb, Nat.le_refl _, by simp [maxLen], by simp, by simp⟩⟩, Reps.none _ _⟩, Below.refl _ _⟩
      · cases A <;> simp [Builtin.append_, run_underlying ht, sizeOf, typeInfo, hi, Builtin.lenOf, Builtin.firstCells, loadCells, loadCellsFrom, storeCells]
      · have : b = k := by simpa [Value.ownBlock] using hk
        omega
    · obtain ⟨ad, rfl, -⟩ := hC.2.2 h0
      obtain ⟨news, hnr, hnc⟩ := ReadsRow.inner_ hC
      have hlen : news.length = ys.length * i.size := by rw [i2]; exact hnr.1
      have hr := run_append_grow (P := Try.prog) W 29 29 54 i _ ht hi i1 ⟨b, 0, none⟩ 0 0 [] (by simp) (by simp) ad ys.length c news hlen hnc (by omega) (by omega) (growslice_fits (by omega) (by rw [i3]; omega))
      have hge := grownCap_ge W (0 + ys.length) 0 54
      have hcm : grownCap W (0 + ys.length) 0 54 ≤ maxLen := grownCap_le_maxLen W (0 + ys.length) 0 54 (by simp [maxLen]; omega)
      have hB : Below W.heap.size W (W.drew.alloc (.cells (([] : List Value).toArray ++ news.toArray ++ Builtin.zeroCells (Value.agg #[.int .i64 0, .int .i64 0, .string ⟨#[]⟩]).cells (grownCap W (0 + ys.length) 0 54 - (0 + ys.length))) 54)) := bl_alloc (bl_drew (Below.refl _ _)) _
      refine ⟨_, _, hr, ⟨fun k hk => ?_, news, ?_, ?_⟩, hB⟩
      · have : W.heap.size = k := by simpa [Value.ownBlock] using hk
        omega
      · refine ⟨by rw [hlen, i2]; rfl, .inr ⟨W.heap.size, grownCap W (0 + ys.length) 0 54, _, by rw [Nat.zero_add], by omega, heap_alloc_new W.drew _, by omega, hcm, ?_, ?_⟩⟩
        · have hz : (Value.agg #[.int .i64 0, .int .i64 0, .string ⟨#[]⟩]).cells.size = 3 := by decide
          obtain ⟨G, hG⟩ : ∃ G, G = grownCap W (0 + ys.length) 0 54 := ⟨_, rfl⟩
          rw [← hG] at hge ⊢
          simp only [Array.size_append, List.size_toArray, size_zeroCells, hz, hlen, i2, List.length_nil, Nat.zero_add]
          rw [← Nat.add_mul, show ys.length + (G - ys.length) = G from by omega]
          rfl
        · simp only [Array.toList_append, List.nil_append]
          rw [show ys.length * k54.sz = news.length from by rw [hlen, i2]; rfl]
          exact List.take_left
      · exact hnr.imp_ (fun x cs hx => by rw [k54_open hx]; exact k54_mkM _ _ _ x)
end Go.Proofs.Ytdjikjmjajlgcaa.PFnPuts
end
