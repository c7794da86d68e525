import Derived.Test.YtmljihfaapoakaaSMessagesD
import Derived.Test.YtmljihfaapoakaaSMessagesB
import Derived.Test.YtmljihfaapoakaaSMessagesE
import Derived.Test.YtmljihfaapoakaaSMessagesA

section
namespace Go.Proofs.Ytmljihfaapoakaa
open Go.RowKit Go.Proofs.YtmljihfaapoakaaW.PrintWords
set_option linter.unusedSimpArgs false
set_option linter.unusedVariables false
def entryOkI (i t k : Int) (d : ByteArray) : Bool := entryOk t k d && inB i 1 1000000
def entryS (i t k : Int) (d : ByteArray) : ByteArray := (⟨#[69]⟩ : ByteArray) ++ varS i ++ varS t ++ byteS k ++ d
def entryT (i t k : Int) (d : ByteArray) : ByteArray := if entryOkI i t k d then entryS i t k d else ⟨#[]⟩
theorem impl_EntryOkH (t k : Int) (d : ByteArray) (b : Bool) (w : World) (h : Hid (entryOk t k d = b)) (hd : d.size ≤ 1099511627776) :
    Calls Try.prog 49 #[.agg #[.int .i64 t, .int .i64 k, .string d]] w fun e w' => e = .returned (.bool b) ∧ Below w.heap.size w w' := by
  have hf := PFnMessages.ientry_f t k d (d.size + d.size + 2) (by omega) (by omega)
  rw [h.out] at hf
  exact PFnMessages.impl_EntryOk.calls _ t k d b w hf
theorem spec_EntryOkH (t k : Int) (d : ByteArray) (b : Bool) (w : World) (h : Hid (entryOk t k d = b)) (hd : d.size ≤ 1099511627776) :
    Calls Try.prog 29 #[.agg #[.int .i64 t, .int .i64 k, .string d]] w fun e w' => e = .returned (.bool b) ∧ Below w.heap.size w w' := by
  have hf := PFnMessages.sentry_f t k d (d.size + d.size + 2) (by omega) (by omega)
  rw [h.out] at hf
  exact PFnMessages.spec_EntryOk.calls _ t k d b w hf
theorem impl_inH' (n lo hi : Int) (b : Bool) (w : World) (h : Hid (inB n lo hi = b)) :
    Calls Try.prog 31 #[.int .i64 n, .int .i64 lo, .int .i64 hi] w fun e w' => e = .returned (.bool b) ∧ w = w' := by
  have := impl_in n lo hi w
  rw [h.out] at this
  exact this
theorem spec_l01InH' (n lo hi : Int) (b : Bool) (w : World) (h : Hid (inB n lo hi = b)) :
    Calls Try.prog 28 #[.int .i64 n, .int .i64 lo, .int .i64 hi] w fun e w' => e = .returned (.bool b) ∧ w = w' := by
  have := spec_l01In n lo hi w
  rw [h.out] at this
  exact this
theorem entryOk_parts {t k : Int} {d : ByteArray} (h : entryOk t k d = true) : 0 ≤ t ∧ t ≤ 100000 ∧ 1 ≤ k ∧ k ≤ 3 ∧ d.size ≤ 120 := by
  unfold entryOk at h
  simp only [Bool.and_eq_true, decide_eq_true_eq] at h
  obtain ⟨⟨h1, h2⟩, h3⟩ := h
  refine ⟨h1, h2, ?_⟩
  by_cases c1 : k = 1
  · rw [if_pos c1] at h3
    have hz : d.toList = [] := by simpa using h3
    have : d.size = 0 := by
      rw [ByteArray.toList_eq] at hz
      have : d.data.size = 0 := by rw [← Array.length_toList, hz]; rfl
      exact this
    omega
  rw [if_neg c1] at h3
  by_cases c2 : k = 2
  · rw [if_pos c2] at h3
    unfold readConf at h3
    split at h3
    · rename_i hc
      have := (confOk_short hc).2
      rw [bytesFrom_length] at this
      omega
    · simp at h3
  rw [if_neg c2] at h3
  by_cases c3 : k = 3
  · rw [if_pos c3] at h3; simp at h3; omega
  rw [if_neg c3] at h3
  cases h3
theorem conv_new1 {P : Program} {src e dst T : TypeId} (hs : P.underlying src = some (.slice e)) (he : P.underlying e = some (.int .u8)) (hd : P.underlying dst = some .string) {w : World} {b : Nat} {x : Int}
    (h : w.heap[b]? = some (.cells #[.int .u8 x] T (0, 0))) : (convert src dst (.slice (some ⟨b, 0, none⟩) 1 1)).run P w = .ok (.string (strOfNums [x])) w := by
  refine run_convert_bytes_arg w src e hs he b 0 1 1 [x] rfl (fun i hi => ?_) dst hd
  obtain rfl : i = 0 := by omega
  simp [World.cell?, h]
attribute [local go_sem] flowUpon ByteArray.size_append
set_option maxHeartbeats 1000000 in
set_option maxRecDepth 100000 in
theorem impl_EntryText_yes (i t k : Int) (d : ByteArray) (w : World) (H1 : Hid (entryOk t k d = true)) (H2 : Hid (inB i 1 1000000 = true)) (hd : d.size ≤ 1099511627776) :
    Calls Try.prog 18 #[.int .i64 i, .agg #[.int .i64 t, .int .i64 k, .string d]] w fun e w' => e = .returned (.tuple #[.string ((⟨#[69]⟩ : ByteArray) ++ varS i ++ varS t ++ byteS k ++ d), .bool true]) ∧ Below w.heap.size w w' := by
  obtain ⟨ht0, ht1, hk0, hk1, hdz⟩ := entryOk_parts H1.out
  obtain ⟨hi0, hi1⟩ := inB_iff.1 H2.out
  have s1 := varS_size i (by omega) (by omega)
  have s2 := varS_size t (by omega) (by omega)
  have s3 : (strOfNums [k % 256]).size ≤ 1 := byteS_size k
  have s4 : (⟨#[69]⟩ : ByteArray).size = 1 := rfl
  go_enter Try.func18, Try.ntmps18
  go_wp2_with (first
    | (go_at_call 49; refine (impl_EntryOkH _ _ _ true _ H1 hd).mono ?_; rintro e w' ⟨rfl, hb⟩; obtain ⟨hc, hf⟩ := bcell hb; have hz : w.heap.size < w'.heap.size := (by have := hb.size; simp at this ⊢; omega))
    | (go_at_call 31; (with_reducible refine (impl_inH' _ _ _ true _ H2).mono ?_); rintro e w' ⟨rfl, rfl⟩))
  refine wp_region_flow [0, 3] 29 (by kernel_rfl) (by rfl) (by kernel_rfl) (by kernel_rfl) (by kernel_rfl) ?_
  iterate 9 (refine flow_valE ?_; apply Exists.intro; refine ⟨fun A wq hBq hbq hdq => ?_, ?_⟩; focus (obtain ⟨hcq, hfq⟩ := bcell hBq; (try simp [go_sem, baseF, deps, dep1, Region.binds] at hbq); (try simp [go_sem, baseF, deps, dep1, Region.binds, NewSl] at hdq); go_simp; first | exact ⟨Below.refl _ _, rfl⟩ | (rw [if_neg]; (focus (exact ⟨Below.refl _ _, rfl⟩)); (focus ((try simp only [ByteArray.size_append]); omega))) | (first | (go_at_call 16; exact (impl_varOf _ _ (by omega) (by omega))))))
  (refine flow_newSlE ?_; apply Exists.intro; apply Exists.intro; apply Exists.intro; refine ⟨fun A wq hBq hbq hdq => ?_, ?_⟩; focus (obtain ⟨hcq, hfq⟩ := bcell hBq; (try simp [go_sem, baseF, deps, dep1, Region.binds] at hbq); (try simp [go_sem, baseF, deps, dep1, Region.binds, NewSl] at hdq); go_simp; exact ⟨rfl, rfl⟩))
  (refine flow_valE ?_; apply Exists.intro; refine ⟨fun A wq hBq hbq hdq => ?_, ?_⟩; focus (obtain ⟨hcq, hfq⟩ := bcell hBq; (try simp [go_sem, baseF, deps, dep1, Region.binds] at hbq); (try simp [go_sem, baseF, deps, dep1, Region.binds, NewSl] at hdq); go_simp; first | exact ⟨Below.refl _ _, rfl⟩ | (rw [if_neg]; (focus (exact ⟨Below.refl _ _, rfl⟩)); (focus ((try simp only [ByteArray.size_append]); omega))) | ((go_at_call 15; obtain ⟨⟨g, h1, h2, h3⟩, -⟩ := hdq; rw [h1]; exact impl_oneByte1 g k _ (by simp [World.cell?, h3])))))
  iterate 6 (refine flow_valE ?_; apply Exists.intro; refine ⟨fun A wq hBq hbq hdq => ?_, ?_⟩; focus (obtain ⟨hcq, hfq⟩ := bcell hBq; (try simp [go_sem, baseF, deps, dep1, Region.binds] at hbq); (try simp [go_sem, baseF, deps, dep1, Region.binds, NewSl] at hdq); go_simp; first | exact ⟨Below.refl _ _, rfl⟩ | (rw [if_neg]; (focus (exact ⟨Below.refl _ _, rfl⟩)); (focus ((try simp only [ByteArray.size_append]); omega))) | (fail)))
  refine fun x wq hBq hall => ?_
  obtain ⟨hcq, hfq⟩ := bcell hBq
  simp only [allT] at hall
  simp [frameOf, Act.put, hall]
  clear hall
  go_wp2
  go_ret2
  exact ⟨rfl, (by repeat (first | exact Below.refl _ _ | apply bl_alloc | apply bl_drewN | apply bl_drew | refine bl_set ?_ (by simp) | refine bl_then ?_ (by assumption)))⟩
set_option maxHeartbeats 1000000 in
set_option maxRecDepth 100000 in
theorem spec_EntryText_yes (i t k : Int) (d : ByteArray) (w : World) (H1 : Hid (entryOk t k d = true)) (H2 : Hid (inB i 1 1000000 = true)) (hd : d.size ≤ 1099511627776) :
    Calls Try.prog 56 #[.int .i64 i, .agg #[.int .i64 t, .int .i64 k, .string d]] w fun e w' => e = .returned (.tuple #[.string ((⟨#[69]⟩ : ByteArray) ++ varS i ++ varS t ++ byteS k ++ d), .bool true]) ∧ Below w.heap.size w w' := by
  obtain ⟨ht0, ht1, hk0, hk1, hdz⟩ := entryOk_parts H1.out
  obtain ⟨hi0, hi1⟩ := inB_iff.1 H2.out
  have s1 := varS_size i (by omega) (by omega)
  have s2 := varS_size t (by omega) (by omega)
  have s3 : (strOfNums [k % 256]).size ≤ 1 := byteS_size k
  have s5 := byteS_size k
  have s4 : (⟨#[69]⟩ : ByteArray).size = 1 := rfl
  go_enter Try.func56, Try.ntmps56
  go_wp2_with (first
    | (go_at_call 29; refine (spec_EntryOkH _ _ _ true _ H1 hd).mono ?_; rintro e w' ⟨rfl, hb⟩; obtain ⟨hc, hf⟩ := bcell hb; have hz : w.heap.size < w'.heap.size := (by have := hb.size; simp at this ⊢; omega))
    | (go_at_call 28; (with_reducible refine (spec_l01InH' _ _ _ true _ H2).mono ?_); rintro e w' ⟨rfl, rfl⟩))
  refine wp_region_flow [0, 3] 30 (by kernel_rfl) (by rfl) (by kernel_rfl) (by kernel_rfl) (by kernel_rfl) ?_
  iterate 10 (refine flow_valE ?_; apply Exists.intro; refine ⟨fun A wq hBq hbq hdq => ?_, ?_⟩; focus (obtain ⟨hcq, hfq⟩ := bcell hBq; (try simp [go_sem, baseF, deps, dep1, Region.binds] at hbq); (try simp [go_sem, baseF, deps, dep1, Region.binds, NewSl] at hdq); go_simp; first | exact ⟨Below.refl _ _, rfl⟩ | (rw [if_neg]; (focus (exact ⟨Below.refl _ _, rfl⟩)); (focus ((try simp only [ByteArray.size_append]); omega))) | (first | (go_at_call 54; exact (spec_l01Var _ _ (by omega) (by omega))))))
  (refine flow_newSlE ?_; apply Exists.intro; apply Exists.intro; apply Exists.intro; refine ⟨fun A wq hBq hbq hdq => ?_, ?_⟩; focus (obtain ⟨hcq, hfq⟩ := bcell hBq; (try simp [go_sem, baseF, deps, dep1, Region.binds] at hbq); (try simp [go_sem, baseF, deps, dep1, Region.binds, NewSl] at hdq); go_simp; exact ⟨rfl, rfl⟩))
  refine flow_val (.string (byteS k)) (fun A wq hBq hbq hdq => ?_) ?_
  · (try simp [go_sem, baseF, deps, dep1, Region.binds] at hbq)
    (try simp [go_sem, baseF, deps, dep1, Region.binds, NewSl] at hdq)
    go_simp
    obtain ⟨g, h1, h2, h3⟩ := hdq
    rw [h1, conv_new1 Try.underlying22 Try.underlying5 Try.underlying9 h3]
    exact ⟨Below.refl _ _, by rw [IntKind.wrap_u8]; rfl⟩
  iterate 6 (refine flow_valE ?_; apply Exists.intro; refine ⟨fun A wq hBq hbq hdq => ?_, ?_⟩; focus (obtain ⟨hcq, hfq⟩ := bcell hBq; (try simp [go_sem, baseF, deps, dep1, Region.binds] at hbq); (try simp [go_sem, baseF, deps, dep1, Region.binds, NewSl] at hdq); go_simp; first | exact ⟨Below.refl _ _, rfl⟩ | (rw [if_neg]; (focus (exact ⟨Below.refl _ _, rfl⟩)); (focus ((try simp only [ByteArray.size_append]); omega))) | (fail)))
  refine fun x wq hBq hall => ?_
  obtain ⟨hcq, hfq⟩ := bcell hBq
  simp only [allT] at hall
  simp [frameOf, Act.put, hall]
  clear hall
  go_wp2
  go_ret2
  exact ⟨rfl, (by repeat (first | exact Below.refl _ _ | apply bl_alloc | apply bl_drewN | apply bl_drew | refine bl_set ?_ (by simp) | refine bl_then ?_ (by assumption)))⟩
set_option maxHeartbeats 1000000 in
set_option maxRecDepth 100000 in
theorem impl_EntryText_no (i t k : Int) (d : ByteArray) (b1 b2 : Bool) (w : World) (H1 : Hid (entryOk t k d = b1)) (H2 : Hid (inB i 1 1000000 = b2)) (hno : (b1 && b2) = false) (hd : d.size ≤ 1099511627776) :
    Calls Try.prog 18 #[.int .i64 i, .agg #[.int .i64 t, .int .i64 k, .string d]] w fun e w' => e = .returned (.tuple #[.string ⟨#[]⟩, .bool false]) ∧ Below w.heap.size w w' := by
  rcases b1 with _ | _
  · clear hno
    go_enter Try.func18, Try.ntmps18
    go_wp2_with (first | (go_at_call 49; refine (impl_EntryOkH _ _ _ false _ H1 hd).mono ?_; rintro e w' ⟨rfl, hb⟩; obtain ⟨hc, hf⟩ := bcell hb; have hz : w.heap.size < w'.heap.size := (by have := hb.size; simp at this ⊢; omega)))
    go_ret2
    exact ⟨rfl, (by repeat (first | exact Below.refl _ _ | apply bl_alloc | apply bl_drewN | apply bl_drew | refine bl_set ?_ (by simp) | refine bl_then ?_ (by assumption)))⟩
  · simp only [Bool.true_and] at hno
    subst hno
    go_enter Try.func18, Try.ntmps18
    go_wp2_with (first | (go_at_call 49; refine (impl_EntryOkH _ _ _ true _ H1 hd).mono ?_; rintro e w' ⟨rfl, hb⟩; obtain ⟨hc, hf⟩ := bcell hb; have hz : w.heap.size < w'.heap.size := (by have := hb.size; simp at this ⊢; omega)) | (go_at_call 31; (with_reducible refine (impl_inH' _ _ _ false _ H2).mono ?_); rintro e w' ⟨rfl, rfl⟩))
    go_ret2
    exact ⟨rfl, (by repeat (first | exact Below.refl _ _ | apply bl_alloc | apply bl_drewN | apply bl_drew | refine bl_set ?_ (by simp) | refine bl_then ?_ (by assumption)))⟩
set_option maxHeartbeats 1000000 in
set_option maxRecDepth 100000 in
theorem spec_EntryText_no (i t k : Int) (d : ByteArray) (b1 b2 : Bool) (w : World) (H1 : Hid (entryOk t k d = b1)) (H2 : Hid (inB i 1 1000000 = b2)) (hno : (b1 && b2) = false) (hd : d.size ≤ 1099511627776) :
    Calls Try.prog 56 #[.int .i64 i, .agg #[.int .i64 t, .int .i64 k, .string d]] w fun e w' => e = .returned (.tuple #[.string ⟨#[]⟩, .bool false]) ∧ Below w.heap.size w w' := by
  rcases b1 with _ | _
  · clear hno
    go_enter Try.func56, Try.ntmps56
    go_wp2_with (first | (go_at_call 29; refine (spec_EntryOkH _ _ _ false _ H1 hd).mono ?_; rintro e w' ⟨rfl, hb⟩; obtain ⟨hc, hf⟩ := bcell hb; have hz : w.heap.size < w'.heap.size := (by have := hb.size; simp at this ⊢; omega)))
    go_ret2
    exact ⟨rfl, (by repeat (first | exact Below.refl _ _ | apply bl_alloc | apply bl_drewN | apply bl_drew | refine bl_set ?_ (by simp) | refine bl_then ?_ (by assumption)))⟩
  · simp only [Bool.true_and] at hno
    subst hno
    go_enter Try.func56, Try.ntmps56
    go_wp2_with (first | (go_at_call 29; refine (spec_EntryOkH _ _ _ true _ H1 hd).mono ?_; rintro e w' ⟨rfl, hb⟩; obtain ⟨hc, hf⟩ := bcell hb; have hz : w.heap.size < w'.heap.size := (by have := hb.size; simp at this ⊢; omega)) | (go_at_call 28; (with_reducible refine (spec_l01InH' _ _ _ false _ H2).mono ?_); rintro e w' ⟨rfl, rfl⟩))
    go_ret2
    exact ⟨rfl, (by repeat (first | exact Below.refl _ _ | apply bl_alloc | apply bl_drewN | apply bl_drew | refine bl_set ?_ (by simp) | refine bl_then ?_ (by assumption)))⟩
theorem impl_EntryText (i t k : Int) (d : ByteArray) (w : World) (hd : d.size ≤ 1099511627776) :
    Calls Try.prog 18 #[.int .i64 i, .agg #[.int .i64 t, .int .i64 k, .string d]] w fun e w' => e = .returned (.tuple #[.string (entryT i t k d), .bool (entryOkI i t k d)]) ∧ Below w.heap.size w w' := by
  unfold entryT entryOkI
  cases h1 : entryOk t k d with
  | false => exact impl_EntryText_no i t k d false _ w (Lib.hid h1) (Lib.hid rfl) rfl hd
  | true =>
    cases h2 : inB i 1 1000000 with
    | false => exact impl_EntryText_no i t k d true false w (Lib.hid h1) (Lib.hid h2) rfl hd
    | true => exact impl_EntryText_yes i t k d w (Lib.hid h1) (Lib.hid h2) hd
theorem spec_EntryText (i t k : Int) (d : ByteArray) (w : World) (hd : d.size ≤ 1099511627776) :
    Calls Try.prog 56 #[.int .i64 i, .agg #[.int .i64 t, .int .i64 k, .string d]] w fun e w' => e = .returned (.tuple #[.string (entryT i t k d), .bool (entryOkI i t k d)]) ∧ Below w.heap.size w w' := by
  unfold entryT entryOkI
  cases h1 : entryOk t k d with
  | false => exact spec_EntryText_no i t k d false _ w (Lib.hid h1) (Lib.hid rfl) rfl hd
  | true =>
    cases h2 : inB i 1 1000000 with
    | false => exact spec_EntryText_no i t k d true false w (Lib.hid h1) (Lib.hid h2) rfl hd
    | true => exact spec_EntryText_yes i t k d w (Lib.hid h1) (Lib.hid h2) hd
end Go.Proofs.Ytmljihfaapoakaa
end

section
namespace Go.Proofs.Ytmljihfaapoakaa
open Go.RowKit Go.Proofs.YtmljihfaapoakaaW.PrintWords PFnMessages
set_option linter.unusedSimpArgs false
set_option linter.unusedVariables false
def ents (es : List S43) (mt : Int) : Nat → Nat → Int → Bool
  | _, 0, _ => true
  | i, n + 1, pt => entryOk (rd_T43 es i).f0 (rd_T43 es i).f1 (rd_T43 es i).f2 && !decide ((rd_T43 es i).f0 < pt) && !decide ((rd_T43 es i).f0 > mt) && ents es mt (i + 1) n (rd_T43 es i).f0
def Short (es : List S43) : Prop := ∀ i : Nat, (rd_T43 es i).f2.size ≤ 1048576
def inM (a b c : Int) : Bool := decide (b ≤ a ∧ a ≤ c)
def tailB (es : List S43) (a0 a3 a5 : Int) : Bool := ents es a3 0 es.length a5 && decide (es.length ≤ 4) && (decide (es.length = 0) || a0 == 3)
def lastB (a0 : Int) (cf : List Int) (d : ByteArray) (ls : Bool) : Bool := if a0 = 5 then confOk cf && decide ((d.size : Int) ≤ 60) else decide (cf.length = 0) && decide (d.toList = []) && !ls
def headB (a3 a4 a5 a6 : Int) : Bool := inM a3 0 100000 && inM a5 0 100000 && inM a4 0 1000000 && inM a6 0 1000000
def msgB (a0 a1 a2 a3 a4 a5 a6 : Int) (es : List S43) (cf : List Int) (d : ByteArray) (ls : Bool) : Bool :=
  inM a0 1 6 && inM a1 1 4 && inM a2 1 4 && !(a1 == a2) && headB a3 a4 a5 a6 && tailB es a0 a3 a5 && lastB a0 cf d ls
def implB (a0 a1 a2 a3 a4 a5 a6 : Int) (es : List S43) (cf : List Int) (d : ByteArray) (ls : Bool) : Bool :=
  inM a0 1 6 && inM a1 1 4 && inM a2 1 4 && !(a1 == a2) && headB a3 a4 a5 a6 && ((a0 == 5) == decide (0 < cf.length)) && (!(a0 == 5) || confOk cf) && decide (d.size ≤ 60) && ((a0 == 5) || (d.toList == [] && !ls)) && tailB es a0 a3 a5
theorem implB_eq (a0 a1 a2 a3 a4 a5 a6 : Int) (es : List S43) (cf : List Int) (d : ByteArray) (ls : Bool) : implB a0 a1 a2 a3 a4 a5 a6 es cf d ls = msgB a0 a1 a2 a3 a4 a5 a6 es cf d ls := by
  unfold implB msgB lastB
  rw [show decide ((d.size : Int) ≤ 60) = decide (d.size ≤ 60) from decide_eq_decide.2 (by omega)]
  by_cases h5 : a0 = 5
  · subst h5
    cases hc : confOk cf with
    | false => simp
    | true =>
      have := (confOk_short hc).1
      have h0 : 0 < cf.length := by omega
      simp only [h0, decide_true, beq_self_eq_true, Bool.and_true, Bool.true_or, Bool.not_true, Bool.or_true, Bool.true_and, if_true]
      cases tailB es 5 a3 a5 <;> simp
  · have h5' : (a0 == 5) = false := by simpa using h5
    rw [if_neg h5, h5']
    by_cases hc : cf.length = 0
    · have h0 : ¬ 0 < cf.length := by omega
      by_cases hd : d.toList = []
      · have hz : d.size = 0 := by
          rw [ByteArray.toList_eq] at hd
          have : d.data.size = 0 := by rw [← Array.length_toList, hd]; rfl
          exact this
        cases ls <;> simp [hc, hd, hz]
      · simp [hd]
    · have h0 : 0 < cf.length := by omega
      simp [hc, h0]
theorem ret_bool {a b : Bool} (h : a = b) : Ending.returned (.bool a) = .returned (.bool b) := by rw [h]
theorem inM_inB (a b c : Int) : inM a b c = inB a b c := by unfold inM inB; simp
theorem impl_confH (A : Option Addr) (c : Nat) (xs : List Int) (b : Bool) (w : World) (h : Hid (confOk xs = b)) (hr : Kd.C (Kd.int .i64) w A xs.length xs) (hc : xs.length ≤ c) (hl : xs.length ≤ 1048576) :
    Calls Try.prog 32 #[.slice A xs.length c] w fun e w' => e = .returned (.bool b) ∧ Below w.heap.size w w' := by
  have hf := PFnMessages.iconf_f xs (xs.length + 1) (by omega) (by omega)
  rw [h.out] at hf
  exact (PFnMessages.impl_ConfOk.calls (xs.length + 1) A c xs _ w hr hc hf).mono (by rintro e w' ⟨rfl, nd, rfl⟩; exact ⟨rfl, bl_drewN (Below.refl _ _) nd⟩)
theorem spec_confH (A : Option Addr) (c : Nat) (xs : List Int) (b : Bool) (w : World) (h : Hid (confOk xs = b)) (hr : Kd.C (Kd.int .i64) w A xs.length xs) (hc : xs.length ≤ c) (hl : xs.length ≤ 1048576) :
    Calls Try.prog 30 #[.slice A xs.length c] w fun e w' => e = .returned (.bool b) ∧ Below w.heap.size w w' := by
  have hf := PFnMessages.sconf_f xs (xs.length + 1) (by omega) (by omega)
  rw [h.out] at hf
  exact (PFnMessages.spec_ConfOk.calls (xs.length + 1) A c xs _ w hr hc hf).mono (by rintro e w' ⟨rfl, nd, rfl⟩; exact ⟨rfl, bl_drewN (Below.refl _ _) nd⟩)
set_option maxHeartbeats 2000000 in
set_option maxRecDepth 100000 in
theorem impl_sentOk (es : List S43) (hS : Short es) (a0 a1 a2 a3 a4 a5 a6 : Int) (a7 : Bool) (cf : List Int) (d : ByteArray) (ls : Bool) (hl : es.length ≤ 1048576) (hcf : cf.length ≤ 1048576) (A8 : Option Addr) (c8 : Nat) (A9 : Option Addr) (c9 : Nat) (w : World)
    (hr8 : Kd.C k43 w A8 es.length es) (hc8 : es.length ≤ c8) (hr9 : Kd.C (Kd.int .i64) w A9 cf.length cf) (hc9 : cf.length ≤ c9) :
    Calls Try.prog 33 #[.agg #[.int .i64 a0, .int .i64 a1, .int .i64 a2, .int .i64 a3, .int .i64 a4, .int .i64 a5, .int .i64 a6, .bool a7, .slice A8 es.length c8, .slice A9 cf.length c9, .string d, .bool ls]] w fun e w' => e = .returned (.bool (tailB es a0 a3 a5)) ∧ Below w.heap.size w w' := by
  have HR8 := Lib.hid hr8
  clear hr8 hr9
  obtain ⟨r, hr⟩ : ∃ r, Hid (ents es a3 0 es.length a5 = r) := ⟨_, Lib.hid rfl⟩
  unfold tailB
  rw [hr.out]
  go_enter Try.func33, Try.ntmps33
  go_wp2
  obtain ⟨X, hX⟩ : ∃ X, X = w.alloc (.cells #[.int .i64 a0, .int .i64 a1, .int .i64 a2, .int .i64 a3, .int .i64 a4, .int .i64 a5, .int .i64 a6, .bool a7, .slice A8 es.length c8, .slice A9 cf.length c9, .string d, .bool ls] 27) := ⟨_, rfl⟩
  have KA : Blk 27 w.heap.size #[.int .i64 a0, .int .i64 a1, .int .i64 a2, .int .i64 a3, .int .i64 a4, .int .i64 a5, .int .i64 a6, .bool a7, .slice A8 es.length c8, .slice A9 cf.length c9, .string d, .bool ls] X := by rw [hX]; exact Blk.new _ _ w
  have HX : Below w.heap.size w X := by rw [hX]; exact (by repeat (first | exact Below.refl _ _ | apply bl_alloc | apply bl_drewN | apply bl_drew | refine bl_set ?_ (by simp) | refine bl_then ?_ (by assumption)))
  rw [← hX]
  clear hX
  go_loopg [3, 11] es.length (fun kq v3 v11 w' => ∃ (i : Nat) (pt : Int), v3 = .int .i64 pt ∧ v11 = .int .i64 (i : Int) ∧ i + kq = es.length ∧ Hid (ents es a3 i kq pt = r) ∧ Below X.heap.size X w')
  case atStart => exact ⟨0, a5, rfl, rfl, by omega, hr, Below.refl _ _⟩
  case round =>
    obtain ⟨i, pt, rfl, rfl, hik, hix, hb⟩ := hrel
    clear hr
    have KW := KA.below hb
    have k0 := KW.cell 0 rfl
    have k3 := KW.cell 3 rfl
    have k8 := KW.cell 8 rfl
    have la := KW.lt
    have la2 : w.heap.size < wr.heap.size + 1 := by omega
    cases gk with
    | zero =>
      have hlt : ¬ ((i : Int) < (es.length : Int)) := by omega
      have hrv := hix.out
      simp only [ents] at hrv
      subst hrv
      clear hix
      go_wp2
      all_goals
        go_ret
        refine ⟨?_, bl_then HX (bl_then hb (by repeat (first | exact Below.refl _ _ | apply bl_alloc | apply bl_drewN | apply bl_drew | refine bl_set ?_ (by simp) | refine bl_then ?_ (by assumption))))⟩
        first
          | (refine ret_bool ?_; have h4 : es.length ≤ 4 := by omega
             simp [h4, *]; done)
          | (refine ret_bool ?_; have h4 : ¬ es.length ≤ 4 := by omega
             simp [h4]; done)
          | (refine ret_bool ?_; have h4 : es.length ≤ 4 := by omega
             have e0 : ((es.length : Int) == 0) = decide (es.length = 0) := by rw [Bool.eq_iff_iff]; simp
             rw [e0]; simp [h4])
    | succ n =>
      have hlt : (i : Int) < (es.length : Int) := by omega
      obtain ⟨ad, e1, x0, x1, x2⟩ := at_T43 (Kd.C_below HR8.out (bl_then HX hb)) i (by omega) hlt
      subst e1
      simp only [Int.toNat_natCast] at x0 x1 x2
      have lx : (ad.add (i * 3)).block < wr.heap.size := World.block_lt_of_cell? wr _ x0
      have E1 := Lib.hid (show wrap64 ((i : Int) + 1) = ((i + 1 : Nat) : Int) from by unfold wrap64; omega)
      have hrv := hix.out
      simp only [ents] at hrv
      have hSi := hS i
      obtain ⟨eo, heo⟩ : ∃ eo, entryOk (rd_T43 es (i : Int)).f0 (rd_T43 es (i : Int)).f1 (rd_T43 es (i : Int)).f2 = eo := ⟨_, rfl⟩
      rw [heo] at hrv
      have HEO := Lib.hid heo
      clear heo hix
      cases eo with
      | false =>
        simp only [Bool.false_and] at hrv
        subst hrv
        go_wp2_with (first | (go_at_call 49; refine (impl_EntryOkH _ _ _ false _ HEO (by omega)).mono ?_; rintro e w' ⟨rfl, hb1⟩))
        go_ret
        exact ⟨by simp, bl_then HX (bl_then hb (by repeat (first | exact Below.refl _ _ | apply bl_alloc | apply bl_drewN | apply bl_drew | refine bl_set ?_ (by simp) | refine bl_then ?_ (by assumption))))⟩
      | true =>
        simp only [Bool.true_and] at hrv
        by_cases h1 : (rd_T43 es (i : Int)).f0 < pt
        · have h1' : decide ((rd_T43 es (i : Int)).f0 < pt) = true := decide_eq_true h1
          rw [h1'] at hrv
          simp only [Bool.not_true, Bool.false_and] at hrv
          subst hrv
          go_wp2_with (first | (go_at_call 49; refine (impl_EntryOkH _ _ _ true _ HEO (by omega)).mono ?_; rintro e w' ⟨rfl, hb1⟩; obtain ⟨hc1, hf1⟩ := bcell hb1; have hz1 : w.heap.size < w'.heap.size := (by have := hb1.size; simp at this; omega)))
          go_ret
          exact ⟨by simp, bl_then HX (bl_then hb (by repeat (first | exact Below.refl _ _ | apply bl_alloc | apply bl_drewN | apply bl_drew | refine bl_set ?_ (by simp) | refine bl_then ?_ (by assumption))))⟩
        · have h1' : decide ((rd_T43 es (i : Int)).f0 < pt) = false := decide_eq_false h1
          rw [h1'] at hrv
          simp only [Bool.not_false, Bool.true_and] at hrv
          clear h1
          by_cases h2 : (rd_T43 es (i : Int)).f0 > a3
          · have h2' : decide (a3 < (rd_T43 es (i : Int)).f0) = true := decide_eq_true h2
            rw [show decide ((rd_T43 es (i : Int)).f0 > a3) = true from h2'] at hrv
            simp only [Bool.not_true, Bool.false_and] at hrv
            subst hrv
            go_wp2_with (first | (go_at_call 49; refine (impl_EntryOkH _ _ _ true _ HEO (by omega)).mono ?_; rintro e w' ⟨rfl, hb1⟩; obtain ⟨hc1, hf1⟩ := bcell hb1; have hz1 : w.heap.size < w'.heap.size := (by have := hb1.size; simp at this; omega)))
            go_ret
            exact ⟨by simp, bl_then HX (bl_then hb (by repeat (first | exact Below.refl _ _ | apply bl_alloc | apply bl_drewN | apply bl_drew | refine bl_set ?_ (by simp) | refine bl_then ?_ (by assumption))))⟩
          · have h2' : decide (a3 < (rd_T43 es (i : Int)).f0) = false := decide_eq_false h2
            rw [show decide ((rd_T43 es (i : Int)).f0 > a3) = false from h2'] at hrv
            simp only [Bool.not_false, Bool.true_and] at hrv
            have hix2 := Lib.hid hrv
            clear hrv h2
            go_wp2_with (first | (go_at_call 49; refine (impl_EntryOkH _ _ _ true _ HEO (by omega)).mono ?_; rintro e w' ⟨rfl, hb1⟩; obtain ⟨hc1, hf1⟩ := bcell hb1; have hz1 : w.heap.size < w'.heap.size := (by have := hb1.size; simp at this; omega)))
            go_roundg n
            case measure => omega
            case rel => exact ⟨i + 1, _, rfl, by first | rfl | (rw [E1.out]), by omega, hix2, bl_then hb (by repeat (first | exact Below.refl _ _ | apply bl_alloc | apply bl_drewN | apply bl_drew | refine bl_set ?_ (by simp) | refine bl_then ?_ (by assumption)))⟩
set_option maxHeartbeats 4000000 in
set_option maxRecDepth 100000 in
theorem impl_MessageOk (es : List S43) (hS : Short es) (a0 a1 a2 a3 a4 a5 a6 : Int) (a7 : Bool) (cf : List Int) (d : ByteArray) (ls : Bool) (hl : es.length ≤ 1048576) (hcf : cf.length ≤ 1048576) (A8 : Option Addr) (c8 : Nat) (A9 : Option Addr) (c9 : Nat) (w : World)
    (hr8 : Kd.C k43 w A8 es.length es) (hc8 : es.length ≤ c8) (hr9 : Kd.C (Kd.int .i64) w A9 cf.length cf) (hc9 : cf.length ≤ c9) :
    Calls Try.prog 9 #[.agg #[.int .i64 a0, .int .i64 a1, .int .i64 a2, .int .i64 a3, .int .i64 a4, .int .i64 a5, .int .i64 a6, .bool a7, .slice A8 es.length c8, .slice A9 cf.length c9, .string d, .bool ls]] w
      fun e w' => e = .returned (.bool (implB a0 a1 a2 a3 a4 a5 a6 es cf d ls)) ∧ Below w.heap.size w w' := by
  have HR8 := Lib.hid hr8
  have HR9 := Lib.hid hr9
  clear hr8 hr9
  go_enter Try.func9, Try.ntmps9
  go_wp2_with (first
    | (go_at_call 31; refine (impl_in _ _ _ _).mono ?_; rintro e w' ⟨rfl, rfl⟩)
    | (go_at_call 32; refine (impl_confH _ _ cf _ _ (Lib.hid rfl) (Kd.C_below HR9.out (by repeat (first | exact Below.refl _ _ | apply bl_alloc | apply bl_drewN | apply bl_drew | refine bl_set ?_ (by simp) | refine bl_then ?_ (by assumption)))) hc9 hcf).mono ?_; rintro e w' ⟨rfl, hb⟩; obtain ⟨hc, hf⟩ := bcell hb; have hz : w.heap.size < w'.heap.size := (by have := hb.size; simp at this ⊢; omega))
    | (go_at_call 33; refine (impl_sentOk es hS _ _ _ _ _ _ _ _ cf _ _ hl hcf _ _ _ _ _ (Kd.C_below HR8.out (by repeat (first | exact Below.refl _ _ | apply bl_alloc | apply bl_drewN | apply bl_drew | refine bl_set ?_ (by simp) | refine bl_then ?_ (by assumption)))) hc8 (Kd.C_below HR9.out (by repeat (first | exact Below.refl _ _ | apply bl_alloc | apply bl_drewN | apply bl_drew | refine bl_set ?_ (by simp) | refine bl_then ?_ (by assumption)))) hc9).mono ?_; rintro e w' ⟨rfl, hb⟩; obtain ⟨hc, hf⟩ := bcell hb; have hz : w.heap.size < w'.heap.size := (by have := hb.size; simp at this ⊢; omega)))
  all_goals
    go_ret
    refine ⟨?_, (by repeat (first | exact Below.refl _ _ | apply bl_alloc | apply bl_drewN | apply bl_drew | refine bl_set ?_ (by simp) | refine bl_then ?_ (by assumption)))⟩
    first
      | (simp [implB, headB, inM_inB, *]; done)
      | (simp [implB, headB, inM_inB, *]; (try intros); first | omega | (simp_all; done) | (simp_all; omega) | (refine ⟨?_, ?_⟩ <;> first | omega | (simp_all; done)) | (intros; refine ⟨?_, ?_⟩ <;> first | omega | (simp_all; done) | (refine ⟨?_, ?_⟩ <;> simp_all)))
end Go.Proofs.Ytmljihfaapoakaa
end

section
namespace Go.Proofs.Ytmljihfaapoakaa
open Go.RowKit
set_option linter.unusedVariables false
section
variable {P : Program}
def gObl (P : Program) (l0 : List Oper) (o : Oper) (R : VPred) (A : Act) (w : World) : Prop :=
  if Region.wanted o (yielded l0.toArray A.tmps) = true then flowUpon P R w ((execOp A.eval o).run P w) else R w undef
def FlowG (P : Program) (w : World) (a : Act) (bs : List Nat) (Q : Exit → Act → World → Prop) (l0 : List Oper) : List Oper → Nat → FTab → Prop
  | [], _, T => ∀ x w', Below w.heap.size w w' → allT x w' T → Q .normal (frameOf x l0 0 a) w'
  | o :: rest, i, T => ∃ R : VPred, VMono R ∧
      (∀ A w', Below w.heap.size w w' → baseF A a bs → deps T A w' o.after.toList → gObl P l0 o R A w') ∧ FlowG P w a bs Q l0 rest (i + 1) (addT o i R T)
theorem flowG_table {w : World} {a : Act} {bs : List Nat} {Q : Exit → Act → World → Prop} {l0 : List Oper} : ∀ (rest : List Oper) (i : Nat) (T : FTab), (∀ k d R, (k, d, R) ∈ T → k < i) → FlowG P w a bs Q l0 rest i T →
    ∃ T' : FTab, (∀ x ∈ T, x ∈ T') ∧ (∀ k d R, (k, d, R) ∈ T' → k < i → (k, d, R) ∈ T) ∧ (∀ k d R, (k, d, R) ∈ T' → k < i + rest.length) ∧
      (∀ (j : Nat) (o : Oper), rest[j]? = some o → ∃ R, VMono R ∧ (∀ d' R', (i + j, d', R') ∈ T' → o.dst = some d' ∧ R' = R) ∧
        (∀ A w', Below w.heap.size w w' → baseF A a bs → (∀ e ∈ o.after.toList, Region.binds .any e = true → ∀ d R, (e.on, d, R) ∈ T' → R w' (A.eval (.tmp d))) → gObl P l0 o R A w')) ∧
      (∀ x w', Below w.heap.size w w' → allT x w' T' → Q .normal (frameOf x l0 0 a) w')
  | [], i, T, hT, h => ⟨T, fun _ h => h, fun _ _ _ h _ => h, fun k d R hm => by simpa using hT k d R hm, fun j o hj => by simp at hj, h⟩
  | o :: rest, i, T, hT, h => by
    obtain ⟨R, hmono, hobl, hrest⟩ := h
    have hT1 : ∀ k d R', (k, d, R') ∈ addT o i R T → k < i + 1 := fun k d R' hm => by
      unfold addT at hm
      split at hm
      · rcases List.mem_cons.1 hm with hm | hm
        · simp only [Prod.mk.injEq] at hm; omega
        · have := hT k d R' hm; omega
      · have := hT k d R' hm; omega
    have hsub : ∀ y ∈ T, y ∈ addT o i R T := fun y hy => by
      unfold addT
      split
      · exact .tail _ hy
      · exact hy
    obtain ⟨T', h1, h2, h3, h4, h5⟩ := flowG_table rest (i + 1) (addT o i R T) hT1 hrest
    refine ⟨T', fun y hy => h1 y (hsub y hy), fun k d R' hm hk => ?_, fun k d R' hm => ?_, fun j o' hj => ?_, h5⟩
    · have := h2 k d R' hm (by omega)
      unfold addT at this
      split at this
      · rcases List.mem_cons.1 this with hm | hm
        · simp only [Prod.mk.injEq] at hm; omega
        · exact hm
      · exact this
    · have := h3 k d R' hm
      simp only [List.length_cons]; omega
    · cases j with
      | zero =>
        simp only [List.getElem?_cons_zero, Option.some.injEq] at hj
        subst hj
        refine ⟨R, hmono, fun d' R' hm => ?_, fun A w' hb hbase hd => hobl A w' hb hbase (deps_of fun e he hbn d R' hm => hd e he hbn d R' (h1 _ (hsub _ hm)))⟩
        have := h2 _ d' R' hm (by omega)
        unfold addT at this
        split at this
        · rename_i dd hdd
          rcases List.mem_cons.1 this with hm | hm
          · simp only [Prod.mk.injEq] at hm
            exact ⟨by rw [hdd, hm.2.1], hm.2.2⟩
          · have := hT _ d' R' hm; omega
        · have := hT _ d' R' this; omega
      | succ j =>
        simp only [List.getElem?_cons_succ] at hj
        obtain ⟨R2, a1, a2, a3⟩ := h4 j o' hj
        exact ⟨R2, a1, fun d' R' hm => a2 d' R' (by rw [show i + 1 + j = i + (j + 1) from by omega]; exact hm), a3⟩
def gflowB (n : Nat) : List Oper → Bool
  | [] => true
  | o :: r => (match o.dst with | some d => decide (d < n) && r.all (fun o' => o'.dst != some d) | none => true) && gflowB n r
theorem gflowB_spec {n : Nat} : ∀ {l : List Oper}, gflowB n l = true → ∀ (i : Nat) (o : Oper), l[i]? = some o → ∀ d, o.dst = some d → d < n ∧ ∀ (j : Nat) (o' : Oper), l[j]? = some o' → i < j → o'.dst ≠ some d
  | [], _, i, o, hi => by simp at hi
  | o0 :: r, h, i, o, hi => by
    simp only [gflowB, Bool.and_eq_true] at h
    obtain ⟨hd, hr⟩ := h
    cases i with
    | zero =>
      simp only [List.getElem?_cons_zero, Option.some.injEq] at hi
      subst hi
      intro d hdd
      rw [hdd] at hd
      simp only [Bool.and_eq_true, decide_eq_true_eq, List.all_eq_true, bne_iff_ne] at hd
      refine ⟨hd.1, fun j o' hj hlt => ?_⟩
      cases j with
      | zero => omega
      | succ j => exact hd.2 o' (List.mem_of_getElem? (by simpa using hj))
    | succ i =>
      have h2 := gflowB_spec hr i o (by simpa using hi)
      refine fun d hdd => ⟨(h2 d hdd).1, fun j o' hj hlt => ?_⟩
      cases j with
      | zero => omega
      | succ j => exact (h2 d hdd).2 j o' (by simpa using hj) (by omega)
theorem wp_region_flowG {id : Nat} {Q : Exit → Act → World → Prop} {a : Act} {w : World} {l : List Oper} (bs : List Nat) (n : Nat) (hm : P.follows .mixedOrders = true) (hn : a.tmps.size = n)
    (hB : gflowB n l = true) (hO : flowO l 0 = true) (hbs : bs.all (fun t => l.all (fun o => o.dst != some t)) = true) (h : FlowG P w a bs Q l l 0 []) : (Code.region id l.toArray true).wp P Q a w := by
  obtain ⟨T, -, -, hlen, hobl, hfin⟩ := flowG_table l 0 [] (by simp) h
  subst hn
  refine wp_region_any hm ?_
  refine wpAny_inv (fun listed A w' => listed.size = l.length ∧ Below w.heap.size w w' ∧ A.defers = a.defers ∧ A.tmps.size = a.tmps.size ∧ (∀ t, a.tmps[t]? ≠ A.tmps[t]? → ∃ (i : Nat) (o : Oper), l[i]? = some o ∧ o.dst = some t) ∧
      (∀ i d R, (i, d, R) ∈ T → listed.getD i false = true → R w' (A.eval (.tmp d)))) ?_ ?_ (fun listed => unl listed.toList) ?_ _ _ _ _ ?_ ?_
  · rintro listed A w' i ⟨hsz, hbel, hdef, hts, hdiff, hall⟩ hi
    obtain ⟨hun, o, ho, haft⟩ := mem_ready.1 hi
    have ho' : l[i]? = some o := by simpa using ho
    have hd := gflowB_spec hB i o ho'
    obtain ⟨R, hmono, huniq, hob⟩ := hobl i o ho'
    simp only [Nat.zero_add] at huniq
    have hob' := hob A w' hbel (baseF_of fun t ht => by
        have h1 := List.all_eq_true.1 hbs t ht
        have h2 : ∀ o ∈ l, o.dst ≠ some t := fun o ho => by simpa using List.all_eq_true.1 h1 o ho
        have h3 : a.tmps[t]? = A.tmps[t]? := Classical.byContradiction fun hne => by
          obtain ⟨i, o, hi, hd⟩ := hdiff t hne
          exact h2 o (List.mem_of_getElem? hi) hd
        simp only [Act.eval, Array.getD_eq_getD_getElem?, h3]) fun e he hb d R hmem => hall _ d R hmem (haft e (by simpa using he) hb)
    have key : ∀ (v : Value) (w2 : World), Below w'.heap.size w' w2 → R w2 v → ((listed.setIfInBounds i true).size = l.length ∧ Below w.heap.size w w2 ∧ (A.put o.dst v).defers = a.defers ∧ (A.put o.dst v).tmps.size = a.tmps.size ∧ (∀ t, a.tmps[t]? ≠ (A.put o.dst v).tmps[t]? → ∃ (i : Nat) (o : Oper), l[i]? = some o ∧ o.dst = some t) ∧
        (∀ j d R, (j, d, R) ∈ T → (listed.setIfInBounds i true).getD j false = true → R w2 ((A.put o.dst v).eval (.tmp d)))) := by
      intro v w2 hb2 hR
      refine ⟨by simpa using hsz, hbel.trans ⟨hb2.os, hb2.tape, hb2.output, hb2.size, fun k hk => hb2.block k (Nat.lt_of_lt_of_le hk hbel.size)⟩, ?_, ?_, ?_, ?_⟩
      · rw [← hdef]; unfold Act.put; split <;> rfl
      · rw [← hts]; unfold Act.put; split <;> simp
      · intro t ht
        by_cases hdt : o.dst = some t
        · exact ⟨i, o, ho', hdt⟩
        · refine hdiff t fun he => ht ?_
          rw [he]
          unfold Act.put
          split
          · rename_i t' ht'
            have : t' ≠ t := fun e => hdt (by rw [ht', e])
            rw [Array.getElem?_setIfInBounds_ne this]
          · rfl
      · intro k d R' hmem hk
        by_cases hki : i = k
        · subst hki
          obtain ⟨hod, rfl⟩ := huniq d R' hmem
          rw [eval_put_eq hod (by rw [hts]; exact (hd d hod).1)]
          exact hR
        · have hk' : listed.getD k false = true := by rw [getD_set_ne false hki] at hk; exact hk
          have hold := hall k d R' hmem hk'
          have hkl : k < l.length := by simpa using hlen k d R' hmem
          have hko : l[k]? = some l[k] := by simp [hkl]
          obtain ⟨R2, hmono2, huniq2, -⟩ := hobl k l[k] hko
          simp only [Nat.zero_add] at huniq2
          obtain ⟨hod, rfl⟩ := huniq2 d R' hmem
          have hne : o.dst ≠ some d := fun hd0 => by
            rcases Nat.lt_or_gt_of_ne hki with h | h
            · exact (hd d hd0).2 k l[k] hko h hod
            · exact (gflowB_spec hB k l[k] hko d hod).2 i o ho' h hd0
          rw [eval_put_ne hne]
          exact hmono2 _ _ _ hold hb2
    unfold wpOp
    rw [ho]
    unfold gObl at hob'
    simp only []
    by_cases hw : Region.wanted o (yielded l.toArray A.tmps) = true
    · rw [if_pos hw] at hob' ⊢
      exact .inl (flow_upon hob' fun v w2 hb2 hR => key v w2 hb2 hR)
    · rw [if_neg hw] at hob' ⊢
      exact key undef w' (Below.refl _ _) hob'
  · rintro listed A w' ⟨hsz, hbel, hdef, hts, hdiff, hall⟩ hno
    have hdone : ∀ k, k < l.length → listed.getD k false = true := by
      intro k
      induction k using Nat.strongRecOn with
      | _ k ih =>
        intro hk
        refine Classical.byContradiction fun hf => hno k (mem_ready.2 ⟨?_, l[k], by simp [hk], fun e he hb => ?_⟩)
        · have hks : k < listed.size := by omega
          simp only [Array.getD_eq_getD_getElem?, Array.getElem?_eq_getElem hks, Option.getD_some] at hf ⊢
          simpa using hf
        · have hlt := flowO_spec hO k l[k] (by simp [hk]) e (by simpa using he) hb
          exact ih e.on (by omega) (by omega)
    have hx : frameOf (fun i => match (l[i]?).bind (·.dst) with | some d => A.eval (.tmp d) | none => undef) l 0 a = A := by
      refine frame_eq _ A l 0 a hdef hts (fun i o d hi hd hlt => ?_) hdiff
      simp only [Nat.zero_add, hi, Option.bind_some, hd, Act.eval, Array.getD_eq_getD_getElem?]
      have : d < A.tmps.size := by rw [hts]; exact hlt
      simp [this]
    have := hfin (fun i => match (l[i]?).bind (·.dst) with | some d => A.eval (.tmp d) | none => undef) w' hbel (allT_of fun k d R hmem => by
      have hkl : k < l.length := by simpa using hlen k d R hmem
      have hko : l[k]? = some l[k] := by simp [hkl]
      obtain ⟨R2, -, huniq2, -⟩ := hobl k l[k] hko
      simp only [Nat.zero_add] at huniq2
      obtain ⟨hod, -⟩ := huniq2 d R hmem
      simp only [hko, Option.bind_some, hod]
      exact hall k d R hmem (hdone k hkl))
    rw [hx] at this
    exact this
  · rintro listed A w' i ⟨hsz, -⟩ hi
    obtain ⟨hun, o, ho, -⟩ := mem_ready.1 hi
    have hil : i < listed.size := by have := (Array.getElem?_eq_some_iff.1 ho).1; simp at this; omega
    simp only [Array.toList_setIfInBounds]
    refine unl_set _ _ ?_
    simp only [Array.getD_eq_getD_getElem?, Array.getElem?_eq_getElem hil, Option.getD_some] at hun
    simp [hil, hun]
  · simp [unl_rep]
  · exact ⟨by simp, ⟨rfl, rfl, rfl, Nat.le_refl _, fun _ _ => rfl⟩, rfl, rfl, fun t ht => absurd rfl ht, fun i d R _ hl => by simp [Array.getD_eq_getD_getElem?, Array.getElem?_replicate] at hl; split at hl <;> simp at hl⟩
section
variable {w : World} {a : Act} {bs : List Nat} {Q : Exit → Act → World → Prop} {l0 rest : List Oper} {i : Nat} {T : FTab} {d : Tmp} {op : Op} {ty : TypeId} {pos : String} {es : Array Edge}
theorem bcellA {W w1 : World} (hb : Below W.heap.size W w1) : (∀ p : Addr, p.block < W.heap.size → w1.cell? p = W.cell? p) ∧ (∀ p : Addr, p.block < W.heap.size → w1.frozen? p = W.frozen? p) := ⟨fun p h => hb.cell h, fun p h => hb.frozen h⟩
theorem yielded_of {ops : Array Oper} {tmps : Array Value} {j d : Nat} {b : Bool} (h : (ops[j]?).bind (·.dst) = some d) (hv : tmps[d]?.getD undef = .bool b) : yielded ops tmps j = some b := by
  unfold yielded
  rw [h]
  show (match tmps[d]? with | some (.bool b) => some b | _ => none) = some b
  rcases ht : tmps[d]? with _ | v
  · rw [ht] at hv; cases hv
  · rw [ht] at hv
    simp at hv
    subst hv
    rfl
theorem gObl_none {o : Oper} {R : VPred} {A : Act} {w : World} (hg : o.guard = none) (h : flowUpon P R w ((execOp A.eval o).run P w)) : gObl P l0 o R A w := by
  unfold gObl
  rw [if_pos (by simp [Region.wanted, hg])]
  exact h
theorem flowG_R (R : VPred) (hm : VMono R)
    (h : ∀ A w', Below w.heap.size w w' → baseF A a bs → deps T A w' es.toList → flowUpon P R w' ((execOp A.eval ⟨some d, op, ty, pos, es, none⟩).run P w'))
    (k : FlowG P w a bs Q l0 rest (i + 1) ((i, d, R) :: T)) : FlowG P w a bs Q l0 (⟨some d, op, ty, pos, es, none⟩ :: rest) i T :=
  ⟨R, hm, fun A w' hB hb hd => gObl_none rfl (h A w' hB hb hd), k⟩
theorem flowG_valE
    (h : ∃ e, (∀ A w', Below w.heap.size w w' → baseF A a bs → deps T A w' es.toList → flowUpon P (fun _ v => v = e) w' ((execOp A.eval ⟨some d, op, ty, pos, es, none⟩).run P w')) ∧
      FlowG P w a bs Q l0 rest (i + 1) ((i, d, fun _ v => v = e) :: T)) : FlowG P w a bs Q l0 (⟨some d, op, ty, pos, es, none⟩ :: rest) i T :=
  let ⟨e, h, k⟩ := h
  flowG_R _ (vmono_eq e) h k
theorem flowG_yesE {j : Nat} {want : Bool}
    (h : ∃ e, (∀ A w', Below w.heap.size w w' → baseF A a bs → deps T A w' es.toList → yielded l0.toArray A.tmps j = some want ∧ flowUpon P (fun _ v => v = e) w' ((execOp A.eval ⟨some d, op, ty, pos, es, some (j, want)⟩).run P w')) ∧
      FlowG P w a bs Q l0 rest (i + 1) ((i, d, fun _ v => v = e) :: T)) : FlowG P w a bs Q l0 (⟨some d, op, ty, pos, es, some (j, want)⟩ :: rest) i T := by
  obtain ⟨e, h, k⟩ := h
  refine ⟨_, vmono_eq e, fun A w' hB hb hd => ?_, k⟩
  obtain ⟨h1, h2⟩ := h A w' hB hb hd
  unfold gObl
  rw [if_pos (by simp [Region.wanted, h1])]
  exact h2
theorem flowG_no {j : Nat} {want : Bool}
    (h : ∀ A w', Below w.heap.size w w' → baseF A a bs → deps T A w' es.toList → yielded l0.toArray A.tmps j = some (!want))
    (k : FlowG P w a bs Q l0 rest (i + 1) ((i, d, fun _ v => v = undef) :: T)) : FlowG P w a bs Q l0 (⟨some d, op, ty, pos, es, some (j, want)⟩ :: rest) i T := by
  refine ⟨_, vmono_eq undef, fun A w' hB hb hd => ?_, k⟩
  unfold gObl
  rw [if_neg (by simp [Region.wanted, h A w' hB hb hd])]
end
end
end Go.Proofs.Ytmljihfaapoakaa
end

section
namespace Go.Proofs.Ytmljihfaapoakaa
open Go.RowKit Go.Proofs.YtmljihfaapoakaaW.PrintWords PFnMessages
set_option linter.unusedSimpArgs false
set_option linter.unusedVariables false
def preB (a0 a1 a2 a3 a4 a5 a6 : Int) (es : List S43) : Bool :=
  inB a0 1 6 && inB a1 1 4 && inB a2 1 4 && !(a1 == a2) && (inB a3 0 100000 && inB a5 0 100000 && inB a4 0 1000000 && inB a6 0 1000000) && decide (es.length ≤ 4) && (decide (es.length = 0) || a0 == 3)
theorem msgB_pre (a0 a1 a2 a3 a4 a5 a6 : Int) (es : List S43) (cf : List Int) (d : ByteArray) (ls : Bool) :
    msgB a0 a1 a2 a3 a4 a5 a6 es cf d ls = (preB a0 a1 a2 a3 a4 a5 a6 es && ents es a3 0 es.length a5 && lastB a0 cf d ls) := by
  unfold msgB preB headB tailB
  simp only [inM_inB]
  generalize inB a0 1 6 = b0
  generalize inB a1 1 4 = b1
  generalize inB a2 1 4 = b2
  generalize (!(a1 == a2)) = b3
  generalize inB a3 0 100000 = b4
  generalize inB a5 0 100000 = b5
  generalize inB a4 0 1000000 = b6
  generalize inB a6 0 1000000 = b7
  generalize decide (es.length ≤ 4) = b8
  generalize (decide (es.length = 0) || a0 == 3) = b9
  generalize ents es a3 0 es.length a5 = b10
  cases b0 <;> cases b1 <;> cases b2 <;> cases b3 <;> cases b4 <;> cases b5 <;> cases b6 <;> cases b7 <;> cases b8 <;> cases b9 <;> cases b10 <;> rfl
set_option maxHeartbeats 2000000 in
set_option maxRecDepth 100000 in
theorem spec_Msg_no (es : List S43) (hS : Short es) (a0 a1 a2 a3 a4 a5 a6 : Int) (a7 : Bool) (cf : List Int) (d : ByteArray) (ls : Bool) (hl : es.length ≤ 1048576) (hcf : cf.length ≤ 1048576) (A8 : Option Addr) (c8 : Nat) (A9 : Option Addr) (c9 : Nat) (w : World)
    (hr8 : Kd.C k43 w A8 es.length es) (hc8 : es.length ≤ c8) (hr9 : Kd.C (Kd.int .i64) w A9 cf.length cf) (hc9 : cf.length ≤ c9) (hno : preB a0 a1 a2 a3 a4 a5 a6 es = false) :
    Calls Try.prog 8 #[.agg #[.int .i64 a0, .int .i64 a1, .int .i64 a2, .int .i64 a3, .int .i64 a4, .int .i64 a5, .int .i64 a6, .bool a7, .slice A8 es.length c8, .slice A9 cf.length c9, .string d, .bool ls]] w fun e w' => e = .returned (.bool false) ∧ Below w.heap.size w w' := by
  have HN := Lib.hid hno
  clear hno hr8 hr9
  go_enter Try.func8, Try.ntmps8
  go_wp2_with (first | (go_at_call 28; refine (spec_l01In _ _ _ _).mono ?_; rintro e w' ⟨rfl, rfl⟩))
  all_goals first
    | (go_ret; exact ⟨rfl, (by repeat (first | exact Below.refl _ _ | apply bl_alloc | apply bl_drewN | apply bl_drew | refine bl_set ?_ (by simp) | refine bl_then ?_ (by assumption)))⟩)
    | (exfalso
       have h := HN.out
       unfold preB at h
       simp [*] at h
       have h6 : inB a6 0 1000000 = true := by simpa using (by assumption : (!inB a6 0 1000000) = false)
       have h4 : es.length ≤ 4 := by omega
       have h7 := h h6 h4
       first
         | exact h7.1 (List.eq_nil_of_length_eq_zero (by omega))
         | (have h9 := (by assumption : (es.length : Int) ≤ 4 ∧ (a0 != 3) = false).2
            exact h7.2 (by simpa using h9)))
attribute [local go_sem] flowUpon
set_option maxHeartbeats 4000000 in
set_option maxRecDepth 100000 in
theorem spec_Msg_yes (es : List S43) (hS : Short es) (a0 a1 a2 a3 a4 a5 a6 : Int) (a7 : Bool) (cf : List Int) (d : ByteArray) (ls : Bool) (hl : es.length ≤ 1048576) (hcf : cf.length ≤ 1048576) (A8 : Option Addr) (c8 : Nat) (A9 : Option Addr) (c9 : Nat) (w : World)
    (hr8 : Kd.C k43 w A8 es.length es) (hc8 : es.length ≤ c8) (hr9 : Kd.C (Kd.int .i64) w A9 cf.length cf) (hc9 : cf.length ≤ c9) (i0 : inB a0 1 6 = true) (i1 : inB a1 1 4 = true) (i2 : inB a2 1 4 = true) (ne : (a1 == a2) = false) (i3 : inB a3 0 100000 = true) (i5 : inB a5 0 100000 = true) (i4 : inB a4 0 1000000 = true) (i6 : inB a6 0 1000000 = true)
    (l4 : es.length ≤ 4) (lk : es.length = 0 ∨ a0 = 3) (r lb : Bool) (hr : Hid (ents es a3 0 es.length a5 = r)) (hlb : Hid (lastB a0 cf d ls = lb)) :
    Calls Try.prog 8 #[.agg #[.int .i64 a0, .int .i64 a1, .int .i64 a2, .int .i64 a3, .int .i64 a4, .int .i64 a5, .int .i64 a6, .bool a7, .slice A8 es.length c8, .slice A9 cf.length c9, .string d, .bool ls]] w fun e w' => e = .returned (.bool (r && lb)) ∧ Below w.heap.size w w' := by
  have HR8 := Lib.hid hr8
  have HR9 := Lib.hid hr9
  clear hr8 hr9
  have n4 : decide (4 < (es.length : Int)) = false := decide_eq_false (by omega)
  have hcont : ∀ (b : Bool), True := fun _ => trivial
  rcases Nat.eq_zero_or_pos es.length with hz | hp
  · have n0 : decide (0 < (es.length : Int)) = false := decide_eq_false (by omega)
    have n0' : decide (0 < es.length) = false := decide_eq_false (by omega)
    have HZ := Lib.hid hz
    clear hz lk
    go_enter Try.func8, Try.ntmps8
    go_wp2_with (first | (go_at_call 28; refine (spec_l01In _ _ _ _).mono ?_; rintro e w' ⟨rfl, rfl⟩))
    clear i0 i1 i2 ne i3 i5 i4 i6 n4 n0 n0'
    obtain ⟨X, hX⟩ : ∃ X, X = w.alloc (.cells #[.int .i64 a0, .int .i64 a1, .int .i64 a2, .int .i64 a3, .int .i64 a4, .int .i64 a5, .int .i64 a6, .bool a7, .slice A8 es.length c8, .slice A9 cf.length c9, .string d, .bool ls] 27) := ⟨_, rfl⟩
    have KA : Blk 27 w.heap.size #[.int .i64 a0, .int .i64 a1, .int .i64 a2, .int .i64 a3, .int .i64 a4, .int .i64 a5, .int .i64 a6, .bool a7, .slice A8 es.length c8, .slice A9 cf.length c9, .string d, .bool ls] X := by rw [hX]; exact Blk.new _ _ w
    have HX : Below w.heap.size w X := by rw [hX]; exact (by repeat (first | exact Below.refl _ _ | apply bl_alloc | apply bl_drewN | apply bl_drew | refine bl_set ?_ (by simp) | refine bl_then ?_ (by assumption)))
    rw [← hX]
    clear hX
    go_loopg [3, 4] es.length (fun kq v3 v4 w' => ∃ (i : Nat) (pt : Int), v3 = .int .i64 pt ∧ v4 = .int .i64 (i : Int) ∧ i + kq = es.length ∧ Hid (ents es a3 i kq pt = r) ∧ Below X.heap.size X w')
    case atStart => exact ⟨0, a5, rfl, rfl, by omega, hr, Below.refl _ _⟩
    case round =>
      obtain ⟨i, pt, rfl, rfl, hik, hix, hb⟩ := hrel
      clear hr
      have KW := KA.below hb
      have k0 := KW.cell 0 rfl
      have k3 := KW.cell 3 rfl
      have k8 := KW.cell 8 rfl
      have k9 := KW.cell 9 rfl
      have k10 := KW.cell 10 rfl
      have k11 := KW.cell 11 rfl
      have la := KW.lt
      have la2 : w.heap.size < wr.heap.size + 1 := by omega
      cases gk with
      | zero =>
        have hlt : ¬ ((i : Int) < (es.length : Int)) := by omega
        have hrv := hix.out
        simp only [ents] at hrv
        subst hrv
        clear hix
        have hl5 := hlb.out
        unfold lastB at hl5
        clear hlb
        by_cases h5 : a0 = 5
        · rw [if_pos h5] at hl5
          have h5' : (a0 == 5) = true := by rw [h5]; rfl
          obtain ⟨cb, hcb⟩ : ∃ cb, confOk cf = cb := ⟨_, rfl⟩
          rw [hcb] at hl5
          have HCB := Lib.hid hcb
          clear hcb h5
          cases cb with
          | false =>
            simp only [Bool.false_and] at hl5
            subst hl5
            go_wp2_with (first | (go_at_call 30; refine (spec_confH _ _ cf false _ HCB (Kd.C_below HR9.out (bl_then HX (bl_then hb (by repeat (first | exact Below.refl _ _ | apply bl_alloc | apply bl_drewN | apply bl_drew | refine bl_set ?_ (by simp) | refine bl_then ?_ (by assumption)))))) hc9 hcf).mono ?_; rintro e w' ⟨rfl, hb1⟩))
            go_ret
            exact ⟨rfl, bl_then HX (bl_then hb (by repeat (first | exact Below.refl _ _ | apply bl_alloc | apply bl_drewN | apply bl_drew | refine bl_set ?_ (by simp) | refine bl_then ?_ (by assumption))))⟩
          | true =>
            simp only [Bool.true_and] at hl5
            subst hl5
            go_wp2_with (first | (go_at_call 30; refine (spec_confH _ _ cf true _ HCB (Kd.C_below HR9.out (bl_then HX (bl_then hb (by repeat (first | exact Below.refl _ _ | apply bl_alloc | apply bl_drewN | apply bl_drew | refine bl_set ?_ (by simp) | refine bl_then ?_ (by assumption)))))) hc9 hcf).mono ?_; rintro e w' ⟨rfl, hb1⟩; obtain ⟨hc1, hf1⟩ := bcell hb1; have hz1 : w.heap.size < w'.heap.size := (by have := hb1.size; (try simp at this); omega)))
            all_goals
              go_ret
              exact ⟨by first | rfl | (simp; done) | (simp [*]; done) | (refine ret_bool ?_; simp; omega), bl_then HX (bl_then hb (by repeat (first | exact Below.refl _ _ | apply bl_alloc | apply bl_drewN | apply bl_drew | refine bl_set ?_ (by simp) | refine bl_then ?_ (by assumption))))⟩
        · rw [if_neg h5] at hl5
          have h5' : (a0 == 5) = false := by simpa using h5
          clear h5
          go_wp2
          all_goals
            go_ret
            refine ⟨?_, bl_then HX (bl_then hb (by repeat (first | exact Below.refl _ _ | apply bl_alloc | apply bl_drewN | apply bl_drew | refine bl_set ?_ (by simp) | refine bl_then ?_ (by assumption))))⟩
            first
              | (refine ret_bool ?_; rw [← hl5]; simp [*]; done)
              | (refine ret_bool ?_; rw [← hl5]; simp_all; done)
              | trace_state
      | succ n =>
        have hlt : (i : Int) < (es.length : Int) := by omega
        obtain ⟨ad, e1, x0, x1, x2⟩ := at_T43 (Kd.C_below HR8.out (bl_then HX hb)) i (by omega) hlt
        subst e1
        simp only [Int.toNat_natCast] at x0 x1 x2
        have lx : (ad.add (i * 3)).block < wr.heap.size := World.block_lt_of_cell? wr _ x0
        have E1 := Lib.hid (show wrap64 ((i : Int) + 1) = ((i + 1 : Nat) : Int) from by unfold wrap64; omega)
        have hrv := hix.out
        simp only [ents] at hrv
        have hSi := hS i
        obtain ⟨eo, heo⟩ : ∃ eo, entryOk (rd_T43 es (i : Int)).f0 (rd_T43 es (i : Int)).f1 (rd_T43 es (i : Int)).f2 = eo := ⟨_, rfl⟩
        rw [heo] at hrv
        have HEO := Lib.hid heo
        clear heo hix
        cases eo with
        | false =>
          simp only [Bool.false_and] at hrv
          subst hrv
          go_wp2
          refine wp_region_flowG [1, 3, 4] 134 (by kernel_rfl) (by rfl) (by kernel_rfl) (by kernel_rfl) (by kernel_rfl) ?_
          iterate 8 (refine flowG_valE ?_; apply Exists.intro; refine ⟨fun A wq hBq hbq hdq => ?_, ?_⟩; focus (obtain ⟨hcq, hfq⟩ := bcellA hBq; (try simp [go_sem, baseF, deps, dep1, Region.binds] at hbq); (try simp [go_sem, baseF, deps, dep1, Region.binds, NewSl] at hdq); go_simp <;> first | exact ⟨Below.refl _ _, rfl⟩ | (rw [if_neg]; (focus (exact ⟨Below.refl _ _, rfl⟩)); (focus ((try simp only [ByteArray.size_append]); omega))) | (first | (go_at_call 29; exact (spec_EntryOkH _ _ _ false _ HEO (by omega))))))
          iterate 8 (refine flowG_no (fun A wq hBq hbq hdq => ?_) ?_; focus ((try simp [go_sem, baseF, deps, dep1, Region.binds] at hdq); refine yielded_of rfl ?_; simp [hdq]))
          iterate 2 (refine flowG_valE ?_; apply Exists.intro; refine ⟨fun A wq hBq hbq hdq => ?_, ?_⟩; focus (obtain ⟨hcq, hfq⟩ := bcellA hBq; (try simp [go_sem, baseF, deps, dep1, Region.binds] at hbq); (try simp [go_sem, baseF, deps, dep1, Region.binds, NewSl] at hdq); go_simp <;> first | exact ⟨Below.refl _ _, rfl⟩ | (rw [if_neg]; (focus (exact ⟨Below.refl _ _, rfl⟩)); (focus ((try simp only [ByteArray.size_append]); omega))) | (fail)))
          iterate 9 (refine flowG_no (fun A wq hBq hbq hdq => ?_) ?_; focus ((try simp [go_sem, baseF, deps, dep1, Region.binds] at hdq); refine yielded_of rfl ?_; simp [hdq]))
          (refine flowG_valE ?_; apply Exists.intro; refine ⟨fun A wq hBq hbq hdq => ?_, ?_⟩; focus (obtain ⟨hcq, hfq⟩ := bcellA hBq; (try simp [go_sem, baseF, deps, dep1, Region.binds] at hbq); (try simp [go_sem, baseF, deps, dep1, Region.binds, NewSl] at hdq); go_simp <;> first | exact ⟨Below.refl _ _, rfl⟩ | (rw [if_neg]; (focus (exact ⟨Below.refl _ _, rfl⟩)); (focus ((try simp only [ByteArray.size_append]); omega))) | (fail)))
          refine fun x wq hBq hall => ?_
          obtain ⟨hcq, hfq⟩ := bcellA hBq
          simp only [allT] at hall
          simp [frameOf, Act.put, hall]
          clear hall
          go_wp2
          go_ret
          exact ⟨by simp, bl_then HX (bl_then hb (by repeat (first | exact Below.refl _ _ | apply bl_alloc | apply bl_drewN | apply bl_drew | refine bl_set ?_ (by simp) | refine bl_then ?_ (by assumption))))⟩
        | true =>
          simp only [Bool.true_and] at hrv
          by_cases h1 : (rd_T43 es (i : Int)).f0 < pt
          · have h1' : decide ((rd_T43 es (i : Int)).f0 < pt) = true := decide_eq_true h1
            rw [h1'] at hrv
            simp only [Bool.not_true, Bool.false_and] at hrv
            subst hrv
            go_wp2
            refine wp_region_flowG [1, 3, 4] 134 (by kernel_rfl) (by rfl) (by kernel_rfl) (by kernel_rfl) (by kernel_rfl) ?_
            iterate 8 (refine flowG_valE ?_; apply Exists.intro; refine ⟨fun A wq hBq hbq hdq => ?_, ?_⟩; focus (obtain ⟨hcq, hfq⟩ := bcellA hBq; (try simp [go_sem, baseF, deps, dep1, Region.binds] at hbq); (try simp [go_sem, baseF, deps, dep1, Region.binds, NewSl] at hdq); go_simp <;> first | exact ⟨Below.refl _ _, rfl⟩ | (rw [if_neg]; (focus (exact ⟨Below.refl _ _, rfl⟩)); (focus ((try simp only [ByteArray.size_append]); omega))) | (first | (go_at_call 29; exact (spec_EntryOkH _ _ _ true _ HEO (by omega))))))
            iterate 8 (refine flowG_yesE ?_; apply Exists.intro; refine ⟨fun A wq hBq hbq hdq => ⟨?_, ?_⟩, ?_⟩; (focus ((try simp [go_sem, baseF, deps, dep1, Region.binds] at hdq); refine yielded_of rfl ?_; simp [hdq])); focus (obtain ⟨hcq, hfq⟩ := bcellA hBq; (try simp [go_sem, baseF, deps, dep1, Region.binds] at hbq); (try simp [go_sem, baseF, deps, dep1, Region.binds, NewSl] at hdq); go_simp <;> first | exact ⟨Below.refl _ _, rfl⟩ | (rw [if_neg]; (focus (exact ⟨Below.refl _ _, rfl⟩)); (focus ((try simp only [ByteArray.size_append]); omega))) | (fail)))
            iterate 2 (refine flowG_valE ?_; apply Exists.intro; refine ⟨fun A wq hBq hbq hdq => ?_, ?_⟩; focus (obtain ⟨hcq, hfq⟩ := bcellA hBq; (try simp [go_sem, baseF, deps, dep1, Region.binds] at hbq); (try simp [go_sem, baseF, deps, dep1, Region.binds, NewSl] at hdq); go_simp <;> first | exact ⟨Below.refl _ _, rfl⟩ | (rw [if_neg]; (focus (exact ⟨Below.refl _ _, rfl⟩)); (focus ((try simp only [ByteArray.size_append]); omega))) | (fail)))
            iterate 9 (refine flowG_no (fun A wq hBq hbq hdq => ?_) ?_; focus ((try simp [go_sem, baseF, deps, dep1, Region.binds] at hdq); refine yielded_of rfl ?_; simp [hdq]))
            (refine flowG_valE ?_; apply Exists.intro; refine ⟨fun A wq hBq hbq hdq => ?_, ?_⟩; focus (obtain ⟨hcq, hfq⟩ := bcellA hBq; (try simp [go_sem, baseF, deps, dep1, Region.binds] at hbq); (try simp [go_sem, baseF, deps, dep1, Region.binds, NewSl] at hdq); go_simp <;> first | exact ⟨Below.refl _ _, rfl⟩ | (rw [if_neg]; (focus (exact ⟨Below.refl _ _, rfl⟩)); (focus ((try simp only [ByteArray.size_append]); omega))) | (fail)))
            refine fun x wq hBq hall => ?_
            obtain ⟨hcq, hfq⟩ := bcellA hBq
            simp only [allT] at hall
            simp [frameOf, Act.put, hall]
            clear hall
            go_wp2
            go_ret
            exact ⟨by simp, bl_then HX (bl_then hb (by repeat (first | exact Below.refl _ _ | apply bl_alloc | apply bl_drewN | apply bl_drew | refine bl_set ?_ (by simp) | refine bl_then ?_ (by assumption))))⟩
          · have h1' : decide ((rd_T43 es (i : Int)).f0 < pt) = false := decide_eq_false h1
            rw [h1'] at hrv
            simp only [Bool.not_false, Bool.true_and] at hrv
            clear h1
            by_cases h2 : (rd_T43 es (i : Int)).f0 > a3
            · have h2' : decide (a3 < (rd_T43 es (i : Int)).f0) = true := decide_eq_true h2
              rw [show decide ((rd_T43 es (i : Int)).f0 > a3) = true from h2'] at hrv
              simp only [Bool.not_true, Bool.false_and] at hrv
              subst hrv
              go_wp2
              refine wp_region_flowG [1, 3, 4] 134 (by kernel_rfl) (by rfl) (by kernel_rfl) (by kernel_rfl) (by kernel_rfl) ?_
              iterate 8 (refine flowG_valE ?_; apply Exists.intro; refine ⟨fun A wq hBq hbq hdq => ?_, ?_⟩; focus (obtain ⟨hcq, hfq⟩ := bcellA hBq; (try simp [go_sem, baseF, deps, dep1, Region.binds] at hbq); (try simp [go_sem, baseF, deps, dep1, Region.binds, NewSl] at hdq); go_simp <;> first | exact ⟨Below.refl _ _, rfl⟩ | (rw [if_neg]; (focus (exact ⟨Below.refl _ _, rfl⟩)); (focus ((try simp only [ByteArray.size_append]); omega))) | (first | (go_at_call 29; exact (spec_EntryOkH _ _ _ true _ HEO (by omega))))))
              iterate 8 (refine flowG_yesE ?_; apply Exists.intro; refine ⟨fun A wq hBq hbq hdq => ⟨?_, ?_⟩, ?_⟩; (focus ((try simp [go_sem, baseF, deps, dep1, Region.binds] at hdq); refine yielded_of rfl ?_; simp [hdq])); focus (obtain ⟨hcq, hfq⟩ := bcellA hBq; (try simp [go_sem, baseF, deps, dep1, Region.binds] at hbq); (try simp [go_sem, baseF, deps, dep1, Region.binds, NewSl] at hdq); go_simp <;> first | exact ⟨Below.refl _ _, rfl⟩ | (rw [if_neg]; (focus (exact ⟨Below.refl _ _, rfl⟩)); (focus ((try simp only [ByteArray.size_append]); omega))) | (fail)))
              iterate 2 (refine flowG_valE ?_; apply Exists.intro; refine ⟨fun A wq hBq hbq hdq => ?_, ?_⟩; focus (obtain ⟨hcq, hfq⟩ := bcellA hBq; (try simp [go_sem, baseF, deps, dep1, Region.binds] at hbq); (try simp [go_sem, baseF, deps, dep1, Region.binds, NewSl] at hdq); go_simp <;> first | exact ⟨Below.refl _ _, rfl⟩ | (rw [if_neg]; (focus (exact ⟨Below.refl _ _, rfl⟩)); (focus ((try simp only [ByteArray.size_append]); omega))) | (fail)))
              iterate 9 (refine flowG_yesE ?_; apply Exists.intro; refine ⟨fun A wq hBq hbq hdq => ⟨?_, ?_⟩, ?_⟩; (focus ((try simp [go_sem, baseF, deps, dep1, Region.binds] at hdq); refine yielded_of rfl ?_; simp [hdq])); focus (obtain ⟨hcq, hfq⟩ := bcellA hBq; (try simp [go_sem, baseF, deps, dep1, Region.binds] at hbq); (try simp [go_sem, baseF, deps, dep1, Region.binds, NewSl] at hdq); go_simp <;> first | exact ⟨Below.refl _ _, rfl⟩ | (rw [if_neg]; (focus (exact ⟨Below.refl _ _, rfl⟩)); (focus ((try simp only [ByteArray.size_append]); omega))) | (fail)))
              (refine flowG_valE ?_; apply Exists.intro; refine ⟨fun A wq hBq hbq hdq => ?_, ?_⟩; focus (obtain ⟨hcq, hfq⟩ := bcellA hBq; (try simp [go_sem, baseF, deps, dep1, Region.binds] at hbq); (try simp [go_sem, baseF, deps, dep1, Region.binds, NewSl] at hdq); go_simp <;> first | exact ⟨Below.refl _ _, rfl⟩ | (rw [if_neg]; (focus (exact ⟨Below.refl _ _, rfl⟩)); (focus ((try simp only [ByteArray.size_append]); omega))) | (fail)))
              refine fun x wq hBq hall => ?_
              obtain ⟨hcq, hfq⟩ := bcellA hBq
              simp only [allT] at hall
              simp [frameOf, Act.put, hall]
              clear hall
              go_wp2
              go_ret
              exact ⟨by simp, bl_then HX (bl_then hb (by repeat (first | exact Below.refl _ _ | apply bl_alloc | apply bl_drewN | apply bl_drew | refine bl_set ?_ (by simp) | refine bl_then ?_ (by assumption))))⟩
            · have h2' : decide (a3 < (rd_T43 es (i : Int)).f0) = false := decide_eq_false h2
              rw [show decide ((rd_T43 es (i : Int)).f0 > a3) = false from h2'] at hrv
              simp only [Bool.not_false, Bool.true_and] at hrv
              have hix2 := Lib.hid hrv
              clear hrv h2
              go_wp2
              refine wp_region_flowG [1, 3, 4] 134 (by kernel_rfl) (by rfl) (by kernel_rfl) (by kernel_rfl) (by kernel_rfl) ?_
              iterate 8 (refine flowG_valE ?_; apply Exists.intro; refine ⟨fun A wq hBq hbq hdq => ?_, ?_⟩; focus (obtain ⟨hcq, hfq⟩ := bcellA hBq; (try simp [go_sem, baseF, deps, dep1, Region.binds] at hbq); (try simp [go_sem, baseF, deps, dep1, Region.binds, NewSl] at hdq); go_simp <;> first | exact ⟨Below.refl _ _, rfl⟩ | (rw [if_neg]; (focus (exact ⟨Below.refl _ _, rfl⟩)); (focus ((try simp only [ByteArray.size_append]); omega))) | (first | (go_at_call 29; exact (spec_EntryOkH _ _ _ true _ HEO (by omega))))))
              iterate 8 (refine flowG_yesE ?_; apply Exists.intro; refine ⟨fun A wq hBq hbq hdq => ⟨?_, ?_⟩, ?_⟩; (focus ((try simp [go_sem, baseF, deps, dep1, Region.binds] at hdq); refine yielded_of rfl ?_; simp [hdq])); focus (obtain ⟨hcq, hfq⟩ := bcellA hBq; (try simp [go_sem, baseF, deps, dep1, Region.binds] at hbq); (try simp [go_sem, baseF, deps, dep1, Region.binds, NewSl] at hdq); go_simp <;> first | exact ⟨Below.refl _ _, rfl⟩ | (rw [if_neg]; (focus (exact ⟨Below.refl _ _, rfl⟩)); (focus ((try simp only [ByteArray.size_append]); omega))) | (fail)))
              iterate 2 (refine flowG_valE ?_; apply Exists.intro; refine ⟨fun A wq hBq hbq hdq => ?_, ?_⟩; focus (obtain ⟨hcq, hfq⟩ := bcellA hBq; (try simp [go_sem, baseF, deps, dep1, Region.binds] at hbq); (try simp [go_sem, baseF, deps, dep1, Region.binds, NewSl] at hdq); go_simp <;> first | exact ⟨Below.refl _ _, rfl⟩ | (rw [if_neg]; (focus (exact ⟨Below.refl _ _, rfl⟩)); (focus ((try simp only [ByteArray.size_append]); omega))) | (fail)))
              iterate 9 (refine flowG_yesE ?_; apply Exists.intro; refine ⟨fun A wq hBq hbq hdq => ⟨?_, ?_⟩, ?_⟩; (focus ((try simp [go_sem, baseF, deps, dep1, Region.binds] at hdq); refine yielded_of rfl ?_; simp [hdq])); focus (obtain ⟨hcq, hfq⟩ := bcellA hBq; (try simp [go_sem, baseF, deps, dep1, Region.binds] at hbq); (try simp [go_sem, baseF, deps, dep1, Region.binds, NewSl] at hdq); go_simp <;> first | exact ⟨Below.refl _ _, rfl⟩ | (rw [if_neg]; (focus (exact ⟨Below.refl _ _, rfl⟩)); (focus ((try simp only [ByteArray.size_append]); omega))) | (fail)))
              (refine flowG_valE ?_; apply Exists.intro; refine ⟨fun A wq hBq hbq hdq => ?_, ?_⟩; focus (obtain ⟨hcq, hfq⟩ := bcellA hBq; (try simp [go_sem, baseF, deps, dep1, Region.binds] at hbq); (try simp [go_sem, baseF, deps, dep1, Region.binds, NewSl] at hdq); go_simp <;> first | exact ⟨Below.refl _ _, rfl⟩ | (rw [if_neg]; (focus (exact ⟨Below.refl _ _, rfl⟩)); (focus ((try simp only [ByteArray.size_append]); omega))) | (fail)))
              refine fun x wq hBq hall => ?_
              obtain ⟨hcq, hfq⟩ := bcellA hBq
              simp only [allT] at hall
              simp [frameOf, Act.put, hall]
              clear hall
              go_wp2
              go_roundg n
              case measure => omega
              case rel => exact ⟨i + 1, _, rfl, by first | rfl | (rw [E1.out]), by omega, hix2, bl_then hb (by repeat (first | exact Below.refl _ _ | apply bl_alloc | apply bl_drewN | apply bl_drew | refine bl_set ?_ (by simp) | refine bl_then ?_ (by assumption)))⟩
  · have hk : a0 = 3 := by rcases lk with h | h <;> omega
    have n0 : decide (0 < (es.length : Int)) = true := decide_eq_true (by omega)
    have n0' : decide (0 < es.length) = true := decide_eq_true (by omega)
    have k3 : (a0 != 3) = false := by rw [hk]; rfl
    have HK := Lib.hid hk
    clear hk lk
    go_enter Try.func8, Try.ntmps8
    go_wp2_with (first | (go_at_call 28; refine (spec_l01In _ _ _ _).mono ?_; rintro e w' ⟨rfl, rfl⟩))
    clear i0 i1 i2 ne i3 i5 i4 i6 n4 n0 n0'
    obtain ⟨X, hX⟩ : ∃ X, X = w.alloc (.cells #[.int .i64 a0, .int .i64 a1, .int .i64 a2, .int .i64 a3, .int .i64 a4, .int .i64 a5, .int .i64 a6, .bool a7, .slice A8 es.length c8, .slice A9 cf.length c9, .string d, .bool ls] 27) := ⟨_, rfl⟩
    have KA : Blk 27 w.heap.size #[.int .i64 a0, .int .i64 a1, .int .i64 a2, .int .i64 a3, .int .i64 a4, .int .i64 a5, .int .i64 a6, .bool a7, .slice A8 es.length c8, .slice A9 cf.length c9, .string d, .bool ls] X := by rw [hX]; exact Blk.new _ _ w
    have HX : Below w.heap.size w X := by rw [hX]; exact (by repeat (first | exact Below.refl _ _ | apply bl_alloc | apply bl_drewN | apply bl_drew | refine bl_set ?_ (by simp) | refine bl_then ?_ (by assumption)))
    rw [← hX]
    clear hX
    go_loopg [3, 4] es.length (fun kq v3 v4 w' => ∃ (i : Nat) (pt : Int), v3 = .int .i64 pt ∧ v4 = .int .i64 (i : Int) ∧ i + kq = es.length ∧ Hid (ents es a3 i kq pt = r) ∧ Below X.heap.size X w')
    case atStart => exact ⟨0, a5, rfl, rfl, by omega, hr, Below.refl _ _⟩
    case round =>
      obtain ⟨i, pt, rfl, rfl, hik, hix, hb⟩ := hrel
      clear hr
      have KW := KA.below hb
      have k0 := KW.cell 0 rfl
      have k3 := KW.cell 3 rfl
      have k8 := KW.cell 8 rfl
      have k9 := KW.cell 9 rfl
      have k10 := KW.cell 10 rfl
      have k11 := KW.cell 11 rfl
      have la := KW.lt
      have la2 : w.heap.size < wr.heap.size + 1 := by omega
      cases gk with
      | zero =>
        have hlt : ¬ ((i : Int) < (es.length : Int)) := by omega
        have hrv := hix.out
        simp only [ents] at hrv
        subst hrv
        clear hix
        have hl5 := hlb.out
        unfold lastB at hl5
        clear hlb
        by_cases h5 : a0 = 5
        · rw [if_pos h5] at hl5
          have h5' : (a0 == 5) = true := by rw [h5]; rfl
          obtain ⟨cb, hcb⟩ : ∃ cb, confOk cf = cb := ⟨_, rfl⟩
          rw [hcb] at hl5
          have HCB := Lib.hid hcb
          clear hcb h5
          cases cb with
          | false =>
            simp only [Bool.false_and] at hl5
            subst hl5
            go_wp2_with (first | (go_at_call 30; refine (spec_confH _ _ cf false _ HCB (Kd.C_below HR9.out (bl_then HX (bl_then hb (by repeat (first | exact Below.refl _ _ | apply bl_alloc | apply bl_drewN | apply bl_drew | refine bl_set ?_ (by simp) | refine bl_then ?_ (by assumption)))))) hc9 hcf).mono ?_; rintro e w' ⟨rfl, hb1⟩))
            go_ret
            exact ⟨rfl, bl_then HX (bl_then hb (by repeat (first | exact Below.refl _ _ | apply bl_alloc | apply bl_drewN | apply bl_drew | refine bl_set ?_ (by simp) | refine bl_then ?_ (by assumption))))⟩
          | true =>
            simp only [Bool.true_and] at hl5
            subst hl5
            go_wp2_with (first | (go_at_call 30; refine (spec_confH _ _ cf true _ HCB (Kd.C_below HR9.out (bl_then HX (bl_then hb (by repeat (first | exact Below.refl _ _ | apply bl_alloc | apply bl_drewN | apply bl_drew | refine bl_set ?_ (by simp) | refine bl_then ?_ (by assumption)))))) hc9 hcf).mono ?_; rintro e w' ⟨rfl, hb1⟩; obtain ⟨hc1, hf1⟩ := bcell hb1; have hz1 : w.heap.size < w'.heap.size := (by have := hb1.size; (try simp at this); omega)))
            all_goals
              go_ret
              exact ⟨by first | rfl | (simp; done) | (simp [*]; done) | (refine ret_bool ?_; simp; omega), bl_then HX (bl_then hb (by repeat (first | exact Below.refl _ _ | apply bl_alloc | apply bl_drewN | apply bl_drew | refine bl_set ?_ (by simp) | refine bl_then ?_ (by assumption))))⟩
        · rw [if_neg h5] at hl5
          have h5' : (a0 == 5) = false := by simpa using h5
          clear h5
          go_wp2
          all_goals
            go_ret
            refine ⟨?_, bl_then HX (bl_then hb (by repeat (first | exact Below.refl _ _ | apply bl_alloc | apply bl_drewN | apply bl_drew | refine bl_set ?_ (by simp) | refine bl_then ?_ (by assumption))))⟩
            first
              | (refine ret_bool ?_; rw [← hl5]; simp [*]; done)
              | (refine ret_bool ?_; rw [← hl5]; simp_all; done)
              | trace_state
      | succ n =>
        have hlt : (i : Int) < (es.length : Int) := by omega
        obtain ⟨ad, e1, x0, x1, x2⟩ := at_T43 (Kd.C_below HR8.out (bl_then HX hb)) i (by omega) hlt
        subst e1
        simp only [Int.toNat_natCast] at x0 x1 x2
        have lx : (ad.add (i * 3)).block < wr.heap.size := World.block_lt_of_cell? wr _ x0
        have E1 := Lib.hid (show wrap64 ((i : Int) + 1) = ((i + 1 : Nat) : Int) from by unfold wrap64; omega)
        have hrv := hix.out
        simp only [ents] at hrv
        have hSi := hS i
        obtain ⟨eo, heo⟩ : ∃ eo, entryOk (rd_T43 es (i : Int)).f0 (rd_T43 es (i : Int)).f1 (rd_T43 es (i : Int)).f2 = eo := ⟨_, rfl⟩
        rw [heo] at hrv
        have HEO := Lib.hid heo
        clear heo hix
        cases eo with
        | false =>
          simp only [Bool.false_and] at hrv
          subst hrv
          go_wp2
          refine wp_region_flowG [1, 3, 4] 134 (by kernel_rfl) (by rfl) (by kernel_rfl) (by kernel_rfl) (by kernel_rfl) ?_
          iterate 8 (refine flowG_valE ?_; apply Exists.intro; refine ⟨fun A wq hBq hbq hdq => ?_, ?_⟩; focus (obtain ⟨hcq, hfq⟩ := bcellA hBq; (try simp [go_sem, baseF, deps, dep1, Region.binds] at hbq); (try simp [go_sem, baseF, deps, dep1, Region.binds, NewSl] at hdq); go_simp <;> first | exact ⟨Below.refl _ _, rfl⟩ | (rw [if_neg]; (focus (exact ⟨Below.refl _ _, rfl⟩)); (focus ((try simp only [ByteArray.size_append]); omega))) | (first | (go_at_call 29; exact (spec_EntryOkH _ _ _ false _ HEO (by omega))))))
          iterate 8 (refine flowG_no (fun A wq hBq hbq hdq => ?_) ?_; focus ((try simp [go_sem, baseF, deps, dep1, Region.binds] at hdq); refine yielded_of rfl ?_; simp [hdq]))
          iterate 2 (refine flowG_valE ?_; apply Exists.intro; refine ⟨fun A wq hBq hbq hdq => ?_, ?_⟩; focus (obtain ⟨hcq, hfq⟩ := bcellA hBq; (try simp [go_sem, baseF, deps, dep1, Region.binds] at hbq); (try simp [go_sem, baseF, deps, dep1, Region.binds, NewSl] at hdq); go_simp <;> first | exact ⟨Below.refl _ _, rfl⟩ | (rw [if_neg]; (focus (exact ⟨Below.refl _ _, rfl⟩)); (focus ((try simp only [ByteArray.size_append]); omega))) | (fail)))
          iterate 9 (refine flowG_no (fun A wq hBq hbq hdq => ?_) ?_; focus ((try simp [go_sem, baseF, deps, dep1, Region.binds] at hdq); refine yielded_of rfl ?_; simp [hdq]))
          (refine flowG_valE ?_; apply Exists.intro; refine ⟨fun A wq hBq hbq hdq => ?_, ?_⟩; focus (obtain ⟨hcq, hfq⟩ := bcellA hBq; (try simp [go_sem, baseF, deps, dep1, Region.binds] at hbq); (try simp [go_sem, baseF, deps, dep1, Region.binds, NewSl] at hdq); go_simp <;> first | exact ⟨Below.refl _ _, rfl⟩ | (rw [if_neg]; (focus (exact ⟨Below.refl _ _, rfl⟩)); (focus ((try simp only [ByteArray.size_append]); omega))) | (fail)))
          refine fun x wq hBq hall => ?_
          obtain ⟨hcq, hfq⟩ := bcellA hBq
          simp only [allT] at hall
          simp [frameOf, Act.put, hall]
          clear hall
          go_wp2
          go_ret
          exact ⟨by simp, bl_then HX (bl_then hb (by repeat (first | exact Below.refl _ _ | apply bl_alloc | apply bl_drewN | apply bl_drew | refine bl_set ?_ (by simp) | refine bl_then ?_ (by assumption))))⟩
        | true =>
          simp only [Bool.true_and] at hrv
          by_cases h1 : (rd_T43 es (i : Int)).f0 < pt
          · have h1' : decide ((rd_T43 es (i : Int)).f0 < pt) = true := decide_eq_true h1
            rw [h1'] at hrv
            simp only [Bool.not_true, Bool.false_and] at hrv
            subst hrv
            go_wp2
            refine wp_region_flowG [1, 3, 4] 134 (by kernel_rfl) (by rfl) (by kernel_rfl) (by kernel_rfl) (by kernel_rfl) ?_
            iterate 8 (refine flowG_valE ?_; apply Exists.intro; refine ⟨fun A wq hBq hbq hdq => ?_, ?_⟩; focus (obtain ⟨hcq, hfq⟩ := bcellA hBq; (try simp [go_sem, baseF, deps, dep1, Region.binds] at hbq); (try simp [go_sem, baseF, deps, dep1, Region.binds, NewSl] at hdq); go_simp <;> first | exact ⟨Below.refl _ _, rfl⟩ | (rw [if_neg]; (focus (exact ⟨Below.refl _ _, rfl⟩)); (focus ((try simp only [ByteArray.size_append]); omega))) | (first | (go_at_call 29; exact (spec_EntryOkH _ _ _ true _ HEO (by omega))))))
            iterate 8 (refine flowG_yesE ?_; apply Exists.intro; refine ⟨fun A wq hBq hbq hdq => ⟨?_, ?_⟩, ?_⟩; (focus ((try simp [go_sem, baseF, deps, dep1, Region.binds] at hdq); refine yielded_of rfl ?_; simp [hdq])); focus (obtain ⟨hcq, hfq⟩ := bcellA hBq; (try simp [go_sem, baseF, deps, dep1, Region.binds] at hbq); (try simp [go_sem, baseF, deps, dep1, Region.binds, NewSl] at hdq); go_simp <;> first | exact ⟨Below.refl _ _, rfl⟩ | (rw [if_neg]; (focus (exact ⟨Below.refl _ _, rfl⟩)); (focus ((try simp only [ByteArray.size_append]); omega))) | (fail)))
            iterate 2 (refine flowG_valE ?_; apply Exists.intro; refine ⟨fun A wq hBq hbq hdq => ?_, ?_⟩; focus (obtain ⟨hcq, hfq⟩ := bcellA hBq; (try simp [go_sem, baseF, deps, dep1, Region.binds] at hbq); (try simp [go_sem, baseF, deps, dep1, Region.binds, NewSl] at hdq); go_simp <;> first | exact ⟨Below.refl _ _, rfl⟩ | (rw [if_neg]; (focus (exact ⟨Below.refl _ _, rfl⟩)); (focus ((try simp only [ByteArray.size_append]); omega))) | (fail)))
            iterate 9 (refine flowG_no (fun A wq hBq hbq hdq => ?_) ?_; focus ((try simp [go_sem, baseF, deps, dep1, Region.binds] at hdq); refine yielded_of rfl ?_; simp [hdq]))
            (refine flowG_valE ?_; apply Exists.intro; refine ⟨fun A wq hBq hbq hdq => ?_, ?_⟩; focus (obtain ⟨hcq, hfq⟩ := bcellA hBq; (try simp [go_sem, baseF, deps, dep1, Region.binds] at hbq); (try simp [go_sem, baseF, deps, dep1, Region.binds, NewSl] at hdq); go_simp <;> first | exact ⟨Below.refl _ _, rfl⟩ | (rw [if_neg]; (focus (exact ⟨Below.refl _ _, rfl⟩)); (focus ((try simp only [ByteArray.size_append]); omega))) | (fail)))
            refine fun x wq hBq hall => ?_
            obtain ⟨hcq, hfq⟩ := bcellA hBq
            simp only [allT] at hall
            simp [frameOf, Act.put, hall]
            clear hall
            go_wp2
            go_ret
            exact ⟨by simp, bl_then HX (bl_then hb (by repeat (first | exact Below.refl _ _ | apply bl_alloc | apply bl_drewN | apply bl_drew | refine bl_set ?_ (by simp) | refine bl_then ?_ (by assumption))))⟩
          · have h1' : decide ((rd_T43 es (i : Int)).f0 < pt) = false := decide_eq_false h1
            rw [h1'] at hrv
            simp only [Bool.not_false, Bool.true_and] at hrv
            clear h1
            by_cases h2 : (rd_T43 es (i : Int)).f0 > a3
            · have h2' : decide (a3 < (rd_T43 es (i : Int)).f0) = true := decide_eq_true h2
              rw [show decide ((rd_T43 es (i : Int)).f0 > a3) = true from h2'] at hrv
              simp only [Bool.not_true, Bool.false_and] at hrv
              subst hrv
              go_wp2
              refine wp_region_flowG [1, 3, 4] 134 (by kernel_rfl) (by rfl) (by kernel_rfl) (by kernel_rfl) (by kernel_rfl) ?_
              iterate 8 (refine flowG_valE ?_; apply Exists.intro; refine ⟨fun A wq hBq hbq hdq => ?_, ?_⟩; focus (obtain ⟨hcq, hfq⟩ := bcellA hBq; (try simp [go_sem, baseF, deps, dep1, Region.binds] at hbq); (try simp [go_sem, baseF, deps, dep1, Region.binds, NewSl] at hdq); go_simp <;> first | exact ⟨Below.refl _ _, rfl⟩ | (rw [if_neg]; (focus (exact ⟨Below.refl _ _, rfl⟩)); (focus ((try simp only [ByteArray.size_append]); omega))) | (first | (go_at_call 29; exact (spec_EntryOkH _ _ _ true _ HEO (by omega))))))
              iterate 8 (refine flowG_yesE ?_; apply Exists.intro; refine ⟨fun A wq hBq hbq hdq => ⟨?_, ?_⟩, ?_⟩; (focus ((try simp [go_sem, baseF, deps, dep1, Region.binds] at hdq); refine yielded_of rfl ?_; simp [hdq])); focus (obtain ⟨hcq, hfq⟩ := bcellA hBq; (try simp [go_sem, baseF, deps, dep1, Region.binds] at hbq); (try simp [go_sem, baseF, deps, dep1, Region.binds, NewSl] at hdq); go_simp <;> first | exact ⟨Below.refl _ _, rfl⟩ | (rw [if_neg]; (focus (exact ⟨Below.refl _ _, rfl⟩)); (focus ((try simp only [ByteArray.size_append]); omega))) | (fail)))
              iterate 2 (refine flowG_valE ?_; apply Exists.intro; refine ⟨fun A wq hBq hbq hdq => ?_, ?_⟩; focus (obtain ⟨hcq, hfq⟩ := bcellA hBq; (try simp [go_sem, baseF, deps, dep1, Region.binds] at hbq); (try simp [go_sem, baseF, deps, dep1, Region.binds, NewSl] at hdq); go_simp <;> first | exact ⟨Below.refl _ _, rfl⟩ | (rw [if_neg]; (focus (exact ⟨Below.refl _ _, rfl⟩)); (focus ((try simp only [ByteArray.size_append]); omega))) | (fail)))
              iterate 9 (refine flowG_yesE ?_; apply Exists.intro; refine ⟨fun A wq hBq hbq hdq => ⟨?_, ?_⟩, ?_⟩; (focus ((try simp [go_sem, baseF, deps, dep1, Region.binds] at hdq); refine yielded_of rfl ?_; simp [hdq])); focus (obtain ⟨hcq, hfq⟩ := bcellA hBq; (try simp [go_sem, baseF, deps, dep1, Region.binds] at hbq); (try simp [go_sem, baseF, deps, dep1, Region.binds, NewSl] at hdq); go_simp <;> first | exact ⟨Below.refl _ _, rfl⟩ | (rw [if_neg]; (focus (exact ⟨Below.refl _ _, rfl⟩)); (focus ((try simp only [ByteArray.size_append]); omega))) | (fail)))
              (refine flowG_valE ?_; apply Exists.intro; refine ⟨fun A wq hBq hbq hdq => ?_, ?_⟩; focus (obtain ⟨hcq, hfq⟩ := bcellA hBq; (try simp [go_sem, baseF, deps, dep1, Region.binds] at hbq); (try simp [go_sem, baseF, deps, dep1, Region.binds, NewSl] at hdq); go_simp <;> first | exact ⟨Below.refl _ _, rfl⟩ | (rw [if_neg]; (focus (exact ⟨Below.refl _ _, rfl⟩)); (focus ((try simp only [ByteArray.size_append]); omega))) | (fail)))
              refine fun x wq hBq hall => ?_
              obtain ⟨hcq, hfq⟩ := bcellA hBq
              simp only [allT] at hall
              simp [frameOf, Act.put, hall]
              clear hall
              go_wp2
              go_ret
              exact ⟨by simp, bl_then HX (bl_then hb (by repeat (first | exact Below.refl _ _ | apply bl_alloc | apply bl_drewN | apply bl_drew | refine bl_set ?_ (by simp) | refine bl_then ?_ (by assumption))))⟩
            · have h2' : decide (a3 < (rd_T43 es (i : Int)).f0) = false := decide_eq_false h2
              rw [show decide ((rd_T43 es (i : Int)).f0 > a3) = false from h2'] at hrv
              simp only [Bool.not_false, Bool.true_and] at hrv
              have hix2 := Lib.hid hrv
              clear hrv h2
              go_wp2
              refine wp_region_flowG [1, 3, 4] 134 (by kernel_rfl) (by rfl) (by kernel_rfl) (by kernel_rfl) (by kernel_rfl) ?_
              iterate 8 (refine flowG_valE ?_; apply Exists.intro; refine ⟨fun A wq hBq hbq hdq => ?_, ?_⟩; focus (obtain ⟨hcq, hfq⟩ := bcellA hBq; (try simp [go_sem, baseF, deps, dep1, Region.binds] at hbq); (try simp [go_sem, baseF, deps, dep1, Region.binds, NewSl] at hdq); go_simp <;> first | exact ⟨Below.refl _ _, rfl⟩ | (rw [if_neg]; (focus (exact ⟨Below.refl _ _, rfl⟩)); (focus ((try simp only [ByteArray.size_append]); omega))) | (first | (go_at_call 29; exact (spec_EntryOkH _ _ _ true _ HEO (by omega))))))
              iterate 8 (refine flowG_yesE ?_; apply Exists.intro; refine ⟨fun A wq hBq hbq hdq => ⟨?_, ?_⟩, ?_⟩; (focus ((try simp [go_sem, baseF, deps, dep1, Region.binds] at hdq); refine yielded_of rfl ?_; simp [hdq])); focus (obtain ⟨hcq, hfq⟩ := bcellA hBq; (try simp [go_sem, baseF, deps, dep1, Region.binds] at hbq); (try simp [go_sem, baseF, deps, dep1, Region.binds, NewSl] at hdq); go_simp <;> first | exact ⟨Below.refl _ _, rfl⟩ | (rw [if_neg]; (focus (exact ⟨Below.refl _ _, rfl⟩)); (focus ((try simp only [ByteArray.size_append]); omega))) | (fail)))
              iterate 2 (refine flowG_valE ?_; apply Exists.intro; refine ⟨fun A wq hBq hbq hdq => ?_, ?_⟩; focus (obtain ⟨hcq, hfq⟩ := bcellA hBq; (try simp [go_sem, baseF, deps, dep1, Region.binds] at hbq); (try simp [go_sem, baseF, deps, dep1, Region.binds, NewSl] at hdq); go_simp <;> first | exact ⟨Below.refl _ _, rfl⟩ | (rw [if_neg]; (focus (exact ⟨Below.refl _ _, rfl⟩)); (focus ((try simp only [ByteArray.size_append]); omega))) | (fail)))
              iterate 9 (refine flowG_yesE ?_; apply Exists.intro; refine ⟨fun A wq hBq hbq hdq => ⟨?_, ?_⟩, ?_⟩; (focus ((try simp [go_sem, baseF, deps, dep1, Region.binds] at hdq); refine yielded_of rfl ?_; simp [hdq])); focus (obtain ⟨hcq, hfq⟩ := bcellA hBq; (try simp [go_sem, baseF, deps, dep1, Region.binds] at hbq); (try simp [go_sem, baseF, deps, dep1, Region.binds, NewSl] at hdq); go_simp <;> first | exact ⟨Below.refl _ _, rfl⟩ | (rw [if_neg]; (focus (exact ⟨Below.refl _ _, rfl⟩)); (focus ((try simp only [ByteArray.size_append]); omega))) | (fail)))
              (refine flowG_valE ?_; apply Exists.intro; refine ⟨fun A wq hBq hbq hdq => ?_, ?_⟩; focus (obtain ⟨hcq, hfq⟩ := bcellA hBq; (try simp [go_sem, baseF, deps, dep1, Region.binds] at hbq); (try simp [go_sem, baseF, deps, dep1, Region.binds, NewSl] at hdq); go_simp <;> first | exact ⟨Below.refl _ _, rfl⟩ | (rw [if_neg]; (focus (exact ⟨Below.refl _ _, rfl⟩)); (focus ((try simp only [ByteArray.size_append]); omega))) | (fail)))
              refine fun x wq hBq hall => ?_
              obtain ⟨hcq, hfq⟩ := bcellA hBq
              simp only [allT] at hall
              simp [frameOf, Act.put, hall]
              clear hall
              go_wp2
              go_roundg n
              case measure => omega
              case rel => exact ⟨i + 1, _, rfl, by first | rfl | (rw [E1.out]), by omega, hix2, bl_then hb (by repeat (first | exact Below.refl _ _ | apply bl_alloc | apply bl_drewN | apply bl_drew | refine bl_set ?_ (by simp) | refine bl_then ?_ (by assumption)))⟩
theorem spec_MessageOk (es : List S43) (hS : Short es) (a0 a1 a2 a3 a4 a5 a6 : Int) (a7 : Bool) (cf : List Int) (d : ByteArray) (ls : Bool) (hl : es.length ≤ 1048576) (hcf : cf.length ≤ 1048576) (A8 : Option Addr) (c8 : Nat) (A9 : Option Addr) (c9 : Nat) (w : World)
    (hr8 : Kd.C k43 w A8 es.length es) (hc8 : es.length ≤ c8) (hr9 : Kd.C (Kd.int .i64) w A9 cf.length cf) (hc9 : cf.length ≤ c9) :
    Calls Try.prog 8 #[.agg #[.int .i64 a0, .int .i64 a1, .int .i64 a2, .int .i64 a3, .int .i64 a4, .int .i64 a5, .int .i64 a6, .bool a7, .slice A8 es.length c8, .slice A9 cf.length c9, .string d, .bool ls]] w fun e w' => e = .returned (.bool (msgB a0 a1 a2 a3 a4 a5 a6 es cf d ls)) ∧ Below w.heap.size w w' := by
  rw [msgB_pre]
  cases hp : preB a0 a1 a2 a3 a4 a5 a6 es with
  | false => exact spec_Msg_no es hS a0 a1 a2 a3 a4 a5 a6 a7 cf d ls hl hcf A8 c8 A9 c9 w hr8 hc8 hr9 hc9 hp
  | true =>
    unfold preB at hp
    simp only [Bool.and_eq_true, Bool.or_eq_true, Bool.not_eq_true', decide_eq_true_eq, beq_iff_eq] at hp
    obtain ⟨⟨⟨⟨⟨⟨i0, i1⟩, i2⟩, ne⟩, ⟨⟨i3, i5⟩, i4⟩, i6⟩, l4⟩, lk⟩ := hp
    exact spec_Msg_yes es hS a0 a1 a2 a3 a4 a5 a6 a7 cf d ls hl hcf A8 c8 A9 c9 w hr8 hc8 hr9 hc9 i0 i1 i2 ne i3 i5 i4 i6 l4 lk _ _ (Lib.hid rfl) (Lib.hid rfl)
end Go.Proofs.Ytmljihfaapoakaa
end

section
namespace Go.Proofs.Ytmljihfaapoakaa.PFnMessages
open Go.RowKit Go.Proofs.YtmljihfaapoakaaW.PrintWords Go.Proofs.YtmljihfaapoakaaW.PrintLast Go.Proofs.YtmljihfaapoakaaW.PrintMore
set_option linter.unusedVariables false
set_option linter.unusedSimpArgs false
def spec_l11Flag.f (a0 : Bool) : Option (ByteArray) := if a0 = true then (some (⟨#[1]⟩ : ByteArray)) else (some (⟨#[0]⟩ : ByteArray))
set_option maxHeartbeats 8000000 in
set_option maxRecDepth 100000 in
theorem spec_l11Flag.calls (a0 : Bool) (r : ByteArray) (w : World) (h : spec_l11Flag.f a0 = some r) :
    Calls Try.prog 55 #[.bool a0] w fun e w' => e = .returned (.string r) ∧ Drawn0 w w' := by
  have H : (if a0 = true then (some (⟨#[1]⟩ : ByteArray)) else (some (⟨#[0]⟩ : ByteArray))) = some r := h
  clear h
  by_cases c2 : a0 = true
  · subst c2
    have H1 : (some (⟨#[1]⟩ : ByteArray)) = some r := by rw [if_pos rfl] at H; exact H
    clear H
    have H := H1
    clear H1
    obtain rfl := Option.some.inj H
    go_enter Try.func55, Try.ntmps55
    go_wp2
    go_ret
    exact ⟨by first | rfl | (simp; done) | (simp [*]; done), by repeat (first | exact Drawn0.refl _ | apply Drawn0.step)⟩
  · replace c2 := Bool.eq_false_iff.mpr c2
    subst c2
    have H1 : (some (⟨#[0]⟩ : ByteArray)) = some r := by rw [if_neg (show ¬ (false = true) by decide)] at H; exact H
    clear H
    have H := H1
    clear H1
    obtain rfl := Option.some.inj H
    go_enter Try.func55, Try.ntmps55
    go_wp2
    go_ret
    exact ⟨by first | rfl | (simp; done) | (simp [*]; done), by repeat (first | exact Drawn0.refl _ | apply Drawn0.step)⟩
end Go.Proofs.Ytmljihfaapoakaa.PFnMessages
end

section
namespace Go.Proofs.Ytmljihfaapoakaa.PFnMessages
open Go.RowKit Go.Proofs.YtmljihfaapoakaaW.PrintWords Go.Proofs.YtmljihfaapoakaaW.PrintLast Go.Proofs.YtmljihfaapoakaaW.PrintMore
set_option linter.unusedVariables false
set_option linter.unusedSimpArgs false
def impl_flag.f (a0 : Bool) : Option (Int) := if a0 = true then (some 1) else (some 0)
set_option maxHeartbeats 8000000 in
set_option maxRecDepth 100000 in
theorem impl_flag.calls (a0 : Bool) (r : Int) (w : World) (h : impl_flag.f a0 = some r) :
    Calls Try.prog 17 #[.bool a0] w fun e w' => e = .returned (.int .i64 r) ∧ Drawn0 w w' := by
  have H : (if a0 = true then (some 1) else (some 0)) = some r := h
  clear h
  by_cases c2 : a0 = true
  · subst c2
    have H1 : (some 1) = some r := by rw [if_pos rfl] at H; exact H
    clear H
    have H := H1
    clear H1
    obtain rfl := Option.some.inj H
    go_enter Try.func17, Try.ntmps17
    go_wp2
    go_ret
    exact ⟨by first | rfl | (simp; done) | (simp [*]; done), by repeat (first | exact Drawn0.refl _ | apply Drawn0.step)⟩
  · replace c2 := Bool.eq_false_iff.mpr c2
    subst c2
    have H1 : (some 0) = some r := by rw [if_neg (show ¬ (false = true) by decide)] at H; exact H
    clear H
    have H := H1
    clear H1
    obtain rfl := Option.some.inj H
    go_enter Try.func17, Try.ntmps17
    go_wp2
    go_ret
    exact ⟨by first | rfl | (simp; done) | (simp [*]; done), by repeat (first | exact Drawn0.refl _ | apply Drawn0.step)⟩
end Go.Proofs.Ytmljihfaapoakaa.PFnMessages
end
