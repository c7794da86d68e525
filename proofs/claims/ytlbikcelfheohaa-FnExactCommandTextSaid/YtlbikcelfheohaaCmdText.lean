import Derived.Test.YtlbikcelfheohaaBytes
import Derived.Test.YtlbikcelfheohaaPFnExactCommandTextx6
import Derived.Test.YtlbikcelfheohaaCmdOk
import Derived.Deep.RegionHeld3
namespace Go.Proofs.Ytlbikcelfheohaa
open Go.RowKit Go.Proofs.YtlbikcelfheohaaW.PrintWords

/-- A number in one byte. -/
def byteS (n : Int) : ByteArray := strOfNums [n % 256]
/-- The text of a command. -/
def cmdS (op tok seq topic dev edge ep up : Int) (tx : ByteArray) : ByteArray :=
  byteS op ++ varS tok ++ varS seq ++ strOfNums [topic % 256, dev % 256, edge % 256] ++ varS ep ++ varS up ++ shortS tx

theorem cmdOk_range {op tok seq topic dev edge ep up : Int} {tx : ByteArray} (h : cmdOk op tok seq topic dev edge ep up tx = true) :
    (0 ≤ tok ∧ tok ≤ 1000000) ∧ (0 ≤ seq ∧ seq ≤ 1000000) ∧ (0 ≤ ep ∧ ep ≤ 1000000) ∧ (0 ≤ up ∧ up ≤ 1000000) ∧ tx.size ≤ 12 := by
  have hz : tx.toList = [] → tx.size = 0 := by
    intro h
    have h2 : tx.toList.length = 0 := by rw [h]; rfl
    rw [ByteArray.toList_eq] at h2
    simpa using h2
  simp only [cmdOk, Bool.and_eq_true, inB_iff] at h
  obtain ⟨⟨h1, h2⟩, h3⟩ := h
  refine ⟨h1, h2, ?_⟩
  by_cases c1 : op = 1
  · simp [c1] at h3; obtain ⟨h3, h4⟩ := h3; have := hz h4; omega
  rw [if_neg c1] at h3
  by_cases c2 : op = 2 ∨ op = 3
  · rw [if_pos c2] at h3; simp [inB] at h3; obtain ⟨h3, h4⟩ := h3; have := hz h4; omega
  rw [if_neg c2] at h3
  by_cases c4 : op = 4
  · rw [if_pos c4] at h3; simp [inB] at h3; omega
  rw [if_neg c4] at h3
  by_cases c5 : op = 5
  · rw [if_pos c5] at h3; simp [inB] at h3; obtain ⟨h3, h4⟩ := h3; have := hz h4; omega
  rw [if_neg c5] at h3
  by_cases c6 : op = 6
  · rw [if_pos c6] at h3; simp [inB] at h3; obtain ⟨h3, h4⟩ := h3; have := hz h4; omega
  rw [if_neg c6] at h3
  by_cases c7 : op = 7
  · rw [if_pos c7] at h3; simp at h3; obtain ⟨h3, h4⟩ := h3; have := hz h4; omega
  rw [if_neg c7] at h3
  cases h3

set_option maxHeartbeats 400000 in
set_option maxRecDepth 100000 in
theorem spec_l10Byte (n : Int) (w : World) :
    Calls Try.prog 36 #[.int .i64 n] w fun e w' => e = .returned (.string (byteS n)) ∧ Below w.heap.size w w' := by
  refine PFnExactCommandText.spec_l10Byte.calls n _ w ?_
  rfl

theorem byteS_size (n : Int) : (byteS n).size ≤ 1 := by simp [byteS, strOfNums_size]
theorem three_bytes (a b c : Int) (x : ByteArray) : x ++ byteS a ++ byteS b ++ byteS c = x ++ strOfNums [a % 256, b % 256, c % 256] := by
  rw [ByteArray.append_assoc, ByteArray.append_assoc]
  unfold byteS
  rw [← strOfNums_append, ← strOfNums_append]
  rfl

attribute [local go_sem] cell_grow ByteArray.size_append

set_option maxHeartbeats 2000000 in
set_option maxRecDepth 100000 in
theorem spec_CommandText (op tok seq topic dev edge ep up : Int) (tx : ByteArray) (w : World) :
    Calls Try.prog 13 #[.agg #[.int .i64 op, .int .i64 tok, .int .i64 seq, .int .i64 topic, .int .i64 dev, .int .i64 edge, .int .i64 ep, .int .i64 up, .string tx]] w fun e w' =>
      e = .returned (.tuple #[.string (if cmdOk op tok seq topic dev edge ep up tx then cmdS op tok seq topic dev edge ep up tx else ⟨#[]⟩), .bool (cmdOk op tok seq topic dev edge ep up tx)]) ∧ Below w.heap.size w w' := by
  cases hk : cmdOk op tok seq topic dev edge ep up tx with
  | false =>
    go_enter Try.func13, Try.ntmps13
    go_wp2_with (first | (go_at_call 10; refine (spec_CommandOk _ _ _ _ _ _ _ _ _ _).mono ?_; rintro e w' ⟨rfl, hb⟩; obtain ⟨hc, hf⟩ := bcell hb))
    go_ret2
    exact ⟨rfl, (by repeat (first | exact Below.refl _ _ | apply bl_alloc | apply bl_drewN | apply bl_drew | refine bl_set ?_ (by simp) | refine bl_then ?_ (by assumption)))⟩
  | true =>
    have hr := cmdOk_range hk
    have s0 := byteS_size op
    have s1 := varS_size tok (by omega) (by omega)
    have s2 := varS_size seq (by omega) (by omega)
    have s3 := byteS_size topic
    have s4 := byteS_size dev
    have s5 := byteS_size edge
    have s6 := varS_size ep (by omega) (by omega)
    have s7 := varS_size up (by omega) (by omega)
    have s8 := varS_size tx.size (by omega) (by omega)
    have s9 : (shortS tx).size ≤ 17 := by unfold shortS; rw [ByteArray.size_append]; omega
    have he : cmdS op tok seq topic dev edge ep up tx = byteS op ++ varS tok ++ varS seq ++ byteS topic ++ byteS dev ++ byteS edge ++ varS ep ++ varS up ++ shortS tx := by
      unfold cmdS; rw [three_bytes]
    simp only [if_true]
    rw [he]
    clear he
    go_enter Try.func13, Try.ntmps13
    go_wp2_with (first | (go_at_call 10; refine (spec_CommandOk _ _ _ _ _ _ _ _ _ _).mono ?_; rintro e w' ⟨rfl, hb⟩; obtain ⟨hc, hf⟩ := bcell hb; have hz : w.heap.size < w'.heap.size := (by have := hb.size; simp at this ⊢; omega)))
    refine wp_region_quiet_below (by kernel_rfl) (by kernel_rfl) ?_
    repeat (first | quiet_step (first | (go_at_call 36; exact Calls.regrown_of (spec_l10Byte _ _)) | (go_at_call 37; exact Calls.regrown_of (spec_l01Var _ _ (by omega) (by omega))) | (go_at_call 38; exact Calls.regrown_of (spec_l05Short _ _ (by omega)))) | go_big_quiet_step (fail))
    refine wpQuiet_nil ?_
    intro W2 hw'
    have hbq := bl_regrown hw'
    clear hw'
    obtain ⟨hcq, hfq⟩ := bcell hbq
    go_wp2
    go_ret2
    exact ⟨rfl, (by repeat (first | exact Below.refl _ _ | apply bl_alloc | apply bl_drewN | apply bl_drew | refine bl_set ?_ (by simp) | refine bl_then ?_ (by assumption)))⟩

end Go.Proofs.Ytlbikcelfheohaa
