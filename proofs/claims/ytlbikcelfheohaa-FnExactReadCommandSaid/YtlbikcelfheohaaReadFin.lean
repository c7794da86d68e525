import Derived.Test.YtlbikcelfheohaaReadLaw
namespace Go.Proofs.Ytlbikcelfheohaa
open Go.RowKit Go.Proofs.YtlbikcelfheohaaW.PrintWords
set_option linter.unusedSimpArgs false
set_option linter.unusedVariables false

set_option maxHeartbeats 1000000 in
theorem laws_eqCommand (op tok seq topic dev edge ep up : Int) (tx : ByteArray) (w : World) :
    Calls Try.prog 17 #[.agg #[.int .i64 op, .int .i64 tok, .int .i64 seq, .int .i64 topic, .int .i64 dev, .int .i64 edge, .int .i64 ep, .int .i64 up, .string tx], .agg #[.int .i64 op, .int .i64 tok, .int .i64 seq, .int .i64 topic, .int .i64 dev, .int .i64 edge, .int .i64 ep, .int .i64 up, .string tx]] w fun e w' =>
      e = .returned (.bool true) ∧ Below w.heap.size w w' := by
  go_enter Try.func17, Try.ntmps17
  go_wp2
  all_goals
    first
    | (exfalso; simp_all; done)
    | (go_ret; exact ⟨rfl, by repeat (first | exact Below.refl _ _ | apply bl_alloc | apply bl_drewN | apply bl_drew | refine bl_set ?_ (by simp) | refine bl_then ?_ (by assumption))⟩)

set_option maxHeartbeats 2000000 in
theorem FnExactReadCommand_walk (v : Value) (W : World) (h : ArgOf Try.prog W 9 v) :
    Calls Try.prog 5 #[v] W fun e w' => e = .returned (.bool true) ∧ Below W.heap.size W w' := by
  obtain ⟨s, rfl, hs⟩ := arg_string Try.underlying9 h
  clear h
  unfold maxLen at hs
  rcases e1 : rdByte s 0 false with ⟨op, p1, q1⟩
  rcases e2 : rdNum s p1 q1 with ⟨tok, p2, q2⟩
  rcases e3 : rdNum s p2 q2 with ⟨seq, p3, q3⟩
  rcases e4 : rdByte s p3 q3 with ⟨topic, p4, q4⟩
  rcases e5 : rdByte s p4 q4 with ⟨dev, p5, q5⟩
  rcases e6 : rdByte s p5 q5 with ⟨edge, p6, q6⟩
  rcases e7 : rdNum s p6 q6 with ⟨ep, p7, q7⟩
  rcases e8 : rdNum s p7 q7 with ⟨up, p8, q8⟩
  rcases e9 : rdText s p8 q8 with ⟨tx, p9, q9⟩
  rcases f9 : rdShort s p8 q8 with ⟨ty, r9, u9⟩
  obtain ⟨hsame, htx⟩ := readcmd_same e1 e2 e3 e4 e5 e6 e7 e8 e9 f9
  have hS := fun (w : World) hz => spec_ReadCommand s w hz op tok seq topic dev edge ep up ty p1 p2 p3 p4 p5 p6 p7 p8 r9 q1 q2 q3 q4 q5 q6 q7 q8 u9 (Lib.hid e1) (Lib.hid e2) (Lib.hid e3) (Lib.hid e4) (Lib.hid e5) (Lib.hid e6) (Lib.hid e7) (Lib.hid e8) (Lib.hid f9)
  have hI := fun (w : World) hz => impl_ReadCommand s w hz op tok seq topic dev edge ep up tx p1 p2 p3 p4 p5 p6 p7 p8 p9 q1 q2 q3 q4 q5 q6 q7 q8 q9 (Lib.hid e1) (Lib.hid e2) (Lib.hid e3) (Lib.hid e4) (Lib.hid e5) (Lib.hid e6) (Lib.hid e7) (Lib.hid e8) (Lib.hid e9)
  rw [hsame] at hS
  generalize hbb : (!q9 && p9 == (s.size : Int) && cmdOk op tok seq topic dev edge ep up tx) = bb at hS hI htx
  clear e1 e2 e3 e4 e5 e6 e7 e8 e9 f9 hsame hbb
  rcases bb with _ | _
  · simp only [pickC, cond_false] at hS hI
    clear htx
    go_enter Try.func5, Try.ntmps5
    go_wp2_with (first
      | (go_at_call 15; refine (hS _ (by omega)).mono ?_; rintro e w1 ⟨rfl, hb1⟩; obtain ⟨hc1, hf1⟩ := bcell hb1; have hz1 : W.heap.size ≤ w1.heap.size := (by have := hb1.size; simp at this ⊢; omega))
      | (go_at_call 16; refine (hI _ (by omega)).mono ?_; rintro e w2 ⟨rfl, hb2⟩; obtain ⟨hc2, hf2⟩ := bcell hb2; have hy2 : w1.heap.size < w2.heap.size := (by have := hb2.size; simp at this ⊢; omega); have hz2 : W.heap.size < w2.heap.size := (by omega))
      | (go_at_call 17; refine (laws_eqCommand _ _ _ _ _ _ _ _ _ _).mono ?_; rintro e w3 ⟨rfl, hb3⟩; obtain ⟨hc3, hf3⟩ := bcell hb3; have hz3 : W.heap.size < w3.heap.size := (by have := hb3.size; simp at this ⊢; omega)))
    all_goals
      go_ret
      exact ⟨rfl, by repeat (first | exact Below.refl _ _ | apply bl_alloc | apply bl_drewN | apply bl_drew | refine bl_set ?_ (by simp) | refine bl_then ?_ (by assumption))⟩
  · obtain rfl := htx rfl
    simp only [pickC, cond_true] at hS hI
    clear htx
    go_enter Try.func5, Try.ntmps5
    go_wp2_with (first
      | (go_at_call 15; refine (hS _ (by omega)).mono ?_; rintro e w1 ⟨rfl, hb1⟩; obtain ⟨hc1, hf1⟩ := bcell hb1; have hz1 : W.heap.size ≤ w1.heap.size := (by have := hb1.size; simp at this ⊢; omega))
      | (go_at_call 16; refine (hI _ (by omega)).mono ?_; rintro e w2 ⟨rfl, hb2⟩; obtain ⟨hc2, hf2⟩ := bcell hb2; have hy2 : w1.heap.size < w2.heap.size := (by have := hb2.size; simp at this ⊢; omega); have hz2 : W.heap.size < w2.heap.size := (by omega))
      | (go_at_call 17; refine (laws_eqCommand _ _ _ _ _ _ _ _ _ _).mono ?_; rintro e w3 ⟨rfl, hb3⟩; obtain ⟨hc3, hf3⟩ := bcell hb3; have hz3 : W.heap.size < w3.heap.size := (by have := hb3.size; simp at this ⊢; omega)))
    all_goals
      go_ret
      exact ⟨rfl, by repeat (first | exact Below.refl _ _ | apply bl_alloc | apply bl_drewN | apply bl_drew | refine bl_set ?_ (by simp) | refine bl_then ?_ (by assumption))⟩
end Go.Proofs.Ytlbikcelfheohaa
