import Derived.Test.YtlbikcelfheohaaBase
import Derived.Test.YtlbikcelfheohaaWEqStruct
namespace Go.Proofs.Ytlbikcelfheohaa
open Go.RowKit Go.Proofs.YtlbikcelfheohaaW.PrintWords

theorem eqf_cmd (d : Nat) (w : World) (x0 y0 x1 y1 x2 y2 x3 y3 x4 y4 x5 y5 x6 y6 x7 y7 : Int) (x8 y8 : ByteArray) :
    (Op.equalIn (d + 2) 26 (.agg #[.int .i64 x0, .int .i64 x1, .int .i64 x2, .int .i64 x3, .int .i64 x4, .int .i64 x5, .int .i64 x6, .int .i64 x7, .string x8]) (.agg #[.int .i64 y0, .int .i64 y1, .int .i64 y2, .int .i64 y3, .int .i64 y4, .int .i64 y5, .int .i64 y6, .int .i64 y7, .string y8])).run Try.prog w = .ok (x0 == y0 && (x1 == y1 && (x2 == y2 && (x3 == y3 && (x4 == y4 && (x5 == y5 && (x6 == y6 && (x7 == y7 && (x8.toList == y8.toList))))))))) w := by
  refine eqA_of Try.underlying26 (by kernel_rfl) ?_
  iterate 8 (refine eqf_cons (by rfl) (by go_simp; rfl) (by go_simp; rfl) (by go_simp) ?_)
  exact eqf_last (by rfl) (by go_simp; rfl) (by go_simp; rfl) (by go_simp)
attribute [local go_sem high] eqf_cmd

/-- What a right command is. -/
def cmdOk (op tok seq topic dev edge ep up : Int) (tx : ByteArray) : Bool :=
  inB tok 0 1000000 && inB seq 0 1000000 &&
  (if op = 1 then tok == 0 && seq == 0 && topic == 0 && dev == 0 && edge == 0 && ep == 0 && up == 0 && tx.toList == []
   else if op = 2 ∨ op = 3 then inB topic 1 4 && inB dev 1 4 && edge == 0 && ep == 0 && up == 0 && tx.toList == []
   else if op = 4 then inB topic 1 4 && decide ((tx.size : Int) ≤ 12) && dev == 0 && edge == 0 && ep == 0 && up == 0
   else if op = 5 then inB dev 1 4 && inB edge 1 3 && topic == 0 && ep == 0 && up == 0 && tx.toList == []
   else if op = 6 then inB dev 1 4 && inB ep 0 1000000 && inB up 0 1000000 && topic == 0 && edge == 0 && tx.toList == []
   else if op = 7 then topic == 0 && dev == 0 && edge == 0 && ep == 0 && up == 0 && tx.toList == []
   else false)

theorem cmdOk_out {op tok seq topic dev edge ep up : Int} {tx : ByteArray} (h : ¬ inB op 1 7 = true) : cmdOk op tok seq topic dev edge ep up tx = false := by
  rw [inB_iff] at h
  unfold cmdOk
  rw [if_neg (by omega), if_neg (by omega), if_neg (by omega), if_neg (by omega), if_neg (by omega), if_neg (by omega), Bool.and_false]
theorem op_seven {op : Int} (h : inB op 1 7 = true) (h1 : ¬ op = 1) (h2 : ¬ op = 2) (h3 : ¬ op = 3) (h4 : ¬ op = 4) (h5 : ¬ op = 5) (h6 : ¬ op = 6) : op = 7 := by
  rw [inB_iff] at h
  omega

set_option maxHeartbeats 400000 in
theorem impl_listenOk (t d : Int) (w : World) :
    Calls Try.prog 35 #[.agg #[.int .i64 t, .int .i64 d]] w fun e w' => e = .returned (.bool (inB t 1 4 && inB d 1 4)) ∧ Below w.heap.size w w' := by
  go_enter Try.func35, Try.ntmps35
  go_wp2_with (first | (go_at_call 34; refine (impl_in _ _ _ _).mono ?_; rintro e w' ⟨rfl, rfl⟩))
  all_goals (go_ret; exact ⟨by simp [*], bl_alloc (Below.refl _ _) _⟩)

set_option maxHeartbeats 4000000 in
set_option maxRecDepth 100000 in
theorem impl_CommandOk (op tok seq topic dev edge ep up : Int) (tx : ByteArray) (w : World) :
    Calls Try.prog 12 #[.agg #[.int .i64 op, .int .i64 tok, .int .i64 seq, .int .i64 topic, .int .i64 dev, .int .i64 edge, .int .i64 ep, .int .i64 up, .string tx]] w fun e w' =>
      e = .returned (.bool (cmdOk op tok seq topic dev edge ep up tx)) ∧ Below w.heap.size w w' := by
  go_enter Try.func12, Try.ntmps12
  go_wp2_with (first | (go_at_call 34; refine (impl_in _ _ _ _).mono ?_; rintro e w' ⟨rfl, rfl⟩) | (go_at_call 35; refine (impl_listenOk _ _ _).mono ?_; rintro e w' ⟨rfl, hb⟩; obtain ⟨hc, hf⟩ := bcell hb))
  all_goals (try (go_region))
  all_goals (try go_wp2_with (first | (go_at_call 34; refine (impl_in _ _ _ _).mono ?_; rintro e w' ⟨rfl, rfl⟩) | (go_at_call 35; refine (impl_listenOk _ _ _).mono ?_; rintro e w' ⟨rfl, hb⟩; obtain ⟨hc, hf⟩ := bcell hb)))
  all_goals
    go_ret
    refine ⟨?_, by repeat (first | exact Below.refl _ _ | apply bl_alloc | apply bl_drewN | apply bl_drew | refine bl_set ?_ (by simp) | refine bl_then ?_ (by assumption))⟩
    (try clear hc hf hb)
    simp_all [cmdOk, Bool.and_assoc]
    try omega

set_option maxHeartbeats 4000000 in
set_option maxRecDepth 100000 in
theorem spec_CommandOk (op tok seq topic dev edge ep up : Int) (tx : ByteArray) (w : World) :
    Calls Try.prog 10 #[.agg #[.int .i64 op, .int .i64 tok, .int .i64 seq, .int .i64 topic, .int .i64 dev, .int .i64 edge, .int .i64 ep, .int .i64 up, .string tx]] w fun e w' =>
      e = .returned (.bool (cmdOk op tok seq topic dev edge ep up tx)) ∧ Below w.heap.size w w' := by
  by_cases h17 : inB op 1 7 = true
  · obtain ⟨hlo, hhi⟩ := inB_iff.1 h17
    go_enter Try.func10, Try.ntmps10
    go_wp2_with (first | (go_at_call 33; refine (spec_l01In _ _ _ _).mono ?_; rintro e w' ⟨rfl, rfl⟩))
    all_goals (try (go_region))
    all_goals (try go_wp2_with (first | (go_at_call 33; refine (spec_l01In _ _ _ _).mono ?_; rintro e w' ⟨rfl, rfl⟩)))
    all_goals
      go_ret
      refine ⟨?_, by repeat (first | exact Below.refl _ _ | apply bl_alloc | apply bl_drewN | apply bl_drew | refine bl_set ?_ (by simp) | refine bl_then ?_ (by assumption))⟩
      first
        | (simp_all [cmdOk, Bool.and_assoc]; done)
        | (simp_all [cmdOk, Bool.and_assoc]; omega)
        | (simp_all [cmdOk, Bool.and_assoc]; intros; omega)
  · have hz : cmdOk op tok seq topic dev edge ep up tx = false := cmdOk_out h17
    rw [hz]
    clear hz
    have h17 : inB op 1 7 = false := by simpa using h17
    go_enter Try.func10, Try.ntmps10
    go_wp2_with (first | (go_at_call 33; refine (spec_l01In _ _ _ _).mono ?_; rintro e w' ⟨rfl, rfl⟩))
    all_goals
      go_ret
      refine ⟨?_, by repeat (first | exact Below.refl _ _ | apply bl_alloc | apply bl_drewN | apply bl_drew | refine bl_set ?_ (by simp) | refine bl_then ?_ (by assumption))⟩
      first | rfl | (simp_all; done)
end Go.Proofs.Ytlbikcelfheohaa
