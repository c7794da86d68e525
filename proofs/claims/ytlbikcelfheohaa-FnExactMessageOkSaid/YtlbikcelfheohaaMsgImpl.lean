import Derived.Test.YtlbikcelfheohaaMsgOk
namespace Go.Proofs.Ytlbikcelfheohaa
open Go.RowKit Go.Proofs.YtlbikcelfheohaaW.PrintWords PFnExactMessageOk
set_option linter.unusedSimpArgs false
set_option linter.unusedVariables false

theorem impl_inB (a b c : Int) (w : World) : Calls Try.prog 34 #[.int .i64 a, .int .i64 b, .int .i64 c] w fun e w' => e = .returned (.bool (inM a b c)) ∧ Below w.heap.size w w' := by
  refine (PFnExactMessageOk.impl_in.calls a b c _ w (in_f a b c)).mono ?_
  rintro e w' h
  first | exact h | (obtain ⟨rfl, rfl⟩ := h; exact ⟨rfl, Below.refl _ _⟩) | (obtain ⟨rfl, n, rfl⟩ := h; exact ⟨rfl, bl_drewN (Below.refl _ _) n⟩)
theorem impl_confB (A : Option Addr) (c : Nat) (xs : List Int) (w : World) (hr : Kd.C (Kd.int .i64) w A xs.length xs) (hc : xs.length ≤ c) (hl : xs.length ≤ 1048576) :
    Calls Try.prog 55 #[.slice A xs.length c] w fun e w' => e = .returned (.bool (confOk xs)) ∧ Below w.heap.size w w' :=
  (PFnExactMessageOk.impl_ConfOk.calls (xs.length + 1) A c xs _ w hr hc (iconf_f xs _ (by omega) (by omega))).mono (by rintro e w' ⟨rfl, nd, rfl⟩; exact ⟨rfl, bl_drewN (Below.refl _ _) nd⟩)
theorem impl_sentB (es : List S93) (hS : Short es) (a0 a1 a2 a3 a4 a5 a6 : Int) (a7 : Bool) (cf : List Int) (d : ByteArray) (ls : Bool) (hl : es.length ≤ 1048576) (A8 : Option Addr) (c8 : Nat) (A9 : Option Addr) (c9 : Nat) (w : World)
    (hr8 : Kd.C k93 w A8 es.length es) (hc8 : es.length ≤ c8) (hr9 : Kd.C (Kd.int .i64) w A9 cf.length cf) (hc9 : cf.length ≤ c9) :
    Calls Try.prog 56 #[.agg #[.int .i64 a0, .int .i64 a1, .int .i64 a2, .int .i64 a3, .int .i64 a4, .int .i64 a5, .int .i64 a6, .bool a7, .slice A8 es.length c8, .slice A9 cf.length c9, .string d, .bool ls]] w
      fun e w' => e = .returned (.bool (tailB es a0 a3 a5)) ∧ Below w.heap.size w w' :=
  PFnExactMessageOk.impl_sentOk.calls 3145732 a0 a1 a2 a3 a4 a5 a6 a7 A8 c8 es A9 c9 cf d ls _ w hr8 hc8 hr9 hc9 (isent_l0 es hS a0 a1 a2 a3 a4 a5 a6 a7 cf d ls (by omega) es.length 3145732 0 a5 (by omega) (by omega))

def implB (a0 a1 a2 a3 a4 a5 a6 : Int) (es : List S93) (cf : List Int) (d : ByteArray) (ls : Bool) : Bool :=
  inM a0 1 6 && inM a1 1 4 && inM a2 1 4 && !(a1 == a2) && headB a3 a4 a5 a6 && ((a0 == 5) == decide (0 < cf.length)) && (!(a0 == 5) || confOk cf) && decide (d.size ≤ 60) && ((a0 == 5) || (d.toList == [] && !ls)) && tailB es a0 a3 a5
theorem implB_eq (a0 a1 a2 a3 a4 a5 a6 : Int) (es : List S93) (cf : List Int) (d : ByteArray) (ls : Bool) : implB a0 a1 a2 a3 a4 a5 a6 es cf d ls = msgB a0 a1 a2 a3 a4 a5 a6 es cf d ls := by
  unfold implB msgB lastB
  rw [show decide ((d.size : Int) ≤ 60) = decide (d.size ≤ 60) from decide_eq_decide.2 (by omega)]
  by_cases h5 : a0 = 5
  · subst h5
    cases hc : confOk cf with
    | false => simp
    | true =>
      have := (confOk_short hc).1
      have h0 : 0 < cf.length := by omega
      simp only [h0, decide_true, beq_self_eq_true, Bool.and_true, Bool.true_or, Bool.not_true, Bool.or_true, Bool.true_and, if_true]
      cases tailB es 5 a3 a5 <;> simp
  · have h5' : (a0 == 5) = false := by simpa using h5
    rw [if_neg h5, h5']
    by_cases hc : cf.length = 0
    · have h0 : ¬ 0 < cf.length := by omega
      by_cases hd : d.toList = []
      · have hz : d.size = 0 := by
          rw [ByteArray.toList_eq] at hd
          have : d.data.size = 0 := by rw [← Array.length_toList, hd]; rfl
          exact this
        cases ls <;> simp [hc, hd, hz]
      · simp [hd]
    · have h0 : 0 < cf.length := by omega
      simp [hc, h0]

set_option maxHeartbeats 4000000 in
set_option maxRecDepth 100000 in
theorem impl_MessageOk (es : List S93) (hS : Short es) (a0 a1 a2 a3 a4 a5 a6 : Int) (a7 : Bool) (cf : List Int) (d : ByteArray) (ls : Bool) (hl : es.length ≤ 1048576) (hcf : cf.length ≤ 1048576) (A8 : Option Addr) (c8 : Nat) (A9 : Option Addr) (c9 : Nat) (w : World)
    (hr8 : Kd.C k93 w A8 es.length es) (hc8 : es.length ≤ c8) (hr9 : Kd.C (Kd.int .i64) w A9 cf.length cf) (hc9 : cf.length ≤ c9) :
    Calls Try.prog 21 #[.agg #[.int .i64 a0, .int .i64 a1, .int .i64 a2, .int .i64 a3, .int .i64 a4, .int .i64 a5, .int .i64 a6, .bool a7, .slice A8 es.length c8, .slice A9 cf.length c9, .string d, .bool ls]] w
      fun e w' => e = .returned (.bool (implB a0 a1 a2 a3 a4 a5 a6 es cf d ls)) ∧ Below w.heap.size w w' := by
  have HR8 := Lib.hid hr8
  have HR9 := Lib.hid hr9
  clear hr8 hr9
  go_enter Try.func21, Try.ntmps21
  go_wp2_with (first
    | (go_at_call 34; refine (impl_inB _ _ _ _).mono ?_; rintro e w' ⟨rfl, hb⟩; obtain ⟨hc, hf⟩ := bcell hb; have hz : w.heap.size < w'.heap.size := (by have := hb.size; simp at this ⊢; omega))
    | (go_at_call 55; refine (impl_confB _ _ _ _ (Kd.C_below HR9.out (by repeat (first | exact Below.refl _ _ | apply bl_alloc | apply bl_drewN | apply bl_drew | refine bl_set ?_ (by simp) | refine bl_then ?_ (by assumption)))) hc9 hcf).mono ?_; rintro e w' ⟨rfl, hb⟩; obtain ⟨hc, hf⟩ := bcell hb; have hz : w.heap.size < w'.heap.size := (by have := hb.size; simp at this ⊢; omega))
    | (go_at_call 56; refine (impl_sentB es hS _ _ _ _ _ _ _ _ _ _ _ hl _ _ _ _ _ (Kd.C_below HR8.out (by repeat (first | exact Below.refl _ _ | apply bl_alloc | apply bl_drewN | apply bl_drew | refine bl_set ?_ (by simp) | refine bl_then ?_ (by assumption)))) hc8 (Kd.C_below HR9.out (by repeat (first | exact Below.refl _ _ | apply bl_alloc | apply bl_drewN | apply bl_drew | refine bl_set ?_ (by simp) | refine bl_then ?_ (by assumption)))) hc9).mono ?_; rintro e w' ⟨rfl, hb⟩; obtain ⟨hc, hf⟩ := bcell hb; have hz : w.heap.size < w'.heap.size := (by have := hb.size; simp at this ⊢; omega)))
  all_goals
    go_ret
    refine ⟨?_, (by repeat (first | exact Below.refl _ _ | apply bl_alloc | apply bl_drewN | apply bl_drew | refine bl_set ?_ (by simp) | refine bl_then ?_ (by assumption)))⟩
    first
      | (simp [implB, headB, *]; done)
      | (simp [implB, headB, *]; (try intros); first | omega | (simp_all; done) | (simp_all; omega) | (refine ⟨?_, ?_⟩ <;> first | omega | (simp_all; done)) | (intros; refine ⟨?_, ?_⟩ <;> first | omega | (simp_all; done) | (refine ⟨?_, ?_⟩ <;> simp_all)))
end Go.Proofs.Ytlbikcelfheohaa
