import Derived.Test.YtlbikcelfheohaaCmdOk
import Derived.Test.YtlbikcelfheohaaOpen
namespace Go.Proofs.Ytlbikcelfheohaa
open Go.RowKit Go.Proofs.YtlbikcelfheohaaW.PrintWords

/-- The nine fields of a command. -/
theorem opens_cmd (W : World) : Opens Try.prog W 23 (Kd.pair (Kd.int .i64) (Kd.pair (Kd.int .i64) (Kd.pair (Kd.int .i64) (Kd.pair (Kd.int .i64) (Kd.pair (Kd.int .i64) (Kd.pair (Kd.int .i64) (Kd.pair (Kd.int .i64) (Kd.pair (Kd.int .i64) Kd.string)))))))) (fun x => x.2.2.2.2.2.2.2.2.size ≤ maxLen) := by
  exact Opens.imp (opens_struct Try.underlying23 (by kernel_rfl)
    (opensL_cons rfl (opens_int Try.underlying3) (by kernel_rfl)
    (opensL_cons rfl (opens_int Try.underlying3) (by kernel_rfl)
    (opensL_cons rfl (opens_int Try.underlying3) (by kernel_rfl)
    (opensL_cons rfl (opens_int Try.underlying3) (by kernel_rfl)
    (opensL_cons rfl (opens_int Try.underlying3) (by kernel_rfl)
    (opensL_cons rfl (opens_int Try.underlying3) (by kernel_rfl)
    (opensL_cons rfl (opens_int Try.underlying3) (by kernel_rfl)
    (opensL_cons rfl (opens_int Try.underlying3) (by kernel_rfl)
    (opensL_last rfl (opens_string Try.underlying9) (by kernel_rfl))))))))))) (fun _ h => h.2.2.2.2.2.2.2.2)

theorem arg_cmd {W : World} {v : Value} (h : ArgOf Try.prog W 23 v) : ∃ (op tok seq topic dev edge ep up : Int) (tx : ByteArray),
    v = .agg #[.int .i64 op, .int .i64 tok, .int .i64 seq, .int .i64 topic, .int .i64 dev, .int .i64 edge, .int .i64 ep, .int .i64 up, .string tx] ∧ tx.size ≤ maxLen := by
  obtain ⟨⟨op, tok, seq, topic, dev, edge, ep, up, tx⟩, cs, rfl, hK, hG⟩ := arg_struct Try.underlying23 (opens_cmd W) h
  refine ⟨op, tok, seq, topic, dev, edge, ep, up, tx, ?_, hG⟩
  obtain ⟨_, _, e0, rfl, _, _, rfl, rfl, _, _, rfl, rfl, _, _, rfl, rfl, _, _, rfl, rfl, _, _, rfl, rfl, _, _, rfl, rfl, _, _, rfl, rfl, rfl⟩ := hK
  cases cs
  simp_all

set_option maxHeartbeats 1000000 in
theorem laws_toCommand (op tok seq topic dev edge ep up : Int) (tx : ByteArray) (w : World) :
    Calls Try.prog 11 #[.agg #[.int .i64 op, .int .i64 tok, .int .i64 seq, .int .i64 topic, .int .i64 dev, .int .i64 edge, .int .i64 ep, .int .i64 up, .string tx]] w fun e w' =>
      e = .returned (.agg #[.int .i64 op, .int .i64 tok, .int .i64 seq, .int .i64 topic, .int .i64 dev, .int .i64 edge, .int .i64 ep, .int .i64 up, .string tx]) ∧ Below w.heap.size w w' := by
  go_enter Try.func11, Try.ntmps11
  go_wp2
  exact bodyPost_ret (v := .agg #[.int .i64 op, .int .i64 tok, .int .i64 seq, .int .i64 topic, .int .i64 dev, .int .i64 edge, .int .i64 ep, .int .i64 up, .string tx]) (by simp [results, Try.results11, go_sem]) rfl
    ⟨rfl, by repeat (first | exact Below.refl _ _ | apply bl_alloc | apply bl_drewN | apply bl_drew | refine bl_set ?_ (by simp) | refine bl_then ?_ (by assumption))⟩

set_option maxHeartbeats 1000000 in
theorem laws_szCommand (op tok seq topic dev edge ep up left : Int) (tx : ByteArray) (w : World) (hs : tx.size ≤ maxLen) (h0 : 0 ≤ left) (h1 : left ≤ 9223372036854775807) :
    Calls Try.prog 9 #[.agg #[.int .i64 op, .int .i64 tok, .int .i64 seq, .int .i64 topic, .int .i64 dev, .int .i64 edge, .int .i64 ep, .int .i64 up, .string tx], .int .i64 left] w fun e w' =>
      e = .returned (.int .i64 (if left - tx.size < 0 then -1 else left - tx.size)) ∧ Below w.heap.size w w' := by
  unfold maxLen at hs
  go_enter Try.func9, Try.ntmps9
  go_wp2
  all_goals
    go_ret
    refine ⟨?_, by repeat (first | exact Below.refl _ _ | apply bl_alloc | apply bl_drewN | apply bl_drew | refine bl_set ?_ (by simp) | refine bl_then ?_ (by assumption))⟩
    first | (rw [if_pos (by omega)]; done) | (rw [if_neg (by omega)]; done) | (simp_all; done)

set_option maxHeartbeats 2000000 in
theorem FnExactCommandOk_walk (v : Value) (W : World) (h : ArgOf Try.prog W 23 v) :
    Calls Try.prog 3 #[v] W fun e w' => e = .returned (.bool true) ∧ Below W.heap.size W w' := by
  obtain ⟨op, tok, seq, topic, dev, edge, ep, up, tx, rfl, hs⟩ := arg_cmd h
  clear h
  go_enter Try.func3, Try.ntmps3
  go_wp2_with (first
    | (go_at_call 9; refine (laws_szCommand _ _ _ _ _ _ _ _ _ _ _ hs (by omega) (by omega)).mono ?_; rintro e w' ⟨rfl, hb⟩; obtain ⟨hc, hf⟩ := bcell hb; have hz : W.heap.size < w'.heap.size := (by have := hb.size; simp at this ⊢; omega))
    | (go_at_call 11; refine (laws_toCommand _ _ _ _ _ _ _ _ _ _).mono ?_; rintro e w' ⟨rfl, hb⟩; obtain ⟨hc, hf⟩ := bcell hb; have hz : W.heap.size < w'.heap.size := (by have := hb.size; simp at this ⊢; omega))
    | (go_at_call 10; refine (spec_CommandOk _ _ _ _ _ _ _ _ _ _).mono ?_; rintro e w' ⟨rfl, hb⟩; obtain ⟨hc, hf⟩ := bcell hb; have hz : W.heap.size < w'.heap.size := (by have := hb.size; simp at this ⊢; omega))
    | (go_at_call 12; refine (impl_CommandOk _ _ _ _ _ _ _ _ _ _).mono ?_; rintro e w' ⟨rfl, hb⟩; obtain ⟨hc, hf⟩ := bcell hb; have hz : W.heap.size < w'.heap.size := (by have := hb.size; simp at this ⊢; omega)))
  all_goals
    go_ret
    exact ⟨rfl, by repeat (first | exact Below.refl _ _ | apply bl_alloc | apply bl_drewN | apply bl_drew | refine bl_set ?_ (by simp) | refine bl_then ?_ (by assumption))⟩
end Go.Proofs.Ytlbikcelfheohaa
