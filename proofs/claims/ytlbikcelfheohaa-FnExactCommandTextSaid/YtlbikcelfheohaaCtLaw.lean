import Derived.Test.YtlbikcelfheohaaCmdTextI
import Derived.Test.YtlbikcelfheohaaCmdLaw
namespace Go.Proofs.Ytlbikcelfheohaa
open Go.RowKit Go.Proofs.YtlbikcelfheohaaW.PrintWords
set_option linter.unusedSimpArgs false
set_option linter.unusedVariables false

set_option maxHeartbeats 1000000 in
theorem laws_eqCommandT (op tok seq topic dev edge ep up : Int) (tx : ByteArray) (w : World) :
    Calls Try.prog 17 #[.agg #[.int .i64 op, .int .i64 tok, .int .i64 seq, .int .i64 topic, .int .i64 dev, .int .i64 edge, .int .i64 ep, .int .i64 up, .string tx], .agg #[.int .i64 op, .int .i64 tok, .int .i64 seq, .int .i64 topic, .int .i64 dev, .int .i64 edge, .int .i64 ep, .int .i64 up, .string tx]] w fun e w' =>
      e = .returned (.bool true) ∧ Below w.heap.size w w' := by
  go_enter Try.func17, Try.ntmps17
  go_wp2
  all_goals
    first
    | (exfalso; simp_all; done)
    | (go_ret; exact ⟨rfl, by repeat (first | exact Below.refl _ _ | apply bl_alloc | apply bl_drewN | apply bl_drew | refine bl_set ?_ (by simp) | refine bl_then ?_ (by assumption))⟩)


set_option maxHeartbeats 4000000 in
theorem FnExactCommandText_walk (v : Value) (W : World) (h : ArgOf Try.prog W 23 v) :
    Calls Try.prog 4 #[v] W fun e w' => e = .returned (.bool true) ∧ Below W.heap.size W w' := by
  obtain ⟨op, tok, seq, topic, dev, edge, ep, up, tx, rfl, hs⟩ := arg_cmd h
  clear h
  have hS := fun w => spec_CommandText op tok seq topic dev edge ep up tx w
  have hI := fun w => impl_CommandText op tok seq topic dev edge ep up tx w
  generalize (if cmdOk op tok seq topic dev edge ep up tx = true then cmdS op tok seq topic dev edge ep up tx else (⟨#[]⟩ : ByteArray)) = st at hS hI
  generalize cmdOk op tok seq topic dev edge ep up tx = ck at hS hI
  go_enter Try.func4, Try.ntmps4
  go_wp2_with (first
    | (go_at_call 9; refine (laws_szCommand _ _ _ _ _ _ _ _ _ _ _ hs (by omega) (by omega)).mono ?_; rintro e w' ⟨rfl, hb⟩; obtain ⟨hc, hf⟩ := bcell hb; have hz : W.heap.size < w'.heap.size := (by have := hb.size; simp at this ⊢; omega))
    | (go_at_call 11; refine (laws_toCommand _ _ _ _ _ _ _ _ _ _).mono ?_; rintro e w' ⟨rfl, hb⟩; obtain ⟨hc, hf⟩ := bcell hb; have hz : W.heap.size < w'.heap.size := (by have := hb.size; simp at this ⊢; omega))
    | (go_at_call 13; refine (hS _).mono ?_; rintro e w' ⟨rfl, hb⟩; obtain ⟨hc, hf⟩ := bcell hb; have hz : W.heap.size < w'.heap.size := (by have := hb.size; simp at this ⊢; omega))
    | (go_at_call 14; refine (hI _).mono ?_; rintro e w' ⟨rfl, hb⟩; obtain ⟨hc, hf⟩ := bcell hb; have hz : W.heap.size < w'.heap.size := (by have := hb.size; simp at this ⊢; omega))
    | (go_at_call 17; refine (laws_eqCommandT _ _ _ _ _ _ _ _ _ _).mono ?_; rintro e w' ⟨rfl, hb⟩; obtain ⟨hc, hf⟩ := bcell hb; have hz : W.heap.size < w'.heap.size := (by have := hb.size; simp at this ⊢; omega)))
  all_goals
    go_ret
    exact ⟨rfl, (by repeat (first | exact Below.refl _ _ | apply bl_alloc | apply bl_drewN | apply bl_drew | refine bl_set ?_ (by simp) | refine bl_then ?_ (by assumption)))⟩
end Go.Proofs.Ytlbikcelfheohaa
