import Derived.Test.YtallakebnoighaaSSEA
import Derived.Test.YtallakebnoighaaSSED
import Derived.Test.YtallakebnoighaaSSEF
import Derived.Test.YtallakebnoighaaSSEG
import Derived.Test.YtallakebnoighaaSSEE

section
namespace Go.Proofs.Ytallakebnoighaa.PFnExactSettle
open Go.RowKit Go.Proofs.YtallakebnoighaaW.PrintWords Go.Proofs.YtallakebnoighaaW.PrintLast Go.Proofs.YtallakebnoighaaW.PrintMore
set_option linter.unusedVariables false
set_option linter.unusedSimpArgs false
def spec_LogLast.f (a0_0 : Int) (a0_1 : Int) (l0_2 : List (S87)) : Option (Int × Int) := if (l0_2.length : Int) = 0 then (some (a0_0, a0_1)) else (if 0 ≤ (wrap64 ((l0_2.length : Int) - 1)) then (if (wrap64 ((l0_2.length : Int) - 1)) < (l0_2.length : Int) then (some (wrap64 (a0_0 + (l0_2.length : Int)), (rd_T87 l0_2 (wrap64 ((l0_2.length : Int) - 1))).f0)) else (none)) else (none))
set_option maxHeartbeats 8000000 in
set_option maxRecDepth 100000 in
theorem spec_LogLast.calls (a0_0 : Int) (a0_1 : Int) (A0_2 : Option Addr) (c0_2 : Nat) (l0_2 : List (S87)) (r1 : Int) (r2 : Int) (w : World) (hr0_2 : Kd.C k87 w A0_2 l0_2.length l0_2) (hc0_2 : l0_2.length ≤ c0_2) (h : spec_LogLast.f a0_0 a0_1 l0_2 = some (r1, r2)) :
    Calls Try.prog 30 #[.agg #[.int .i64 a0_0, .int .i64 a0_1, .slice A0_2 l0_2.length c0_2]] w fun e w' => e = .returned (.tuple #[.int .i64 r1, .int .i64 r2]) ∧ Below w.heap.size w w' := by
  have hu33 := Try.underlying33
  have HR0_2 := Aside0.mk hr0_2
  have HC0_2 := Aside0.mk hc0_2
  clear hr0_2 hc0_2
  have HB := Aside0.mk (Below.refl w.heap.size w)
  have H : (if (l0_2.length : Int) = 0 then (some (a0_0, a0_1)) else (if 0 ≤ (wrap64 ((l0_2.length : Int) - 1)) then (if (wrap64 ((l0_2.length : Int) - 1)) < (l0_2.length : Int) then (some (wrap64 (a0_0 + (l0_2.length : Int)), (rd_T87 l0_2 (wrap64 ((l0_2.length : Int) - 1))).f0)) else (none)) else (none))) = some (r1, r2) := h
  clear h
  by_cases c2 : (l0_2.length : Int) = 0
  · rw [if_pos c2] at H
    have c2b0 : ((l0_2.length : Int) == 0) = true := beq_iff_eq.mpr c2
    have c2b1 : ((l0_2.length : Int) != 0) = false := bne_eq_false_iff_eq.mpr c2
    clear c2
    simp only [Option.some.injEq, Prod.mk.injEq] at H
    obtain ⟨rfl, rfl⟩ := H
    go_enter Try.func30, Try.ntmps30
    go_wp2_with (first | ((with_reducible refine gate_dst (N := 1) rfl ?_); refine box_event ?hg (N := 1) ?hd (cs := #[.int .i64 a0_0, .int .i64 a0_1, .slice A0_2 l0_2.length c0_2]) (t := 33) ?hr ?_; (case hd => rfl); (case hg => rfl); (case hr => first | (go_simp; done) | (go_simp; rfl)); intro gb222 hg w3 hbox hb; have n0_ := Aside0.mk (below_step (by repeat (first | (with_reducible first | exact HB.out | apply below_alloc | apply pw_below_drewN | apply below_drew1) | exact HB.out)) hb); have n1_ := Aside0.mk (hbox); have n2_ := Aside0.mk ((by rw [hg]; exact (below_size (by repeat (first | (with_reducible first | exact HB.out | apply below_alloc | apply pw_below_drewN | apply below_drew1) | exact HB.out))) : w.heap.size ≤ gb222)); have n3_ := Aside0.mk ((by rw [hg]; exact (below_size (by repeat (first | (with_reducible first | exact HB.out | apply below_alloc | apply pw_below_drewN | apply below_drew1) | exact HB.out))) : w.heap.size ≤ gb222)); clear HB; have HB := n0_; have BK222 := n1_; have GW222 := n2_; have GE222 := n3_; clear n0_ n1_ n2_ n3_; clear hb hbox hg; have hcz4_0 : w3.cell? ⟨gb222, 0, none⟩ = some (.int .i64 a0_0) := (blk_cell BK222.out 0).trans rfl; have hcz4_1 : w3.cell? ⟨gb222, 1, none⟩ = some (.int .i64 a0_1) := (blk_cell BK222.out 1).trans rfl; have hcz4_2 : w3.cell? ⟨gb222, 2, none⟩ = some (.slice A0_2 l0_2.length c0_2) := (blk_cell BK222.out 2).trans rfl; have hfz4_0 := blk_frozen BK222.out 0; have hfz4_1 := blk_frozen BK222.out 1; have hfz4_2 := blk_frozen BK222.out 2))
    repeat (go_quiet (first | ((with_reducible refine gate_dst (N := 1) rfl ?_); refine box_event ?hg (N := 1) ?hd (cs := #[.int .i64 a0_0, .int .i64 a0_1, .slice A0_2 l0_2.length c0_2]) (t := 33) ?hr ?_; (case hd => rfl); (case hg => rfl); (case hr => first | (go_simp; done) | (go_simp; rfl)); intro gb222 hg w3 hbox hb; have n0_ := Aside0.mk (below_step (by repeat (first | (with_reducible first | exact HB.out | apply below_alloc | apply pw_below_drewN | apply below_drew1) | exact HB.out)) hb); have n1_ := Aside0.mk (hbox); have n2_ := Aside0.mk ((by rw [hg]; exact (below_size (by repeat (first | (with_reducible first | exact HB.out | apply below_alloc | apply pw_below_drewN | apply below_drew1) | exact HB.out))) : w.heap.size ≤ gb222)); have n3_ := Aside0.mk ((by rw [hg]; exact (below_size (by repeat (first | (with_reducible first | exact HB.out | apply below_alloc | apply pw_below_drewN | apply below_drew1) | exact HB.out))) : w.heap.size ≤ gb222)); clear HB; have HB := n0_; have BK222 := n1_; have GW222 := n2_; have GE222 := n3_; clear n0_ n1_ n2_ n3_; clear hb hbox hg; have hcz4_0 : w3.cell? ⟨gb222, 0, none⟩ = some (.int .i64 a0_0) := (blk_cell BK222.out 0).trans rfl; have hcz4_1 : w3.cell? ⟨gb222, 1, none⟩ = some (.int .i64 a0_1) := (blk_cell BK222.out 1).trans rfl; have hcz4_2 : w3.cell? ⟨gb222, 2, none⟩ = some (.slice A0_2 l0_2.length c0_2) := (blk_cell BK222.out 2).trans rfl; have hfz4_0 := blk_frozen BK222.out 0; have hfz4_1 := blk_frozen BK222.out 1; have hfz4_2 := blk_frozen BK222.out 2)); try go_wp2_with (first | ((with_reducible refine gate_dst (N := 1) rfl ?_); refine box_event ?hg (N := 1) ?hd (cs := #[.int .i64 a0_0, .int .i64 a0_1, .slice A0_2 l0_2.length c0_2]) (t := 33) ?hr ?_; (case hd => rfl); (case hg => rfl); (case hr => first | (go_simp; done) | (go_simp; rfl)); intro gb222 hg w3 hbox hb; have n0_ := Aside0.mk (below_step (by repeat (first | (with_reducible first | exact HB.out | apply below_alloc | apply pw_below_drewN | apply below_drew1) | exact HB.out)) hb); have n1_ := Aside0.mk (hbox); have n2_ := Aside0.mk ((by rw [hg]; exact (below_size (by repeat (first | (with_reducible first | exact HB.out | apply below_alloc | apply pw_below_drewN | apply below_drew1) | exact HB.out))) : w.heap.size ≤ gb222)); have n3_ := Aside0.mk ((by rw [hg]; exact (below_size (by repeat (first | (with_reducible first | exact HB.out | apply below_alloc | apply pw_below_drewN | apply below_drew1) | exact HB.out))) : w.heap.size ≤ gb222)); clear HB; have HB := n0_; have BK222 := n1_; have GW222 := n2_; have GE222 := n3_; clear n0_ n1_ n2_ n3_; clear hb hbox hg; have hcz4_0 : w3.cell? ⟨gb222, 0, none⟩ = some (.int .i64 a0_0) := (blk_cell BK222.out 0).trans rfl; have hcz4_1 : w3.cell? ⟨gb222, 1, none⟩ = some (.int .i64 a0_1) := (blk_cell BK222.out 1).trans rfl; have hcz4_2 : w3.cell? ⟨gb222, 2, none⟩ = some (.slice A0_2 l0_2.length c0_2) := (blk_cell BK222.out 2).trans rfl; have hfz4_0 := blk_frozen BK222.out 0; have hfz4_1 := blk_frozen BK222.out 1; have hfz4_2 := blk_frozen BK222.out 2)))
    go_ret2
    exact ⟨by first | rfl | (simp [errW_none, errW_some] <;> rfl) | (simp [*, errW_none, errW_some] <;> rfl), by repeat (first | (with_reducible first | exact HB.out | apply below_alloc | apply pw_below_drewN | apply below_drew1 | refine below_set ?_ GE222.out) | exact HB.out)⟩
  · rw [if_neg c2] at H
    have c2b0 : ((l0_2.length : Int) == 0) = false := beq_eq_false_iff_ne.mpr c2
    have c2b1 : ((l0_2.length : Int) != 0) = true := bne_iff_ne.mpr c2
    have c2b2 : ¬ (l0_2 = []) := fun h_ => c2 (by rw [h_]; rfl)
    obtain ⟨ji5, hji5⟩ : ∃ j_ : Int, (wrap64 ((l0_2.length : Int) - 1)) = j_ := ⟨_, rfl⟩
    replace H : (if 0 ≤ (ji5) then (if (ji5) < (l0_2.length : Int) then (some (wrap64 (a0_0 + (l0_2.length : Int)), (rd_T87 l0_2 (ji5)).f0)) else (none)) else (none)) = some (r1, r2) := by first | (rw [hji5] at H; exact H) | (simp only [hji5] at H ⊢; exact H)
    have hji5w : (IntKind.i64.wrap ((l0_2.length : Int) - 1)) = ji5 := (i64_w _).trans hji5
    by_cases c6 : 0 ≤ (ji5)
    · rw [if_pos c6] at H
      have c6b0 : decide (0 ≤ (ji5)) = true := decide_eq_true c6
      clear c6
      by_cases c7 : (ji5) < (l0_2.length : Int)
      · rw [if_pos c7] at H
        have c7b0 : decide ((ji5) < (l0_2.length : Int)) = true := decide_eq_true c7
        clear c7
        simp only [Option.some.injEq, Prod.mk.injEq] at H
        obtain ⟨rfl, rfl⟩ := H
        go_enter Try.func30, Try.ntmps30
        go_wp2_with (first | ((with_reducible refine gate_dst (N := 1) rfl ?_); refine box_event ?hg (N := 1) ?hd (cs := #[.int .i64 a0_0, .int .i64 a0_1, .slice A0_2 l0_2.length c0_2]) (t := 33) ?hr ?_; (case hd => rfl); (case hg => rfl); (case hr => first | (go_simp; done) | (go_simp; rfl)); intro gb222 hg w8 hbox hb; have n0_ := Aside0.mk (below_step (by repeat (first | (with_reducible first | exact HB.out | apply below_alloc | apply pw_below_drewN | apply below_drew1) | exact HB.out)) hb); have n1_ := Aside0.mk (hbox); have n2_ := Aside0.mk ((by rw [hg]; exact (below_size (by repeat (first | (with_reducible first | exact HB.out | apply below_alloc | apply pw_below_drewN | apply below_drew1) | exact HB.out))) : w.heap.size ≤ gb222)); have n3_ := Aside0.mk ((by rw [hg]; exact (below_size (by repeat (first | (with_reducible first | exact HB.out | apply below_alloc | apply pw_below_drewN | apply below_drew1) | exact HB.out))) : w.heap.size ≤ gb222)); clear HB; have HB := n0_; have BK222 := n1_; have GW222 := n2_; have GE222 := n3_; clear n0_ n1_ n2_ n3_; clear hb hbox hg; have hcz9_0 : w8.cell? ⟨gb222, 0, none⟩ = some (.int .i64 a0_0) := (blk_cell BK222.out 0).trans rfl; have hcz9_1 : w8.cell? ⟨gb222, 1, none⟩ = some (.int .i64 a0_1) := (blk_cell BK222.out 1).trans rfl; have hcz9_2 : w8.cell? ⟨gb222, 2, none⟩ = some (.slice A0_2 l0_2.length c0_2) := (blk_cell BK222.out 2).trans rfl; have hfz9_0 := blk_frozen BK222.out 0; have hfz9_1 := blk_frozen BK222.out 1; have hfz9_2 := blk_frozen BK222.out 2; have p223 : 0 ≤ ((ji5) : Int) := of_decide_eq_true (by first | (with_reducible assumption) | assumption); have q223 : (ji5) < (l0_2.length : Int) := of_decide_eq_true (by first | (with_reducible assumption) | assumption); obtain ⟨ad223, e223, hx223_0, hx223_1, hx223_2⟩ := at_T87 HR0_2.out (ji5) p223 q223; cases e223; replace hx223_0 := (HB.out.cell (World.block_lt_of_cell? w _ hx223_0)).trans hx223_0; replace hx223_1 := (HB.out.cell (World.block_lt_of_cell? w _ hx223_1)).trans hx223_1; replace hx223_2 := (HB.out.cell (World.block_lt_of_cell? w _ hx223_2)).trans hx223_2; replace p223 := eq_true p223; replace q223 := eq_true q223))
        repeat (go_quiet (first | ((with_reducible refine gate_dst (N := 1) rfl ?_); refine box_event ?hg (N := 1) ?hd (cs := #[.int .i64 a0_0, .int .i64 a0_1, .slice A0_2 l0_2.length c0_2]) (t := 33) ?hr ?_; (case hd => rfl); (case hg => rfl); (case hr => first | (go_simp; done) | (go_simp; rfl)); intro gb222 hg w8 hbox hb; have n0_ := Aside0.mk (below_step (by repeat (first | (with_reducible first | exact HB.out | apply below_alloc | apply pw_below_drewN | apply below_drew1) | exact HB.out)) hb); have n1_ := Aside0.mk (hbox); have n2_ := Aside0.mk ((by rw [hg]; exact (below_size (by repeat (first | (with_reducible first | exact HB.out | apply below_alloc | apply pw_below_drewN | apply below_drew1) | exact HB.out))) : w.heap.size ≤ gb222)); have n3_ := Aside0.mk ((by rw [hg]; exact (below_size (by repeat (first | (with_reducible first | exact HB.out | apply below_alloc | apply pw_below_drewN | apply below_drew1) | exact HB.out))) : w.heap.size ≤ gb222)); clear HB; have HB := n0_; have BK222 := n1_; have GW222 := n2_; have GE222 := n3_; clear n0_ n1_ n2_ n3_; clear hb hbox hg; have hcz9_0 : w8.cell? ⟨gb222, 0, none⟩ = some (.int .i64 a0_0) := (blk_cell BK222.out 0).trans rfl; have hcz9_1 : w8.cell? ⟨gb222, 1, none⟩ = some (.int .i64 a0_1) := (blk_cell BK222.out 1).trans rfl; have hcz9_2 : w8.cell? ⟨gb222, 2, none⟩ = some (.slice A0_2 l0_2.length c0_2) := (blk_cell BK222.out 2).trans rfl; have hfz9_0 := blk_frozen BK222.out 0; have hfz9_1 := blk_frozen BK222.out 1; have hfz9_2 := blk_frozen BK222.out 2; have p223 : 0 ≤ ((ji5) : Int) := of_decide_eq_true (by first | (with_reducible assumption) | assumption); have q223 : (ji5) < (l0_2.length : Int) := of_decide_eq_true (by first | (with_reducible assumption) | assumption); obtain ⟨ad223, e223, hx223_0, hx223_1, hx223_2⟩ := at_T87 HR0_2.out (ji5) p223 q223; cases e223; replace hx223_0 := (HB.out.cell (World.block_lt_of_cell? w _ hx223_0)).trans hx223_0; replace hx223_1 := (HB.out.cell (World.block_lt_of_cell? w _ hx223_1)).trans hx223_1; replace hx223_2 := (HB.out.cell (World.block_lt_of_cell? w _ hx223_2)).trans hx223_2; replace p223 := eq_true p223; replace q223 := eq_true q223)); try go_wp2_with (first | ((with_reducible refine gate_dst (N := 1) rfl ?_); refine box_event ?hg (N := 1) ?hd (cs := #[.int .i64 a0_0, .int .i64 a0_1, .slice A0_2 l0_2.length c0_2]) (t := 33) ?hr ?_; (case hd => rfl); (case hg => rfl); (case hr => first | (go_simp; done) | (go_simp; rfl)); intro gb222 hg w8 hbox hb; have n0_ := Aside0.mk (below_step (by repeat (first | (with_reducible first | exact HB.out | apply below_alloc | apply pw_below_drewN | apply below_drew1) | exact HB.out)) hb); have n1_ := Aside0.mk (hbox); have n2_ := Aside0.mk ((by rw [hg]; exact (below_size (by repeat (first | (with_reducible first | exact HB.out | apply below_alloc | apply pw_below_drewN | apply below_drew1) | exact HB.out))) : w.heap.size ≤ gb222)); have n3_ := Aside0.mk ((by rw [hg]; exact (below_size (by repeat (first | (with_reducible first | exact HB.out | apply below_alloc | apply pw_below_drewN | apply below_drew1) | exact HB.out))) : w.heap.size ≤ gb222)); clear HB; have HB := n0_; have BK222 := n1_; have GW222 := n2_; have GE222 := n3_; clear n0_ n1_ n2_ n3_; clear hb hbox hg; have hcz9_0 : w8.cell? ⟨gb222, 0, none⟩ = some (.int .i64 a0_0) := (blk_cell BK222.out 0).trans rfl; have hcz9_1 : w8.cell? ⟨gb222, 1, none⟩ = some (.int .i64 a0_1) := (blk_cell BK222.out 1).trans rfl; have hcz9_2 : w8.cell? ⟨gb222, 2, none⟩ = some (.slice A0_2 l0_2.length c0_2) := (blk_cell BK222.out 2).trans rfl; have hfz9_0 := blk_frozen BK222.out 0; have hfz9_1 := blk_frozen BK222.out 1; have hfz9_2 := blk_frozen BK222.out 2; have p223 : 0 ≤ ((ji5) : Int) := of_decide_eq_true (by first | (with_reducible assumption) | assumption); have q223 : (ji5) < (l0_2.length : Int) := of_decide_eq_true (by first | (with_reducible assumption) | assumption); obtain ⟨ad223, e223, hx223_0, hx223_1, hx223_2⟩ := at_T87 HR0_2.out (ji5) p223 q223; cases e223; replace hx223_0 := (HB.out.cell (World.block_lt_of_cell? w _ hx223_0)).trans hx223_0; replace hx223_1 := (HB.out.cell (World.block_lt_of_cell? w _ hx223_1)).trans hx223_1; replace hx223_2 := (HB.out.cell (World.block_lt_of_cell? w _ hx223_2)).trans hx223_2; replace p223 := eq_true p223; replace q223 := eq_true q223)))
        go_ret2
        exact ⟨by first | rfl | (simp [errW_none, errW_some] <;> rfl) | (simp only [← hji5]; first | rfl | (simp [errW_none, errW_some] <;> rfl)) | (simp [*, errW_none, errW_some] <;> rfl), by repeat (first | (with_reducible first | exact HB.out | apply below_alloc | apply pw_below_drewN | apply below_drew1 | refine below_set ?_ GE222.out) | exact HB.out)⟩
      · rw [if_neg c7] at H
        exact absurd H (by simp)
    · rw [if_neg c6] at H
      exact absurd H (by simp)
end Go.Proofs.Ytallakebnoighaa.PFnExactSettle
end

section
namespace Go.Proofs.Ytallakebnoighaa.PFnExactSettle
open Go.RowKit Go.Proofs.YtallakebnoighaaW.PrintWords
set_option linter.unusedSimpArgs false
set_option linter.unusedVariables false
theorem ilast_f (s t : Int) (es : List S87) (hs : 0 ≤ s ∧ s ≤ 2000000) (hl : es.length ≤ 1048576) : impl_LogLast.f s t es = some (s + (es.length : Int), lastT t es) := by
  unfold impl_LogLast.f lastT
  by_cases h : es.length = 0
  · simp [h]
  · have e1 : wrap64 ((es.length : Int) - 1) = ((es.length - 1 : Nat) : Int) := by unfold wrap64; omega
    have e2 : wrap64 (s + (es.length : Int)) = s + (es.length : Int) := by unfold wrap64; omega
    rw [if_neg (by omega), e1, if_pos (by omega), if_pos (by omega), if_neg h, e2]
theorem slast_f (s t : Int) (es : List S87) (hs : 0 ≤ s ∧ s ≤ 2000000) (hl : es.length ≤ 1048576) : spec_LogLast.f s t es = some (s + (es.length : Int), lastT t es) := by
  unfold spec_LogLast.f lastT
  by_cases h : es.length = 0
  · simp [h]
  · have e1 : wrap64 ((es.length : Int) - 1) = ((es.length - 1 : Nat) : Int) := by unfold wrap64; omega
    have e2 : wrap64 (s + (es.length : Int)) = s + (es.length : Int) := by unfold wrap64; omega
    rw [if_neg (by omega), e1, if_pos (by omega), if_pos (by omega), if_neg h, e2]
theorem votes_l0 (m : NF) : ∀ (n k i : Nat), n + i = m.vs.length → n < k → m.vs.length < 4611686018427387904 → impl_votesOk.l0 k m.vs m.vs.length i m.id m.term m.vote m.role m.lead m.cf m.st m.tm m.es m.cm m.ck m.lm m.vs m.ps = some (rises m.vs i n && (decide (m.vs.length = 0) || decide (m.role = 1)))
  | 0, 0, _, _, hk, _ => by omega
  | 0, k + 1, i, h, _, _ => by
    unfold impl_votesOk.l0
    rw [if_neg (by omega)]
    by_cases hv : m.vs.length = 0
    · simp [rises, hv]
    · rw [if_neg (by omega)]
      simp only [rises, hv]
      by_cases hr : m.role = 1 <;> simp [hr]
  | n + 1, 0, _, _, hk, _ => by omega
  | n + 1, k + 1, i, h, hk, hl => by
    have e1 : wrap64 ((i : Int) + 1) = ((i + 1 : Nat) : Int) := by unfold wrap64; omega
    have e2 : 0 < (i : Int) → wrap64 ((i : Int) - 1) = (i : Int) - 1 := fun _ => by unfold wrap64; omega
    have ih := votes_l0 m n k (i + 1) (by omega) (by omega) hl
    obtain ⟨B, hB⟩ : ∃ B, (decide (m.vs.length = 0) || decide (m.role = 1)) = B := ⟨_, rfl⟩
    rw [hB] at ih ⊢
    unfold impl_votesOk.l0
    rw [if_pos (by omega), if_pos (by omega), if_pos (by omega), in_f, Option.bind_some, e1]
    clear e1
    rw [ih]
    by_cases hin : 1 ≤ rd m.vs i ∧ rd m.vs i ≤ 4
    · rw [if_pos (by simpa using hin)]
      by_cases hi : (i : Int) > 0
      · rw [if_pos hi, e2 hi]
        clear e2
        rw [if_pos (by omega), if_pos (by omega)]
        by_cases hge : rd m.vs ((i : Int) - 1) ≥ rd m.vs i
        · rw [if_pos hge]
          have : ¬ i = 0 := by omega
          simp [rises, this, show ¬ rd m.vs ((i : Int) - 1) < rd m.vs i from by omega]
        · rw [if_neg hge]
          simp [rises, hin, show rd m.vs ((i : Int) - 1) < rd m.vs i from by omega]
      · rw [if_neg hi]
        have : i = 0 := by omega
        subst this
        simp only [rises]
        simp at hin
        simp [hin]
    · rw [if_neg (by simpa using hin)]
      simp only [rises]
      simp only [hin]
      simp
theorem votes_f (m : NF) (hl : m.vs.length < 4611686018427387904) : impl_votesOk.f (m.vs.length + 1) m.id m.term m.vote m.role m.lead m.cf m.st m.tm m.es m.cm m.ck m.lm m.vs m.ps = some m.votesB :=
  votes_l0 m m.vs.length _ 0 (by omega) (by omega) hl
theorem confUp_idx {cf : List Int} {st idx idx' : Int} {es : List S87} : ∀ (n : Nat), st + n ≤ idx → st + n ≤ idx' → confUp cf st idx es n = confUp cf st idx' es n
  | 0, _, _ => rfl
  | n + 1, h1, h2 => by
    unfold confUp
    have h3 : st + (n : Int) + 1 ≤ idx := by omega
    have h4 : st + (n : Int) + 1 ≤ idx' := by omega
    simp only [h3, h4, and_true]
    rw [confUp_idx (idx := idx) (idx' := idx') n (by omega) (by omega)]
theorem confUp_stop {cf : List Int} {st idx : Int} {es : List S87} (i : Nat) (h : idx < st + i + 1) : ∀ (d : Nat), confUp cf st idx es (i + d) = confUp cf st idx es i
  | 0 => rfl
  | d + 1 => by
    have e : confUp cf st idx es (i + (d + 1)) = confUp cf st idx es (i + d) := by
      show (if _ ∧ st + ((i + d : Nat) : Int) + 1 ≤ idx then _ else confUp cf st idx es (i + d)) = _
      rw [if_neg (by omega)]
    rw [e, confUp_stop i h d]
theorem confAt_l0 (m : NF) (idx : Int) (hst : 0 ≤ m.st ∧ m.st ≤ 2000000) (hl : m.es.length ≤ 1048576) (hS : ShortE m.es) (hok : ∀ j : Nat, j < m.es.length → entryOk (rd_T87 m.es (j : Int)).f0 (rd_T87 m.es (j : Int)).f1 (rd_T87 m.es (j : Int)).f2 = true) : ∀ (n k i : Nat), n + i = m.es.length → 2 * n + 2097170 < k →
    spec_ConfAt.l0 k idx (confUp m.cf m.st idx m.es i).1 i m.id m.term m.vote m.role m.lead m.cf m.st m.tm m.es m.cm m.ck m.lm m.vs m.ps = some (confAt m.cf m.st idx m.es)
  | n, 0, _, _, hk => by omega
  | n, 1, _, _, hk => by omega
  | 0, k + 2, i, h, hk => by
    obtain rfl : i = m.es.length := by omega
    unfold spec_ConfAt.l0
    rw [if_neg (by omega)]
    unfold spec_ConfAt.j1
    simp [confAt]
  | n + 1, k + 2, i, h, hk => by
    have e1 : wrap64 ((i : Int) + 1) = ((i + 1 : Nat) : Int) := by unfold wrap64; omega
    have e2 : wrap64 (wrap64 (m.st + 1) + (i : Int)) = m.st + i + 1 := by unfold wrap64; omega
    have ih := confAt_l0 m idx hst hl hS hok n k (i + 1) (by omega) (by omega)
    have hs := hS i
    have hj := hok i (by omega)
    unfold spec_ConfAt.l0
    rw [if_pos (by omega), e2]
    unfold spec_ConfAt.j1
    clear e2
    by_cases hi : m.st + i + 1 ≤ idx
    · rw [if_pos (by simpa using hi), if_pos (by omega), if_pos (by omega), e1]
      by_cases hk2 : (rd_T87 m.es (i : Int)).f1 = 2
      · rw [if_pos hk2, sread_f _ k (by omega) (by omega), Option.bind_some]
        unfold entryOk at hj
        rw [hk2] at hj
        simp only [Bool.and_eq_true, decide_eq_true_eq, show ¬ ((2 : Int) = 1) from by decide, if_false, if_true] at hj
        rw [if_pos hj.2]
        rw [confUp, if_pos ⟨hk2, hi⟩] at ih
        exact ih
      · rw [if_neg hk2]
        rw [confUp, if_neg (by simp [hk2])] at ih
        exact ih
    · rw [if_neg (by simpa using hi)]
      have hs := confUp_stop (cf := m.cf) (st := m.st) (idx := idx) (es := m.es) i (by omega) (n + 1)
      rw [show i + (n + 1) = m.es.length from by omega] at hs
      simp only [confAt, hs]
theorem confOfS_f (m : NF) (hcf : m.cf.length ≤ 1048576) (h2 : logOkB m.st m.tm m.es = true) (hS : ShortE m.es) : spec_ConfOf.f 4400000 m.id m.term m.vote m.role m.lead m.cf m.st m.tm m.es m.cm m.ck m.lm m.vs m.ps = some m.conf := by
  obtain ⟨h3, -, h4, h6, h5⟩ := logOkB_parts h2
  have hst : 0 ≤ m.st ∧ m.st ≤ 2000000 := by omega
  have hok : ∀ j : Nat, j < m.es.length → entryOk (rd_T87 m.es (j : Int)).f0 (rd_T87 m.es (j : Int)).f1 (rd_T87 m.es (j : Int)).f2 = true := fun j hj => (logEnts_all _ 0 _ h5 j (Nat.zero_le _) (by omega)).1
  unfold spec_ConfOf.f spec_ConfAt.f
  rw [Option.bind_some, if_pos (by simp only [List.length_nil]; omega)]
  have := confAt_l0 m 1000060 hst (by omega) hS hok m.es.length 4400000 0 (by omega) (by omega)
  simp only [confUp, Int.natCast_zero] at this
  simp only [List.nil_append]
  rw [this, Option.bind_some]
  unfold NF.conf confAt
  rw [confUp_idx m.es.length (by omega) (Int.le_refl _)]
theorem others_l0 (xs : List Int) (x : Int) (hl : xs.length ≤ 1048576) : ∀ (n k i : Nat) (acc : List Int), n + i = xs.length → acc.length ≤ i → n < k → spec_l12Others.l0 k xs x acc i = some (acc ++ (xs.drop i).filter (fun y => y != x))
  | n, 0, _, _, _, _, hk => by omega
  | 0, k + 1, i, acc, h, _, _ => by
    unfold spec_l12Others.l0
    rw [if_neg (by omega), List.drop_eq_nil_of_le (by omega)]
    simp
  | n + 1, k + 1, i, acc, h, ha, hk => by
    have e1 : wrap64 ((i : Int) + 1) = ((i + 1 : Nat) : Int) := by unfold wrap64; omega
    have hi : i < xs.length := by omega
    have hd : xs.drop i = xs[i] :: xs.drop (i + 1) := List.drop_eq_getElem_cons hi
    have hrd : rd xs (i : Int) = xs[i] := by simp [rd, hi]
    unfold spec_l12Others.l0
    rw [if_pos (by omega), if_pos (by omega), e1, hrd, hd]
    by_cases hx : xs[i] = x
    · rw [if_pos hx, others_l0 xs x hl n k (i + 1) acc (by omega) (by omega) (by omega)]
      simp [hx]
    · rw [if_neg hx, if_pos (by omega), others_l0 xs x hl n k (i + 1) _ (by omega) (by simp; omega) (by omega), List.filter_cons_of_pos (by simpa using hx), List.append_assoc]
      rfl
theorem others_f (xs : List Int) (x : Int) (hl : xs.length ≤ 1048576) : spec_l12Others.f (xs.length + 1) xs x = some (xs.filter (fun y => y != x)) := by
  have := others_l0 xs x hl xs.length (xs.length + 1) 0 [] (by omega) (by simp) (by omega)
  simpa [spec_l12Others.f] using this
end Go.Proofs.Ytallakebnoighaa.PFnExactSettle
end

section
namespace Go.Proofs.Ytallakebnoighaa.PFnExactSettle
open Go.RowKit Go.Proofs.YtallakebnoighaaW.PrintWords
set_option linter.unusedSimpArgs false
set_option linter.unusedVariables false
theorem confH (A : Option Addr) (c : Nat) (xs : List Int) (b : Bool) (w : World) (h : Hid (confOk xs = b)) (hr : Kd.C (Kd.int .i64) w A xs.length xs) (hc : xs.length ≤ c) (hl : xs.length ≤ 1048576) :
    Calls Try.prog 38 #[.slice A xs.length c] w fun e w' => e = .returned (.bool b) ∧ Below w.heap.size w w' := by
  have hf := iconf_f xs (xs.length + 1) (by omega) (by omega)
  rw [h.out] at hf
  refine (impl_ConfOk.calls (xs.length + 1) A c xs _ w hr hc hf).mono ?_
  rintro e w' h
  first | exact h | (obtain ⟨rfl, n, rfl⟩ := h; exact ⟨rfl, bl_drewN (Below.refl _ _) n⟩)
theorem ilast_C (s t : Int) (A : Option Addr) (c : Nat) (xs : List S87) (w : World) (hs : 0 ≤ s ∧ s ≤ 2000000) (hl : xs.length ≤ 1048576) (hr : Kd.C k87 w A xs.length xs) (hc : xs.length ≤ c) :
    Calls Try.prog 40 #[.agg #[.int .i64 s, .int .i64 t, .slice A xs.length c]] w fun e w' => e = .returned (.tuple #[.int .i64 (s + (xs.length : Int)), .int .i64 (lastT t xs)]) ∧ Below w.heap.size w w' := by
  refine (impl_LogLast.calls s t A c xs _ _ w hr hc (ilast_f s t xs hs hl)).mono ?_
  rintro e w' h
  first | exact h | (obtain ⟨rfl, n, rfl⟩ := h; exact ⟨rfl, bl_drewN (Below.refl _ _) n⟩)
theorem votes_C (n : NF) (A5 : Option Addr) (c5 : Nat) (A8 : Option Addr) (c8 : Nat) (A12 : Option Addr) (c12 : Nat) (A13 : Option Addr) (c13 : Nat) (w : World) (hz : NodeZ n) (h : NodeC n A5 c5 A8 c8 A12 c12 A13 c13 w) (b : Bool) (hb : Hid (n.votesB = b)) :
    Calls Try.prog 41 #[.agg #[.int .i64 n.id, .int .i64 n.term, .int .i64 n.vote, .int .i64 n.role, .int .i64 n.lead, .slice A5 n.cf.length c5, .int .i64 n.st, .int .i64 n.tm, .slice A8 n.es.length c8, .int .i64 n.cm, .int .i64 n.ck, .int .i64 n.lm, .slice A12 n.vs.length c12, .slice A13 n.ps.length c13]] w fun e w' => e = .returned (.bool b) ∧ Below w.heap.size w w' := by
  have hf := votes_f n (by have := hz.vs; omega)
  rw [hb.out] at hf
  refine (impl_votesOk.calls _ n.id n.term n.vote n.role n.lead A5 c5 n.cf n.st n.tm A8 c8 n.es n.cm n.ck n.lm A12 c12 n.vs A13 c13 n.ps _ w h.h5 h.hc5 h.h8 h.hc8 h.h12 h.hc12 h.h13 h.hc13 hf).mono ?_
  rintro e w' h
  first | exact h | (obtain ⟨rfl, n, rfl⟩ := h; exact ⟨rfl, bl_drewN (Below.refl _ _) n⟩)
set_option maxHeartbeats 4000000 in
set_option maxRecDepth 100000 in
theorem impl_NodeOk_C (n : NF) (A5 : Option Addr) (c5 : Nat) (A8 : Option Addr) (c8 : Nat) (A12 : Option Addr) (c12 : Nat) (A13 : Option Addr) (c13 : Nat) (w : World) (hz : NodeZ n) (h : NodeC n A5 c5 A8 c8 A12 c12 A13 c13 w) :
    Calls Try.prog 9 #[.agg #[.int .i64 n.id, .int .i64 n.term, .int .i64 n.vote, .int .i64 n.role, .int .i64 n.lead, .slice A5 n.cf.length c5, .int .i64 n.st, .int .i64 n.tm, .slice A8 n.es.length c8, .int .i64 n.cm, .int .i64 n.ck, .int .i64 n.lm, .slice A12 n.vs.length c12, .slice A13 n.ps.length c13]] w fun e w' => e = .returned (.bool n.ok) ∧ Below w.heap.size w w' := by
  have H := Lib.hid h
  have hc8 := h.hc8
  clear h
  obtain ⟨q, hq⟩ : ∃ q, n.ok = q := ⟨_, rfl⟩
  rw [hq]
  unfold NF.ok at hq
  have hq := Lib.hid hq
  go_enter Try.func9, Try.ntmps9
  go_wp2_with fail
  refine calls_atC (fun W => Blk 36 w.heap.size #[.int .i64 n.id, .int .i64 n.term, .int .i64 n.vote, .int .i64 n.role, .int .i64 n.lead, .slice A5 n.cf.length c5, .int .i64 n.st, .int .i64 n.tm, .slice A8 n.es.length c8, .int .i64 n.cm, .int .i64 n.ck, .int .i64 n.lm, .slice A12 n.vs.length c12, .slice A13 n.ps.length c13] W ∧ Below w.heap.size w W) ⟨Blk.new _ _ w, (by repeat (first | exact Below.refl _ _ | apply bl_alloc | apply bl_drewN | apply bl_drew | refine bl_set ?_ (by simp) | refine bl_then ?_ (by assumption)))⟩ ?_
  rintro W0 ⟨k1, B⟩
  obtain ⟨o, ho⟩ : ∃ o, inB n.id 1 4 = o := ⟨_, rfl⟩
  have Ho := Lib.hid ho
  replace hq := hq.out
  rw [ho] at hq
  clear ho
  refine (inH _ _ _ _ _ Ho).mono ?_
  rintro e V0 ⟨rfl, hb⟩
  replace k1 := k1.below hb
  replace B := bl_then B hb
  clear  hb W0
  have y0 := k1.cell 0 rfl
  have y1 := k1.cell 1 rfl
  have y2 := k1.cell 2 rfl
  have y3 := k1.cell 3 rfl
  have y4 := k1.cell 4 rfl
  have y5 := k1.cell 5 rfl
  have y6 := k1.cell 6 rfl
  have y7 := k1.cell 7 rfl
  have y8 := k1.cell 8 rfl
  have y9 := k1.cell 9 rfl
  have y10 := k1.cell 10 rfl
  have y11 := k1.cell 11 rfl
  have y12 := k1.cell 12 rfl
  have y13 := k1.cell 13 rfl
  have l1 := k1.lt
  cases o with
  | false =>
    rw [Bool.false_and] at hq
    subst hq
    go_wp2_with fail
    go_ret
    exact ⟨rfl, B⟩
  | true =>
    rw [Bool.true_and] at hq
    replace hq := Lib.hid hq
    clear Ho
    obtain ⟨o, ho⟩ : ∃ o, confOk n.cf = o := ⟨_, rfl⟩
    have Ho := Lib.hid ho
    replace hq := hq.out
    rw [ho] at hq
    clear ho
    go_wp2_with fail
    refine (confH _ _ n.cf _ _ Ho (H.out.below B).h5 H.out.hc5 hz.cf).mono ?_
    rintro e V1 ⟨rfl, hb⟩
    replace k1 := k1.below hb
    replace B := bl_then B hb
    clear y0 y1 y2 y3 y4 y5 y6 y7 y8 y9 y10 y11 y12 y13 l1 hb V0
    have y0 := k1.cell 0 rfl
    have y1 := k1.cell 1 rfl
    have y2 := k1.cell 2 rfl
    have y3 := k1.cell 3 rfl
    have y4 := k1.cell 4 rfl
    have y5 := k1.cell 5 rfl
    have y6 := k1.cell 6 rfl
    have y7 := k1.cell 7 rfl
    have y8 := k1.cell 8 rfl
    have y9 := k1.cell 9 rfl
    have y10 := k1.cell 10 rfl
    have y11 := k1.cell 11 rfl
    have y12 := k1.cell 12 rfl
    have y13 := k1.cell 13 rfl
    have l1 := k1.lt
    cases o with
    | false =>
      rw [Bool.false_and] at hq
      subst hq
      go_wp2_with fail
      go_ret
      exact ⟨rfl, B⟩
    | true =>
      rw [Bool.true_and] at hq
      replace hq := Lib.hid hq
      have HK := Ho
      clear Ho
      obtain ⟨o, ho⟩ : ∃ o, logOkB n.st n.tm n.es = o := ⟨_, rfl⟩
      have Ho := Lib.hid ho
      replace hq := hq.out
      rw [ho] at hq
      clear ho
      go_wp2_with fail
      refine (impl_LogOkH _ _ _ _ n.es _ _ Ho hz.sh hz.es (H.out.below B).h8 hc8).mono ?_
      rintro e V2 ⟨rfl, hb⟩
      replace k1 := k1.below hb
      replace B := bl_then B hb
      clear y0 y1 y2 y3 y4 y5 y6 y7 y8 y9 y10 y11 y12 y13 l1 hb V1
      have y0 := k1.cell 0 rfl
      have y1 := k1.cell 1 rfl
      have y2 := k1.cell 2 rfl
      have y3 := k1.cell 3 rfl
      have y4 := k1.cell 4 rfl
      have y5 := k1.cell 5 rfl
      have y6 := k1.cell 6 rfl
      have y7 := k1.cell 7 rfl
      have y8 := k1.cell 8 rfl
      have y9 := k1.cell 9 rfl
      have y10 := k1.cell 10 rfl
      have y11 := k1.cell 11 rfl
      have y12 := k1.cell 12 rfl
      have y13 := k1.cell 13 rfl
      have l1 := k1.lt
      cases o with
      | false =>
        rw [Bool.false_and] at hq
        subst hq
        go_wp2_with fail
        go_ret
        exact ⟨rfl, B⟩
      | true =>
        rw [Bool.true_and] at hq
        replace hq := Lib.hid hq
        have HL := Ho
        have hst : 0 ≤ n.st ∧ n.st ≤ 2000000 := by have := (logOkB_parts HL.out).1; omega
        clear Ho
        go_wp2_with fail
        refine (ilast_C _ _ _ _ n.es _ hst hz.es (H.out.below B).h8 hc8).mono ?_
        rintro e V3 ⟨rfl, hb⟩
        replace k1 := k1.below hb
        replace B := bl_then B hb
        clear y0 y1 y2 y3 y4 y5 y6 y7 y8 y9 y10 y11 y12 y13 l1 hb V2
        have y0 := k1.cell 0 rfl
        have y1 := k1.cell 1 rfl
        have y2 := k1.cell 2 rfl
        have y3 := k1.cell 3 rfl
        have y4 := k1.cell 4 rfl
        have y5 := k1.cell 5 rfl
        have y6 := k1.cell 6 rfl
        have y7 := k1.cell 7 rfl
        have y8 := k1.cell 8 rfl
        have y9 := k1.cell 9 rfl
        have y10 := k1.cell 10 rfl
        have y11 := k1.cell 11 rfl
        have y12 := k1.cell 12 rfl
        have y13 := k1.cell 13 rfl
        have l1 := k1.lt
        obtain ⟨o, ho⟩ : ∃ o, inB n.term (lastT n.tm n.es) 100000 = o := ⟨_, rfl⟩
        have Ho := Lib.hid ho
        replace hq := hq.out
        rw [ho] at hq
        clear ho
        go_wp2_with fail
        refine (inH _ _ _ _ _ Ho).mono ?_
        rintro e V4 ⟨rfl, hb⟩
        replace k1 := k1.below hb
        replace B := bl_then B hb
        clear y0 y1 y2 y3 y4 y5 y6 y7 y8 y9 y10 y11 y12 y13 l1 hb V3
        have y0 := k1.cell 0 rfl
        have y1 := k1.cell 1 rfl
        have y2 := k1.cell 2 rfl
        have y3 := k1.cell 3 rfl
        have y4 := k1.cell 4 rfl
        have y5 := k1.cell 5 rfl
        have y6 := k1.cell 6 rfl
        have y7 := k1.cell 7 rfl
        have y8 := k1.cell 8 rfl
        have y9 := k1.cell 9 rfl
        have y10 := k1.cell 10 rfl
        have y11 := k1.cell 11 rfl
        have y12 := k1.cell 12 rfl
        have y13 := k1.cell 13 rfl
        have l1 := k1.lt
        cases o with
        | false =>
          rw [Bool.false_and] at hq
          subst hq
          go_wp2_with fail
          go_ret
          exact ⟨rfl, B⟩
        | true =>
          rw [Bool.true_and] at hq
          replace hq := Lib.hid hq
          clear Ho
          obtain ⟨o, ho⟩ : ∃ o, inB n.vote 0 4 = o := ⟨_, rfl⟩
          have Ho := Lib.hid ho
          replace hq := hq.out
          rw [ho] at hq
          clear ho
          go_wp2_with fail
          refine (inH _ _ _ _ _ Ho).mono ?_
          rintro e V5 ⟨rfl, hb⟩
          replace k1 := k1.below hb
          replace B := bl_then B hb
          clear y0 y1 y2 y3 y4 y5 y6 y7 y8 y9 y10 y11 y12 y13 l1 hb V4
          have y0 := k1.cell 0 rfl
          have y1 := k1.cell 1 rfl
          have y2 := k1.cell 2 rfl
          have y3 := k1.cell 3 rfl
          have y4 := k1.cell 4 rfl
          have y5 := k1.cell 5 rfl
          have y6 := k1.cell 6 rfl
          have y7 := k1.cell 7 rfl
          have y8 := k1.cell 8 rfl
          have y9 := k1.cell 9 rfl
          have y10 := k1.cell 10 rfl
          have y11 := k1.cell 11 rfl
          have y12 := k1.cell 12 rfl
          have y13 := k1.cell 13 rfl
          have l1 := k1.lt
          cases o with
          | false =>
            rw [Bool.false_and] at hq
            subst hq
            go_wp2_with fail
            go_ret
            exact ⟨rfl, B⟩
          | true =>
            rw [Bool.true_and] at hq
            replace hq := Lib.hid hq
            clear Ho
            obtain ⟨o, ho⟩ : ∃ o, inB n.lead 0 4 = o := ⟨_, rfl⟩
            have Ho := Lib.hid ho
            replace hq := hq.out
            rw [ho] at hq
            clear ho
            go_wp2_with fail
            refine (inH _ _ _ _ _ Ho).mono ?_
            rintro e V6 ⟨rfl, hb⟩
            replace k1 := k1.below hb
            replace B := bl_then B hb
            clear y0 y1 y2 y3 y4 y5 y6 y7 y8 y9 y10 y11 y12 y13 l1 hb V5
            have y0 := k1.cell 0 rfl
            have y1 := k1.cell 1 rfl
            have y2 := k1.cell 2 rfl
            have y3 := k1.cell 3 rfl
            have y4 := k1.cell 4 rfl
            have y5 := k1.cell 5 rfl
            have y6 := k1.cell 6 rfl
            have y7 := k1.cell 7 rfl
            have y8 := k1.cell 8 rfl
            have y9 := k1.cell 9 rfl
            have y10 := k1.cell 10 rfl
            have y11 := k1.cell 11 rfl
            have y12 := k1.cell 12 rfl
            have y13 := k1.cell 13 rfl
            have l1 := k1.lt
            cases o with
            | false =>
              rw [Bool.false_and] at hq
              subst hq
              go_wp2_with fail
              go_ret
              exact ⟨rfl, B⟩
            | true =>
              rw [Bool.true_and] at hq
              replace hq := Lib.hid hq
              clear Ho
              obtain ⟨o, ho⟩ : ∃ o, inB n.role 0 2 = o := ⟨_, rfl⟩
              have Ho := Lib.hid ho
              replace hq := hq.out
              rw [ho] at hq
              clear ho
              go_wp2_with fail
              refine (inH _ _ _ _ _ Ho).mono ?_
              rintro e V7 ⟨rfl, hb⟩
              replace k1 := k1.below hb
              replace B := bl_then B hb
              clear y0 y1 y2 y3 y4 y5 y6 y7 y8 y9 y10 y11 y12 y13 l1 hb V6
              have y0 := k1.cell 0 rfl
              have y1 := k1.cell 1 rfl
              have y2 := k1.cell 2 rfl
              have y3 := k1.cell 3 rfl
              have y4 := k1.cell 4 rfl
              have y5 := k1.cell 5 rfl
              have y6 := k1.cell 6 rfl
              have y7 := k1.cell 7 rfl
              have y8 := k1.cell 8 rfl
              have y9 := k1.cell 9 rfl
              have y10 := k1.cell 10 rfl
              have y11 := k1.cell 11 rfl
              have y12 := k1.cell 12 rfl
              have y13 := k1.cell 13 rfl
              have l1 := k1.lt
              cases o with
              | false =>
                rw [Bool.false_and] at hq
                subst hq
                go_wp2_with fail
                go_ret
                exact ⟨rfl, B⟩
              | true =>
                rw [Bool.true_and] at hq
                replace hq := Lib.hid hq
                clear Ho
                obtain ⟨o, ho⟩ : ∃ o, inB n.cm n.st (n.st + n.es.length) = o := ⟨_, rfl⟩
                have Ho := Lib.hid ho
                replace hq := hq.out
                rw [ho] at hq
                clear ho
                go_wp2_with fail
                refine (inH _ _ _ _ _ Ho).mono ?_
                rintro e V8 ⟨rfl, hb⟩
                replace k1 := k1.below hb
                replace B := bl_then B hb
                clear y0 y1 y2 y3 y4 y5 y6 y7 y8 y9 y10 y11 y12 y13 l1 hb V7
                have y0 := k1.cell 0 rfl
                have y1 := k1.cell 1 rfl
                have y2 := k1.cell 2 rfl
                have y3 := k1.cell 3 rfl
                have y4 := k1.cell 4 rfl
                have y5 := k1.cell 5 rfl
                have y6 := k1.cell 6 rfl
                have y7 := k1.cell 7 rfl
                have y8 := k1.cell 8 rfl
                have y9 := k1.cell 9 rfl
                have y10 := k1.cell 10 rfl
                have y11 := k1.cell 11 rfl
                have y12 := k1.cell 12 rfl
                have y13 := k1.cell 13 rfl
                have l1 := k1.lt
                cases o with
                | false =>
                  rw [Bool.false_and] at hq
                  subst hq
                  go_wp2_with fail
                  go_ret
                  exact ⟨rfl, B⟩
                | true =>
                  rw [Bool.true_and] at hq
                  replace hq := Lib.hid hq
                  clear Ho
                  obtain ⟨o, ho⟩ : ∃ o, inB n.ck 0 20 = o := ⟨_, rfl⟩
                  have Ho := Lib.hid ho
                  replace hq := hq.out
                  rw [ho] at hq
                  clear ho
                  go_wp2_with fail
                  refine (inH _ _ _ _ _ Ho).mono ?_
                  rintro e V9 ⟨rfl, hb⟩
                  replace k1 := k1.below hb
                  replace B := bl_then B hb
                  clear y0 y1 y2 y3 y4 y5 y6 y7 y8 y9 y10 y11 y12 y13 l1 hb V8
                  have y0 := k1.cell 0 rfl
                  have y1 := k1.cell 1 rfl
                  have y2 := k1.cell 2 rfl
                  have y3 := k1.cell 3 rfl
                  have y4 := k1.cell 4 rfl
                  have y5 := k1.cell 5 rfl
                  have y6 := k1.cell 6 rfl
                  have y7 := k1.cell 7 rfl
                  have y8 := k1.cell 8 rfl
                  have y9 := k1.cell 9 rfl
                  have y10 := k1.cell 10 rfl
                  have y11 := k1.cell 11 rfl
                  have y12 := k1.cell 12 rfl
                  have y13 := k1.cell 13 rfl
                  have l1 := k1.lt
                  cases o with
                  | false =>
                    rw [Bool.false_and] at hq
                    subst hq
                    go_wp2_with fail
                    go_ret
                    exact ⟨rfl, B⟩
                  | true =>
                    rw [Bool.true_and] at hq
                    replace hq := Lib.hid hq
                    clear Ho
                    obtain ⟨o, ho⟩ : ∃ o, inB n.lm 1 20 = o := ⟨_, rfl⟩
                    have Ho := Lib.hid ho
                    replace hq := hq.out
                    rw [ho] at hq
                    clear ho
                    go_wp2_with fail
                    refine (inH _ _ _ _ _ Ho).mono ?_
                    rintro e V10 ⟨rfl, hb⟩
                    replace k1 := k1.below hb
                    replace B := bl_then B hb
                    clear y0 y1 y2 y3 y4 y5 y6 y7 y8 y9 y10 y11 y12 y13 l1 hb V9
                    have y0 := k1.cell 0 rfl
                    have y1 := k1.cell 1 rfl
                    have y2 := k1.cell 2 rfl
                    have y3 := k1.cell 3 rfl
                    have y4 := k1.cell 4 rfl
                    have y5 := k1.cell 5 rfl
                    have y6 := k1.cell 6 rfl
                    have y7 := k1.cell 7 rfl
                    have y8 := k1.cell 8 rfl
                    have y9 := k1.cell 9 rfl
                    have y10 := k1.cell 10 rfl
                    have y11 := k1.cell 11 rfl
                    have y12 := k1.cell 12 rfl
                    have y13 := k1.cell 13 rfl
                    have l1 := k1.lt
                    cases o with
                    | false =>
                      rw [Bool.false_and] at hq
                      subst hq
                      go_wp2_with fail
                      go_ret
                      exact ⟨rfl, B⟩
                    | true =>
                      rw [Bool.true_and] at hq
                      replace hq := Lib.hid hq
                      clear Ho
                      obtain ⟨o, ho⟩ : ∃ o, n.votesB = o := ⟨_, rfl⟩
                      have Ho := Lib.hid ho
                      replace hq := hq.out
                      rw [ho] at hq
                      clear ho
                      go_wp2_with fail
                      refine (votes_C n A5 c5 A8 c8 A12 c12 A13 c13 _ hz (H.out.below B) _ Ho).mono ?_
                      rintro e V11 ⟨rfl, hb⟩
                      replace k1 := k1.below hb
                      replace B := bl_then B hb
                      clear y0 y1 y2 y3 y4 y5 y6 y7 y8 y9 y10 y11 y12 y13 l1 hb V10
                      have y0 := k1.cell 0 rfl
                      have y1 := k1.cell 1 rfl
                      have y2 := k1.cell 2 rfl
                      have y3 := k1.cell 3 rfl
                      have y4 := k1.cell 4 rfl
                      have y5 := k1.cell 5 rfl
                      have y6 := k1.cell 6 rfl
                      have y7 := k1.cell 7 rfl
                      have y8 := k1.cell 8 rfl
                      have y9 := k1.cell 9 rfl
                      have y10 := k1.cell 10 rfl
                      have y11 := k1.cell 11 rfl
                      have y12 := k1.cell 12 rfl
                      have y13 := k1.cell 13 rfl
                      have l1 := k1.lt
                      cases o with
                      | false =>
                        rw [Bool.false_and] at hq
                        subst hq
                        go_wp2_with fail
                        go_ret
                        exact ⟨rfl, B⟩
                      | true =>
                        rw [Bool.true_and] at hq
                        replace hq := Lib.hid hq
                        clear Ho
                        go_wp2_with fail
                        refine (peersOk_C n A5 c5 A8 c8 A12 c12 A13 c13 _ hz (H.out.below B) hst (by have := (logOkB_parts HL.out).2.2.1; omega) (conf_ok HK.out HL.out _)).mono ?_
                        rintro e X ⟨rfl, hb⟩
                        replace k1 := k1.below hb
                        replace B := bl_then B hb
                        clear y0 y1 y2 y3 y4 y5 y6 y7 y8 y9 y10 y11 y12 y13 l1 hb V11
                        go_wp2_with fail
                        go_ret
                        exact ⟨by first | rfl | exact ret_bool hq.out, B⟩
end Go.Proofs.Ytallakebnoighaa.PFnExactSettle
end

section
namespace Go.Proofs.Ytallakebnoighaa.PFnExactSettle
open Go.RowKit Go.Proofs.YtallakebnoighaaW.PrintWords
set_option linter.unusedSimpArgs false
set_option linter.unusedVariables false
theorem rows_empty {α : Type} (d : Kd α) (e : TypeId) {w W : World} (hle : w.heap.size ≤ W.heap.size) (ok : Nat → Prop) (hok : ok W.heap.size) : d.R e (W.alloc (.cells #[] e)) w.heap.size ok (.slice (some ⟨W.heap.size, 0, none⟩) 0 0) [] := by
  refine ⟨fun k hk => ?_, [], ?_, Reps.none _ _⟩
  · have : W.heap.size = k := by simpa [Value.ownBlock] using hk
    rw [← this]; exact hok
  · exact World.ownsRow_lit (base := w.heap.size) (e := e) (size := d.sz) W #[] 0 hle (by simp [maxLen]) (by simp)
theorem own_far {α : Type} {d : Kd α} {e base g o : Nat} {ok : Nat → Prop} {W : World} {u v : Value} {xs : List α} (h : d.R e W base ok v xs) (hk : ∀ k, ok k → k ≠ g) : d.R e (W.setCell ⟨g, o, none⟩ u) base ok v xs :=
  Kd.R_far h (p := ⟨g, o, none⟩) (fun k h1 => by show k ≠ g; exact hk k h1) u
theorem eql_nil_cloneE (w : World) (a : Option Addr) (n c : Nat) : (binOp .eql 31 (.slice a n c) (.slice none 0 0)).run Try.prog w = .ok (.bool a.isNone) w := Go.Lib.run_eql_slice_nil w 31 87 a n c 0 0 Try.underlying31
attribute [local go_sem] eql_nil_cloneE
set_option maxHeartbeats 1000000 in
set_option maxRecDepth 100000 in
theorem cloneE_C (A : Option Addr) (c : Nat) (xs : List S87) (w : World) (hr : Kd.C k87 w A xs.length xs) (hc : xs.length ≤ c) (hl : xs.length ≤ 1048576) (hnil : A = none → c = 0) :
    Calls Try.prog 84 #[.slice A xs.length c] w fun e w' => ∃ v, e = .returned v ∧ Kd.R k87 87 w' w.heap.size (fun k => w.heap.size ≤ k) v xs ∧ Below w.heap.size w w' := by
  have HC := Lib.hid hr
  clear hr
  rcases A with _ | ad
  · have h0 := hnil rfl
    have hx : xs = [] := List.eq_nil_of_length_eq_zero (by omega)
    subst hx h0
    go_enter Try.func84, Try.ntmps84
    go_wp2_with fail
    go_ret
    exact ⟨_, rfl, Kd.R_nil _ _ _ _ _, Below.refl _ _⟩
  · have hE := rows_empty k87 87 (w := w) (W := w) (Nat.le_refl _) (fun k => w.heap.size ≤ k) (Nat.le_refl _)
    go_enter Try.func84, Try.ntmps84
    go_wp2_with (first | (refine Kd.R_append_rows (w0 := w) k87 w.heap.size rfl (.tmp 5) (.tmp 6) 31 87 (.agg #[.int .i64 0, .int .i64 0, .string ⟨#[]⟩]) 32 rfl Try.underlying31 (by kernel_rfl) rfl (by decide) (by decide) (.slice (some ⟨w.heap.size, 0, none⟩) 0 0) [] xs (some ad) xs.length c (fun k => w.heap.size ≤ k) (fun _ => False) rfl rfl hE (Kd.C_below HC.out (bl_alloc (Below.refl _ _) _)) (fun x cs hx => by rw [k87_open hx]; exact k87_mkM _ _ _ x) (fun k h => h.elim) (fun k hk => by simp at hk; omega) (bl_alloc (Below.refl _ _) _) (by simp) (by simp; omega) ?_; intro v1 w1 hR1 hB1 hg1 hat1))
    go_ret
    exact ⟨v1, rfl, by simpa using hR1, hB1⟩
theorem eql_nil_cloneP (w : World) (a : Option Addr) (n c : Nat) : (binOp .eql 34 (.slice a n c) (.slice none 0 0)).run Try.prog w = .ok (.bool a.isNone) w := Go.Lib.run_eql_slice_nil w 34 69 a n c 0 0 Try.underlying34
attribute [local go_sem] eql_nil_cloneP
set_option maxHeartbeats 1000000 in
set_option maxRecDepth 100000 in
theorem cloneP_C (A : Option Addr) (c : Nat) (xs : List S69) (w : World) (hr : Kd.C k69 w A xs.length xs) (hc : xs.length ≤ c) (hl : xs.length ≤ 1048576) (hnil : A = none → c = 0) :
    Calls Try.prog 82 #[.slice A xs.length c] w fun e w' => ∃ v, e = .returned v ∧ Kd.R k69 69 w' w.heap.size (fun k => w.heap.size ≤ k) v xs ∧ Below w.heap.size w w' := by
  have HC := Lib.hid hr
  clear hr
  rcases A with _ | ad
  · have h0 := hnil rfl
    have hx : xs = [] := List.eq_nil_of_length_eq_zero (by omega)
    subst hx h0
    go_enter Try.func82, Try.ntmps82
    go_wp2_with fail
    go_ret
    exact ⟨_, rfl, Kd.R_nil _ _ _ _ _, Below.refl _ _⟩
  · have hE := rows_empty k69 69 (w := w) (W := w) (Nat.le_refl _) (fun k => w.heap.size ≤ k) (Nat.le_refl _)
    go_enter Try.func82, Try.ntmps82
    go_wp2_with (first | (refine Kd.R_append_rows (w0 := w) k69 w.heap.size rfl (.tmp 5) (.tmp 6) 34 69 (.agg #[.int .i64 0, .int .i64 0, .int .i64 0, .int .i64 0]) 32 rfl Try.underlying34 (by kernel_rfl) rfl (by decide) (by decide) (.slice (some ⟨w.heap.size, 0, none⟩) 0 0) [] xs (some ad) xs.length c (fun k => w.heap.size ≤ k) (fun _ => False) rfl rfl hE (Kd.C_below HC.out (bl_alloc (Below.refl _ _) _)) (fun x cs hx => by rw [k69_open hx]; exact k69_mkM _ _ _ x) (fun k h => h.elim) (fun k hk => by simp at hk; omega) (bl_alloc (Below.refl _ _) _) (by simp) (by simp; omega) ?_; intro v1 w1 hR1 hB1 hg1 hat1))
    go_ret
    exact ⟨v1, rfl, by simpa using hR1, hB1⟩
set_option maxHeartbeats 1000000 in
set_option maxRecDepth 100000 in
theorem cloneLog_C (s t : Int) (A : Option Addr) (c : Nat) (xs : List S87) (w : World) (hr : Kd.C k87 w A xs.length xs) (hc : xs.length ≤ c) (hl : xs.length ≤ 1048576) (hnil : A = none → c = 0) :
    Calls Try.prog 83 #[.agg #[.int .i64 s, .int .i64 t, .slice A xs.length c]] w fun e w' => (∃ v, e = .returned (.agg #[.int .i64 s, .int .i64 t, v]) ∧ Kd.R k87 87 w' w.heap.size (fun k => w.heap.size + 1 < k) v xs) ∧ Below w.heap.size w w' := by
  have HC := Lib.hid hr
  clear hr
  go_enter Try.func83, Try.ntmps83
  go_wp2_with fail
  refine calls_atC (fun X => Blk 33 w.heap.size #[.int .i64 s, .int .i64 t, .slice A xs.length c] X ∧ Blk 33 (w.heap.size + 1) #[.int .i64 0, .int .i64 0, .slice none 0 0] X ∧ Below w.heap.size w X) ⟨(Blk.new _ _ w).alloc _, Blk.newE _ _ (w.alloc _) (by simp), bl_alloc (bl_alloc (Below.refl _ _) _) _⟩ ?_
  rintro X ⟨k1, k2, hB⟩
  refine (cloneE_C A c xs X (Kd.C_below HC.out hB) hc hl hnil).mono ?_
  rintro e W1 ⟨v, rfl, hR, hB1⟩
  have h2l := k2.lt
  have he : Kd.R k87 87 W1 w.heap.size (fun k => w.heap.size + 1 < k) v xs := Kd.R_mono (Kd.R_lower hR hB.size) (fun k hk => by have : X.heap.size ≤ k := hk; omega)
  replace k1 := k1.below hB1
  replace k2 := k2.below hB1
  have hB2 := bl_then hB hB1
  obtain ⟨A2, c2, rfl, -, -⟩ := Kd.R_reads hR
  have HE := Lib.hid he
  clear he hR hB hB1 h2l X
  have a0 := k1.cell 0 rfl
  have a1 := k1.cell 1 rfl
  have a2 := k1.cell 2 rfl
  have b2 := k1.free 2
  have l1 := k1.lt
  have c0 := k2.cell 0 rfl
  have c1 := k2.cell 1 rfl
  have c2' := k2.cell 2 rfl
  have f0 := k2.free 0
  have f1 := k2.free 1
  have f2 := k2.free 2
  have l2 := k2.lt
  go_wp2_with fail
  have m1 : w.heap.size + 1 ≠ w.heap.size := by omega
  have y0 := k2.far (a := ⟨w.heap.size, 2, none⟩) m1 (.slice A2 xs.length c2)
  have e0 := own_far (g := w.heap.size) (o := 2) (u := .slice A2 xs.length c2) HE.out (fun k hk => by omega)
  have y1 := y0.set 0 (.int .i64 s) (cs' := #[.int .i64 s, .int .i64 0, .slice none 0 0]) rfl
  have e1 := own_far (g := w.heap.size + 1) (o := 0) (u := .int .i64 s) e0 (fun k hk => by omega)
  have y2 := y1.set 1 (.int .i64 t) (cs' := #[.int .i64 s, .int .i64 t, .slice none 0 0]) rfl
  have e2 := own_far (g := w.heap.size + 1) (o := 1) (u := .int .i64 t) e1 (fun k hk => by omega)
  have y3 := y2.set 2 (.slice A2 xs.length c2) (cs' := #[.int .i64 s, .int .i64 t, .slice A2 xs.length c2]) rfl
  have e3 := own_far (g := w.heap.size + 1) (o := 2) (u := .slice A2 xs.length c2) e2 (fun k hk => by omega)
  exact bodyPost_ret (results_cell_row rfl _ _ (w.heap.size + 1) 33 #[.int .i64 s, .int .i64 t, .slice A2 xs.length c2] (0, 0) _ rfl y3 Try.underlying33 rfl (by kernel_rfl)) rfl ⟨⟨_, rfl, e3⟩, bl_set (bl_set (bl_set (bl_set hB2 (Nat.le_refl _)) (Nat.le_succ _)) (Nat.le_succ _)) (Nat.le_succ _)⟩
end Go.Proofs.Ytallakebnoighaa.PFnExactSettle
end

section
namespace Go.Proofs.Ytallakebnoighaa.PFnExactSettle
open Go.RowKit Go.Proofs.YtallakebnoighaaW.PrintWords
set_option linter.unusedSimpArgs false
set_option linter.unusedVariables false
theorem seq_skip {P : Program} {Q : Act → World → Prop} {o : Oper} {r : List Oper} {A : Act} {w w' : World} (h : (execOp A.eval o).run P w = .ok .skip w') (k : seqUpon P Q r (A.put o.dst undef) w') : seqUpon P Q (o :: r) A w := by
  show lastUpon P (seqUpon P Q r) o A ((execOp A.eval o).run P w)
  rw [h]
  exact k
theorem seq_value {P : Program} {Q : Act → World → Prop} {o : Oper} {r : List Oper} {A : Act} {w w' : World} {u : Value} (h : (execOp A.eval o).run P w = .ok (.value u) w') (k : seqUpon P Q r (A.put o.dst u) w') : seqUpon P Q (o :: r) A w := by
  show lastUpon P (seqUpon P Q r) o A ((execOp A.eval o).run P w)
  rw [h]
  exact k
theorem seq_nil {P : Program} {Q : Act → World → Prop} {A : Act} {w : World} (k : Q A w) : seqUpon P Q [] A w := k
theorem seq_at {P : Program} {Q : Act → World → Prop} {l : List Oper} {A : Act} {E : World} (R : World → Prop) (h : R E) (k : ∀ W, R W → seqUpon P Q l A W) : seqUpon P Q l A E := k E h
attribute [local go_sem] flowUpon flowUponL
set_option maxHeartbeats 4000000 in
set_option maxRecDepth 100000 in
theorem cloneNode_C (n : NF) (A5 : Option Addr) (c5 : Nat) (A8 : Option Addr) (c8 : Nat) (A12 : Option Addr) (c12 : Nat) (A13 : Option Addr) (c13 : Nat) (w : World) (hz : NodeZ n) (h : NodeC n A5 c5 A8 c8 A12 c12 A13 c13 w) :
    Calls Try.prog 50 #[.agg #[.int .i64 n.id, .int .i64 n.term, .int .i64 n.vote, .int .i64 n.role, .int .i64 n.lead, .slice A5 n.cf.length c5, .int .i64 n.st, .int .i64 n.tm, .slice A8 n.es.length c8, .int .i64 n.cm, .int .i64 n.ck, .int .i64 n.lm, .slice A12 n.vs.length c12, .slice A13 n.ps.length c13]] w fun e w' => (∃ v5 v8 v12 v13, e = .returned (.agg #[.int .i64 n.id, .int .i64 n.term, .int .i64 n.vote, .int .i64 n.role, .int .i64 n.lead, v5, .int .i64 n.st, .int .i64 n.tm, v8, .int .i64 n.cm, .int .i64 n.ck, .int .i64 n.lm, v12, v13]) ∧ Kd.R (Kd.int .i64) 3 w' w.heap.size (fun k => w.heap.size + 1 < k) v5 n.cf ∧ Kd.R k87 87 w' w.heap.size (fun k => w.heap.size + 1 < k) v8 n.es ∧ Kd.R (Kd.int .i64) 3 w' w.heap.size (fun k => w.heap.size + 1 < k) v12 n.vs ∧ Kd.R k69 69 w' w.heap.size (fun k => w.heap.size + 1 < k) v13 n.ps) ∧ Below w.heap.size w w' := by
  have H := Lib.hid h
  clear h
  go_enter Try.func50, Try.ntmps50
  go_upto_region 1 with fail
  refine wp_atC (fun X => Blk 36 w.heap.size #[.int .i64 n.id, .int .i64 n.term, .int .i64 n.vote, .int .i64 n.role, .int .i64 n.lead, .slice A5 n.cf.length c5, .int .i64 n.st, .int .i64 n.tm, .slice A8 n.es.length c8, .int .i64 n.cm, .int .i64 n.ck, .int .i64 n.lm, .slice A12 n.vs.length c12, .slice A13 n.ps.length c13] X ∧ Blk 36 (w.heap.size + 1) #[.int .i64 0, .int .i64 0, .int .i64 0, .int .i64 0, .int .i64 0, .slice none 0 0, .int .i64 0, .int .i64 0, .slice none 0 0, .int .i64 0, .int .i64 0, .int .i64 0, .slice none 0 0, .slice none 0 0] X ∧ Below w.heap.size w X) ⟨(Blk.new _ _ w).alloc _, Blk.newE _ _ (w.alloc _) (by simp), bl_alloc (bl_alloc (Below.refl _ _) _) _⟩ ?_
  rintro X ⟨k1, k2, B⟩
  have l2 := k2.lt
  have y5 := k1.cell 5 rfl
  have y6 := k1.cell 6 rfl
  have y7 := k1.cell 7 rfl
  have y8 := k1.cell 8 rfl
  have y12 := k1.cell 12 rfl
  have y13 := k1.cell 13 rfl
  have l1 := k1.lt
  refine wp_region_flowT (L := fun A B => Below A.heap.size A B) (M := fun A B => Below A.heap.size A B) (J := fun _ => True) (J1 := fun _ => True) 100 trivial (fun _ _ _ _ => trivial) (fun _ _ _ _ => trivial) (fun a b h => h) (fun w => bl_drew (Below.refl _ _)) (fun a b c h k => bl_then h k) [1] 20 13 (by kernel_rfl) (by rfl) (by kernel_rfl) (by kernel_rfl) (by kernel_rfl) (by kernel_rfl) ?_
  (refine flowT_valE (by decide) ?_; apply Exists.intro; refine ⟨fun A wq hLq hbq hdq => ?_, ?_⟩; focus ((try simp [go_sem, baseF, deps, dep1, Region.binds] at hbq); (try simp [go_sem, baseF, deps, dep1, Region.binds] at hdq); go_simp; first | exact ⟨Below.refl _ _, rfl⟩ | (fail)))
  refine flowT_valE (by decide) ⟨.slice A5 n.cf.length c5, fun A wq hLq hbq hdq => ?_, ?_⟩
  · have kq := k1.below hLq
    have q5 := kq.cell 5 rfl
    (try simp [go_sem, baseF, deps, dep1, Region.binds] at hbq)
    (try simp [go_sem, baseF, deps, dep1, Region.binds] at hdq)
    go_simp
    first | exact Below.refl _ _ | exact ⟨Below.refl _ _, rfl⟩
  refine flowT_R (by decide) (fun W u => Kd.R (Kd.int .i64) 3 W X.heap.size (fun k => X.heap.size ≤ k) u n.cf) (fun _ _ _ h u => Kd.R_below h u) (fun A wq hLq hbq hdq => ?_) ?_
  · (try simp [go_sem, baseF, deps, dep1, Region.binds] at hbq)
    (try simp [go_sem, baseF, deps, dep1, Region.binds] at hdq)
    go_simp
    refine (cloneI_C A5 c5 n.cf wq (H.out.below (bl_then B hLq)).h5 H.out.hc5 hz.cf H.out.hn5).mono ?_
    rintro e w5 ⟨v, rfl, hR, hb5⟩
    have hzq := hLq.size
    have R9 := Kd.R_mono (Kd.R_lower hR hzq) (ok' := fun k => X.heap.size ≤ k) (fun k hk => Nat.le_trans hzq hk)
    first | exact ⟨_, rfl, hb5, R9⟩ | exact ⟨hb5, R9⟩
  (refine flowT_valE (by decide) ?_; apply Exists.intro; refine ⟨fun A wq hLq hbq hdq => ?_, ?_⟩; focus ((try simp [go_sem, baseF, deps, dep1, Region.binds] at hbq); (try simp [go_sem, baseF, deps, dep1, Region.binds] at hdq); go_simp; first | exact ⟨Below.refl _ _, rfl⟩ | (fail)))
  refine flowT_valE (by decide) ⟨.slice A12 n.vs.length c12, fun A wq hLq hbq hdq => ?_, ?_⟩
  · have kq := k1.below hLq
    have q12 := kq.cell 12 rfl
    (try simp [go_sem, baseF, deps, dep1, Region.binds] at hbq)
    (try simp [go_sem, baseF, deps, dep1, Region.binds] at hdq)
    go_simp
    first | exact Below.refl _ _ | exact ⟨Below.refl _ _, rfl⟩
  refine flowT_R (by decide) (fun W u => Kd.R (Kd.int .i64) 3 W X.heap.size (fun k => X.heap.size ≤ k) u n.vs) (fun _ _ _ h u => Kd.R_below h u) (fun A wq hLq hbq hdq => ?_) ?_
  · (try simp [go_sem, baseF, deps, dep1, Region.binds] at hbq)
    (try simp [go_sem, baseF, deps, dep1, Region.binds] at hdq)
    go_simp
    refine (cloneI_C A12 c12 n.vs wq (H.out.below (bl_then B hLq)).h12 H.out.hc12 hz.vs H.out.hn12).mono ?_
    rintro e w5 ⟨v, rfl, hR, hb5⟩
    have hzq := hLq.size
    have R9 := Kd.R_mono (Kd.R_lower hR hzq) (ok' := fun k => X.heap.size ≤ k) (fun k hk => Nat.le_trans hzq hk)
    first | exact ⟨_, rfl, hb5, R9⟩ | exact ⟨hb5, R9⟩
  (refine flowT_valE (by decide) ?_; apply Exists.intro; refine ⟨fun A wq hLq hbq hdq => ?_, ?_⟩; focus ((try simp [go_sem, baseF, deps, dep1, Region.binds] at hbq); (try simp [go_sem, baseF, deps, dep1, Region.binds] at hdq); go_simp; first | exact ⟨Below.refl _ _, rfl⟩ | (fail)))
  refine flowT_valE (by decide) ⟨.slice A13 n.ps.length c13, fun A wq hLq hbq hdq => ?_, ?_⟩
  · have kq := k1.below hLq
    have q13 := kq.cell 13 rfl
    (try simp [go_sem, baseF, deps, dep1, Region.binds] at hbq)
    (try simp [go_sem, baseF, deps, dep1, Region.binds] at hdq)
    go_simp
    first | exact Below.refl _ _ | exact ⟨Below.refl _ _, rfl⟩
  refine flowT_R (by decide) (fun W u => Kd.R k69 69 W X.heap.size (fun k => X.heap.size ≤ k) u n.ps) (fun _ _ _ h u => Kd.R_below h u) (fun A wq hLq hbq hdq => ?_) ?_
  · (try simp [go_sem, baseF, deps, dep1, Region.binds] at hbq)
    (try simp [go_sem, baseF, deps, dep1, Region.binds] at hdq)
    go_simp
    refine (cloneP_C A13 c13 n.ps wq (H.out.below (bl_then B hLq)).h13 H.out.hc13 hz.ps H.out.hn13).mono ?_
    rintro e w5 ⟨v, rfl, hR, hb5⟩
    have hzq := hLq.size
    have R9 := Kd.R_mono (Kd.R_lower hR hzq) (ok' := fun k => X.heap.size ≤ k) (fun k hk => Nat.le_trans hzq hk)
    first | exact ⟨_, rfl, hb5, R9⟩ | exact ⟨hb5, R9⟩
  (refine flowT_valE (by decide) ?_; apply Exists.intro; refine ⟨fun A wq hLq hbq hdq => ?_, ?_⟩; focus ((try simp [go_sem, baseF, deps, dep1, Region.binds] at hbq); (try simp [go_sem, baseF, deps, dep1, Region.binds] at hdq); go_simp; first | exact ⟨Below.refl _ _, rfl⟩ | (fail)))
  refine flowT_valE (by decide) ⟨.agg #[.int .i64 n.st, .int .i64 n.tm, .slice A8 n.es.length c8], fun A wq hLq hbq hdq => ?_, ?_⟩
  · have kq := k1.below hLq
    have q6 := kq.cell 6 rfl
    have q7 := kq.cell 7 rfl
    have q8 := kq.cell 8 rfl
    (try simp [go_sem, baseF, deps, dep1, Region.binds] at hbq)
    (try simp [go_sem, baseF, deps, dep1, Region.binds] at hdq)
    go_simp
    first | exact Below.refl _ _ | exact ⟨Below.refl _ _, rfl⟩
  refine flowT_R (by decide) (fun W u => ∃ v, u = .agg #[.int .i64 n.st, .int .i64 n.tm, v] ∧ Kd.R k87 87 W X.heap.size (fun k => X.heap.size ≤ k) v n.es) (fun _ _ _ ⟨v, h1, h⟩ u => ⟨v, h1, Kd.R_below h u⟩) (fun A wq hLq hbq hdq => ?_) ?_
  · (try simp [go_sem, baseF, deps, dep1, Region.binds] at hbq)
    (try simp [go_sem, baseF, deps, dep1, Region.binds] at hdq)
    go_simp
    refine (cloneLog_C n.st n.tm A8 c8 n.es wq (H.out.below (bl_then B hLq)).h8 H.out.hc8 hz.es H.out.hn8).mono ?_
    rintro e w5 ⟨⟨v, rfl, hR⟩, hb5⟩
    have hzq := hLq.size
    have R9 := Kd.R_mono (Kd.R_lower hR hzq) (ok' := fun k => X.heap.size ≤ k) (fun k hk => by have : wq.heap.size + 1 < k := hk; omega)
    first | exact ⟨_, rfl, hb5, v, rfl, R9⟩ | exact ⟨hb5, v, rfl, R9⟩
  (refine flowT_valE (by decide) ?_; apply Exists.intro; refine ⟨fun A wq hLq hbq hdq => ?_, ?_⟩; focus ((try simp [go_sem, baseF, deps, dep1, Region.binds] at hbq); (try simp [go_sem, baseF, deps, dep1, Region.binds] at hdq); go_simp; first | exact ⟨Below.refl _ _, rfl⟩ | (fail)))
  with_reducible refine flowT_tail ?_
  intro x wq hLq hall hJ1
  simp only [allT] at hall
  obtain ⟨h12, ⟨v8, h11, R8⟩, -, -, R13, -, -, R12, -, -, R5, -⟩ := hall
  obtain ⟨B5, b5, e5, -, -⟩ := Kd.R_reads R5
  obtain ⟨B12, b12, e12, -, -⟩ := Kd.R_reads R12
  obtain ⟨B13, b13, e13, -, -⟩ := Kd.R_reads R13
  obtain ⟨B8, b8, rfl, -, -⟩ := Kd.R_reads R8
  rw [e5] at R5
  rw [e12] at R12
  rw [e13] at R13
  have hok : ∀ k, X.heap.size ≤ k → w.heap.size + 1 < k := fun k hk => by omega
  have HR := Lib.hid (And.intro (Kd.R_mono (Kd.R_lower R5 B.size) hok) (And.intro (Kd.R_mono (Kd.R_lower R8 B.size) hok) (And.intro (Kd.R_mono (Kd.R_lower R12 B.size) hok) (Kd.R_mono (Kd.R_lower R13 B.size) hok))))
  have m1 := k1.below hLq
  have m2 := k2.below hLq
  have B2 := bl_then B hLq
  clear R5 R8 R12 R13 hok k1 k2 B y5 y6 y7 y8 y12 y13
  have y0 := m1.cell 0 rfl
  have y1 := m1.cell 1 rfl
  have y2 := m1.cell 2 rfl
  have y3 := m1.cell 3 rfl
  have y4 := m1.cell 4 rfl
  have y5 := m1.cell 5 rfl
  have y6 := m1.cell 6 rfl
  have y7 := m1.cell 7 rfl
  have y8 := m1.cell 8 rfl
  have y9 := m1.cell 9 rfl
  have y10 := m1.cell 10 rfl
  have y11 := m1.cell 11 rfl
  have y12 := m1.cell 12 rfl
  have y13 := m1.cell 13 rfl
  have z0 := m2.cell 0 rfl
  have z1 := m2.cell 1 rfl
  have z2 := m2.cell 2 rfl
  have z3 := m2.cell 3 rfl
  have z4 := m2.cell 4 rfl
  have z5 := m2.cell 5 rfl
  have z6 := m2.cell 6 rfl
  have z7 := m2.cell 7 rfl
  have z8 := m2.cell 8 rfl
  have z9 := m2.cell 9 rfl
  have z10 := m2.cell 10 rfl
  have z11 := m2.cell 11 rfl
  have z12 := m2.cell 12 rfl
  have z13 := m2.cell 13 rfl
  have yf := fun o => m1.free o
  have zf := fun o => m2.free o
  have ly := m1.lt
  have lz := m2.lt
  refine ⟨?_⟩
  simp [frameOf, Act.put, List.take, h12, h11, e5, e12, e13]
  clear h12 h11 e5 e12 e13

  refine seq_skip (by go_simp; rfl) ?_
  refine seq_at (fun W => Blk 36 w.heap.size #[.int .i64 n.id, .int .i64 n.term, .int .i64 n.vote, .int .i64 n.role, .int .i64 n.lead, .slice B5 n.cf.length b5, .int .i64 n.st, .int .i64 n.tm, .slice A8 n.es.length c8, .int .i64 n.cm, .int .i64 n.ck, .int .i64 n.lm, .slice A12 n.vs.length c12, .slice A13 n.ps.length c13] W ∧ Blk 36 (w.heap.size + 1) #[.int .i64 0, .int .i64 0, .int .i64 0, .int .i64 0, .int .i64 0, .slice none 0 0, .int .i64 0, .int .i64 0, .slice none 0 0, .int .i64 0, .int .i64 0, .int .i64 0, .slice none 0 0, .slice none 0 0] W ∧ Below w.heap.size w W ∧ Kd.R (Kd.int .i64) 3 W w.heap.size (fun k => w.heap.size + 1 < k) (.slice B5 n.cf.length b5) n.cf ∧ Kd.R k87 87 W w.heap.size (fun k => w.heap.size + 1 < k) (.slice B8 n.es.length b8) n.es ∧ Kd.R (Kd.int .i64) 3 W w.heap.size (fun k => w.heap.size + 1 < k) (.slice B12 n.vs.length b12) n.vs ∧ Kd.R k69 69 W w.heap.size (fun k => w.heap.size + 1 < k) (.slice B13 n.ps.length b13) n.ps) ⟨m1.set 5 _ rfl, m2.far (a := ⟨w.heap.size, 5, none⟩) (by show w.heap.size + 1 ≠ w.heap.size; omega) _, bl_set B2 (Nat.le_refl _), own_far HR.out.1 (fun k hk => by omega), own_far HR.out.2.1 (fun k hk => by omega), own_far HR.out.2.2.1 (fun k hk => by omega), own_far HR.out.2.2.2 (fun k hk => by omega)⟩ ?_
  clear m1 m2 B2 HR yf zf ly lz y0 z0 y1 z1 y2 z2 y3 z3 y4 z4 y5 z5 y6 z6 y7 z7 y8 z8 y9 z9 y10 z10 y11 z11 y12 z12 y13 z13
  rintro W1 ⟨m1, m2, B2, hR⟩
  have HR := Lib.hid hR
  clear hR
  have y0 := m1.cell 0 rfl
  have y1 := m1.cell 1 rfl
  have y2 := m1.cell 2 rfl
  have y3 := m1.cell 3 rfl
  have y4 := m1.cell 4 rfl
  have y5 := m1.cell 5 rfl
  have y6 := m1.cell 6 rfl
  have y7 := m1.cell 7 rfl
  have y8 := m1.cell 8 rfl
  have y9 := m1.cell 9 rfl
  have y10 := m1.cell 10 rfl
  have y11 := m1.cell 11 rfl
  have y12 := m1.cell 12 rfl
  have y13 := m1.cell 13 rfl
  have z0 := m2.cell 0 rfl
  have z1 := m2.cell 1 rfl
  have z2 := m2.cell 2 rfl
  have z3 := m2.cell 3 rfl
  have z4 := m2.cell 4 rfl
  have z5 := m2.cell 5 rfl
  have z6 := m2.cell 6 rfl
  have z7 := m2.cell 7 rfl
  have z8 := m2.cell 8 rfl
  have z9 := m2.cell 9 rfl
  have z10 := m2.cell 10 rfl
  have z11 := m2.cell 11 rfl
  have z12 := m2.cell 12 rfl
  have z13 := m2.cell 13 rfl
  have yf := fun o => m1.free o
  have zf := fun o => m2.free o
  have ly := m1.lt
  have lz := m2.lt

  refine seq_value (by go_simp; exact ⟨rfl, rfl⟩) ?_
  refine seq_skip (by go_simp; rfl) ?_
  refine seq_at (fun W => Blk 36 w.heap.size #[.int .i64 n.id, .int .i64 n.term, .int .i64 n.vote, .int .i64 n.role, .int .i64 n.lead, .slice B5 n.cf.length b5, .int .i64 n.st, .int .i64 n.tm, .slice A8 n.es.length c8, .int .i64 n.cm, .int .i64 n.ck, .int .i64 n.lm, .slice B12 n.vs.length b12, .slice A13 n.ps.length c13] W ∧ Blk 36 (w.heap.size + 1) #[.int .i64 0, .int .i64 0, .int .i64 0, .int .i64 0, .int .i64 0, .slice none 0 0, .int .i64 0, .int .i64 0, .slice none 0 0, .int .i64 0, .int .i64 0, .int .i64 0, .slice none 0 0, .slice none 0 0] W ∧ Below w.heap.size w W ∧ Kd.R (Kd.int .i64) 3 W w.heap.size (fun k => w.heap.size + 1 < k) (.slice B5 n.cf.length b5) n.cf ∧ Kd.R k87 87 W w.heap.size (fun k => w.heap.size + 1 < k) (.slice B8 n.es.length b8) n.es ∧ Kd.R (Kd.int .i64) 3 W w.heap.size (fun k => w.heap.size + 1 < k) (.slice B12 n.vs.length b12) n.vs ∧ Kd.R k69 69 W w.heap.size (fun k => w.heap.size + 1 < k) (.slice B13 n.ps.length b13) n.ps) ⟨m1.set 12 _ rfl, m2.far (a := ⟨w.heap.size, 12, none⟩) (by show w.heap.size + 1 ≠ w.heap.size; omega) _, bl_set B2 (Nat.le_refl _), own_far HR.out.1 (fun k hk => by omega), own_far HR.out.2.1 (fun k hk => by omega), own_far HR.out.2.2.1 (fun k hk => by omega), own_far HR.out.2.2.2 (fun k hk => by omega)⟩ ?_
  clear m1 m2 B2 HR yf zf ly lz y0 z0 y1 z1 y2 z2 y3 z3 y4 z4 y5 z5 y6 z6 y7 z7 y8 z8 y9 z9 y10 z10 y11 z11 y12 z12 y13 z13
  rintro W2 ⟨m1, m2, B2, hR⟩
  have HR := Lib.hid hR
  clear hR
  have y0 := m1.cell 0 rfl
  have y1 := m1.cell 1 rfl
  have y2 := m1.cell 2 rfl
  have y3 := m1.cell 3 rfl
  have y4 := m1.cell 4 rfl
  have y5 := m1.cell 5 rfl
  have y6 := m1.cell 6 rfl
  have y7 := m1.cell 7 rfl
  have y8 := m1.cell 8 rfl
  have y9 := m1.cell 9 rfl
  have y10 := m1.cell 10 rfl
  have y11 := m1.cell 11 rfl
  have y12 := m1.cell 12 rfl
  have y13 := m1.cell 13 rfl
  have z0 := m2.cell 0 rfl
  have z1 := m2.cell 1 rfl
  have z2 := m2.cell 2 rfl
  have z3 := m2.cell 3 rfl
  have z4 := m2.cell 4 rfl
  have z5 := m2.cell 5 rfl
  have z6 := m2.cell 6 rfl
  have z7 := m2.cell 7 rfl
  have z8 := m2.cell 8 rfl
  have z9 := m2.cell 9 rfl
  have z10 := m2.cell 10 rfl
  have z11 := m2.cell 11 rfl
  have z12 := m2.cell 12 rfl
  have z13 := m2.cell 13 rfl
  have yf := fun o => m1.free o
  have zf := fun o => m2.free o
  have ly := m1.lt
  have lz := m2.lt

  refine seq_value (by go_simp; exact ⟨rfl, rfl⟩) ?_
  refine seq_skip (by go_simp; rfl) ?_
  refine seq_at (fun W => Blk 36 w.heap.size #[.int .i64 n.id, .int .i64 n.term, .int .i64 n.vote, .int .i64 n.role, .int .i64 n.lead, .slice B5 n.cf.length b5, .int .i64 n.st, .int .i64 n.tm, .slice A8 n.es.length c8, .int .i64 n.cm, .int .i64 n.ck, .int .i64 n.lm, .slice B12 n.vs.length b12, .slice B13 n.ps.length b13] W ∧ Blk 36 (w.heap.size + 1) #[.int .i64 0, .int .i64 0, .int .i64 0, .int .i64 0, .int .i64 0, .slice none 0 0, .int .i64 0, .int .i64 0, .slice none 0 0, .int .i64 0, .int .i64 0, .int .i64 0, .slice none 0 0, .slice none 0 0] W ∧ Below w.heap.size w W ∧ Kd.R (Kd.int .i64) 3 W w.heap.size (fun k => w.heap.size + 1 < k) (.slice B5 n.cf.length b5) n.cf ∧ Kd.R k87 87 W w.heap.size (fun k => w.heap.size + 1 < k) (.slice B8 n.es.length b8) n.es ∧ Kd.R (Kd.int .i64) 3 W w.heap.size (fun k => w.heap.size + 1 < k) (.slice B12 n.vs.length b12) n.vs ∧ Kd.R k69 69 W w.heap.size (fun k => w.heap.size + 1 < k) (.slice B13 n.ps.length b13) n.ps) ⟨m1.set 13 _ rfl, m2.far (a := ⟨w.heap.size, 13, none⟩) (by show w.heap.size + 1 ≠ w.heap.size; omega) _, bl_set B2 (Nat.le_refl _), own_far HR.out.1 (fun k hk => by omega), own_far HR.out.2.1 (fun k hk => by omega), own_far HR.out.2.2.1 (fun k hk => by omega), own_far HR.out.2.2.2 (fun k hk => by omega)⟩ ?_
  clear m1 m2 B2 HR yf zf ly lz y0 z0 y1 z1 y2 z2 y3 z3 y4 z4 y5 z5 y6 z6 y7 z7 y8 z8 y9 z9 y10 z10 y11 z11 y12 z12 y13 z13
  rintro W3 ⟨m1, m2, B2, hR⟩
  have HR := Lib.hid hR
  clear hR
  have y0 := m1.cell 0 rfl
  have y1 := m1.cell 1 rfl
  have y2 := m1.cell 2 rfl
  have y3 := m1.cell 3 rfl
  have y4 := m1.cell 4 rfl
  have y5 := m1.cell 5 rfl
  have y6 := m1.cell 6 rfl
  have y7 := m1.cell 7 rfl
  have y8 := m1.cell 8 rfl
  have y9 := m1.cell 9 rfl
  have y10 := m1.cell 10 rfl
  have y11 := m1.cell 11 rfl
  have y12 := m1.cell 12 rfl
  have y13 := m1.cell 13 rfl
  have z0 := m2.cell 0 rfl
  have z1 := m2.cell 1 rfl
  have z2 := m2.cell 2 rfl
  have z3 := m2.cell 3 rfl
  have z4 := m2.cell 4 rfl
  have z5 := m2.cell 5 rfl
  have z6 := m2.cell 6 rfl
  have z7 := m2.cell 7 rfl
  have z8 := m2.cell 8 rfl
  have z9 := m2.cell 9 rfl
  have z10 := m2.cell 10 rfl
  have z11 := m2.cell 11 rfl
  have z12 := m2.cell 12 rfl
  have z13 := m2.cell 13 rfl
  have yf := fun o => m1.free o
  have zf := fun o => m2.free o
  have ly := m1.lt
  have lz := m2.lt

  refine seq_value (by go_simp; exact ⟨rfl, rfl⟩) ?_
  refine seq_skip (by go_simp; rfl) ?_
  refine seq_at (fun W => Blk 36 w.heap.size #[.int .i64 n.id, .int .i64 n.term, .int .i64 n.vote, .int .i64 n.role, .int .i64 n.lead, .slice B5 n.cf.length b5, .int .i64 n.st, .int .i64 n.tm, .slice B8 n.es.length b8, .int .i64 n.cm, .int .i64 n.ck, .int .i64 n.lm, .slice B12 n.vs.length b12, .slice B13 n.ps.length b13] W ∧ Blk 36 (w.heap.size + 1) #[.int .i64 0, .int .i64 0, .int .i64 0, .int .i64 0, .int .i64 0, .slice none 0 0, .int .i64 0, .int .i64 0, .slice none 0 0, .int .i64 0, .int .i64 0, .int .i64 0, .slice none 0 0, .slice none 0 0] W ∧ Below w.heap.size w W ∧ Kd.R (Kd.int .i64) 3 W w.heap.size (fun k => w.heap.size + 1 < k) (.slice B5 n.cf.length b5) n.cf ∧ Kd.R k87 87 W w.heap.size (fun k => w.heap.size + 1 < k) (.slice B8 n.es.length b8) n.es ∧ Kd.R (Kd.int .i64) 3 W w.heap.size (fun k => w.heap.size + 1 < k) (.slice B12 n.vs.length b12) n.vs ∧ Kd.R k69 69 W w.heap.size (fun k => w.heap.size + 1 < k) (.slice B13 n.ps.length b13) n.ps) ⟨((m1.set 6 (.int .i64 n.st) rfl).set 7 (.int .i64 n.tm) rfl).set 8 (.slice B8 n.es.length b8) rfl, ((m2.far (a := ⟨w.heap.size, 6, none⟩) (by show w.heap.size + 1 ≠ w.heap.size; omega) (.int .i64 n.st)).far (a := ⟨w.heap.size, 7, none⟩) (by show w.heap.size + 1 ≠ w.heap.size; omega) (.int .i64 n.tm)).far (a := ⟨w.heap.size, 8, none⟩) (by show w.heap.size + 1 ≠ w.heap.size; omega) _, bl_set (bl_set (bl_set B2 (Nat.le_refl _)) (Nat.le_refl _)) (Nat.le_refl _), own_far (own_far (own_far HR.out.1 (fun k hk => by omega)) (fun k hk => by omega)) (fun k hk => by omega), own_far (own_far (own_far HR.out.2.1 (fun k hk => by omega)) (fun k hk => by omega)) (fun k hk => by omega), own_far (own_far (own_far HR.out.2.2.1 (fun k hk => by omega)) (fun k hk => by omega)) (fun k hk => by omega), own_far (own_far (own_far HR.out.2.2.2 (fun k hk => by omega)) (fun k hk => by omega)) (fun k hk => by omega)⟩ ?_
  clear m1 m2 B2 HR yf zf ly lz y0 z0 y1 z1 y2 z2 y3 z3 y4 z4 y5 z5 y6 z6 y7 z7 y8 z8 y9 z9 y10 z10 y11 z11 y12 z12 y13 z13
  rintro W4 ⟨m1, m2, B2, hR⟩
  have HR := Lib.hid hR
  clear hR
  have y0 := m1.cell 0 rfl
  have y1 := m1.cell 1 rfl
  have y2 := m1.cell 2 rfl
  have y3 := m1.cell 3 rfl
  have y4 := m1.cell 4 rfl
  have y5 := m1.cell 5 rfl
  have y6 := m1.cell 6 rfl
  have y7 := m1.cell 7 rfl
  have y8 := m1.cell 8 rfl
  have y9 := m1.cell 9 rfl
  have y10 := m1.cell 10 rfl
  have y11 := m1.cell 11 rfl
  have y12 := m1.cell 12 rfl
  have y13 := m1.cell 13 rfl
  have z0 := m2.cell 0 rfl
  have z1 := m2.cell 1 rfl
  have z2 := m2.cell 2 rfl
  have z3 := m2.cell 3 rfl
  have z4 := m2.cell 4 rfl
  have z5 := m2.cell 5 rfl
  have z6 := m2.cell 6 rfl
  have z7 := m2.cell 7 rfl
  have z8 := m2.cell 8 rfl
  have z9 := m2.cell 9 rfl
  have z10 := m2.cell 10 rfl
  have z11 := m2.cell 11 rfl
  have z12 := m2.cell 12 rfl
  have z13 := m2.cell 13 rfl
  have yf := fun o => m1.free o
  have zf := fun o => m2.free o
  have ly := m1.lt
  have lz := m2.lt
  refine seq_nil ?_
  simp only [Act.put]
  go_wp2_with fail
  have hR := HR.out
  refine bodyPost_ret (v := .agg #[.int .i64 n.id, .int .i64 n.term, .int .i64 n.vote, .int .i64 n.role, .int .i64 n.lead, .slice B5 n.cf.length b5, .int .i64 n.st, .int .i64 n.tm, .slice B8 n.es.length b8, .int .i64 n.cm, .int .i64 n.ck, .int .i64 n.lm, .slice B12 n.vs.length b12, .slice B13 n.ps.length b13]) ?_ rfl ⟨⟨_, _, _, _, rfl, ?_, ?_, ?_, ?_⟩, ?_⟩
  · simp only [results, Try.results50]
    go_simp
  · iterate 14 refine own_far ?_ (fun k hk => by omega)
    exact hR.1
  · iterate 14 refine own_far ?_ (fun k hk => by omega)
    exact hR.2.1
  · iterate 14 refine own_far ?_ (fun k hk => by omega)
    exact hR.2.2.1
  · iterate 14 refine own_far ?_ (fun k hk => by omega)
    exact hR.2.2.2
  · iterate 14 refine bl_set ?_ (Nat.le_succ _)
    exact B2
end Go.Proofs.Ytallakebnoighaa.PFnExactSettle
end

section
namespace Go.Proofs.Ytallakebnoighaa.PFnExactSettle
open Go.RowKit Go.Proofs.YtallakebnoighaaW.PrintWords
set_option linter.unusedSimpArgs false
set_option linter.unusedVariables false
set_option maxHeartbeats 4000000 in
set_option maxRecDepth 100000 in
theorem confAt_C (n : NF) (idx : Int) (A5 : Option Addr) (c5 : Nat) (A8 : Option Addr) (c8 : Nat) (A12 : Option Addr) (c12 : Nat) (A13 : Option Addr) (c13 : Nat) (w : World) (hz : NodeZ n) (h : NodeC n A5 c5 A8 c8 A12 c12 A13 c13 w) (hst : 0 ≤ n.st ∧ n.st ≤ 2000000) (hel : n.es.length ≤ 1000000) :
    Calls Try.prog 23 #[.agg #[.int .i64 n.id, .int .i64 n.term, .int .i64 n.vote, .int .i64 n.role, .int .i64 n.lead, .slice A5 n.cf.length c5, .int .i64 n.st, .int .i64 n.tm, .slice A8 n.es.length c8, .int .i64 n.cm, .int .i64 n.ck, .int .i64 n.lm, .slice A12 n.vs.length c12, .slice A13 n.ps.length c13], .int .i64 idx] w fun e w' => (∃ v, e = .returned v ∧ Kd.R (Kd.int .i64) 3 w' w.heap.size (fun k => w.heap.size ≤ k) v (confAt n.cf n.st idx n.es)) ∧ Below w.heap.size w w' := by
  have H := Lib.hid h
  have hc8 := h.hc8
  clear h
  go_enter Try.func23, Try.ntmps23
  go_wp2_with fail
  have B0 : Below w.heap.size w (w.alloc (.cells #[.int .i64 n.id, .int .i64 n.term, .int .i64 n.vote, .int .i64 n.role, .int .i64 n.lead, .slice A5 n.cf.length c5, .int .i64 n.st, .int .i64 n.tm, .slice A8 n.es.length c8, .int .i64 n.cm, .int .i64 n.ck, .int .i64 n.lm, .slice A12 n.vs.length c12, .slice A13 n.ps.length c13] 36)) := bl_alloc (Below.refl _ _) _
  have H2 := H.out.below B0
  refine (confIn_C n.id n.term n.vote n.role n.lead A5 c5 n.cf n.st n.tm A8 c8 n.es n.cm n.ck n.lm A12 n.vs.length c12 A13 n.ps.length c13 idx _ H2.h5 H2.hc5 hz.cf H2.hn5 H2.h8 hc8 hz.sh hel hst).mono ?_
  rintro e W5 ⟨⟨v, rfl, hR⟩, hb⟩
  obtain ⟨A9, c9, rfl, -, -⟩ := Kd.R_reads hR
  have HR := Lib.hid hR
  clear hR
  go_wp2_with fail
  go_ret
  exact ⟨⟨_, rfl, Kd.R_mono (Kd.R_lower HR.out B0.size) (fun k hk => Nat.le_trans B0.size hk)⟩, bl_then B0 hb⟩
end Go.Proofs.Ytallakebnoighaa.PFnExactSettle
end

section
namespace Go.Proofs.Ytallakebnoighaa.PFnExactSettle
open Go.RowKit Go.Proofs.YtallakebnoighaaW.PrintWords Go.Proofs.YtallakebnoighaaW.PrintLast Go.Proofs.YtallakebnoighaaW.PrintMore
set_option linter.unusedVariables false
set_option linter.unusedSimpArgs false
def impl_entryAt.f (a0_0 : Int) (a0_1 : Int) (l0_2 : List (S87)) (a1 : Int) : Option (Int) := if a1 ≤ a0_0 then (some (-1)) else ((impl_in.f (wrap64 (a1 - a0_0)) 1 (l0_2.length : Int)).bind fun t383 => (if t383 = true then (some (wrap64 ((wrap64 (a1 - a0_0)) - 1))) else (some (-1))))
set_option maxHeartbeats 8000000 in
set_option maxRecDepth 100000 in
theorem impl_entryAt.calls (a0_0 : Int) (a0_1 : Int) (A0_2 : Option Addr) (c0_2 : Nat) (l0_2 : List (S87)) (a1 : Int) (r : Int) (w : World) (hr0_2 : Kd.C k87 w A0_2 l0_2.length l0_2) (hc0_2 : l0_2.length ≤ c0_2) (h : impl_entryAt.f a0_0 a0_1 l0_2 a1 = some r) :
    Calls Try.prog 85 #[.agg #[.int .i64 a0_0, .int .i64 a0_1, .slice A0_2 l0_2.length c0_2], .int .i64 a1] w fun e w' => e = .returned (.int .i64 r) ∧ Below w.heap.size w w' := by
  have hu33 := Try.underlying33
  have HR0_2 := Aside0.mk hr0_2
  have HC0_2 := Aside0.mk hc0_2
  clear hr0_2 hc0_2
  have HB := Aside0.mk (Below.refl w.heap.size w)
  have H : (if a1 ≤ a0_0 then (some (-1)) else ((impl_in.f (wrap64 (a1 - a0_0)) 1 (l0_2.length : Int)).bind fun t383 => (if t383 = true then (some (wrap64 ((wrap64 (a1 - a0_0)) - 1))) else (some (-1))))) = some r := h
  clear h
  by_cases c3 : a1 ≤ a0_0
  · rw [if_pos c3] at H
    have c3b0 : decide (a1 ≤ a0_0) = true := decide_eq_true c3
    clear c3
    obtain rfl := Option.some.inj H
    go_enter Try.func85, Try.ntmps85
    go_wp2_with (first | ((with_reducible refine gate_dst (N := 2) rfl ?_); (try (refine gate_guard (by rfl) ?_; dsimp only)); refine box_event ?hg (N := 2) ?hd (cs := #[.int .i64 a0_0, .int .i64 a0_1, .slice A0_2 l0_2.length c0_2]) (t := 33) ?hr ?_; (case hd => rfl); (case hg => rfl); (case hr => first | (go_simp; done) | (go_simp; rfl)); intro gb382 hg w4 hbox hb; have n0_ := Aside0.mk (below_step (by repeat (first | (with_reducible first | exact HB.out | apply below_alloc | apply pw_below_drewN | apply below_drew1) | exact HB.out)) hb); have n1_ := Aside0.mk (hbox); have n2_ := Aside0.mk ((by rw [hg]; exact (below_size (by repeat (first | (with_reducible first | exact HB.out | apply below_alloc | apply pw_below_drewN | apply below_drew1) | exact HB.out))) : w.heap.size ≤ gb382)); have n3_ := Aside0.mk ((by rw [hg]; exact (below_size (by repeat (first | (with_reducible first | exact HB.out | apply below_alloc | apply pw_below_drewN | apply below_drew1) | exact HB.out))) : w.heap.size ≤ gb382)); clear HB; have HB := n0_; have BK382 := n1_; have GW382 := n2_; have GE382 := n3_; clear n0_ n1_ n2_ n3_; clear hb hbox hg; have hcz5_0 : w4.cell? ⟨gb382, 0, none⟩ = some (.int .i64 a0_0) := (blk_cell BK382.out 0).trans rfl; have hcz5_1 : w4.cell? ⟨gb382, 1, none⟩ = some (.int .i64 a0_1) := (blk_cell BK382.out 1).trans rfl; have hcz5_2 : w4.cell? ⟨gb382, 2, none⟩ = some (.slice A0_2 l0_2.length c0_2) := (blk_cell BK382.out 2).trans rfl; have hfz5_0 := blk_frozen BK382.out 0; have hfz5_1 := blk_frozen BK382.out 1; have hfz5_2 := blk_frozen BK382.out 2))
    go_ret
    exact ⟨by first | rfl | (simp [errW_none, errW_some] <;> rfl) | (simp [*, errW_none, errW_some] <;> rfl), by repeat (first | (with_reducible first | exact HB.out | apply below_alloc | apply pw_below_drewN | apply below_drew1 | refine below_set ?_ GE382.out) | exact HB.out)⟩
  · rw [if_neg c3] at H
    have c3b0 : decide (a1 ≤ a0_0) = false := decide_eq_false c3
    clear c3
    replace H := Option.bind_eq_some_iff.mp H
    obtain ⟨t383, A60, H⟩ := H
    replace H : (if t383 = true then (some (wrap64 ((wrap64 (a1 - a0_0)) - 1))) else (some (-1))) = some r := H
    have A6 := Aside0.mk A60
    clear A60
    by_cases c7 : t383 = true
    · subst c7
      have H1 : (some (wrap64 ((wrap64 (a1 - a0_0)) - 1))) = some r := by rw [if_pos rfl] at H; exact H
      clear H
      have H := H1
      clear H1
      obtain rfl := Option.some.inj H
      go_enter Try.func85, Try.ntmps85
      go_wp2_with (first | ((with_reducible refine gate_dst (N := 2) rfl ?_); (try (refine gate_guard (by rfl) ?_; dsimp only)); refine box_event ?hg (N := 2) ?hd (cs := #[.int .i64 a0_0, .int .i64 a0_1, .slice A0_2 l0_2.length c0_2]) (t := 33) ?hr ?_; (case hd => rfl); (case hg => rfl); (case hr => first | (go_simp; done) | (go_simp; rfl)); intro gb382 hg w8 hbox hb; have n0_ := Aside0.mk (below_step (by repeat (first | (with_reducible first | exact HB.out | apply below_alloc | apply pw_below_drewN | apply below_drew1) | exact HB.out)) hb); have n1_ := Aside0.mk (hbox); have n2_ := Aside0.mk ((by rw [hg]; exact (below_size (by repeat (first | (with_reducible first | exact HB.out | apply below_alloc | apply pw_below_drewN | apply below_drew1) | exact HB.out))) : w.heap.size ≤ gb382)); have n3_ := Aside0.mk ((by rw [hg]; exact (below_size (by repeat (first | (with_reducible first | exact HB.out | apply below_alloc | apply pw_below_drewN | apply below_drew1) | exact HB.out))) : w.heap.size ≤ gb382)); clear HB; have HB := n0_; have BK382 := n1_; have GW382 := n2_; have GE382 := n3_; clear n0_ n1_ n2_ n3_; clear hb hbox hg; have hcz9_0 : w8.cell? ⟨gb382, 0, none⟩ = some (.int .i64 a0_0) := (blk_cell BK382.out 0).trans rfl; have hcz9_1 : w8.cell? ⟨gb382, 1, none⟩ = some (.int .i64 a0_1) := (blk_cell BK382.out 1).trans rfl; have hcz9_2 : w8.cell? ⟨gb382, 2, none⟩ = some (.slice A0_2 l0_2.length c0_2) := (blk_cell BK382.out 2).trans rfl; have hfz9_0 := blk_frozen BK382.out 0; have hfz9_1 := blk_frozen BK382.out 1; have hfz9_2 := blk_frozen BK382.out 2) | (go_at_call 37; (with_reducible refine (impl_in.calls (wrap64 (a1 - a0_0)) 1 (l0_2.length : Int) true _ A6.out).mono ?_); rintro e w' ⟨rfl, ⟨nd, rfl⟩⟩))
      go_ret
      exact ⟨by first | rfl | (simp [errW_none, errW_some] <;> rfl) | (simp [*, errW_none, errW_some] <;> rfl), by repeat (first | (with_reducible first | exact HB.out | apply below_alloc | apply pw_below_drewN | apply below_drew1 | refine below_set ?_ GE382.out) | exact HB.out)⟩
    · replace c7 := Bool.eq_false_iff.mpr c7
      subst c7
      have H1 : (some (-1)) = some r := by rw [if_neg (show ¬ (false = true) by decide)] at H; exact H
      clear H
      have H := H1
      clear H1
      obtain rfl := Option.some.inj H
      go_enter Try.func85, Try.ntmps85
      go_wp2_with (first | ((with_reducible refine gate_dst (N := 2) rfl ?_); (try (refine gate_guard (by rfl) ?_; dsimp only)); refine box_event ?hg (N := 2) ?hd (cs := #[.int .i64 a0_0, .int .i64 a0_1, .slice A0_2 l0_2.length c0_2]) (t := 33) ?hr ?_; (case hd => rfl); (case hg => rfl); (case hr => first | (go_simp; done) | (go_simp; rfl)); intro gb382 hg w10 hbox hb; have n0_ := Aside0.mk (below_step (by repeat (first | (with_reducible first | exact HB.out | apply below_alloc | apply pw_below_drewN | apply below_drew1) | exact HB.out)) hb); have n1_ := Aside0.mk (hbox); have n2_ := Aside0.mk ((by rw [hg]; exact (below_size (by repeat (first | (with_reducible first | exact HB.out | apply below_alloc | apply pw_below_drewN | apply below_drew1) | exact HB.out))) : w.heap.size ≤ gb382)); have n3_ := Aside0.mk ((by rw [hg]; exact (below_size (by repeat (first | (with_reducible first | exact HB.out | apply below_alloc | apply pw_below_drewN | apply below_drew1) | exact HB.out))) : w.heap.size ≤ gb382)); clear HB; have HB := n0_; have BK382 := n1_; have GW382 := n2_; have GE382 := n3_; clear n0_ n1_ n2_ n3_; clear hb hbox hg; have hcz11_0 : w10.cell? ⟨gb382, 0, none⟩ = some (.int .i64 a0_0) := (blk_cell BK382.out 0).trans rfl; have hcz11_1 : w10.cell? ⟨gb382, 1, none⟩ = some (.int .i64 a0_1) := (blk_cell BK382.out 1).trans rfl; have hcz11_2 : w10.cell? ⟨gb382, 2, none⟩ = some (.slice A0_2 l0_2.length c0_2) := (blk_cell BK382.out 2).trans rfl; have hfz11_0 := blk_frozen BK382.out 0; have hfz11_1 := blk_frozen BK382.out 1; have hfz11_2 := blk_frozen BK382.out 2) | (go_at_call 37; (with_reducible refine (impl_in.calls (wrap64 (a1 - a0_0)) 1 (l0_2.length : Int) false _ A6.out).mono ?_); rintro e w' ⟨rfl, ⟨nd, rfl⟩⟩))
      go_ret
      exact ⟨by first | rfl | (simp [errW_none, errW_some] <;> rfl) | (simp [*, errW_none, errW_some] <;> rfl), by repeat (first | (with_reducible first | exact HB.out | apply below_alloc | apply pw_below_drewN | apply below_drew1 | refine below_set ?_ GE382.out) | exact HB.out)⟩
end Go.Proofs.Ytallakebnoighaa.PFnExactSettle
end
