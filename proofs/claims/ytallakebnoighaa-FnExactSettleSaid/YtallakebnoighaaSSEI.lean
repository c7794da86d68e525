import Derived.Test.YtallakebnoighaaSSEA
import Derived.Test.YtallakebnoighaaSSEH
import Derived.Test.YtallakebnoighaaSSEF

section
namespace Go.Proofs.Ytallakebnoighaa.PFnExactSettle
open Go.RowKit Go.Proofs.YtallakebnoighaaW.PrintWords Go.Proofs.YtallakebnoighaaW.PrintLast Go.Proofs.YtallakebnoighaaW.PrintMore
set_option linter.unusedVariables false
set_option linter.unusedSimpArgs false
def impl_LogTerm.f (a0_0 : Int) (a0_1 : Int) (l0_2 : List (S87)) (a1 : Int) : Option (Int) := if a1 = a0_0 then (some a0_1) else ((impl_entryAt.f a0_0 a0_1 l0_2 a1).bind fun t385 => (if t385 < 0 then (some (-1)) else (if 0 ≤ t385 then (if t385 < (l0_2.length : Int) then (some ((rd_T87 l0_2 t385).f0)) else (none)) else (none))))
set_option maxHeartbeats 8000000 in
set_option maxRecDepth 100000 in
theorem impl_LogTerm.calls (a0_0 : Int) (a0_1 : Int) (A0_2 : Option Addr) (c0_2 : Nat) (l0_2 : List (S87)) (a1 : Int) (r : Int) (w : World) (hr0_2 : Kd.C k87 w A0_2 l0_2.length l0_2) (hc0_2 : l0_2.length ≤ c0_2) (h : impl_LogTerm.f a0_0 a0_1 l0_2 a1 = some r) :
    Calls Try.prog 52 #[.agg #[.int .i64 a0_0, .int .i64 a0_1, .slice A0_2 l0_2.length c0_2], .int .i64 a1] w fun e w' => e = .returned (.int .i64 r) ∧ Below w.heap.size w w' := by
  have hu33 := Try.underlying33
  have HR0_2 := Aside0.mk hr0_2
  have HC0_2 := Aside0.mk hc0_2
  clear hr0_2 hc0_2
  have HB := Aside0.mk (Below.refl w.heap.size w)
  have H : (if a1 = a0_0 then (some a0_1) else ((impl_entryAt.f a0_0 a0_1 l0_2 a1).bind fun t385 => (if t385 < 0 then (some (-1)) else (if 0 ≤ t385 then (if t385 < (l0_2.length : Int) then (some ((rd_T87 l0_2 t385).f0)) else (none)) else (none))))) = some r := h
  clear h
  by_cases c3 : a1 = a0_0
  · rw [if_pos c3] at H
    have c3b0 : (a1 == a0_0) = true := beq_iff_eq.mpr c3
    have c3b1 : (a1 != a0_0) = false := bne_eq_false_iff_eq.mpr c3
    clear c3
    obtain rfl := Option.some.inj H
    go_enter Try.func52, Try.ntmps52
    go_wp2_with (first | ((with_reducible refine gate_dst (N := 2) rfl ?_); refine box_event ?hg (N := 2) ?hd (cs := #[.int .i64 a0_0, .int .i64 a0_1, .slice A0_2 l0_2.length c0_2]) (t := 33) ?hr ?_; (case hd => rfl); (case hg => rfl); (case hr => first | (go_simp; done) | (go_simp; rfl)); intro gb384 hg w4 hbox hb; have n0_ := Aside0.mk (below_step (by repeat (first | (with_reducible first | exact HB.out | apply below_alloc | apply pw_below_drewN | apply below_drew1) | exact HB.out)) hb); have n1_ := Aside0.mk (hbox); have n2_ := Aside0.mk ((by rw [hg]; exact (below_size (by repeat (first | (with_reducible first | exact HB.out | apply below_alloc | apply pw_below_drewN | apply below_drew1) | exact HB.out))) : w.heap.size ≤ gb384)); have n3_ := Aside0.mk ((by rw [hg]; exact (below_size (by repeat (first | (with_reducible first | exact HB.out | apply below_alloc | apply pw_below_drewN | apply below_drew1) | exact HB.out))) : w.heap.size ≤ gb384)); clear HB; have HB := n0_; have BK384 := n1_; have GW384 := n2_; have GE384 := n3_; clear n0_ n1_ n2_ n3_; clear hb hbox hg; have hcz5_0 : w4.cell? ⟨gb384, 0, none⟩ = some (.int .i64 a0_0) := (blk_cell BK384.out 0).trans rfl; have hcz5_1 : w4.cell? ⟨gb384, 1, none⟩ = some (.int .i64 a0_1) := (blk_cell BK384.out 1).trans rfl; have hcz5_2 : w4.cell? ⟨gb384, 2, none⟩ = some (.slice A0_2 l0_2.length c0_2) := (blk_cell BK384.out 2).trans rfl; have hfz5_0 := blk_frozen BK384.out 0; have hfz5_1 := blk_frozen BK384.out 1; have hfz5_2 := blk_frozen BK384.out 2))
    go_ret
    exact ⟨by first | rfl | (simp [errW_none, errW_some] <;> rfl) | (simp [*, errW_none, errW_some] <;> rfl), by repeat (first | (with_reducible first | exact HB.out | apply below_alloc | apply pw_below_drewN | apply below_drew1 | refine below_set ?_ GE384.out) | exact HB.out)⟩
  · rw [if_neg c3] at H
    have c3b0 : (a1 == a0_0) = false := beq_eq_false_iff_ne.mpr c3
    have c3b1 : (a1 != a0_0) = true := bne_iff_ne.mpr c3
    replace H := Option.bind_eq_some_iff.mp H
    obtain ⟨t385, A60, H⟩ := H
    replace H : (if t385 < 0 then (some (-1)) else (if 0 ≤ t385 then (if t385 < (l0_2.length : Int) then (some ((rd_T87 l0_2 t385).f0)) else (none)) else (none))) = some r := H
    have A6 := Aside0.mk A60
    clear A60
    by_cases c7 : t385 < 0
    · rw [if_pos c7] at H
      have c7b0 : decide (t385 < 0) = true := decide_eq_true c7
      clear c7
      obtain rfl := Option.some.inj H
      go_enter Try.func52, Try.ntmps52
      go_wp2_with (first | ((with_reducible refine gate_dst (N := 2) rfl ?_); refine box_event ?hg (N := 2) ?hd (cs := #[.int .i64 a0_0, .int .i64 a0_1, .slice A0_2 l0_2.length c0_2]) (t := 33) ?hr ?_; (case hd => rfl); (case hg => rfl); (case hr => first | (go_simp; done) | (go_simp; rfl)); intro gb384 hg w8 hbox hb; have n0_ := Aside0.mk (below_step (by repeat (first | (with_reducible first | exact HB.out | apply below_alloc | apply pw_below_drewN | apply below_drew1) | exact HB.out)) hb); have n1_ := Aside0.mk (hbox); have n2_ := Aside0.mk ((by rw [hg]; exact (below_size (by repeat (first | (with_reducible first | exact HB.out | apply below_alloc | apply pw_below_drewN | apply below_drew1) | exact HB.out))) : w.heap.size ≤ gb384)); have n3_ := Aside0.mk ((by rw [hg]; exact (below_size (by repeat (first | (with_reducible first | exact HB.out | apply below_alloc | apply pw_below_drewN | apply below_drew1) | exact HB.out))) : w.heap.size ≤ gb384)); clear HB; have HB := n0_; have BK384 := n1_; have GW384 := n2_; have GE384 := n3_; clear n0_ n1_ n2_ n3_; clear hb hbox hg; have hcz9_0 : w8.cell? ⟨gb384, 0, none⟩ = some (.int .i64 a0_0) := (blk_cell BK384.out 0).trans rfl; have hcz9_1 : w8.cell? ⟨gb384, 1, none⟩ = some (.int .i64 a0_1) := (blk_cell BK384.out 1).trans rfl; have hcz9_2 : w8.cell? ⟨gb384, 2, none⟩ = some (.slice A0_2 l0_2.length c0_2) := (blk_cell BK384.out 2).trans rfl; have hfz9_0 := blk_frozen BK384.out 0; have hfz9_1 := blk_frozen BK384.out 1; have hfz9_2 := blk_frozen BK384.out 2) | ((with_reducible refine gate_callee (f := 85) rfl ?_); refine goesL_ (some 14) rfl rfl Try.func85 (by kernel_rfl) rfl #[.agg #[.int .i64 a0_0, .int .i64 a0_1, .slice A0_2 l0_2.length c0_2], .int .i64 a1] rfl (by (try simp only [List.map_toArray, List.map_cons, List.map_nil]); first | done | rfl | (simp only [List.length_drop, List.length_take]; rfl)) ?_; (with_reducible refine (impl_entryAt.calls a0_0 a0_1 _ _ l0_2 a1 t385 _ ?side1 ?side2 A6.out).mono ?_); (case side1 => repeat (first | exact (Kd.C_below HR0_2.out HB.out) | (with_reducible refine Kd.C_alloc ?_ _) | (with_reducible refine Kd.C_drewN ?_ _) | (with_reducible refine Kd.C_drew ?_))); (case side2 => exact HC0_2.out); rintro e w10 ⟨rfl, hb⟩; refine ⟨_, rfl, ?_⟩; have n0_ := Aside0.mk (blk_below (g := gb384) (o := .cells #[.int .i64 a0_0, .int .i64 a0_1, .slice A0_2 l0_2.length c0_2] 33 (0, 0)) (by (with_reducible repeat (first | refine blk_drewN ?_ _ | refine blk_drew ?_ | refine blk_alloc ?_ _)); exact BK384.out) hb); have n1_ := Aside0.mk (below_step (by repeat (first | (with_reducible first | exact HB.out | apply below_alloc | apply pw_below_drewN | apply below_drew1 | refine below_set ?_ GE384.out) | exact HB.out)) hb); clear BK384; clear HB; have BK384 := n0_; have HB := n1_; clear n0_ n1_; (try clear hb); (try clear hb2); (try clear hk); (try clear hi)))
      go_ret
      exact ⟨by first | rfl | (simp [errW_none, errW_some] <;> rfl) | (simp [*, errW_none, errW_some] <;> rfl), by repeat (first | (with_reducible first | exact HB.out | apply below_alloc | apply pw_below_drewN | apply below_drew1 | refine below_set ?_ GE384.out) | exact HB.out)⟩
    · rw [if_neg c7] at H
      have c7b0 : decide (t385 < 0) = false := decide_eq_false c7
      clear c7
      by_cases c11 : 0 ≤ t385
      · rw [if_pos c11] at H
        have c11b0 : decide (0 ≤ t385) = true := decide_eq_true c11
        clear c11
        by_cases c12 : t385 < (l0_2.length : Int)
        · rw [if_pos c12] at H
          have c12b0 : decide (t385 < (l0_2.length : Int)) = true := decide_eq_true c12
          clear c12
          obtain rfl := Option.some.inj H
          go_enter Try.func52, Try.ntmps52
          go_wp2_with (first | ((with_reducible refine gate_dst (N := 2) rfl ?_); refine box_event ?hg (N := 2) ?hd (cs := #[.int .i64 a0_0, .int .i64 a0_1, .slice A0_2 l0_2.length c0_2]) (t := 33) ?hr ?_; (case hd => rfl); (case hg => rfl); (case hr => first | (go_simp; done) | (go_simp; rfl)); intro gb384 hg w13 hbox hb; have n0_ := Aside0.mk (below_step (by repeat (first | (with_reducible first | exact HB.out | apply below_alloc | apply pw_below_drewN | apply below_drew1) | exact HB.out)) hb); have n1_ := Aside0.mk (hbox); have n2_ := Aside0.mk ((by rw [hg]; exact (below_size (by repeat (first | (with_reducible first | exact HB.out | apply below_alloc | apply pw_below_drewN | apply below_drew1) | exact HB.out))) : w.heap.size ≤ gb384)); have n3_ := Aside0.mk ((by rw [hg]; exact (below_size (by repeat (first | (with_reducible first | exact HB.out | apply below_alloc | apply pw_below_drewN | apply below_drew1) | exact HB.out))) : w.heap.size ≤ gb384)); clear HB; have HB := n0_; have BK384 := n1_; have GW384 := n2_; have GE384 := n3_; clear n0_ n1_ n2_ n3_; clear hb hbox hg; have hcz14_0 : w13.cell? ⟨gb384, 0, none⟩ = some (.int .i64 a0_0) := (blk_cell BK384.out 0).trans rfl; have hcz14_1 : w13.cell? ⟨gb384, 1, none⟩ = some (.int .i64 a0_1) := (blk_cell BK384.out 1).trans rfl; have hcz14_2 : w13.cell? ⟨gb384, 2, none⟩ = some (.slice A0_2 l0_2.length c0_2) := (blk_cell BK384.out 2).trans rfl; have hfz14_0 := blk_frozen BK384.out 0; have hfz14_1 := blk_frozen BK384.out 1; have hfz14_2 := blk_frozen BK384.out 2) | ((with_reducible refine gate_callee (f := 85) rfl ?_); refine goesL_ (some 14) rfl rfl Try.func85 (by kernel_rfl) rfl #[.agg #[.int .i64 a0_0, .int .i64 a0_1, .slice A0_2 l0_2.length c0_2], .int .i64 a1] rfl (by (try simp only [List.map_toArray, List.map_cons, List.map_nil]); first | done | rfl | (simp only [List.length_drop, List.length_take]; rfl)) ?_; (with_reducible refine (impl_entryAt.calls a0_0 a0_1 _ _ l0_2 a1 t385 _ ?side1 ?side2 A6.out).mono ?_); (case side1 => repeat (first | exact (Kd.C_below HR0_2.out HB.out) | (with_reducible refine Kd.C_alloc ?_ _) | (with_reducible refine Kd.C_drewN ?_ _) | (with_reducible refine Kd.C_drew ?_))); (case side2 => exact HC0_2.out); rintro e w15 ⟨rfl, hb⟩; refine ⟨_, rfl, ?_⟩; have n0_ := Aside0.mk (blk_below (g := gb384) (o := .cells #[.int .i64 a0_0, .int .i64 a0_1, .slice A0_2 l0_2.length c0_2] 33 (0, 0)) (by (with_reducible repeat (first | refine blk_drewN ?_ _ | refine blk_drew ?_ | refine blk_alloc ?_ _)); exact BK384.out) hb); have n1_ := Aside0.mk (below_step (by repeat (first | (with_reducible first | exact HB.out | apply below_alloc | apply pw_below_drewN | apply below_drew1 | refine below_set ?_ GE384.out) | exact HB.out)) hb); clear BK384; clear HB; have BK384 := n0_; have HB := n1_; clear n0_ n1_; (try clear hb); (try clear hb2); (try clear hk); (try clear hi); have hcz16_0 : w15.cell? ⟨gb384, 0, none⟩ = some (.int .i64 a0_0) := (blk_cell BK384.out 0).trans rfl; have hcz16_1 : w15.cell? ⟨gb384, 1, none⟩ = some (.int .i64 a0_1) := (blk_cell BK384.out 1).trans rfl; have hcz16_2 : w15.cell? ⟨gb384, 2, none⟩ = some (.slice A0_2 l0_2.length c0_2) := (blk_cell BK384.out 2).trans rfl; have hfz16_0 := blk_frozen BK384.out 0; have hfz16_1 := blk_frozen BK384.out 1; have hfz16_2 := blk_frozen BK384.out 2; have p386 : 0 ≤ (t385 : Int) := of_decide_eq_true (by first | (with_reducible assumption) | assumption); have q386 : t385 < (l0_2.length : Int) := of_decide_eq_true (by first | (with_reducible assumption) | assumption); obtain ⟨ad386, e386, hx386_0, hx386_1, hx386_2⟩ := at_T87 HR0_2.out t385 p386 q386; cases e386; replace hx386_0 := (HB.out.cell (World.block_lt_of_cell? w _ hx386_0)).trans hx386_0; replace hx386_1 := (HB.out.cell (World.block_lt_of_cell? w _ hx386_1)).trans hx386_1; replace hx386_2 := (HB.out.cell (World.block_lt_of_cell? w _ hx386_2)).trans hx386_2; replace p386 := eq_true p386; replace q386 := eq_true q386))
          go_ret
          exact ⟨by first | rfl | (simp [errW_none, errW_some] <;> rfl) | (simp [*, errW_none, errW_some] <;> rfl), by repeat (first | (with_reducible first | exact HB.out | apply below_alloc | apply pw_below_drewN | apply below_drew1 | refine below_set ?_ GE384.out) | exact HB.out)⟩
        · rw [if_neg c12] at H
          exact absurd H (by simp)
      · rw [if_neg c11] at H
        exact absurd H (by simp)
end Go.Proofs.Ytallakebnoighaa.PFnExactSettle
end

section
namespace Go.Proofs.Ytallakebnoighaa.PFnExactSettle
open Go.RowKit Go.Proofs.YtallakebnoighaaW.PrintWords Go.Proofs.YtallakebnoighaaW.PrintLast Go.Proofs.YtallakebnoighaaW.PrintMore
set_option linter.unusedVariables false
set_option linter.unusedSimpArgs false
def spec_l06Last.f (a0_0 : Int) (a0_1 : Int) (l0_2 : List (S87)) : Option (Int) := some (wrap64 (a0_0 + (l0_2.length : Int)))
set_option maxHeartbeats 8000000 in
set_option maxRecDepth 100000 in
theorem spec_l06Last.calls (a0_0 : Int) (a0_1 : Int) (A0_2 : Option Addr) (c0_2 : Nat) (l0_2 : List (S87)) (r : Int) (w : World) (hr0_2 : Kd.C k87 w A0_2 l0_2.length l0_2) (hc0_2 : l0_2.length ≤ c0_2) (h : spec_l06Last.f a0_0 a0_1 l0_2 = some r) :
    Calls Try.prog 81 #[.agg #[.int .i64 a0_0, .int .i64 a0_1, .slice A0_2 l0_2.length c0_2]] w fun e w' => e = .returned (.int .i64 r) ∧ Below w.heap.size w w' := by
  have hu33 := Try.underlying33
  have HR0_2 := Aside0.mk hr0_2
  have HC0_2 := Aside0.mk hc0_2
  clear hr0_2 hc0_2
  have HB := Aside0.mk (Below.refl w.heap.size w)
  have H : (some (wrap64 (a0_0 + (l0_2.length : Int)))) = some r := h
  clear h
  obtain rfl := Option.some.inj H
  go_enter Try.func81, Try.ntmps81
  go_wp2_with (first | ((with_reducible refine gate_dst (N := 1) rfl ?_); refine box_event ?hg (N := 1) ?hd (cs := #[.int .i64 a0_0, .int .i64 a0_1, .slice A0_2 l0_2.length c0_2]) (t := 33) ?hr ?_; (case hd => rfl); (case hg => rfl); (case hr => first | (go_simp; done) | (go_simp; rfl)); intro gb304 hg w2 hbox hb; have n0_ := Aside0.mk (below_step (by repeat (first | (with_reducible first | exact HB.out | apply below_alloc | apply pw_below_drewN | apply below_drew1) | exact HB.out)) hb); have n1_ := Aside0.mk (hbox); have n2_ := Aside0.mk ((by rw [hg]; exact (below_size (by repeat (first | (with_reducible first | exact HB.out | apply below_alloc | apply pw_below_drewN | apply below_drew1) | exact HB.out))) : w.heap.size ≤ gb304)); have n3_ := Aside0.mk ((by rw [hg]; exact (below_size (by repeat (first | (with_reducible first | exact HB.out | apply below_alloc | apply pw_below_drewN | apply below_drew1) | exact HB.out))) : w.heap.size ≤ gb304)); clear HB; have HB := n0_; have BK304 := n1_; have GW304 := n2_; have GE304 := n3_; clear n0_ n1_ n2_ n3_; clear hb hbox hg; have hcz3_0 : w2.cell? ⟨gb304, 0, none⟩ = some (.int .i64 a0_0) := (blk_cell BK304.out 0).trans rfl; have hcz3_1 : w2.cell? ⟨gb304, 1, none⟩ = some (.int .i64 a0_1) := (blk_cell BK304.out 1).trans rfl; have hcz3_2 : w2.cell? ⟨gb304, 2, none⟩ = some (.slice A0_2 l0_2.length c0_2) := (blk_cell BK304.out 2).trans rfl; have hfz3_0 := blk_frozen BK304.out 0; have hfz3_1 := blk_frozen BK304.out 1; have hfz3_2 := blk_frozen BK304.out 2))
  go_ret
  exact ⟨by first | rfl | (simp [errW_none, errW_some] <;> rfl) | (simp [*, errW_none, errW_some] <;> rfl), by repeat (first | (with_reducible first | exact HB.out | apply below_alloc | apply pw_below_drewN | apply below_drew1 | refine below_set ?_ GE304.out) | exact HB.out)⟩
end Go.Proofs.Ytallakebnoighaa.PFnExactSettle
end

section
namespace Go.Proofs.Ytallakebnoighaa.PFnExactSettle
open Go.RowKit Go.Proofs.YtallakebnoighaaW.PrintWords Go.Proofs.YtallakebnoighaaW.PrintLast Go.Proofs.YtallakebnoighaaW.PrintMore
set_option linter.unusedVariables false
set_option linter.unusedSimpArgs false
def spec_LogTerm.f (a0_0 : Int) (a0_1 : Int) (l0_2 : List (S87)) (a1 : Int) : Option (Int) := if a1 = a0_0 then (some a0_1) else (if a1 < a0_0 then (some (-1)) else ((spec_l06Last.f a0_0 a0_1 l0_2).bind fun t306 => (if a1 > t306 then (some (-1)) else (if 0 ≤ (wrap64 ((wrap64 (a1 - a0_0)) - 1)) then (if (wrap64 ((wrap64 (a1 - a0_0)) - 1)) < (l0_2.length : Int) then (some ((rd_T87 l0_2 (wrap64 ((wrap64 (a1 - a0_0)) - 1))).f0)) else (none)) else (none)))))
set_option maxHeartbeats 8000000 in
set_option maxRecDepth 100000 in
theorem spec_LogTerm.calls (a0_0 : Int) (a0_1 : Int) (A0_2 : Option Addr) (c0_2 : Nat) (l0_2 : List (S87)) (a1 : Int) (r : Int) (w : World) (hr0_2 : Kd.C k87 w A0_2 l0_2.length l0_2) (hc0_2 : l0_2.length ≤ c0_2) (h : spec_LogTerm.f a0_0 a0_1 l0_2 a1 = some r) :
    Calls Try.prog 49 #[.agg #[.int .i64 a0_0, .int .i64 a0_1, .slice A0_2 l0_2.length c0_2], .int .i64 a1] w fun e w' => e = .returned (.int .i64 r) ∧ Below w.heap.size w w' := by
  have hu33 := Try.underlying33
  have HR0_2 := Aside0.mk hr0_2
  have HC0_2 := Aside0.mk hc0_2
  clear hr0_2 hc0_2
  have HB := Aside0.mk (Below.refl w.heap.size w)
  have H : (if a1 = a0_0 then (some a0_1) else (if a1 < a0_0 then (some (-1)) else ((spec_l06Last.f a0_0 a0_1 l0_2).bind fun t306 => (if a1 > t306 then (some (-1)) else (if 0 ≤ (wrap64 ((wrap64 (a1 - a0_0)) - 1)) then (if (wrap64 ((wrap64 (a1 - a0_0)) - 1)) < (l0_2.length : Int) then (some ((rd_T87 l0_2 (wrap64 ((wrap64 (a1 - a0_0)) - 1))).f0)) else (none)) else (none)))))) = some r := h
  clear h
  by_cases c3 : a1 = a0_0
  · rw [if_pos c3] at H
    have c3b0 : (a1 == a0_0) = true := beq_iff_eq.mpr c3
    have c3b1 : (a1 != a0_0) = false := bne_eq_false_iff_eq.mpr c3
    clear c3
    obtain rfl := Option.some.inj H
    go_enter Try.func49, Try.ntmps49
    go_wp2_with (first | ((with_reducible refine gate_dst (N := 2) rfl ?_); refine box_event ?hg (N := 2) ?hd (cs := #[.int .i64 a0_0, .int .i64 a0_1, .slice A0_2 l0_2.length c0_2]) (t := 33) ?hr ?_; (case hd => rfl); (case hg => rfl); (case hr => first | (go_simp; done) | (go_simp; rfl)); intro gb305 hg w4 hbox hb; have n0_ := Aside0.mk (below_step (by repeat (first | (with_reducible first | exact HB.out | apply below_alloc | apply pw_below_drewN | apply below_drew1) | exact HB.out)) hb); have n1_ := Aside0.mk (hbox); have n2_ := Aside0.mk ((by rw [hg]; exact (below_size (by repeat (first | (with_reducible first | exact HB.out | apply below_alloc | apply pw_below_drewN | apply below_drew1) | exact HB.out))) : w.heap.size ≤ gb305)); have n3_ := Aside0.mk ((by rw [hg]; exact (below_size (by repeat (first | (with_reducible first | exact HB.out | apply below_alloc | apply pw_below_drewN | apply below_drew1) | exact HB.out))) : w.heap.size ≤ gb305)); clear HB; have HB := n0_; have BK305 := n1_; have GW305 := n2_; have GE305 := n3_; clear n0_ n1_ n2_ n3_; clear hb hbox hg; have hcz5_0 : w4.cell? ⟨gb305, 0, none⟩ = some (.int .i64 a0_0) := (blk_cell BK305.out 0).trans rfl; have hcz5_1 : w4.cell? ⟨gb305, 1, none⟩ = some (.int .i64 a0_1) := (blk_cell BK305.out 1).trans rfl; have hcz5_2 : w4.cell? ⟨gb305, 2, none⟩ = some (.slice A0_2 l0_2.length c0_2) := (blk_cell BK305.out 2).trans rfl; have hfz5_0 := blk_frozen BK305.out 0; have hfz5_1 := blk_frozen BK305.out 1; have hfz5_2 := blk_frozen BK305.out 2))
    go_ret
    exact ⟨by first | rfl | (simp [errW_none, errW_some] <;> rfl) | (simp [*, errW_none, errW_some] <;> rfl), by repeat (first | (with_reducible first | exact HB.out | apply below_alloc | apply pw_below_drewN | apply below_drew1 | refine below_set ?_ GE305.out) | exact HB.out)⟩
  · rw [if_neg c3] at H
    have c3b0 : (a1 == a0_0) = false := beq_eq_false_iff_ne.mpr c3
    have c3b1 : (a1 != a0_0) = true := bne_iff_ne.mpr c3
    by_cases c6 : a1 < a0_0
    · rw [if_pos c6] at H
      have c6b0 : decide (a1 < a0_0) = true := decide_eq_true c6
      clear c6
      obtain rfl := Option.some.inj H
      go_enter Try.func49, Try.ntmps49
      go_wp2_with (first | ((with_reducible refine gate_dst (N := 2) rfl ?_); refine box_event ?hg (N := 2) ?hd (cs := #[.int .i64 a0_0, .int .i64 a0_1, .slice A0_2 l0_2.length c0_2]) (t := 33) ?hr ?_; (case hd => rfl); (case hg => rfl); (case hr => first | (go_simp; done) | (go_simp; rfl)); intro gb305 hg w7 hbox hb; have n0_ := Aside0.mk (below_step (by repeat (first | (with_reducible first | exact HB.out | apply below_alloc | apply pw_below_drewN | apply below_drew1) | exact HB.out)) hb); have n1_ := Aside0.mk (hbox); have n2_ := Aside0.mk ((by rw [hg]; exact (below_size (by repeat (first | (with_reducible first | exact HB.out | apply below_alloc | apply pw_below_drewN | apply below_drew1) | exact HB.out))) : w.heap.size ≤ gb305)); have n3_ := Aside0.mk ((by rw [hg]; exact (below_size (by repeat (first | (with_reducible first | exact HB.out | apply below_alloc | apply pw_below_drewN | apply below_drew1) | exact HB.out))) : w.heap.size ≤ gb305)); clear HB; have HB := n0_; have BK305 := n1_; have GW305 := n2_; have GE305 := n3_; clear n0_ n1_ n2_ n3_; clear hb hbox hg; have hcz8_0 : w7.cell? ⟨gb305, 0, none⟩ = some (.int .i64 a0_0) := (blk_cell BK305.out 0).trans rfl; have hcz8_1 : w7.cell? ⟨gb305, 1, none⟩ = some (.int .i64 a0_1) := (blk_cell BK305.out 1).trans rfl; have hcz8_2 : w7.cell? ⟨gb305, 2, none⟩ = some (.slice A0_2 l0_2.length c0_2) := (blk_cell BK305.out 2).trans rfl; have hfz8_0 := blk_frozen BK305.out 0; have hfz8_1 := blk_frozen BK305.out 1; have hfz8_2 := blk_frozen BK305.out 2))
      go_ret
      exact ⟨by first | rfl | (simp [errW_none, errW_some] <;> rfl) | (simp [*, errW_none, errW_some] <;> rfl), by repeat (first | (with_reducible first | exact HB.out | apply below_alloc | apply pw_below_drewN | apply below_drew1 | refine below_set ?_ GE305.out) | exact HB.out)⟩
    · rw [if_neg c6] at H
      have c6b0 : decide (a1 < a0_0) = false := decide_eq_false c6
      clear c6
      replace H := Option.bind_eq_some_iff.mp H
      obtain ⟨t306, A90, H⟩ := H
      replace H : (if a1 > t306 then (some (-1)) else (if 0 ≤ (wrap64 ((wrap64 (a1 - a0_0)) - 1)) then (if (wrap64 ((wrap64 (a1 - a0_0)) - 1)) < (l0_2.length : Int) then (some ((rd_T87 l0_2 (wrap64 ((wrap64 (a1 - a0_0)) - 1))).f0)) else (none)) else (none))) = some r := H
      have A9 := Aside0.mk A90
      clear A90
      by_cases c10 : a1 > t306
      · rw [if_pos c10] at H
        have c10b0 : decide (t306 < a1) = true := decide_eq_true c10
        clear c10
        obtain rfl := Option.some.inj H
        go_enter Try.func49, Try.ntmps49
        go_wp2_with (first | ((with_reducible refine gate_dst (N := 2) rfl ?_); refine box_event ?hg (N := 2) ?hd (cs := #[.int .i64 a0_0, .int .i64 a0_1, .slice A0_2 l0_2.length c0_2]) (t := 33) ?hr ?_; (case hd => rfl); (case hg => rfl); (case hr => first | (go_simp; done) | (go_simp; rfl)); intro gb305 hg w11 hbox hb; have n0_ := Aside0.mk (below_step (by repeat (first | (with_reducible first | exact HB.out | apply below_alloc | apply pw_below_drewN | apply below_drew1) | exact HB.out)) hb); have n1_ := Aside0.mk (hbox); have n2_ := Aside0.mk ((by rw [hg]; exact (below_size (by repeat (first | (with_reducible first | exact HB.out | apply below_alloc | apply pw_below_drewN | apply below_drew1) | exact HB.out))) : w.heap.size ≤ gb305)); have n3_ := Aside0.mk ((by rw [hg]; exact (below_size (by repeat (first | (with_reducible first | exact HB.out | apply below_alloc | apply pw_below_drewN | apply below_drew1) | exact HB.out))) : w.heap.size ≤ gb305)); clear HB; have HB := n0_; have BK305 := n1_; have GW305 := n2_; have GE305 := n3_; clear n0_ n1_ n2_ n3_; clear hb hbox hg; have hcz12_0 : w11.cell? ⟨gb305, 0, none⟩ = some (.int .i64 a0_0) := (blk_cell BK305.out 0).trans rfl; have hcz12_1 : w11.cell? ⟨gb305, 1, none⟩ = some (.int .i64 a0_1) := (blk_cell BK305.out 1).trans rfl; have hcz12_2 : w11.cell? ⟨gb305, 2, none⟩ = some (.slice A0_2 l0_2.length c0_2) := (blk_cell BK305.out 2).trans rfl; have hfz12_0 := blk_frozen BK305.out 0; have hfz12_1 := blk_frozen BK305.out 1; have hfz12_2 := blk_frozen BK305.out 2) | (go_at_call 81; (with_reducible refine (spec_l06Last.calls a0_0 a0_1 _ _ l0_2 t306 _ ?side1 ?side2 A9.out).mono ?_); (case side1 => repeat (first | exact (Kd.C_below HR0_2.out HB.out) | (with_reducible refine Kd.C_alloc ?_ _) | (with_reducible refine Kd.C_drewN ?_ _) | (with_reducible refine Kd.C_drew ?_))); (case side2 => exact HC0_2.out); rintro e w13 ⟨rfl, hb⟩; have n0_ := Aside0.mk (blk_below (g := gb305) (o := .cells #[.int .i64 a0_0, .int .i64 a0_1, .slice A0_2 l0_2.length c0_2] 33 (0, 0)) (by (with_reducible repeat (first | refine blk_drewN ?_ _ | refine blk_drew ?_ | refine blk_alloc ?_ _)); exact BK305.out) hb); have n1_ := Aside0.mk (below_step (by repeat (first | (with_reducible first | exact HB.out | apply below_alloc | apply pw_below_drewN | apply below_drew1 | refine below_set ?_ GE305.out) | exact HB.out)) hb); clear BK305; clear HB; have BK305 := n0_; have HB := n1_; clear n0_ n1_; (try clear hb); (try clear hb2); (try clear hk); (try clear hi)))
        go_ret
        exact ⟨by first | rfl | (simp [errW_none, errW_some] <;> rfl) | (simp [*, errW_none, errW_some] <;> rfl), by repeat (first | (with_reducible first | exact HB.out | apply below_alloc | apply pw_below_drewN | apply below_drew1 | refine below_set ?_ GE305.out) | exact HB.out)⟩
      · rw [if_neg c10] at H
        have c10b0 : decide (t306 < a1) = false := decide_eq_false c10
        clear c10
        obtain ⟨ji14, hji14⟩ : ∃ j_ : Int, (wrap64 ((wrap64 (a1 - a0_0)) - 1)) = j_ := ⟨_, rfl⟩
        replace H : (if 0 ≤ (ji14) then (if (ji14) < (l0_2.length : Int) then (some ((rd_T87 l0_2 (ji14)).f0)) else (none)) else (none)) = some r := by first | (rw [hji14] at H; exact H) | (simp only [hji14] at H ⊢; exact H)
        (try rw [hji14] at A9)
        have hji14w : (IntKind.i64.wrap ((wrap64 (a1 - a0_0)) - 1)) = ji14 := (i64_w _).trans hji14
        by_cases c15 : 0 ≤ (ji14)
        · rw [if_pos c15] at H
          have c15b0 : decide (0 ≤ (ji14)) = true := decide_eq_true c15
          clear c15
          by_cases c16 : (ji14) < (l0_2.length : Int)
          · rw [if_pos c16] at H
            have c16b0 : decide ((ji14) < (l0_2.length : Int)) = true := decide_eq_true c16
            clear c16
            obtain rfl := Option.some.inj H
            go_enter Try.func49, Try.ntmps49
            go_wp2_with (first | ((with_reducible refine gate_dst (N := 2) rfl ?_); refine box_event ?hg (N := 2) ?hd (cs := #[.int .i64 a0_0, .int .i64 a0_1, .slice A0_2 l0_2.length c0_2]) (t := 33) ?hr ?_; (case hd => rfl); (case hg => rfl); (case hr => first | (go_simp; done) | (go_simp; rfl)); intro gb305 hg w17 hbox hb; have n0_ := Aside0.mk (below_step (by repeat (first | (with_reducible first | exact HB.out | apply below_alloc | apply pw_below_drewN | apply below_drew1) | exact HB.out)) hb); have n1_ := Aside0.mk (hbox); have n2_ := Aside0.mk ((by rw [hg]; exact (below_size (by repeat (first | (with_reducible first | exact HB.out | apply below_alloc | apply pw_below_drewN | apply below_drew1) | exact HB.out))) : w.heap.size ≤ gb305)); have n3_ := Aside0.mk ((by rw [hg]; exact (below_size (by repeat (first | (with_reducible first | exact HB.out | apply below_alloc | apply pw_below_drewN | apply below_drew1) | exact HB.out))) : w.heap.size ≤ gb305)); clear HB; have HB := n0_; have BK305 := n1_; have GW305 := n2_; have GE305 := n3_; clear n0_ n1_ n2_ n3_; clear hb hbox hg; have hcz18_0 : w17.cell? ⟨gb305, 0, none⟩ = some (.int .i64 a0_0) := (blk_cell BK305.out 0).trans rfl; have hcz18_1 : w17.cell? ⟨gb305, 1, none⟩ = some (.int .i64 a0_1) := (blk_cell BK305.out 1).trans rfl; have hcz18_2 : w17.cell? ⟨gb305, 2, none⟩ = some (.slice A0_2 l0_2.length c0_2) := (blk_cell BK305.out 2).trans rfl; have hfz18_0 := blk_frozen BK305.out 0; have hfz18_1 := blk_frozen BK305.out 1; have hfz18_2 := blk_frozen BK305.out 2) | (go_at_call 81; (with_reducible refine (spec_l06Last.calls a0_0 a0_1 _ _ l0_2 t306 _ ?side1 ?side2 A9.out).mono ?_); (case side1 => repeat (first | exact (Kd.C_below HR0_2.out HB.out) | (with_reducible refine Kd.C_alloc ?_ _) | (with_reducible refine Kd.C_drewN ?_ _) | (with_reducible refine Kd.C_drew ?_))); (case side2 => exact HC0_2.out); rintro e w19 ⟨rfl, hb⟩; have n0_ := Aside0.mk (blk_below (g := gb305) (o := .cells #[.int .i64 a0_0, .int .i64 a0_1, .slice A0_2 l0_2.length c0_2] 33 (0, 0)) (by (with_reducible repeat (first | refine blk_drewN ?_ _ | refine blk_drew ?_ | refine blk_alloc ?_ _)); exact BK305.out) hb); have n1_ := Aside0.mk (below_step (by repeat (first | (with_reducible first | exact HB.out | apply below_alloc | apply pw_below_drewN | apply below_drew1 | refine below_set ?_ GE305.out) | exact HB.out)) hb); clear BK305; clear HB; have BK305 := n0_; have HB := n1_; clear n0_ n1_; (try clear hb); (try clear hb2); (try clear hk); (try clear hi); have hcz20_0 : w19.cell? ⟨gb305, 0, none⟩ = some (.int .i64 a0_0) := (blk_cell BK305.out 0).trans rfl; have hcz20_1 : w19.cell? ⟨gb305, 1, none⟩ = some (.int .i64 a0_1) := (blk_cell BK305.out 1).trans rfl; have hcz20_2 : w19.cell? ⟨gb305, 2, none⟩ = some (.slice A0_2 l0_2.length c0_2) := (blk_cell BK305.out 2).trans rfl; have hfz20_0 := blk_frozen BK305.out 0; have hfz20_1 := blk_frozen BK305.out 1; have hfz20_2 := blk_frozen BK305.out 2; have p307 : 0 ≤ ((ji14) : Int) := of_decide_eq_true (by first | (with_reducible assumption) | assumption); have q307 : (ji14) < (l0_2.length : Int) := of_decide_eq_true (by first | (with_reducible assumption) | assumption); obtain ⟨ad307, e307, hx307_0, hx307_1, hx307_2⟩ := at_T87 HR0_2.out (ji14) p307 q307; cases e307; replace hx307_0 := (HB.out.cell (World.block_lt_of_cell? w _ hx307_0)).trans hx307_0; replace hx307_1 := (HB.out.cell (World.block_lt_of_cell? w _ hx307_1)).trans hx307_1; replace hx307_2 := (HB.out.cell (World.block_lt_of_cell? w _ hx307_2)).trans hx307_2; replace p307 := eq_true p307; replace q307 := eq_true q307))
            go_ret
            exact ⟨by first | rfl | (simp [errW_none, errW_some] <;> rfl) | (simp only [← hji14]; first | rfl | (simp [errW_none, errW_some] <;> rfl)) | (simp [*, errW_none, errW_some] <;> rfl), by repeat (first | (with_reducible first | exact HB.out | apply below_alloc | apply pw_below_drewN | apply below_drew1 | refine below_set ?_ GE305.out) | exact HB.out)⟩
          · rw [if_neg c16] at H
            exact absurd H (by simp)
        · rw [if_neg c15] at H
          exact absurd H (by simp)
end Go.Proofs.Ytallakebnoighaa.PFnExactSettle
end

section
namespace Go.Proofs.Ytallakebnoighaa.PFnExactSettle
open Go.RowKit Go.Proofs.YtallakebnoighaaW.PrintWords
set_option linter.unusedSimpArgs false
set_option linter.unusedVariables false
def termAt (st tm : Int) (es : List S87) (i : Int) : Int := if i = st then tm else (rd_T87 es (i - st - 1)).f0
theorem iterm_f (st tm : Int) (es : List S87) (i : Int) (hs : 0 ≤ st ∧ st ≤ 2000000) (hl : es.length ≤ 1048576) (hi : st ≤ i ∧ i ≤ st + es.length) : impl_LogTerm.f st tm es i = some (termAt st tm es i) := by
  unfold impl_LogTerm.f impl_entryAt.f termAt
  by_cases h : i = st
  · rw [if_pos h, if_pos h]
  · have e1 : wrap64 (i - st) = i - st := by unfold wrap64; omega
    have e2 : wrap64 (i - st - 1) = i - st - 1 := by unfold wrap64; omega
    rw [if_neg h, if_neg h, if_neg (by omega), e1, in_f, Option.bind_some, if_pos (by simp; omega), e2, Option.bind_some, if_neg (by omega), if_pos (by omega), if_pos (by omega)]
theorem sterm_f (st tm : Int) (es : List S87) (i : Int) (hs : 0 ≤ st ∧ st ≤ 2000000) (hl : es.length ≤ 1048576) (hi : st ≤ i ∧ i ≤ st + es.length) : spec_LogTerm.f st tm es i = some (termAt st tm es i) := by
  unfold spec_LogTerm.f spec_l06Last.f termAt
  by_cases h : i = st
  · rw [if_pos h, if_pos h]
  · have e1 : wrap64 (i - st) = i - st := by unfold wrap64; omega
    have e2 : wrap64 (i - st - 1) = i - st - 1 := by unfold wrap64; omega
    have e3 : wrap64 (st + (es.length : Int)) = st + (es.length : Int) := by unfold wrap64; omega
    rw [if_neg h, if_neg h, if_neg (by omega), e1, e2, e3, Option.bind_some, if_neg (by omega), if_pos (by omega), if_pos (by omega)]
theorem itermH (st tm : Int) (A : Option Addr) (c : Nat) (es : List S87) (i t : Int) (w : World) (ht : Hid (termAt st tm es i = t)) (hs : 0 ≤ st ∧ st ≤ 2000000) (hl : es.length ≤ 1048576) (hi : st ≤ i ∧ i ≤ st + es.length) (hr : Kd.C k87 w A es.length es) (hc : es.length ≤ c) :
    Calls Try.prog 52 #[.agg #[.int .i64 st, .int .i64 tm, .slice A es.length c], .int .i64 i] w fun e w' => e = .returned (.int .i64 t) ∧ Below w.heap.size w w' := by
  obtain rfl := ht.out
  exact impl_LogTerm.calls st tm A c es i _ w hr hc (iterm_f st tm es i hs hl hi)
theorem stermH (st tm : Int) (A : Option Addr) (c : Nat) (es : List S87) (i t : Int) (w : World) (ht : Hid (termAt st tm es i = t)) (hs : 0 ≤ st ∧ st ≤ 2000000) (hl : es.length ≤ 1048576) (hi : st ≤ i ∧ i ≤ st + es.length) (hr : Kd.C k87 w A es.length es) (hc : es.length ≤ c) :
    Calls Try.prog 49 #[.agg #[.int .i64 st, .int .i64 tm, .slice A es.length c], .int .i64 i] w fun e w' => e = .returned (.int .i64 t) ∧ Below w.heap.size w w' := by
  obtain rfl := ht.out
  exact spec_LogTerm.calls st tm A c es i _ w hr hc (sterm_f st tm es i hs hl hi)
attribute [local go_sem] flowUpon
set_option maxHeartbeats 4000000 in
set_option maxRecDepth 100000 in
theorem ibeh_C (st tm : Int) (A : Option Addr) (c : Nat) (es : List S87) (i t : Int) (w : World) (ht : Hid (termAt st tm es i = t)) (hok : logOkB st tm es = true) (hS : ShortE es) (hi : st ≤ i ∧ i ≤ st + es.length) (hr : Kd.C k87 w A es.length es) (hc : es.length ≤ c) (hnil : A = none → c = 0) :
    Calls Try.prog 51 #[.agg #[.int .i64 st, .int .i64 tm, .slice A es.length c], .int .i64 i, .int .i64 t] w fun e w' => (∃ v, e = .returned (.agg #[.int .i64 i, .int .i64 t, v]) ∧ Kd.R k87 87 w' w.heap.size (fun k => w.heap.size + 1 < k) v (es.drop (i - st).toNat)) ∧ Below w.heap.size w w' := by
  have HC := Lib.hid hr
  clear hr
  have hts := (logOkB_parts hok)
  have hs : 0 ≤ st ∧ st ≤ 2000000 := by omega
  have hl : es.length ≤ 1048576 := by omega
  have HO := Lib.hid hok
  have hin := Lib.hid (show inB i st (st + es.length) = true from by rw [inB_iff]; exact hi)
  clear hts hok
  obtain ⟨d, hd⟩ : ∃ d : List S87, es.drop (i - st).toNat = d := ⟨_, rfl⟩
  rw [hd]
  have Hd := Lib.hid hd
  clear hd
  go_enter Try.func51, Try.ntmps51
  go_upto_region 2 with fail
  refine wp_atC (fun X => Blk 33 w.heap.size #[.int .i64 st, .int .i64 tm, .slice A es.length c] X ∧ Blk 33 (w.heap.size + 1) #[.int .i64 0, .int .i64 0, .slice none 0 0] X ∧ Blk 33 (w.heap.size + 1 + 1) #[.int .i64 i, .int .i64 t, .slice none 0 0] X ∧ Below w.heap.size w X) ⟨((Blk.new _ _ w).alloc _).alloc _, (Blk.newE _ _ (w.alloc _) (by simp)).alloc _, Blk.newE _ _ ((w.alloc _).alloc _) (by simp), bl_alloc (bl_alloc (bl_alloc (Below.refl _ _) _) _) _⟩ ?_
  rintro X ⟨k1, k2, k3, B⟩
  have y0 := k1.cell 0 rfl
  have y1 := k1.cell 1 rfl
  have y2 := k1.cell 2 rfl
  have l1 := k1.lt
  refine wp_region_flowG [1, 2, 3] 38 (by kernel_rfl) (by rfl) (by kernel_rfl) (by kernel_rfl) (by kernel_rfl) ?_
  (refine flowG_valE ?_; apply Exists.intro; refine ⟨fun A wq hBq hbq hdq => ?_, ?_⟩; focus (obtain ⟨hcq, hfq⟩ := bcellA hBq; (try simp [go_sem, baseF, deps, dep1, Region.binds] at hbq); (try simp [go_sem, baseF, deps, dep1, Region.binds, NewSl] at hdq); go_simp <;> first | exact ⟨Below.refl _ _, rfl⟩ | (rw [if_neg]; (focus (exact ⟨Below.refl _ _, rfl⟩)); (focus ((try simp only [ByteArray.size_append]); omega))) | (fail)))
  (refine flowG_valE ?_; apply Exists.intro; refine ⟨fun A wq hBq hbq hdq => ?_, ?_⟩; focus (obtain ⟨hcq, hfq⟩ := bcellA hBq; (try simp [go_sem, baseF, deps, dep1, Region.binds] at hbq); (try simp [go_sem, baseF, deps, dep1, Region.binds, NewSl] at hdq); go_simp <;> first | exact ⟨Below.refl _ _, rfl⟩ | (rw [if_neg]; (focus (exact ⟨Below.refl _ _, rfl⟩)); (focus ((try simp only [ByteArray.size_append]); omega))) | (first | (go_at_call 39; exact (impl_LogOkH _ _ _ _ es _ _ HO hS hl (Kd.C_below HC.out (bl_then B hBq)) hc)))))
  (refine flowG_valE ?_; apply Exists.intro; refine ⟨fun A wq hBq hbq hdq => ?_, ?_⟩; focus (obtain ⟨hcq, hfq⟩ := bcellA hBq; (try simp [go_sem, baseF, deps, dep1, Region.binds] at hbq); (try simp [go_sem, baseF, deps, dep1, Region.binds, NewSl] at hdq); go_simp <;> first | exact ⟨Below.refl _ _, rfl⟩ | (rw [if_neg]; (focus (exact ⟨Below.refl _ _, rfl⟩)); (focus ((try simp only [ByteArray.size_append]); omega))) | (fail)))
  iterate 6 (refine flowG_yesE ?_; apply Exists.intro; refine ⟨fun A wq hBq hbq hdq => ⟨?_, ?_⟩, ?_⟩; (focus ((try simp [go_sem, baseF, deps, dep1, Region.binds] at hdq); refine yielded_of rfl ?_; simp [hdq])); focus (obtain ⟨hcq, hfq⟩ := bcellA hBq; (try simp [go_sem, baseF, deps, dep1, Region.binds] at hbq); (try simp [go_sem, baseF, deps, dep1, Region.binds, NewSl] at hdq); go_simp <;> first | exact ⟨Below.refl _ _, rfl⟩ | (rw [if_neg]; (focus (exact ⟨Below.refl _ _, rfl⟩)); (focus ((try simp only [ByteArray.size_append]); omega))) | (first | (go_at_call 66; exact (lastOf_C _ _ _ _ es _ hs hl (Kd.C_below HC.out (bl_then B hBq)) hc)) | (go_at_call 37; exact (inH _ _ _ _ _ hin)))))
  iterate 2 (refine flowG_valE ?_; apply Exists.intro; refine ⟨fun A wq hBq hbq hdq => ?_, ?_⟩; focus (obtain ⟨hcq, hfq⟩ := bcellA hBq; (try simp [go_sem, baseF, deps, dep1, Region.binds] at hbq); (try simp [go_sem, baseF, deps, dep1, Region.binds, NewSl] at hdq); go_simp <;> first | exact ⟨Below.refl _ _, rfl⟩ | (rw [if_neg]; (focus (exact ⟨Below.refl _ _, rfl⟩)); (focus ((try simp only [ByteArray.size_append]); omega))) | (fail)))
  iterate 5 (refine flowG_yesE ?_; apply Exists.intro; refine ⟨fun A wq hBq hbq hdq => ⟨?_, ?_⟩, ?_⟩; (focus ((try simp [go_sem, baseF, deps, dep1, Region.binds] at hdq); refine yielded_of rfl ?_; simp [hdq])); focus (obtain ⟨hcq, hfq⟩ := bcellA hBq; (try simp [go_sem, baseF, deps, dep1, Region.binds] at hbq); (try simp [go_sem, baseF, deps, dep1, Region.binds, NewSl] at hdq); go_simp <;> first | exact ⟨Below.refl _ _, rfl⟩ | (rw [if_neg]; (focus (exact ⟨Below.refl _ _, rfl⟩)); (focus ((try simp only [ByteArray.size_append]); omega))) | (first | (go_at_call 52; exact (itermH _ _ _ _ es _ _ _ ht hs hl hi (Kd.C_below HC.out (bl_then B hBq)) hc)))))
  (refine flowG_valE ?_; apply Exists.intro; refine ⟨fun A wq hBq hbq hdq => ?_, ?_⟩; focus (obtain ⟨hcq, hfq⟩ := bcellA hBq; (try simp [go_sem, baseF, deps, dep1, Region.binds] at hbq); (try simp [go_sem, baseF, deps, dep1, Region.binds, NewSl] at hdq); go_simp <;> first | exact ⟨Below.refl _ _, rfl⟩ | (rw [if_neg]; (focus (exact ⟨Below.refl _ _, rfl⟩)); (focus ((try simp only [ByteArray.size_append]); omega))) | (fail)))
  refine fun x wq hBq hall => ?_
  simp only [allT] at hall
  simp [frameOf, Act.put, hall]
  clear hall
  have m1 := k1.below hBq
  have m2 := k2.below hBq
  have m3 := k3.below hBq
  have B2 := bl_then B hBq
  clear k1 k2 k3 B hBq y0 y1 y2 l1
  have y0 := m1.cell 0 rfl
  have y1 := m1.cell 1 rfl
  have y2 := m1.cell 2 rfl
  have l1 := m1.lt
  obtain ⟨i0, hi0, hz0⟩ : ∃ i, Try.prog.info? 87 = some i ∧ i.size = 3 := by
    have h : (Try.prog.info? 87).map (·.size) = some 3 := by kernel_rfl
    exact Option.map_eq_some_iff.1 h
  have hd := Hd.out
  obtain ⟨A', hA'⟩ : ∃ A', (if c = (i - st).toNat then A else A.map (·.add ((i - st).toNat * 3))) = A' := ⟨_, rfl⟩
  have hcut : ∀ W : World, (Instr.slice 31 (.slice A es.length c) (some (.int .i64 (i - st))) none none).run Try.prog W = .ok (.slice A' d.length (c - (i - st).toNat)) W := by
    rw [← hd, List.length_drop, ← hA']
    exact cut_from (P := Try.prog) 31 87 .i64 Try.underlying31 hi0 3 hz0 A es.length c (i - st) (by omega) (by omega)
  have hd0 : Kd.C k87 wq A' d.length d := by
    have := Kd.C_drop (m := (i - st).toNat) (Kd.C_below HC.out B2) (by omega) hc
    rw [← hd, ← hA']
    exact this
  have hdl : d.length ≤ c - (i - st).toNat := by rw [← hd, List.length_drop]; omega
  have hdn : A' = none → c - (i - st).toNat = 0 := by
    intro h
    rw [← hA'] at h
    split at h
    · omega
    · rw [hnil (by simpa using h)]; omega
  have hdm : d.length ≤ 1048576 := by rw [← hd, List.length_drop]; omega
  have hw : IntKind.i64.wrap (i - st) = i - st := by rw [IntKind.wrap_i64]; omega
  have HD := Lib.hid hd0
  clear hA' hd hd0 hi0 hz0
  go_wp2_with fail
  refine (cloneE_C A' _ d wq HD.out hdl hdm hdn).mono ?_
  rintro e W1 ⟨v, rfl, hR, hb⟩
  have hq2 := m3.lt
  have he : Kd.R k87 87 W1 w.heap.size (fun k => w.heap.size + 1 + 1 < k) v d := Kd.R_mono (Kd.R_lower hR B2.size) (fun k hk => by have : wq.heap.size ≤ k := hk; omega)
  replace m2 := m2.below hb
  replace m3 := m3.below hb
  replace B2 := bl_then B2 hb
  obtain ⟨A9, c9, rfl, -, -⟩ := Kd.R_reads hR
  have HE := Lib.hid he
  clear he hR hb hq2 y0 y1 y2 l1 m1 hcut HD hdl hdn
  have z0 := m2.cell 0 rfl
  have z1 := m2.cell 1 rfl
  have z2 := m2.cell 2 rfl
  have zf := fun o => m2.free o
  have lz := m2.lt
  have x0 := m3.cell 0 rfl
  have x1 := m3.cell 1 rfl
  have x2 := m3.cell 2 rfl
  have xf := fun o => m3.free o
  have lx := m3.lt
  go_wp2_with fail
  refine bodyPost_ret (v := .agg #[.int .i64 i, .int .i64 t, .slice A9 d.length c9]) ?_ rfl ⟨⟨_, rfl, ?_⟩, ?_⟩
  · simp only [results, Try.results51]
    go_simp
  · refine Kd.R_mono (ok := fun k => w.heap.size + 1 + 1 < k) ?_ (fun k hk => by omega)
    iterate 4 refine own_far ?_ (fun k hk => by omega)
    exact HE.out
  · iterate 3 refine bl_set ?_ (Nat.le_succ _)
    refine bl_set ?_ (by show w.heap.size ≤ w.heap.size + 1 + 1; omega)
    exact B2
end Go.Proofs.Ytallakebnoighaa.PFnExactSettle
end

section
namespace Go.Proofs.Ytallakebnoighaa.PFnExactSettle
open Go.RowKit Go.Proofs.YtallakebnoighaaW.PrintWords
set_option linter.unusedSimpArgs false
set_option linter.unusedVariables false
def NF.settleB (n : NF) (idx : Int) : Bool := n.ok && inB idx n.st n.cm
set_option maxHeartbeats 4000000 in
set_option maxRecDepth 100000 in
theorem impl_Settle_no (n : NF) (idx : Int) (A5 : Option Addr) (c5 : Nat) (A8 : Option Addr) (c8 : Nat) (A12 : Option Addr) (c12 : Nat) (A13 : Option Addr) (c13 : Nat) (w : World) (hz : NodeZ n) (h : NodeC n A5 c5 A8 c8 A12 c12 A13 c13 w) (hno : n.settleB idx = false) :
    Calls Try.prog 12 #[.agg #[.int .i64 n.id, .int .i64 n.term, .int .i64 n.vote, .int .i64 n.role, .int .i64 n.lead, .slice A5 n.cf.length c5, .int .i64 n.st, .int .i64 n.tm, .slice A8 n.es.length c8, .int .i64 n.cm, .int .i64 n.ck, .int .i64 n.lm, .slice A12 n.vs.length c12, .slice A13 n.ps.length c13], .int .i64 idx] w fun e w' => e = .returned (.tuple #[.agg #[.int .i64 0, .int .i64 0, .int .i64 0, .int .i64 0, .int .i64 0, .slice none 0 0, .int .i64 0, .int .i64 0, .slice none 0 0, .int .i64 0, .int .i64 0, .int .i64 0, .slice none 0 0, .slice none 0 0], .bool false]) ∧ Below w.heap.size w w' := by
  have H := Lib.hid h
  clear h
  obtain ⟨o1, ho1⟩ : ∃ o, n.ok = o := ⟨_, rfl⟩
  obtain ⟨o2, ho2⟩ : ∃ o, inB idx n.st n.cm = o := ⟨_, rfl⟩
  unfold NF.settleB at hno
  rw [ho1, ho2] at hno
  have H2 := Lib.hid ho2
  clear ho2
  go_enter Try.func12, Try.ntmps12
  go_wp2_with fail
  refine calls_atC (fun X => Blk 36 w.heap.size #[.int .i64 n.id, .int .i64 n.term, .int .i64 n.vote, .int .i64 n.role, .int .i64 n.lead, .slice A5 n.cf.length c5, .int .i64 n.st, .int .i64 n.tm, .slice A8 n.es.length c8, .int .i64 n.cm, .int .i64 n.ck, .int .i64 n.lm, .slice A12 n.vs.length c12, .slice A13 n.ps.length c13] X ∧ Blk 36 (w.heap.size + 1) #[.int .i64 0, .int .i64 0, .int .i64 0, .int .i64 0, .int .i64 0, .slice none 0 0, .int .i64 0, .int .i64 0, .slice none 0 0, .int .i64 0, .int .i64 0, .int .i64 0, .slice none 0 0, .slice none 0 0] X ∧ Below w.heap.size w X) ⟨(Blk.new _ _ w).alloc _, Blk.newE _ _ (w.alloc _) (by simp), bl_alloc (bl_alloc (Below.refl _ _) _) _⟩ ?_
  rintro X0 ⟨k1, k2, B⟩
  have hN := impl_NodeOk_C n A5 c5 A8 c8 A12 c12 A13 c13 X0 hz (H.out.below B)
  rw [ho1] at hN
  refine hN.mono ?_
  rintro e X1 ⟨rfl, hb⟩
  replace k1 := k1.below hb
  replace k2 := k2.below hb
  replace B := bl_then B hb
  clear hb hN ho1 X0
  have y0 := k1.cell 0 rfl
  have y1 := k1.cell 1 rfl
  have y2 := k1.cell 2 rfl
  have y3 := k1.cell 3 rfl
  have y4 := k1.cell 4 rfl
  have y5 := k1.cell 5 rfl
  have y6 := k1.cell 6 rfl
  have y7 := k1.cell 7 rfl
  have y8 := k1.cell 8 rfl
  have y9 := k1.cell 9 rfl
  have y10 := k1.cell 10 rfl
  have y11 := k1.cell 11 rfl
  have y12 := k1.cell 12 rfl
  have y13 := k1.cell 13 rfl
  have ly := k1.lt
  have fy := fun o => k1.free o
  have z0 := k2.cell 0 rfl
  have z1 := k2.cell 1 rfl
  have z2 := k2.cell 2 rfl
  have z3 := k2.cell 3 rfl
  have z4 := k2.cell 4 rfl
  have z5 := k2.cell 5 rfl
  have z6 := k2.cell 6 rfl
  have z7 := k2.cell 7 rfl
  have z8 := k2.cell 8 rfl
  have z9 := k2.cell 9 rfl
  have z10 := k2.cell 10 rfl
  have z11 := k2.cell 11 rfl
  have z12 := k2.cell 12 rfl
  have z13 := k2.cell 13 rfl
  have lz := k2.lt
  have fz := fun o => k2.free o
  cases o1 with
  | false =>
    go_wp2_with fail
    refine bodyPost_ret (v := .tuple #[.agg #[.int .i64 0, .int .i64 0, .int .i64 0, .int .i64 0, .int .i64 0, .slice none 0 0, .int .i64 0, .int .i64 0, .slice none 0 0, .int .i64 0, .int .i64 0, .int .i64 0, .slice none 0 0, .slice none 0 0], .bool false]) ?_ rfl ⟨rfl, ?_⟩
    · simp only [results, Try.results12]
      go_simp
    · iterate 14 refine bl_set ?_ (Nat.le_succ _)
      exact B
  | true =>
    obtain rfl : o2 = false := by simpa using hno
    go_wp2_with fail
    refine (inH _ _ _ _ _ H2).mono ?_
    rintro e X2 ⟨rfl, hb⟩
    replace k1 := k1.below hb
    replace k2 := k2.below hb
    replace B := bl_then B hb
    clear y0 y1 y2 y3 y4 y5 y6 y7 y8 y9 y10 y11 y12 y13 ly fy z0 z1 z2 z3 z4 z5 z6 z7 z8 z9 z10 z11 z12 z13 lz fz hb X1
    have y0 := k1.cell 0 rfl
    have y1 := k1.cell 1 rfl
    have y2 := k1.cell 2 rfl
    have y3 := k1.cell 3 rfl
    have y4 := k1.cell 4 rfl
    have y5 := k1.cell 5 rfl
    have y6 := k1.cell 6 rfl
    have y7 := k1.cell 7 rfl
    have y8 := k1.cell 8 rfl
    have y9 := k1.cell 9 rfl
    have y10 := k1.cell 10 rfl
    have y11 := k1.cell 11 rfl
    have y12 := k1.cell 12 rfl
    have y13 := k1.cell 13 rfl
    have ly := k1.lt
    have fy := fun o => k1.free o
    have z0 := k2.cell 0 rfl
    have z1 := k2.cell 1 rfl
    have z2 := k2.cell 2 rfl
    have z3 := k2.cell 3 rfl
    have z4 := k2.cell 4 rfl
    have z5 := k2.cell 5 rfl
    have z6 := k2.cell 6 rfl
    have z7 := k2.cell 7 rfl
    have z8 := k2.cell 8 rfl
    have z9 := k2.cell 9 rfl
    have z10 := k2.cell 10 rfl
    have z11 := k2.cell 11 rfl
    have z12 := k2.cell 12 rfl
    have z13 := k2.cell 13 rfl
    have lz := k2.lt
    have fz := fun o => k2.free o
    go_wp2_with fail
    refine bodyPost_ret (v := .tuple #[.agg #[.int .i64 0, .int .i64 0, .int .i64 0, .int .i64 0, .int .i64 0, .slice none 0 0, .int .i64 0, .int .i64 0, .slice none 0 0, .int .i64 0, .int .i64 0, .int .i64 0, .slice none 0 0, .slice none 0 0], .bool false]) ?_ rfl ⟨rfl, ?_⟩
    · simp only [results, Try.results12]
      go_simp
    · iterate 14 refine bl_set ?_ (Nat.le_succ _)
      exact B
attribute [local go_sem] flowUpon flowUponL
set_option maxHeartbeats 4000000 in
set_option maxRecDepth 100000 in
theorem impl_Settle_yes (n : NF) (idx t : Int) (A5 : Option Addr) (c5 : Nat) (A8 : Option Addr) (c8 : Nat) (A12 : Option Addr) (c12 : Nat) (A13 : Option Addr) (c13 : Nat) (w : World) (hz : NodeZ n) (h : NodeC n A5 c5 A8 c8 A12 c12 A13 c13 w) (hok : n.ok = true) (hlog : logOkB n.st n.tm n.es = true) (hin : inB idx n.st n.cm = true) (hcm : n.cm ≤ n.st + n.es.length) (ht : Hid (termAt n.st n.tm n.es idx = t)) :
    Calls Try.prog 12 #[.agg #[.int .i64 n.id, .int .i64 n.term, .int .i64 n.vote, .int .i64 n.role, .int .i64 n.lead, .slice A5 n.cf.length c5, .int .i64 n.st, .int .i64 n.tm, .slice A8 n.es.length c8, .int .i64 n.cm, .int .i64 n.ck, .int .i64 n.lm, .slice A12 n.vs.length c12, .slice A13 n.ps.length c13], .int .i64 idx] w fun e w' => (∃ g v5 v8 v12 v13, w.heap.size + 1 < g ∧ e = .returned (.tuple #[.agg #[.int .i64 n.id, .int .i64 n.term, .int .i64 n.vote, .int .i64 n.role, .int .i64 n.lead, v5, .int .i64 idx, .int .i64 t, v8, .int .i64 n.cm, .int .i64 n.ck, .int .i64 n.lm, v12, v13], .bool true]) ∧ Kd.R (Kd.int .i64) 3 w' w.heap.size (fun k => g < k) v5 (confAt n.cf n.st idx n.es) ∧ Kd.R k87 87 w' w.heap.size (fun k => w.heap.size + 1 < k) v8 (n.es.drop (idx - n.st).toNat) ∧ Kd.R (Kd.int .i64) 3 w' w.heap.size (fun k => w.heap.size + 1 < k ∧ k < g) v12 n.vs ∧ Kd.R k69 69 w' w.heap.size (fun k => w.heap.size + 1 < k) v13 n.ps) ∧ Below w.heap.size w w' := by
  have H := Lib.hid h
  clear h
  have H2 := Lib.hid hin
  have HL := Lib.hid hlog
  have hix : n.st ≤ idx ∧ idx ≤ n.st + n.es.length := by rw [inB_iff] at hin; omega
  have hst : 0 ≤ n.st ∧ n.st ≤ 2000000 := by have := (logOkB_parts hlog).1; omega
  have hel : n.es.length ≤ 1000000 := by have := (logOkB_parts hlog).2.2.1; omega
  clear hin hlog hcm
  obtain ⟨d, hd⟩ : ∃ d : List S87, n.es.drop (idx - n.st).toNat = d := ⟨_, rfl⟩
  rw [hd]
  have Hd := Lib.hid hd
  clear hd
  go_enter Try.func12, Try.ntmps12
  go_wp2_with fail
  refine calls_atC (fun X => Blk 36 w.heap.size #[.int .i64 n.id, .int .i64 n.term, .int .i64 n.vote, .int .i64 n.role, .int .i64 n.lead, .slice A5 n.cf.length c5, .int .i64 n.st, .int .i64 n.tm, .slice A8 n.es.length c8, .int .i64 n.cm, .int .i64 n.ck, .int .i64 n.lm, .slice A12 n.vs.length c12, .slice A13 n.ps.length c13] X ∧ Blk 36 (w.heap.size + 1) #[.int .i64 0, .int .i64 0, .int .i64 0, .int .i64 0, .int .i64 0, .slice none 0 0, .int .i64 0, .int .i64 0, .slice none 0 0, .int .i64 0, .int .i64 0, .int .i64 0, .slice none 0 0, .slice none 0 0] X ∧ Below w.heap.size w X) ⟨(Blk.new _ _ w).alloc _, Blk.newE _ _ (w.alloc _) (by simp), bl_alloc (bl_alloc (Below.refl _ _) _) _⟩ ?_
  rintro X0 ⟨k1, k2, B⟩
  have hN := impl_NodeOk_C n A5 c5 A8 c8 A12 c12 A13 c13 X0 hz (H.out.below B)
  rw [hok] at hN
  refine hN.mono ?_
  rintro e X1 ⟨rfl, hb⟩
  replace k1 := k1.below hb
  replace k2 := k2.below hb
  replace B := bl_then B hb
  clear hb hN hok X0
  have y0 := k1.cell 0 rfl
  have y1 := k1.cell 1 rfl
  have y2 := k1.cell 2 rfl
  have y3 := k1.cell 3 rfl
  have y4 := k1.cell 4 rfl
  have y5 := k1.cell 5 rfl
  have y6 := k1.cell 6 rfl
  have y7 := k1.cell 7 rfl
  have y8 := k1.cell 8 rfl
  have y9 := k1.cell 9 rfl
  have y10 := k1.cell 10 rfl
  have y11 := k1.cell 11 rfl
  have y12 := k1.cell 12 rfl
  have y13 := k1.cell 13 rfl
  have ly := k1.lt
  have fy := fun o => k1.free o
  go_wp2_with fail
  refine (inH _ _ _ _ _ H2).mono ?_
  rintro e X2 ⟨rfl, hb⟩
  replace k1 := k1.below hb
  replace k2 := k2.below hb
  replace B := bl_then B hb
  clear y0 y1 y2 y3 y4 y5 y6 y7 y8 y9 y10 y11 y12 y13 ly fy hb X1
  have y0 := k1.cell 0 rfl
  have y1 := k1.cell 1 rfl
  have y2 := k1.cell 2 rfl
  have y3 := k1.cell 3 rfl
  have y4 := k1.cell 4 rfl
  have y5 := k1.cell 5 rfl
  have y6 := k1.cell 6 rfl
  have y7 := k1.cell 7 rfl
  have y8 := k1.cell 8 rfl
  have y9 := k1.cell 9 rfl
  have y10 := k1.cell 10 rfl
  have y11 := k1.cell 11 rfl
  have y12 := k1.cell 12 rfl
  have y13 := k1.cell 13 rfl
  have ly := k1.lt
  have fy := fun o => k1.free o
  go_wp2_with fail
  refine (cloneNode_C n A5 c5 A8 c8 A12 c12 A13 c13 X2 hz (H.out.below B)).mono ?_
  rintro e X3 ⟨⟨v5, v8, v12, v13, rfl, R5, R8, R12, R13⟩, hb⟩
  have l0 := k2.lt
  obtain ⟨g, hg⟩ : ∃ g, g = X3.heap.size := ⟨_, rfl⟩
  have HR := Lib.hid (And.intro (Kd.R_mono (ok' := fun k => w.heap.size + 1 < k ∧ k < g) (Kd.R_bound (Kd.R_lower R12 B.size)) (fun k hk => ⟨by have := hk.1; omega, by rw [hg]; exact hk.2.2.1⟩)) (Kd.R_mono (ok' := fun k => w.heap.size + 1 < k ∧ k < g) (Kd.R_bound (Kd.R_lower R13 B.size)) (fun k hk => ⟨by have := hk.1; omega, by rw [hg]; exact hk.2.2.1⟩)))
  obtain ⟨B5, b5, rfl, -, -⟩ := Kd.R_reads R5
  obtain ⟨B8, b8, rfl, -, -⟩ := Kd.R_reads R8
  obtain ⟨B12, b12, rfl, -, -⟩ := Kd.R_reads R12
  obtain ⟨B13, b13, rfl, -, -⟩ := Kd.R_reads R13
  replace k1 := k1.below hb
  replace k2 := k2.below hb
  replace B := bl_then B hb
  clear y0 y1 y2 y3 y4 y5 y6 y7 y8 y9 y10 y11 y12 y13 ly fy hb R5 R8 R12 R13 l0 X2
  have y0 := k1.cell 0 rfl
  have y1 := k1.cell 1 rfl
  have y2 := k1.cell 2 rfl
  have y3 := k1.cell 3 rfl
  have y4 := k1.cell 4 rfl
  have y5 := k1.cell 5 rfl
  have y6 := k1.cell 6 rfl
  have y7 := k1.cell 7 rfl
  have y8 := k1.cell 8 rfl
  have y9 := k1.cell 9 rfl
  have y10 := k1.cell 10 rfl
  have y11 := k1.cell 11 rfl
  have y12 := k1.cell 12 rfl
  have y13 := k1.cell 13 rfl
  have ly := k1.lt
  have fy := fun o => k1.free o
  go_wp2_with fail
  refine calls_atC (fun X => Blk 36 w.heap.size #[.int .i64 n.id, .int .i64 n.term, .int .i64 n.vote, .int .i64 n.role, .int .i64 n.lead, .slice A5 n.cf.length c5, .int .i64 n.st, .int .i64 n.tm, .slice A8 n.es.length c8, .int .i64 n.cm, .int .i64 n.ck, .int .i64 n.lm, .slice A12 n.vs.length c12, .slice A13 n.ps.length c13] X ∧ Blk 36 (w.heap.size + 1) #[.int .i64 0, .int .i64 0, .int .i64 0, .int .i64 0, .int .i64 0, .slice none 0 0, .int .i64 0, .int .i64 0, .slice none 0 0, .int .i64 0, .int .i64 0, .int .i64 0, .slice none 0 0, .slice none 0 0] X ∧ Blk 36 g #[.int .i64 n.id, .int .i64 n.term, .int .i64 n.vote, .int .i64 n.role, .int .i64 n.lead, .slice B5 n.cf.length b5, .int .i64 n.st, .int .i64 n.tm, .slice B8 n.es.length b8, .int .i64 n.cm, .int .i64 n.ck, .int .i64 n.lm, .slice B12 n.vs.length b12, .slice B13 n.ps.length b13] X ∧ Below w.heap.size w X ∧ (Kd.R (Kd.int .i64) 3 X w.heap.size (fun k => w.heap.size + 1 < k ∧ k < g) (.slice B12 n.vs.length b12) n.vs ∧ Kd.R k69 69 X w.heap.size (fun k => w.heap.size + 1 < k ∧ k < g) (.slice B13 n.ps.length b13) n.ps)) ⟨k1.alloc _, k2.alloc _, Blk.newE _ _ X3 hg, bl_alloc B _, Kd.R_below HR.out.1 (bl_alloc (Below.refl _ _) _), Kd.R_below HR.out.2 (bl_alloc (Below.refl _ _) _)⟩ ?_
  have hgl : w.heap.size + 1 < g := by rw [hg]; exact k2.lt
  (try rw [← hg])
  clear y0 y1 y2 y3 y4 y5 y6 y7 y8 y9 y10 y11 y12 y13 ly fy k1 k2 B HR hg
  rintro X4 ⟨k1, k2, k3, B, hR⟩
  have HR := Lib.hid hR
  clear hR
  have l3 := k3.lt
  refine (confAt_C n idx A5 c5 A8 c8 A12 c12 A13 c13 X4 hz (H.out.below B) hst hel).mono ?_
  rintro e X5 ⟨⟨v, rfl, R5⟩, hb⟩
  have HC := Lib.hid (Kd.R_mono (ok' := fun k => g < k) (Kd.R_lower R5 B.size) (fun k hk => by have : X4.heap.size ≤ k := hk; omega))
  obtain ⟨D5, d5, rfl, -, -⟩ := Kd.R_reads R5
  replace k1 := k1.below hb
  replace k2 := k2.below hb
  replace k3 := k3.below hb
  replace B := bl_then B hb
  replace HR := Lib.hid (And.intro (Kd.R_below HR.out.1 hb) (Kd.R_below HR.out.2 hb))
  clear R5 hb l3 X4
  have y0 := k1.cell 0 rfl
  have y1 := k1.cell 1 rfl
  have y2 := k1.cell 2 rfl
  have y3 := k1.cell 3 rfl
  have y4 := k1.cell 4 rfl
  have y5 := k1.cell 5 rfl
  have y6 := k1.cell 6 rfl
  have y7 := k1.cell 7 rfl
  have y8 := k1.cell 8 rfl
  have y9 := k1.cell 9 rfl
  have y10 := k1.cell 10 rfl
  have y11 := k1.cell 11 rfl
  have y12 := k1.cell 12 rfl
  have y13 := k1.cell 13 rfl
  have ly := k1.lt
  have fy := fun o => k1.free o
  have z0 := k3.cell 0 rfl
  have z1 := k3.cell 1 rfl
  have z2 := k3.cell 2 rfl
  have z3 := k3.cell 3 rfl
  have z4 := k3.cell 4 rfl
  have z5 := k3.cell 5 rfl
  have z6 := k3.cell 6 rfl
  have z7 := k3.cell 7 rfl
  have z8 := k3.cell 8 rfl
  have z9 := k3.cell 9 rfl
  have z10 := k3.cell 10 rfl
  have z11 := k3.cell 11 rfl
  have z12 := k3.cell 12 rfl
  have z13 := k3.cell 13 rfl
  have lz := k3.lt
  have fz := fun o => k3.free o
  go_wp2_with fail
  clear y0 y1 y2 y3 y4 y5 y6 y7 y8 y9 y10 y11 y12 y13 ly fy z0 z1 z2 z3 z4 z5 z6 z7 z8 z9 z10 z11 z12 z13 lz fz
  refine wp_atC (fun X => Blk 36 w.heap.size #[.int .i64 n.id, .int .i64 n.term, .int .i64 n.vote, .int .i64 n.role, .int .i64 n.lead, .slice A5 n.cf.length c5, .int .i64 n.st, .int .i64 n.tm, .slice A8 n.es.length c8, .int .i64 n.cm, .int .i64 n.ck, .int .i64 n.lm, .slice A12 n.vs.length c12, .slice A13 n.ps.length c13] X ∧ Blk 36 (w.heap.size + 1) #[.int .i64 0, .int .i64 0, .int .i64 0, .int .i64 0, .int .i64 0, .slice none 0 0, .int .i64 0, .int .i64 0, .slice none 0 0, .int .i64 0, .int .i64 0, .int .i64 0, .slice none 0 0, .slice none 0 0] X ∧ Blk 36 g #[.int .i64 n.id, .int .i64 n.term, .int .i64 n.vote, .int .i64 n.role, .int .i64 n.lead, .slice D5 (confAt n.cf n.st idx n.es).length d5, .int .i64 n.st, .int .i64 n.tm, .slice B8 n.es.length b8, .int .i64 n.cm, .int .i64 n.ck, .int .i64 n.lm, .slice B12 n.vs.length b12, .slice B13 n.ps.length b13] X ∧ Below w.heap.size w X ∧ (Kd.R (Kd.int .i64) 3 X w.heap.size (fun k => w.heap.size + 1 < k ∧ k < g) (.slice B12 n.vs.length b12) n.vs ∧ Kd.R k69 69 X w.heap.size (fun k => w.heap.size + 1 < k ∧ k < g) (.slice B13 n.ps.length b13) n.ps ∧ Kd.R (Kd.int .i64) 3 X w.heap.size (fun k => g < k) (.slice D5 (confAt n.cf n.st idx n.es).length d5) (confAt n.cf n.st idx n.es))) ⟨k1.far (a := ⟨g, 5, none⟩) (by show w.heap.size ≠ g; omega) _, k2.far (a := ⟨g, 5, none⟩) (by show w.heap.size + 1 ≠ g; omega) _, k3.set 5 _ rfl, bl_set B (by show w.heap.size ≤ g; omega), own_far HR.out.1 (fun k hk => by omega), own_far HR.out.2 (fun k hk => by omega), own_far HC.out (fun k hk => by omega)⟩ ?_
  clear k1 k2 k3 B HR HC
  rintro Y ⟨k1, k2, k3, B, hR⟩
  have HR := Lib.hid hR
  clear hR
  have l1 := k1.lt
  have l3 := k3.lt
  refine wp_region_flowT (L := fun A B => Below A.heap.size A B) (M := fun A B => Below A.heap.size A B) (J := fun _ => True) (J1 := fun _ => True) 100 trivial (fun _ _ _ _ => trivial) (fun _ _ _ _ => trivial) (fun a b h => h) (fun w => bl_drew (Below.refl _ _)) (fun a b c h k => bl_then h k) [1, 2, 6] 37 9 (by kernel_rfl) (by rfl) (by kernel_rfl) (by kernel_rfl) (by kernel_rfl) (by kernel_rfl) ?_
  (refine flowT_valE (by decide) ?_; apply Exists.intro; refine ⟨fun A wq hLq hbq hdq => ?_, ?_⟩; focus ((try simp [go_sem, baseF, deps, dep1, Region.binds] at hbq); (try simp [go_sem, baseF, deps, dep1, Region.binds] at hdq); go_simp; first | exact ⟨Below.refl _ _, rfl⟩ | (fail)))
  refine flowT_valE (by decide) ⟨.agg #[.int .i64 n.st, .int .i64 n.tm, .slice A8 n.es.length c8], fun A wq hLq hbq hdq => ?_, ?_⟩
  · have kq := k1.below hLq
    have q6 := kq.cell 6 rfl
    have q7 := kq.cell 7 rfl
    have q8 := kq.cell 8 rfl
    (try simp [go_sem, baseF, deps, dep1, Region.binds] at hbq)
    (try simp [go_sem, baseF, deps, dep1, Region.binds] at hdq)
    go_simp
    first | exact Below.refl _ _ | exact ⟨Below.refl _ _, rfl⟩
  iterate 2 (refine flowT_valE (by decide) ?_; apply Exists.intro; refine ⟨fun A wq hLq hbq hdq => ?_, ?_⟩; focus ((try simp [go_sem, baseF, deps, dep1, Region.binds] at hbq); (try simp [go_sem, baseF, deps, dep1, Region.binds] at hdq); go_simp; first | exact ⟨Below.refl _ _, rfl⟩ | (fail)))
  refine flowT_valE (by decide) ⟨.agg #[.int .i64 n.st, .int .i64 n.tm, .slice A8 n.es.length c8], fun A wq hLq hbq hdq => ?_, ?_⟩
  · have kq := k1.below hLq
    have q6 := kq.cell 6 rfl
    have q7 := kq.cell 7 rfl
    have q8 := kq.cell 8 rfl
    (try simp [go_sem, baseF, deps, dep1, Region.binds] at hbq)
    (try simp [go_sem, baseF, deps, dep1, Region.binds] at hdq)
    go_simp
    first | exact Below.refl _ _ | exact ⟨Below.refl _ _, rfl⟩
  (refine flowT_valE (by decide) ?_; apply Exists.intro; refine ⟨fun A wq hLq hbq hdq => ?_, ?_⟩; focus ((try simp [go_sem, baseF, deps, dep1, Region.binds] at hbq); (try simp [go_sem, baseF, deps, dep1, Region.binds] at hdq); go_simp; first | exact ⟨Below.refl _ _, rfl⟩ | (fail)))
  refine flowT_valE (by decide) ⟨.int .i64 t, fun A wq hLq hbq hdq => ?_, ?_⟩
  · (try simp [go_sem, baseF, deps, dep1, Region.binds] at hbq)
    (try simp [go_sem, baseF, deps, dep1, Region.binds] at hdq)
    go_simp
    exact itermH _ _ _ _ n.es _ _ _ ht hst hz.es hix (H.out.below (bl_then B hLq)).h8 H.out.hc8
  refine flowT_R (by decide) (fun W u => ∃ v, u = .agg #[.int .i64 idx, .int .i64 t, v] ∧ Kd.R k87 87 W w.heap.size (fun k => w.heap.size + 1 < k ∧ g < k) v d) (fun _ _ _ ⟨v, h1, h⟩ u => ⟨v, h1, Kd.R_below h u⟩) (fun A wq hLq hbq hdq => ?_) ?_
  · (try simp [go_sem, baseF, deps, dep1, Region.binds] at hbq)
    (try simp [go_sem, baseF, deps, dep1, Region.binds] at hdq)
    go_simp
    refine (ibeh_C n.st n.tm A8 c8 n.es idx t wq ht HL.out hz.sh hix (H.out.below (bl_then B hLq)).h8 H.out.hc8 H.out.hn8).mono ?_
    rintro e w5 ⟨⟨v, rfl, hR⟩, hb5⟩
    rw [Hd.out] at hR
    have hzq := hLq.size
    have R9 := Kd.R_mono (Kd.R_lower hR (Nat.le_trans B.size hzq)) (ok' := fun k => w.heap.size + 1 < k ∧ g < k) (fun k hk => by have : wq.heap.size + 1 < k := hk; omega)
    first | exact ⟨_, rfl, hb5, v, rfl, R9⟩ | exact ⟨hb5, v, rfl, R9⟩
  (refine flowT_valE (by decide) ?_; apply Exists.intro; refine ⟨fun A wq hLq hbq hdq => ?_, ?_⟩; focus ((try simp [go_sem, baseF, deps, dep1, Region.binds] at hbq); (try simp [go_sem, baseF, deps, dep1, Region.binds] at hdq); go_simp; first | exact ⟨Below.refl _ _, rfl⟩ | (fail)))
  with_reducible refine flowT_tail ?_
  intro x wq hLq hall hJ1
  simp only [allT] at hall
  obtain ⟨h8, ⟨v8, h7, R8⟩, -⟩ := hall
  obtain ⟨D8, d8, rfl, -, -⟩ := Kd.R_reads R8
  have m2 := k2.below hLq
  have m3 := k3.below hLq
  have B2 := bl_then B hLq
  have HS := Lib.hid (And.intro (Kd.R_below HR.out.2.2 hLq) (And.intro R8 (And.intro (Kd.R_below HR.out.1 hLq) (Kd.R_below HR.out.2.1 hLq))))
  clear R8 k1 k2 k3 B HR
  have y0 := m2.cell 0 rfl
  have y1 := m2.cell 1 rfl
  have y2 := m2.cell 2 rfl
  have y3 := m2.cell 3 rfl
  have y4 := m2.cell 4 rfl
  have y5 := m2.cell 5 rfl
  have y6 := m2.cell 6 rfl
  have y7 := m2.cell 7 rfl
  have y8 := m2.cell 8 rfl
  have y9 := m2.cell 9 rfl
  have y10 := m2.cell 10 rfl
  have y11 := m2.cell 11 rfl
  have y12 := m2.cell 12 rfl
  have y13 := m2.cell 13 rfl
  have ly := m2.lt
  have fy := fun o => m2.free o
  have z0 := m3.cell 0 rfl
  have z1 := m3.cell 1 rfl
  have z2 := m3.cell 2 rfl
  have z3 := m3.cell 3 rfl
  have z4 := m3.cell 4 rfl
  have z5 := m3.cell 5 rfl
  have z6 := m3.cell 6 rfl
  have z7 := m3.cell 7 rfl
  have z8 := m3.cell 8 rfl
  have z9 := m3.cell 9 rfl
  have z10 := m3.cell 10 rfl
  have z11 := m3.cell 11 rfl
  have z12 := m3.cell 12 rfl
  have z13 := m3.cell 13 rfl
  have lz := m3.lt
  have fz := fun o => m3.free o
  refine ⟨?_⟩
  simp [frameOf, Act.put, List.take, h8, h7]
  clear h8 h7
  refine seq_skip (by go_simp; rfl) ?_
  refine seq_at (fun W => Blk 36 (w.heap.size + 1) #[.int .i64 0, .int .i64 0, .int .i64 0, .int .i64 0, .int .i64 0, .slice none 0 0, .int .i64 0, .int .i64 0, .slice none 0 0, .int .i64 0, .int .i64 0, .int .i64 0, .slice none 0 0, .slice none 0 0] W ∧ Blk 36 g #[.int .i64 n.id, .int .i64 n.term, .int .i64 n.vote, .int .i64 n.role, .int .i64 n.lead, .slice D5 (confAt n.cf n.st idx n.es).length d5, .int .i64 idx, .int .i64 t, .slice D8 d.length d8, .int .i64 n.cm, .int .i64 n.ck, .int .i64 n.lm, .slice B12 n.vs.length b12, .slice B13 n.ps.length b13] W ∧ Below w.heap.size w W ∧ (Kd.R (Kd.int .i64) 3 W w.heap.size (fun k => g < k) (.slice D5 (confAt n.cf n.st idx n.es).length d5) (confAt n.cf n.st idx n.es) ∧ Kd.R k87 87 W w.heap.size (fun k => w.heap.size + 1 < k ∧ g < k) (.slice D8 d.length d8) d ∧ Kd.R (Kd.int .i64) 3 W w.heap.size (fun k => w.heap.size + 1 < k ∧ k < g) (.slice B12 n.vs.length b12) n.vs ∧ Kd.R k69 69 W w.heap.size (fun k => w.heap.size + 1 < k ∧ k < g) (.slice B13 n.ps.length b13) n.ps)) ⟨((m2.far (a := ⟨g, 6, none⟩) (by show w.heap.size + 1 ≠ g; omega) (.int .i64 idx)).far (a := ⟨g, 7, none⟩) (by show w.heap.size + 1 ≠ g; omega) (.int .i64 t)).far (a := ⟨g, 8, none⟩) (by show w.heap.size + 1 ≠ g; omega) _, ((m3.set 6 (.int .i64 idx) rfl).set 7 (.int .i64 t) rfl).set 8 (.slice D8 d.length d8) rfl, bl_set (bl_set (bl_set B2 (by show w.heap.size ≤ g; omega)) (by show w.heap.size ≤ g; omega)) (by show w.heap.size ≤ g; omega), own_far (own_far (own_far HS.out.1 (fun k hk => by omega)) (fun k hk => by omega)) (fun k hk => by omega), own_far (own_far (own_far HS.out.2.1 (fun k hk => by omega)) (fun k hk => by omega)) (fun k hk => by omega), own_far (own_far (own_far HS.out.2.2.1 (fun k hk => by omega)) (fun k hk => by omega)) (fun k hk => by omega), own_far (own_far (own_far HS.out.2.2.2 (fun k hk => by omega)) (fun k hk => by omega)) (fun k hk => by omega)⟩ ?_
  clear m2 m3 B2 HS y0 y1 y2 y3 y4 y5 y6 y7 y8 y9 y10 y11 y12 y13 ly fy z0 z1 z2 z3 z4 z5 z6 z7 z8 z9 z10 z11 z12 z13 lz fz
  rintro W4 ⟨m2, m3, B2, hR⟩
  have HR := Lib.hid hR
  clear hR
  have y0 := m2.cell 0 rfl
  have y1 := m2.cell 1 rfl
  have y2 := m2.cell 2 rfl
  have y3 := m2.cell 3 rfl
  have y4 := m2.cell 4 rfl
  have y5 := m2.cell 5 rfl
  have y6 := m2.cell 6 rfl
  have y7 := m2.cell 7 rfl
  have y8 := m2.cell 8 rfl
  have y9 := m2.cell 9 rfl
  have y10 := m2.cell 10 rfl
  have y11 := m2.cell 11 rfl
  have y12 := m2.cell 12 rfl
  have y13 := m2.cell 13 rfl
  have ly := m2.lt
  have fy := fun o => m2.free o
  have z0 := m3.cell 0 rfl
  have z1 := m3.cell 1 rfl
  have z2 := m3.cell 2 rfl
  have z3 := m3.cell 3 rfl
  have z4 := m3.cell 4 rfl
  have z5 := m3.cell 5 rfl
  have z6 := m3.cell 6 rfl
  have z7 := m3.cell 7 rfl
  have z8 := m3.cell 8 rfl
  have z9 := m3.cell 9 rfl
  have z10 := m3.cell 10 rfl
  have z11 := m3.cell 11 rfl
  have z12 := m3.cell 12 rfl
  have z13 := m3.cell 13 rfl
  have lz := m3.lt
  have fz := fun o => m3.free o
  refine seq_nil ?_
  simp only [Act.put]
  go_wp2_with fail
  have hR := HR.out
  refine bodyPost_ret (v := .tuple #[.agg #[.int .i64 n.id, .int .i64 n.term, .int .i64 n.vote, .int .i64 n.role, .int .i64 n.lead, .slice D5 (confAt n.cf n.st idx n.es).length d5, .int .i64 idx, .int .i64 t, .slice D8 d.length d8, .int .i64 n.cm, .int .i64 n.ck, .int .i64 n.lm, .slice B12 n.vs.length b12, .slice B13 n.ps.length b13], .bool true]) ?_ rfl ⟨⟨g, _, _, _, _, hgl, rfl, ?_, ?_, ?_, ?_⟩, ?_⟩
  · simp only [results, Try.results12]
    go_simp
  · iterate 14 refine own_far ?_ (fun k hk => by omega)
    exact hR.1
  · refine Kd.R_mono (ok := fun k => w.heap.size + 1 < k ∧ g < k) ?_ (fun k hk => hk.1)
    iterate 14 refine own_far ?_ (fun k hk => by omega)
    exact hR.2.1
  · iterate 14 refine own_far ?_ (fun k hk => by omega)
    exact hR.2.2.1
  · refine Kd.R_mono (ok := fun k => w.heap.size + 1 < k ∧ k < g) ?_ (fun k hk => hk.1)
    iterate 14 refine own_far ?_ (fun k hk => by omega)
    exact hR.2.2.2
  · iterate 14 refine bl_set ?_ (Nat.le_succ _)
    exact B2
end Go.Proofs.Ytallakebnoighaa.PFnExactSettle
end
