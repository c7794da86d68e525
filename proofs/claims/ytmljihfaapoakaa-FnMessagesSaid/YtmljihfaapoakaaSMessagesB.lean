import Derived.Test.YtmljihfaapoakaaSMessagesA

section
namespace Go.Proofs.Ytmljihfaapoakaa.PFnMessages
open Go.RowKit Go.Proofs.YtmljihfaapoakaaW.PrintWords Go.Proofs.YtmljihfaapoakaaW.PrintLast Go.Proofs.YtmljihfaapoakaaW.PrintMore
set_option linter.unusedVariables false
set_option linter.unusedSimpArgs false
def spec_LeaseOf.l0 : Nat → Int → Int → List (S96) → List (S130) → List (S109) → List (S112) → Option (Int × Int)
  | 0, _, _, _, _, _, _ => none
  | k + 1, x1, x6, x201000, x201001, x201002, x201003 => if x6 < (x201003.length : Int) then (if 0 ≤ x6 then (if ((rd_T112 x201003 x6).f0) = x1 then (some ((rd_T112 x201003 x6).f1, (rd_T112 x201003 x6).f2)) else (spec_LeaseOf.l0 k x1 (wrap64 (x6 + 1)) x201000 x201001 x201002 x201003)) else (none)) else (some (0, 0))
def spec_LeaseOf.f (k : Nat) (l0_0 : List (S96)) (l0_1 : List (S130)) (l0_2 : List (S109)) (l0_3 : List (S112)) (a1 : Int) : Option (Int × Int) := spec_LeaseOf.l0 k a1 0 l0_0 l0_1 l0_2 l0_3
theorem spec_LeaseOf.mono_l : ∀ k, (∀ y0 y1 y2 y3 y4 y5, LeO (spec_LeaseOf.l0 k y0 y1 y2 y3 y4 y5) (spec_LeaseOf.l0 (k + 1) y0 y1 y2 y3 y4 y5))
  | 0 => fun _ _ _ _ _ _ r h => by simp [spec_LeaseOf.l0] at h
  | k + 1 => by
    have ih0 := spec_LeaseOf.mono_l k
    · intro y0 y1 y2 y3 y4 y5
      unfold spec_LeaseOf.l0
      repeat' first
      | (with_reducible exact ih0 _ _ _ _ _ _)
      | (with_reducible exact LeO.refl _)
      | (with_reducible exact LeO.none _)
      | (with_reducible refine LeO.ite ?_ ?_)
      | (with_reducible refine LeO.bind ?_ (fun _ => ?_))
      | exact ih0 _ _ _ _ _ _
      | exact LeO.none _
      | refine LeO.ite ?_ ?_
      | refine LeO.bind ?_ (fun _ => ?_)
theorem spec_LeaseOf.mono : ∀ a0 a1 a2 a3 a4 k, LeO (spec_LeaseOf.f k a0 a1 a2 a3 a4) (spec_LeaseOf.f (k + 1) a0 a1 a2 a3 a4) := by
  intro a0 a1 a2 a3 a4 k
  have ih0 := spec_LeaseOf.mono_l k
  unfold spec_LeaseOf.f
  repeat' first
      | (with_reducible exact ih0 _ _ _ _ _ _)
      | (with_reducible exact LeO.refl _)
      | (with_reducible exact LeO.none _)
      | (with_reducible refine LeO.ite ?_ ?_)
      | (with_reducible refine LeO.bind ?_ (fun _ => ?_))
      | exact ih0 _ _ _ _ _ _
      | exact LeO.none _
      | refine LeO.ite ?_ ?_
      | refine LeO.bind ?_ (fun _ => ?_)
set_option maxHeartbeats 8000000 in
set_option maxRecDepth 100000 in
theorem spec_LeaseOf.calls (k : Nat) (A0_0 : Option Addr) (c0_0 : Nat) (l0_0 : List (S96)) (A0_1 : Option Addr) (c0_1 : Nat) (l0_1 : List (S130)) (A0_2 : Option Addr) (c0_2 : Nat) (l0_2 : List (S109)) (A0_3 : Option Addr) (c0_3 : Nat) (l0_3 : List (S112)) (a1 : Int) (r1 : Int) (r2 : Int) (w : World) (hr0_0 : Kd.C k96 w A0_0 l0_0.length l0_0) (hc0_0 : l0_0.length ≤ c0_0) (hr0_1 : Kd.C k130 w A0_1 l0_1.length l0_1) (hc0_1 : l0_1.length ≤ c0_1) (hr0_2 : Kd.C k109 w A0_2 l0_2.length l0_2) (hc0_2 : l0_2.length ≤ c0_2) (hr0_3 : Kd.C k112 w A0_3 l0_3.length l0_3) (hc0_3 : l0_3.length ≤ c0_3) (h : spec_LeaseOf.f k l0_0 l0_1 l0_2 l0_3 a1 = some (r1, r2)) :
    Calls Try.prog 72 #[.agg #[.slice A0_0 l0_0.length c0_0, .slice A0_1 l0_1.length c0_1, .slice A0_2 l0_2.length c0_2, .slice A0_3 l0_3.length c0_3], .int .i64 a1] w fun e w' => e = .returned (.tuple #[.int .i64 r1, .int .i64 r2]) ∧ Below w.heap.size w w' := by
  have hu102 := Try.underlying102
  have HR0_0 := Aside0.mk hr0_0
  have HC0_0 := Aside0.mk hc0_0
  clear hr0_0 hc0_0
  have HR0_1 := Aside0.mk hr0_1
  have HC0_1 := Aside0.mk hc0_1
  clear hr0_1 hc0_1
  have HR0_2 := Aside0.mk hr0_2
  have HC0_2 := Aside0.mk hc0_2
  clear hr0_2 hc0_2
  have HR0_3 := Aside0.mk hr0_3
  have HC0_3 := Aside0.mk hc0_3
  clear hr0_3 hc0_3
  have HB := Aside0.mk (Below.refl w.heap.size w)
  have H : (spec_LeaseOf.l0 k a1 0 l0_0 l0_1 l0_2 l0_3) = some (r1, r2) := h
  clear h
  have H' := Aside0.mk H
  clear H
  go_enter Try.func72, Try.ntmps72
  go_wp2_with (first | ((with_reducible refine gate_dst (N := 2) rfl ?_); refine box_event ?hg (N := 2) ?hd (cs := #[.slice A0_0 l0_0.length c0_0, .slice A0_1 l0_1.length c0_1, .slice A0_2 l0_2.length c0_2, .slice A0_3 l0_3.length c0_3]) (t := 102) ?hr ?_; (case hd => rfl); (case hg => rfl); (case hr => first | (go_simp; done) | (go_simp; rfl)); intro gb200 hg w3 hbox hb; have n0_ := Aside0.mk (below_step (by repeat (first | (with_reducible first | exact HB.out | apply below_alloc | apply pw_below_drewN | apply below_drew1) | exact HB.out)) hb); have n1_ := Aside0.mk (hbox); have n2_ := Aside0.mk ((by rw [hg]; exact (below_size (by repeat (first | (with_reducible first | exact HB.out | apply below_alloc | apply pw_below_drewN | apply below_drew1) | exact HB.out))) : w.heap.size ≤ gb200)); have n3_ := Aside0.mk ((by rw [hg]; exact (below_size (by repeat (first | (with_reducible first | exact HB.out | apply below_alloc | apply pw_below_drewN | apply below_drew1) | exact HB.out))) : w.heap.size ≤ gb200)); clear HB; have HB := n0_; have BK200 := n1_; have GW200 := n2_; have GE200 := n3_; clear n0_ n1_ n2_ n3_; clear hb hbox hg))
  repeat (go_quiet (first | ((with_reducible refine gate_dst (N := 2) rfl ?_); refine box_event ?hg (N := 2) ?hd (cs := #[.slice A0_0 l0_0.length c0_0, .slice A0_1 l0_1.length c0_1, .slice A0_2 l0_2.length c0_2, .slice A0_3 l0_3.length c0_3]) (t := 102) ?hr ?_; (case hd => rfl); (case hg => rfl); (case hr => first | (go_simp; done) | (go_simp; rfl)); intro gb200 hg w3 hbox hb; have n0_ := Aside0.mk (below_step (by repeat (first | (with_reducible first | exact HB.out | apply below_alloc | apply pw_below_drewN | apply below_drew1) | exact HB.out)) hb); have n1_ := Aside0.mk (hbox); have n2_ := Aside0.mk ((by rw [hg]; exact (below_size (by repeat (first | (with_reducible first | exact HB.out | apply below_alloc | apply pw_below_drewN | apply below_drew1) | exact HB.out))) : w.heap.size ≤ gb200)); have n3_ := Aside0.mk ((by rw [hg]; exact (below_size (by repeat (first | (with_reducible first | exact HB.out | apply below_alloc | apply pw_below_drewN | apply below_drew1) | exact HB.out))) : w.heap.size ≤ gb200)); clear HB; have HB := n0_; have BK200 := n1_; have GW200 := n2_; have GE200 := n3_; clear n0_ n1_ n2_ n3_; clear hb hbox hg)); try go_wp2_with (first | ((with_reducible refine gate_dst (N := 2) rfl ?_); refine box_event ?hg (N := 2) ?hd (cs := #[.slice A0_0 l0_0.length c0_0, .slice A0_1 l0_1.length c0_1, .slice A0_2 l0_2.length c0_2, .slice A0_3 l0_3.length c0_3]) (t := 102) ?hr ?_; (case hd => rfl); (case hg => rfl); (case hr => first | (go_simp; done) | (go_simp; rfl)); intro gb200 hg w3 hbox hb; have n0_ := Aside0.mk (below_step (by repeat (first | (with_reducible first | exact HB.out | apply below_alloc | apply pw_below_drewN | apply below_drew1) | exact HB.out)) hb); have n1_ := Aside0.mk (hbox); have n2_ := Aside0.mk ((by rw [hg]; exact (below_size (by repeat (first | (with_reducible first | exact HB.out | apply below_alloc | apply pw_below_drewN | apply below_drew1) | exact HB.out))) : w.heap.size ≤ gb200)); have n3_ := Aside0.mk ((by rw [hg]; exact (below_size (by repeat (first | (with_reducible first | exact HB.out | apply below_alloc | apply pw_below_drewN | apply below_drew1) | exact HB.out))) : w.heap.size ≤ gb200)); clear HB; have HB := n0_; have BK200 := n1_; have GW200 := n2_; have GE200 := n3_; clear n0_ n1_ n2_ n3_; clear hb hbox hg)))
  go_loopg [6] k (fun kq v6 w' => ∃ (x6_1 : Int), v6 = .int .i64 x6_1 ∧ Aside0 (spec_LeaseOf.l0 kq a1 x6_1 l0_0 l0_1 l0_2 l0_3 = some (r1, r2)) ∧ Aside0 (kq ≤ k) ∧ Aside0 (w'.heap[gb200]? = some (.cells #[(.slice A0_0 l0_0.length c0_0), (.slice A0_1 l0_1.length c0_1), (.slice A0_2 l0_2.length c0_2), (.slice A0_3 l0_3.length c0_3)] 102 (0, 0))) ∧ Aside0 (Below w.heap.size w w'))
  case atStart => exact ⟨(0), (by first | rfl | (simp; done) | (simp [*]; done)), H', ⟨Nat.le_refl _⟩, ⟨by (with_reducible repeat (first | refine blk_drewN ?_ _ | refine blk_drew ?_ | refine blk_alloc ?_ _)); exact BK200.out⟩, ⟨by repeat (first | (with_reducible first | exact HB.out | apply below_alloc | apply pw_below_drewN | apply below_drew1 | refine below_set ?_ GE200.out) | exact HB.out)⟩⟩
  case round =>
    clear H'
    try clear p2
    obtain ⟨x6_1, rfl, HA, HK1, BK200, HB⟩ := hrel
    cases gk with
    | zero => exact absurd HA.out (by simp [spec_LeaseOf.l0])
    | succ k1 =>
      have H := HA.out
      clear HA
      simp only [spec_LeaseOf.l0] at H
      by_cases c4 : x6_1 < (l0_3.length : Int)
      · rw [if_pos c4] at H
        have c4b0 : decide (x6_1 < (l0_3.length : Int)) = true := decide_eq_true c4
        clear c4
        by_cases c5 : 0 ≤ x6_1
        · rw [if_pos c5] at H
          have c5b0 : decide (0 ≤ x6_1) = true := decide_eq_true c5
          clear c5
          by_cases c6 : ((rd_T112 l0_3 x6_1).f0) = a1
          · rw [if_pos c6] at H
            have c6b0 : (((rd_T112 l0_3 x6_1).f0) == a1) = true := beq_iff_eq.mpr c6
            have c6b1 : (((rd_T112 l0_3 x6_1).f0) != a1) = false := bne_eq_false_iff_eq.mpr c6
            clear c6
            simp only [Option.some.injEq, Prod.mk.injEq] at H
            obtain ⟨rfl, rfl⟩ := H
            have hcz7_0 : wr.cell? ⟨gb200, 0, none⟩ = some (.slice A0_0 l0_0.length c0_0) := (blk_cell BK200.out 0).trans rfl
            have hcz7_1 : wr.cell? ⟨gb200, 1, none⟩ = some (.slice A0_1 l0_1.length c0_1) := (blk_cell BK200.out 1).trans rfl
            have hcz7_2 : wr.cell? ⟨gb200, 2, none⟩ = some (.slice A0_2 l0_2.length c0_2) := (blk_cell BK200.out 2).trans rfl
            have hcz7_3 : wr.cell? ⟨gb200, 3, none⟩ = some (.slice A0_3 l0_3.length c0_3) := (blk_cell BK200.out 3).trans rfl
            have hfz7_0 := blk_frozen BK200.out 0
            have hfz7_1 := blk_frozen BK200.out 1
            have hfz7_2 := blk_frozen BK200.out 2
            have hfz7_3 := blk_frozen BK200.out 3
            have p201 : 0 ≤ (x6_1 : Int) := of_decide_eq_true (by first | (with_reducible assumption) | assumption)
            have q201 : x6_1 < (l0_3.length : Int) := of_decide_eq_true (by first | (with_reducible assumption) | assumption)
            obtain ⟨ad201, e201, hx201_0, hx201_1, hx201_2⟩ := at_T112 HR0_3.out x6_1 p201 q201
            cases e201
            replace hx201_0 := (HB.out.cell (World.block_lt_of_cell? w _ hx201_0)).trans hx201_0
            replace hx201_1 := (HB.out.cell (World.block_lt_of_cell? w _ hx201_1)).trans hx201_1
            replace hx201_2 := (HB.out.cell (World.block_lt_of_cell? w _ hx201_2)).trans hx201_2
            replace p201 := eq_true p201
            replace q201 := eq_true q201
            have p202 : 0 ≤ (x6_1 : Int) := of_decide_eq_true (by first | (with_reducible assumption) | assumption)
            have q202 : x6_1 < (l0_3.length : Int) := of_decide_eq_true (by first | (with_reducible assumption) | assumption)
            obtain ⟨ad202, e202, hx202_0, hx202_1, hx202_2⟩ := at_T112 HR0_3.out x6_1 p202 q202
            obtain rfl : ad201 = ad202 := (by injection e202)
            replace hx202_0 := (HB.out.cell (World.block_lt_of_cell? w _ hx202_0)).trans hx202_0
            replace hx202_1 := (HB.out.cell (World.block_lt_of_cell? w _ hx202_1)).trans hx202_1
            replace hx202_2 := (HB.out.cell (World.block_lt_of_cell? w _ hx202_2)).trans hx202_2
            replace p202 := eq_true p202
            replace q202 := eq_true q202
            have p203 : 0 ≤ (x6_1 : Int) := of_decide_eq_true (by first | (with_reducible assumption) | assumption)
            have q203 : x6_1 < (l0_3.length : Int) := of_decide_eq_true (by first | (with_reducible assumption) | assumption)
            obtain ⟨ad203, e203, hx203_0, hx203_1, hx203_2⟩ := at_T112 HR0_3.out x6_1 p203 q203
            obtain rfl : ad201 = ad203 := (by injection e203)
            replace hx203_0 := (HB.out.cell (World.block_lt_of_cell? w _ hx203_0)).trans hx203_0
            replace hx203_1 := (HB.out.cell (World.block_lt_of_cell? w _ hx203_1)).trans hx203_1
            replace hx203_2 := (HB.out.cell (World.block_lt_of_cell? w _ hx203_2)).trans hx203_2
            replace p203 := eq_true p203
            replace q203 := eq_true q203
            go_wp2
            repeat (go_quiet (fail); try go_wp2)
            go_ret2
            exact ⟨by first | rfl | (simp [errW_none, errW_some] <;> rfl) | (simp [*, errW_none, errW_some] <;> rfl), by repeat (first | (with_reducible first | exact HB.out | apply below_alloc | apply pw_below_drewN | apply below_drew1 | refine below_set ?_ GE200.out) | exact HB.out)⟩
          · rw [if_neg c6] at H
            have c6b0 : (((rd_T112 l0_3 x6_1).f0) == a1) = false := beq_eq_false_iff_ne.mpr c6
            have c6b1 : (((rd_T112 l0_3 x6_1).f0) != a1) = true := bne_iff_ne.mpr c6
            have H' := Aside0.mk H
            clear H
            have hcz8_0 : wr.cell? ⟨gb200, 0, none⟩ = some (.slice A0_0 l0_0.length c0_0) := (blk_cell BK200.out 0).trans rfl
            have hcz8_1 : wr.cell? ⟨gb200, 1, none⟩ = some (.slice A0_1 l0_1.length c0_1) := (blk_cell BK200.out 1).trans rfl
            have hcz8_2 : wr.cell? ⟨gb200, 2, none⟩ = some (.slice A0_2 l0_2.length c0_2) := (blk_cell BK200.out 2).trans rfl
            have hcz8_3 : wr.cell? ⟨gb200, 3, none⟩ = some (.slice A0_3 l0_3.length c0_3) := (blk_cell BK200.out 3).trans rfl
            have hfz8_0 := blk_frozen BK200.out 0
            have hfz8_1 := blk_frozen BK200.out 1
            have hfz8_2 := blk_frozen BK200.out 2
            have hfz8_3 := blk_frozen BK200.out 3
            have p201 : 0 ≤ (x6_1 : Int) := of_decide_eq_true (by first | (with_reducible assumption) | assumption)
            have q201 : x6_1 < (l0_3.length : Int) := of_decide_eq_true (by first | (with_reducible assumption) | assumption)
            obtain ⟨ad201, e201, hx201_0, hx201_1, hx201_2⟩ := at_T112 HR0_3.out x6_1 p201 q201
            cases e201
            replace hx201_0 := (HB.out.cell (World.block_lt_of_cell? w _ hx201_0)).trans hx201_0
            replace hx201_1 := (HB.out.cell (World.block_lt_of_cell? w _ hx201_1)).trans hx201_1
            replace hx201_2 := (HB.out.cell (World.block_lt_of_cell? w _ hx201_2)).trans hx201_2
            replace p201 := eq_true p201
            replace q201 := eq_true q201
            go_wp2
            repeat (go_quiet (fail); try go_wp2)
            go_roundg k1
            case measure => have := HK1.out; omega
            case rel => exact ⟨(wrap64 (x6_1 + 1)), (by first | rfl | (simp; done) | (simp [*]; done)), H', ⟨by have := HK1.out; omega⟩, ⟨by (with_reducible repeat (first | refine blk_drewN ?_ _ | refine blk_drew ?_ | refine blk_alloc ?_ _)); exact BK200.out⟩, ⟨by repeat (first | (with_reducible first | exact HB.out | apply below_alloc | apply pw_below_drewN | apply below_drew1 | refine below_set ?_ GE200.out) | exact HB.out)⟩⟩
        · rw [if_neg c5] at H
          exact absurd H (by simp)
      · rw [if_neg c4] at H
        have c4b0 : decide (x6_1 < (l0_3.length : Int)) = false := decide_eq_false c4
        clear c4
        simp only [Option.some.injEq, Prod.mk.injEq] at H
        obtain ⟨rfl, rfl⟩ := H
        have hcz9_0 : wr.cell? ⟨gb200, 0, none⟩ = some (.slice A0_0 l0_0.length c0_0) := (blk_cell BK200.out 0).trans rfl
        have hcz9_1 : wr.cell? ⟨gb200, 1, none⟩ = some (.slice A0_1 l0_1.length c0_1) := (blk_cell BK200.out 1).trans rfl
        have hcz9_2 : wr.cell? ⟨gb200, 2, none⟩ = some (.slice A0_2 l0_2.length c0_2) := (blk_cell BK200.out 2).trans rfl
        have hcz9_3 : wr.cell? ⟨gb200, 3, none⟩ = some (.slice A0_3 l0_3.length c0_3) := (blk_cell BK200.out 3).trans rfl
        have hfz9_0 := blk_frozen BK200.out 0
        have hfz9_1 := blk_frozen BK200.out 1
        have hfz9_2 := blk_frozen BK200.out 2
        have hfz9_3 := blk_frozen BK200.out 3
        go_wp2
        repeat (go_quiet (fail); try go_wp2)
        go_ret2
        exact ⟨by first | rfl | (simp [errW_none, errW_some] <;> rfl) | (simp [*, errW_none, errW_some] <;> rfl), by repeat (first | (with_reducible first | exact HB.out | apply below_alloc | apply pw_below_drewN | apply below_drew1 | refine below_set ?_ GE200.out) | exact HB.out)⟩
end Go.Proofs.Ytmljihfaapoakaa.PFnMessages
end

section
namespace Go.Proofs.Ytmljihfaapoakaa.PFnMessages
open Go.RowKit Go.Proofs.YtmljihfaapoakaaW.PrintWords Go.Proofs.YtmljihfaapoakaaW.PrintLast Go.Proofs.YtmljihfaapoakaaW.PrintMore
set_option linter.unusedVariables false
set_option linter.unusedSimpArgs false
def spec_l09Queue.l0 : Nat → Int → Int → List (S96) → List (S130) → List (S109) → List (S112) → Option (Int × Int × List ByteArray)
  | 0, _, _, _, _, _, _ => none
  | k + 1, x1, x5, x205000, x205001, x205002, x205003 => if x5 < (x205002.length : Int) then (if 0 ≤ x5 then (if ((rd_T109 x205002 x5).f0) = x1 then (some ((rd_T109 x205002 x5).f0, (rd_T109 x205002 x5).f1, (rd_T109 x205002 x5).f2)) else (spec_l09Queue.l0 k x1 (wrap64 (x5 + 1)) x205000 x205001 x205002 x205003)) else (none)) else (some (x1, 0, ([] : List ByteArray)))
def spec_l09Queue.f (k : Nat) (l0_0 : List (S96)) (l0_1 : List (S130)) (l0_2 : List (S109)) (l0_3 : List (S112)) (a1 : Int) : Option (Int × Int × List ByteArray) := spec_l09Queue.l0 k a1 0 l0_0 l0_1 l0_2 l0_3
theorem spec_l09Queue.mono_l : ∀ k, (∀ y0 y1 y2 y3 y4 y5, LeO (spec_l09Queue.l0 k y0 y1 y2 y3 y4 y5) (spec_l09Queue.l0 (k + 1) y0 y1 y2 y3 y4 y5))
  | 0 => fun _ _ _ _ _ _ r h => by simp [spec_l09Queue.l0] at h
  | k + 1 => by
    have ih0 := spec_l09Queue.mono_l k
    · intro y0 y1 y2 y3 y4 y5
      unfold spec_l09Queue.l0
      repeat' first
      | (with_reducible exact ih0 _ _ _ _ _ _)
      | (with_reducible exact LeO.refl _)
      | (with_reducible exact LeO.none _)
      | (with_reducible refine LeO.ite ?_ ?_)
      | (with_reducible refine LeO.bind ?_ (fun _ => ?_))
      | exact ih0 _ _ _ _ _ _
      | exact LeO.none _
      | refine LeO.ite ?_ ?_
      | refine LeO.bind ?_ (fun _ => ?_)
theorem spec_l09Queue.mono : ∀ a0 a1 a2 a3 a4 k, LeO (spec_l09Queue.f k a0 a1 a2 a3 a4) (spec_l09Queue.f (k + 1) a0 a1 a2 a3 a4) := by
  intro a0 a1 a2 a3 a4 k
  have ih0 := spec_l09Queue.mono_l k
  unfold spec_l09Queue.f
  repeat' first
      | (with_reducible exact ih0 _ _ _ _ _ _)
      | (with_reducible exact LeO.refl _)
      | (with_reducible exact LeO.none _)
      | (with_reducible refine LeO.ite ?_ ?_)
      | (with_reducible refine LeO.bind ?_ (fun _ => ?_))
      | exact ih0 _ _ _ _ _ _
      | exact LeO.none _
      | refine LeO.ite ?_ ?_
      | refine LeO.bind ?_ (fun _ => ?_)
end Go.Proofs.Ytmljihfaapoakaa.PFnMessages
end

section
namespace Go.Proofs.Ytmljihfaapoakaa
open Go.RowKit
set_option linter.unusedVariables false
section
variable {P : Program}
abbrev VPred := World → Value → Prop
def VMono (R : VPred) : Prop := ∀ w w' v, R w v → Below w.heap.size w w' → R w' v
theorem vmono_eq (e : Value) : VMono (fun _ v => v = e) := fun _ _ _ h _ => h
def flowUpon (P : Program) (R : VPred) (w : World) : Result Next → Prop
  | .ok (.value u) w' => Below w.heap.size w w' ∧ R w' u
  | .ok .skip w' => Below w.heap.size w w' ∧ R w' undef
  | .ok (.enter f args) w' => Calls P f args w' (fun e w'' => ∃ v, e = .returned v ∧ Below w.heap.size w w'' ∧ R w'' v)
  | _ => False
abbrev FTab := List (Nat × Tmp × VPred)
def dep1 (A : Act) (w : World) (j : Nat) : FTab → Prop
  | [] => True
  | (i, d, R) :: r => if i = j then R w (A.eval (.tmp d)) else dep1 A w j r
def deps (T : FTab) (A : Act) (w : World) : List Edge → Prop
  | [] => True
  | e :: r => (if Region.binds .any e = true then dep1 A w e.on T else True) ∧ deps T A w r
def allT (x : Nat → Value) (w : World) : FTab → Prop
  | [] => True
  | (i, _, R) :: r => R w (x i) ∧ allT x w r
def baseF (A a : Act) : List Nat → Prop
  | [] => True
  | t :: r => A.eval (.tmp t) = a.eval (.tmp t) ∧ baseF A a r
def frameOf (x : Nat → Value) : List Oper → Nat → Act → Act
  | [], _, a => a
  | o :: r, k, a => frameOf x r (k + 1) (a.put o.dst (x k))
def addT (o : Oper) (i : Nat) (R : VPred) (T : FTab) : FTab := match o.dst with
  | some d => (i, d, R) :: T
  | none => T
def Flow (P : Program) (w : World) (a : Act) (bs : List Nat) (Q : Exit → Act → World → Prop) (l0 : List Oper) : List Oper → Nat → FTab → Prop
  | [], _, T => ∀ x w', Below w.heap.size w w' → allT x w' T → Q .normal (frameOf x l0 0 a) w'
  | o :: rest, i, T => ∃ R : VPred, VMono R ∧
      (∀ A w', Below w.heap.size w w' → baseF A a bs → deps T A w' o.after.toList → flowUpon P R w' ((execOp A.eval o).run P w')) ∧ Flow P w a bs Q l0 rest (i + 1) (addT o i R T)
theorem dep1_of {A : Act} {w : World} {j : Nat} : ∀ {T : FTab}, (∀ d R, (j, d, R) ∈ T → R w (A.eval (.tmp d))) → dep1 A w j T
  | [], _ => trivial
  | (i, d, R) :: r, h => by
    unfold dep1
    split
    · rename_i e; subst e; exact h d R (.head _)
    · exact dep1_of fun d R hm => h d R (.tail _ hm)
theorem deps_of {T : FTab} {A : Act} {w : World} : ∀ {es : List Edge}, (∀ e ∈ es, Region.binds .any e = true → ∀ d R, (e.on, d, R) ∈ T → R w (A.eval (.tmp d))) → deps T A w es
  | [], _ => trivial
  | e :: r, h => by
    refine ⟨?_, deps_of fun e he => h e (.tail _ he)⟩
    split
    · rename_i hb; exact dep1_of (h e (.head _) hb)
    · trivial
theorem allT_of {x : Nat → Value} {w : World} : ∀ {T : FTab}, (∀ i d R, (i, d, R) ∈ T → R w (x i)) → allT x w T
  | [], _ => trivial
  | (i, d, R) :: r, h => ⟨h i d R (.head _), allT_of fun i d R hm => h i d R (.tail _ hm)⟩
theorem baseF_of {A a : Act} : ∀ {bs : List Nat}, (∀ t ∈ bs, A.eval (.tmp t) = a.eval (.tmp t)) → baseF A a bs
  | [], _ => trivial
  | t :: r, h => ⟨h t (.head _), baseF_of fun t ht => h t (.tail _ ht)⟩
theorem flow_table {w : World} {a : Act} {bs : List Nat} {Q : Exit → Act → World → Prop} {l0 : List Oper} : ∀ (rest : List Oper) (i : Nat) (T : FTab), (∀ k d R, (k, d, R) ∈ T → k < i) → Flow P w a bs Q l0 rest i T →
    ∃ T' : FTab, (∀ x ∈ T, x ∈ T') ∧ (∀ k d R, (k, d, R) ∈ T' → k < i → (k, d, R) ∈ T) ∧ (∀ k d R, (k, d, R) ∈ T' → k < i + rest.length) ∧
      (∀ (j : Nat) (o : Oper), rest[j]? = some o → ∃ R, VMono R ∧ (∀ d' R', (i + j, d', R') ∈ T' → o.dst = some d' ∧ R' = R) ∧
        (∀ A w', Below w.heap.size w w' → baseF A a bs → (∀ e ∈ o.after.toList, Region.binds .any e = true → ∀ d R, (e.on, d, R) ∈ T' → R w' (A.eval (.tmp d))) → flowUpon P R w' ((execOp A.eval o).run P w'))) ∧
      (∀ x w', Below w.heap.size w w' → allT x w' T' → Q .normal (frameOf x l0 0 a) w')
  | [], i, T, hT, h => ⟨T, fun _ h => h, fun _ _ _ h _ => h, fun k d R hm => by simpa using hT k d R hm, fun j o hj => by simp at hj, h⟩
  | o :: rest, i, T, hT, h => by
    obtain ⟨R, hmono, hobl, hrest⟩ := h
    have hT1 : ∀ k d R', (k, d, R') ∈ addT o i R T → k < i + 1 := fun k d R' hm => by
      unfold addT at hm
      split at hm
      · rcases List.mem_cons.1 hm with hm | hm
        · simp only [Prod.mk.injEq] at hm; omega
        · have := hT k d R' hm; omega
      · have := hT k d R' hm; omega
    have hsub : ∀ y ∈ T, y ∈ addT o i R T := fun y hy => by
      unfold addT
      split
      · exact .tail _ hy
      · exact hy
    obtain ⟨T', h1, h2, h3, h4, h5⟩ := flow_table rest (i + 1) (addT o i R T) hT1 hrest
    refine ⟨T', fun y hy => h1 y (hsub y hy), fun k d R' hm hk => ?_, fun k d R' hm => ?_, fun j o' hj => ?_, h5⟩
    · have := h2 k d R' hm (by omega)
      unfold addT at this
      split at this
      · rcases List.mem_cons.1 this with hm | hm
        · simp only [Prod.mk.injEq] at hm; omega
        · exact hm
      · exact this
    · have := h3 k d R' hm
      simp only [List.length_cons]; omega
    · cases j with
      | zero =>
        simp only [List.getElem?_cons_zero, Option.some.injEq] at hj
        subst hj
        refine ⟨R, hmono, fun d' R' hm => ?_, fun A w' hb hbase hd => hobl A w' hb hbase (deps_of fun e he hbn d R' hm => hd e he hbn d R' (h1 _ (hsub _ hm)))⟩
        have := h2 _ d' R' hm (by omega)
        unfold addT at this
        split at this
        · rename_i dd hdd
          rcases List.mem_cons.1 this with hm | hm
          · simp only [Prod.mk.injEq] at hm
            exact ⟨by rw [hdd, hm.2.1], hm.2.2⟩
          · have := hT _ d' R' hm; omega
        · have := hT _ d' R' this; omega
      | succ j =>
        simp only [List.getElem?_cons_succ] at hj
        obtain ⟨R2, a1, a2, a3⟩ := h4 j o' hj
        exact ⟨R2, a1, fun d' R' hm => a2 d' R' (by rw [show i + 1 + j = i + (j + 1) from by omega]; exact hm), a3⟩
theorem wpAny_inv {ops : Array Oper} {Q : Exit → Act → World → Prop} {md : Region.Mode} (I : Array Bool → Act → World → Prop)
    (step : ∀ listed a w i, I listed a w → i ∈ Region.ready md ops listed → wpOp P ops Q i (fun a' w' => I (listed.setIfInBounds i true) a' w') a w)
    (fin : ∀ listed a w, I listed a w → (∀ i, i ∉ Region.ready md ops listed) → Q .normal a w) (rank : Array Bool → Nat)
    (hr : ∀ listed a w i, I listed a w → i ∈ Region.ready md ops listed → rank (listed.setIfInBounds i true) < rank listed) :
    ∀ (fuel : Nat) (listed : Array Bool) (a : Act) (w : World), rank listed ≤ fuel → I listed a w → wpAny P md ops Q fuel listed a w
  | 0, listed, a, w, hf, h => by
    have hn : ∀ i, i ∉ Region.ready md ops listed := fun i hi => by have := hr listed a w i h hi; omega
    exact ⟨List.eq_nil_iff_forall_not_mem.2 hn, fin _ _ _ h hn⟩
  | fuel + 1, listed, a, w, hf, h => ⟨fun h0 => fin _ _ _ h (by rw [h0]; simp), fun i hi => wpOp_mono (fun a' w' h' => wpAny_inv I step fin rank hr fuel _ a' w' (by have := hr listed a w i h hi; omega) h') (step _ _ _ _ h hi)⟩
theorem frame_eq (x : Nat → Value) (A : Act) : ∀ (l : List Oper) (k : Nat) (a : Act), A.defers = a.defers → A.tmps.size = a.tmps.size →
    (∀ (i : Nat) (o : Oper) d, l[i]? = some o → o.dst = some d → d < a.tmps.size → A.tmps[d]? = some (x (k + i))) → (∀ t, a.tmps[t]? ≠ A.tmps[t]? → ∃ (i : Nat) (o : Oper), l[i]? = some o ∧ o.dst = some t) → frameOf x l k a = A
  | [], k, a, hdef, hsz, _, h => by
    have ht : a.tmps = A.tmps := by
      apply Array.ext_getElem?
      intro t
      by_cases he : a.tmps[t]? = A.tmps[t]?
      · exact he
      · obtain ⟨i, o, hi, _⟩ := h t he
        simp at hi
    obtain ⟨t1, d1⟩ := a
    obtain ⟨t2, d2⟩ := A
    simp only at ht hdef
    subst ht hdef
    rfl
  | o :: r, k, a, hdef, hsz, h1, h2 => by
    have hps : (a.put o.dst (x k)).tmps.size = a.tmps.size := by unfold Act.put; split <;> simp
    have hpd : (a.put o.dst (x k)).defers = a.defers := by unfold Act.put; split <;> rfl
    refine frame_eq x A r (k + 1) (a.put o.dst (x k)) (hdef.trans hpd.symm) (hsz.trans hps.symm) (fun i o' d hi hd hlt => ?_) (fun t ht => ?_)
    · have := h1 (i + 1) o' d (by simpa using hi) hd (by rw [hps] at hlt; exact hlt)
      rw [this]; congr 2; omega
    · have hto : o.dst ≠ some t := fun ho => by
        rcases Nat.lt_or_ge t a.tmps.size with hlt | hge
        · have := h1 0 o t (by simp) ho hlt
          rw [this] at ht
          rw [ho] at ht
          simp [Act.put, hlt] at ht
        · rw [Array.getElem?_eq_none (by omega), Array.getElem?_eq_none (by omega)] at ht
          exact ht rfl
      have hsame : (a.put o.dst (x k)).tmps[t]? = a.tmps[t]? := by
        unfold Act.put
        split
        · rename_i d hd
          have : d ≠ t := fun e => hto (by rw [hd, e])
          simp [Array.getElem?_setIfInBounds_ne this]
        · rfl
      rw [hsame] at ht
      obtain ⟨i, o', hi, hd⟩ := h2 t ht
      cases i with
      | zero => simp at hi; subst hi; exact absurd hd hto
      | succ i => exact ⟨i, o', by simpa using hi, hd⟩
def flowB (n : Nat) : List Oper → Bool
  | [] => true
  | o :: r => o.guard.isNone && (match o.dst with | some d => decide (d < n) && r.all (fun o' => o'.dst != some d) | none => true) && flowB n r
theorem flowB_spec {n : Nat} : ∀ {l : List Oper}, flowB n l = true → ∀ (i : Nat) (o : Oper), l[i]? = some o → o.guard = none ∧ ∀ d, o.dst = some d → d < n ∧ ∀ (j : Nat) (o' : Oper), l[j]? = some o' → i < j → o'.dst ≠ some d
  | [], _, i, o, hi => by simp at hi
  | o0 :: r, h, i, o, hi => by
    simp only [flowB, Bool.and_eq_true] at h
    obtain ⟨⟨hg, hd⟩, hr⟩ := h
    cases i with
    | zero =>
      simp only [List.getElem?_cons_zero, Option.some.injEq] at hi
      subst hi
      refine ⟨by simpa using hg, fun d hdd => ?_⟩
      rw [hdd] at hd
      simp only [Bool.and_eq_true, decide_eq_true_eq, List.all_eq_true, bne_iff_ne] at hd
      refine ⟨hd.1, fun j o' hj hlt => ?_⟩
      cases j with
      | zero => omega
      | succ j => exact hd.2 o' (List.mem_of_getElem? (by simpa using hj))
    | succ i =>
      obtain ⟨h1, h2⟩ := flowB_spec hr i o (by simpa using hi)
      refine ⟨h1, fun d hdd => ⟨(h2 d hdd).1, fun j o' hj hlt => ?_⟩⟩
      cases j with
      | zero => omega
      | succ j => exact (h2 d hdd).2 j o' (by simpa using hj) (by omega)
def flowO : List Oper → Nat → Bool
  | [], _ => true
  | o :: r, k => o.after.toList.all (fun e => !Region.binds .any e || decide (e.on < k)) && flowO r (k + 1)
theorem flowO_spec : ∀ {l : List Oper} {k : Nat}, flowO l k = true → ∀ (i : Nat) (o : Oper), l[i]? = some o → ∀ e ∈ o.after.toList, Region.binds .any e = true → e.on < k + i
  | [], _, _, i, o, hi => by simp at hi
  | o0 :: r, k, h, i, o, hi => by
    simp only [flowO, Bool.and_eq_true] at h
    cases i with
    | zero =>
      simp only [List.getElem?_cons_zero, Option.some.injEq] at hi
      subst hi
      intro e he hb
      have := List.all_eq_true.1 h.1 e he
      simpa [hb] using this
    | succ i =>
      intro e he hb
      have := flowO_spec h.2 i o (by simpa using hi) e he hb
      omega
def unl : List Bool → Nat
  | [] => 0
  | true :: r => unl r
  | false :: r => unl r + 1
theorem unl_set : ∀ (l : List Bool) (i : Nat), l[i]? = some false → unl (l.set i true) < unl l
  | [], i, h => by simp at h
  | b :: r, 0, h => by simp at h; subst h; simp [unl]
  | b :: r, i + 1, h => by
    have := unl_set r i (by simpa using h)
    cases b <;> simp [unl] <;> omega
theorem unl_rep : ∀ n : Nat, unl (List.replicate n false) = n
  | 0 => rfl
  | n + 1 => by simp [List.replicate_succ, unl, unl_rep n]
theorem flow_upon {o : Oper} {A : Act} {w : World} {R : VPred} {K : Act → World → Prop} {Q : Exit → Act → World → Prop}
    (h : flowUpon P R w ((execOp A.eval o).run P w)) (hk : ∀ v w', Below w.heap.size w w' → (R w' v) → K (A.put o.dst v) w') : o.wp P A w K Q := by
  unfold Oper.wp
  generalize (execOp A.eval o).run P w = r at *
  cases r with
  | ok n w' =>
    cases n <;> simp only [flowUpon] at h <;> simp only [Oper.upon]
    case value u => exact hk _ _ h.1 h.2
    case skip => exact hk _ _ h.1 h.2
    case enter f args =>
      refine h.mono ?_
      rintro e w2 ⟨v, rfl, hb, hr⟩
      exact hk _ _ hb hr
  | halt x w' => simp only [flowUpon] at h
theorem eval_put_ne {A : Act} {o : Oper} {v : Value} {d : Tmp} (h : o.dst ≠ some d) : (A.put o.dst v).eval (.tmp d) = A.eval (.tmp d) := by
  unfold Act.put
  split
  · rename_i t ht
    have : t ≠ d := fun e => h (by rw [ht, e])
    simp only [Act.eval, Array.getD_eq_getD_getElem?]
    rw [Array.getElem?_setIfInBounds_ne this]
  · rfl
theorem eval_put_eq {A : Act} {o : Oper} {v : Value} {d : Tmp} (h : o.dst = some d) (hlt : d < A.tmps.size) : (A.put o.dst v).eval (.tmp d) = v := by
  rw [h]
  simp [Act.put, Act.eval, Array.getD_eq_getD_getElem?, hlt]
theorem wp_region_flow {id : Nat} {Q : Exit → Act → World → Prop} {a : Act} {w : World} {l : List Oper} (bs : List Nat) (n : Nat) (hm : P.follows .mixedOrders = true) (hn : a.tmps.size = n)
    (hB : flowB n l = true) (hO : flowO l 0 = true) (hbs : bs.all (fun t => l.all (fun o => o.dst != some t)) = true) (h : Flow P w a bs Q l l 0 []) : (Code.region id l.toArray true).wp P Q a w := by
  obtain ⟨T, -, -, hlen, hobl, hfin⟩ := flow_table l 0 [] (by simp) h
  subst hn
  refine wp_region_any hm ?_
  refine wpAny_inv (fun listed A w' => listed.size = l.length ∧ Below w.heap.size w w' ∧ A.defers = a.defers ∧ A.tmps.size = a.tmps.size ∧ (∀ t, a.tmps[t]? ≠ A.tmps[t]? → ∃ (i : Nat) (o : Oper), l[i]? = some o ∧ o.dst = some t) ∧
      (∀ i d R, (i, d, R) ∈ T → listed.getD i false = true → R w' (A.eval (.tmp d)))) ?_ ?_ (fun listed => unl listed.toList) ?_ _ _ _ _ ?_ ?_
  · rintro listed A w' i ⟨hsz, hbel, hdef, hts, hdiff, hall⟩ hi
    obtain ⟨hun, o, ho, haft⟩ := mem_ready.1 hi
    have ho' : l[i]? = some o := by simpa using ho
    obtain ⟨hg, hd⟩ := flowB_spec hB i o ho'
    obtain ⟨R, hmono, huniq, hob⟩ := hobl i o ho'
    simp only [Nat.zero_add] at huniq
    unfold wpOp
    rw [ho]
    simp only [Region.wanted, hg, if_true]
    refine .inl (flow_upon (hob A w' hbel (baseF_of fun t ht => ?_) fun e he hb d R hmem => hall _ d R hmem (haft e (by simpa using he) hb)) fun v w2 hb2 hR => ?_)
    · have h1 := List.all_eq_true.1 hbs t ht
      have h2 : ∀ o ∈ l, o.dst ≠ some t := fun o ho => by simpa using List.all_eq_true.1 h1 o ho
      have h3 : a.tmps[t]? = A.tmps[t]? := Classical.byContradiction fun hne => by
        obtain ⟨i, o, hi, hd⟩ := hdiff t hne
        exact h2 o (List.mem_of_getElem? hi) hd
      simp only [Act.eval, Array.getD_eq_getD_getElem?, h3]
    · refine ⟨by simpa using hsz, hbel.trans ⟨hb2.os, hb2.tape, hb2.output, hb2.size, fun k hk => hb2.block k (Nat.lt_of_lt_of_le hk hbel.size)⟩, ?_, ?_, ?_, ?_⟩
      · rw [← hdef]; unfold Act.put; split <;> rfl
      · rw [← hts]; unfold Act.put; split <;> simp
      · intro t ht
        by_cases hdt : o.dst = some t
        · exact ⟨i, o, ho', hdt⟩
        · refine hdiff t fun he => ht ?_
          rw [he]
          unfold Act.put
          split
          · rename_i t' ht'
            have : t' ≠ t := fun e => hdt (by rw [ht', e])
            rw [Array.getElem?_setIfInBounds_ne this]
          · rfl
      · intro k d R' hmem hk
        by_cases hki : i = k
        · subst hki
          obtain ⟨hod, rfl⟩ := huniq d R' hmem
          rw [eval_put_eq hod (by rw [hts]; exact (hd d hod).1)]
          exact hR
        · have hk' : listed.getD k false = true := by rw [getD_set_ne false hki] at hk; exact hk
          have hold := hall k d R' hmem hk'
          have hkl : k < l.length := by simpa using hlen k d R' hmem
          have hko : l[k]? = some l[k] := by simp [hkl]
          obtain ⟨R2, hmono2, huniq2, -⟩ := hobl k l[k] hko
          simp only [Nat.zero_add] at huniq2
          obtain ⟨hod, rfl⟩ := huniq2 d R' hmem
          have hne : o.dst ≠ some d := fun hd0 => by
            rcases Nat.lt_or_gt_of_ne hki with h | h
            · exact (hd d hd0).2 k l[k] hko h hod
            · exact ((flowB_spec hB k l[k] hko).2 d hod).2 i o ho' h hd0
          rw [eval_put_ne hne]
          exact hmono2 _ _ _ hold hb2
  · rintro listed A w' ⟨hsz, hbel, hdef, hts, hdiff, hall⟩ hno
    have hdone : ∀ k, k < l.length → listed.getD k false = true := by
      intro k
      induction k using Nat.strongRecOn with
      | _ k ih =>
        intro hk
        refine Classical.byContradiction fun hf => hno k (mem_ready.2 ⟨?_, l[k], by simp [hk], fun e he hb => ?_⟩)
        · have hks : k < listed.size := by omega
          simp only [Array.getD_eq_getD_getElem?, Array.getElem?_eq_getElem hks, Option.getD_some] at hf ⊢
          simpa using hf
        · have hlt := flowO_spec hO k l[k] (by simp [hk]) e (by simpa using he) hb
          exact ih e.on (by omega) (by omega)
    have hx : frameOf (fun i => match (l[i]?).bind (·.dst) with | some d => A.eval (.tmp d) | none => undef) l 0 a = A := by
      refine frame_eq _ A l 0 a hdef hts (fun i o d hi hd hlt => ?_) hdiff
      simp only [Nat.zero_add, hi, Option.bind_some, hd, Act.eval, Array.getD_eq_getD_getElem?]
      have : d < A.tmps.size := by rw [hts]; exact hlt
      simp [this]
    have := hfin (fun i => match (l[i]?).bind (·.dst) with | some d => A.eval (.tmp d) | none => undef) w' hbel (allT_of fun k d R hmem => by
      have hkl : k < l.length := by simpa using hlen k d R hmem
      have hko : l[k]? = some l[k] := by simp [hkl]
      obtain ⟨R2, -, huniq2, -⟩ := hobl k l[k] hko
      simp only [Nat.zero_add] at huniq2
      obtain ⟨hod, -⟩ := huniq2 d R hmem
      simp only [hko, Option.bind_some, hod]
      exact hall k d R hmem (hdone k hkl))
    rw [hx] at this
    exact this
  · rintro listed A w' i ⟨hsz, -⟩ hi
    obtain ⟨hun, o, ho, -⟩ := mem_ready.1 hi
    have hil : i < listed.size := by have := (Array.getElem?_eq_some_iff.1 ho).1; simp at this; omega
    simp only [Array.toList_setIfInBounds]
    refine unl_set _ _ ?_
    simp only [Array.getD_eq_getD_getElem?, Array.getElem?_eq_getElem hil, Option.getD_some] at hun
    simp [hil, hun]
  · simp [unl_rep]
  · exact ⟨by simp, ⟨rfl, rfl, rfl, Nat.le_refl _, fun _ _ => rfl⟩, rfl, rfl, fun t ht => absurd rfl ht, fun i d R _ hl => by simp [Array.getD_eq_getD_getElem?, Array.getElem?_replicate] at hl; split at hl <;> simp at hl⟩
theorem flow_val {w : World} {a : Act} {bs : List Nat} {Q : Exit → Act → World → Prop} {l0 rest : List Oper} {i : Nat} {T : FTab} {d : Tmp} {op : Op} {ty : TypeId} {pos : String} {es : Array Edge} {g : Option (Nat × Bool)} (e : Value)
    (h : ∀ A w', Below w.heap.size w w' → baseF A a bs → deps T A w' es.toList → flowUpon P (fun _ v => v = e) w' ((execOp A.eval ⟨some d, op, ty, pos, es, g⟩).run P w'))
    (k : Flow P w a bs Q l0 rest (i + 1) ((i, d, fun _ v => v = e) :: T)) : Flow P w a bs Q l0 (⟨some d, op, ty, pos, es, g⟩ :: rest) i T := ⟨_, vmono_eq e, h, k⟩
def NewSl (w0 : World) (cs : Array Value) (T : TypeId) (n : Nat) : VPred := fun w v => ∃ b, v = .slice (some ⟨b, 0, none⟩) n n ∧ w0.heap.size ≤ b ∧ w.heap[b]? = some (.cells cs T (0, 0))
theorem vmono_newSl (w0 : World) (cs : Array Value) (T : TypeId) (n : Nat) : VMono (NewSl w0 cs T n) := by
  rintro w w' v ⟨b, hv, hb, hc⟩ hB
  refine ⟨b, hv, hb, ?_⟩
  have hlt : b < w.heap.size := by
    rcases Nat.lt_or_ge b w.heap.size with h | h
    · exact h
    · rw [Array.getElem?_eq_none h] at hc; cases hc
  rw [hB.block b hlt]; exact hc
theorem flow_newSl {w : World} {a : Act} {bs : List Nat} {Q : Exit → Act → World → Prop} {l0 rest : List Oper} {i : Nat} {T : FTab} {d : Tmp} {op : Op} {ty : TypeId} {pos : String} {es : Array Edge} {g : Option (Nat × Bool)} (cs : Array Value) (et : TypeId) (n : Nat)
    (h : ∀ A w', Below w.heap.size w w' → baseF A a bs → deps T A w' es.toList → (execOp A.eval ⟨some d, op, ty, pos, es, g⟩).run P w' = .ok (.value (.slice (some ⟨w'.heap.size, 0, none⟩) n n)) (w'.alloc (.cells cs et)))
    (k : Flow P w a bs Q l0 rest (i + 1) ((i, d, NewSl w cs et n) :: T)) : Flow P w a bs Q l0 (⟨some d, op, ty, pos, es, g⟩ :: rest) i T :=
  ⟨_, vmono_newSl w cs et n, fun A w' hB hb hd => by
    rw [h A w' hB hb hd]
    exact ⟨bl_alloc (Below.refl _ _) _, w'.heap.size, rfl, hB.size, by simpa using heap_alloc_new w' _⟩, k⟩
theorem flow_valE {w : World} {a : Act} {bs : List Nat} {Q : Exit → Act → World → Prop} {l0 rest : List Oper} {i : Nat} {T : FTab} {d : Tmp} {op : Op} {ty : TypeId} {pos : String} {es : Array Edge} {g : Option (Nat × Bool)}
    (h : ∃ e, (∀ A w', Below w.heap.size w w' → baseF A a bs → deps T A w' es.toList → flowUpon P (fun _ v => v = e) w' ((execOp A.eval ⟨some d, op, ty, pos, es, g⟩).run P w')) ∧
      Flow P w a bs Q l0 rest (i + 1) ((i, d, fun _ v => v = e) :: T)) : Flow P w a bs Q l0 (⟨some d, op, ty, pos, es, g⟩ :: rest) i T :=
  let ⟨e, h, k⟩ := h
  flow_val e h k
theorem flow_newSlE {w : World} {a : Act} {bs : List Nat} {Q : Exit → Act → World → Prop} {l0 rest : List Oper} {i : Nat} {T : FTab} {d : Tmp} {op : Op} {ty : TypeId} {pos : String} {es : Array Edge} {g : Option (Nat × Bool)}
    (h : ∃ cs et n, (∀ A w', Below w.heap.size w w' → baseF A a bs → deps T A w' es.toList → (execOp A.eval ⟨some d, op, ty, pos, es, g⟩).run P w' = .ok (.value (.slice (some ⟨w'.heap.size, 0, none⟩) n n)) (w'.alloc (.cells cs et))) ∧
      Flow P w a bs Q l0 rest (i + 1) ((i, d, NewSl w cs et n) :: T)) : Flow P w a bs Q l0 (⟨some d, op, ty, pos, es, g⟩ :: rest) i T :=
  let ⟨cs, et, n, h, k⟩ := h
  flow_newSl cs et n h k
end
end Go.Proofs.Ytmljihfaapoakaa
end

section
namespace Go.Proofs.Ytmljihfaapoakaa
open Go.RowKit
set_option linter.unusedVariables false
set_option linter.unusedSimpArgs false
section
variable {P : Program}
def lastW (l : List Oper) (t : Nat) : Bool := (List.range l.length).all fun j => match l[j]? with
  | some o => o.dst != some t || (List.range l.length).all fun i => i == j || o.after.toList.any fun e => e.on == i && Region.binds .any e
  | none => true
theorem lastW_spec {l : List Oper} {t : Nat} (h : lastW l t = true) (j : Nat) (o : Oper) (hj : l[j]? = some o) (hd : o.dst = some t) (i : Nat) (hi : i < l.length) (hij : i ≠ j) : ∃ e ∈ o.after.toList, e.on = i ∧ Region.binds .any e = true := by
  have hjl : j < l.length := (List.getElem?_eq_some_iff.1 hj).1
  have h1 := List.all_eq_true.1 h j (List.mem_range.2 hjl)
  rw [hj] at h1
  simp only [hd, bne_self_eq_false, Bool.false_or] at h1
  have h2 := List.all_eq_true.1 h1 i (List.mem_range.2 hi)
  simp only [Bool.or_eq_true, beq_iff_eq, hij, false_or, List.any_eq_true, Bool.and_eq_true] at h2
  obtain ⟨e, he, h3, h4⟩ := h2
  exact ⟨e, he, h3, h4⟩
theorem getD_ft {l : Array Bool} {i : Nat} (h : i < l.size) : l.getD i false = l.getD i true := by simp [Array.getD_eq_getD_getElem?, h]
theorem getD_set_self {l : Array Bool} {i : Nat} (h : i < l.size) : (l.setIfInBounds i true).getD i false = true := by simp [Array.getD_eq_getD_getElem?, h]
theorem getD_set_mono {l : Array Bool} {i j : Nat} (h : l.getD j false = true) : (l.setIfInBounds i true).getD j false = true := by
  by_cases hij : i = j
  · subst hij
    refine getD_set_self ?_
    rcases Nat.lt_or_ge i l.size with h1 | h1
    · exact h1
    · simp [Array.getD_eq_getD_getElem?, Array.getElem?_eq_none h1] at h
  · rw [getD_set_ne false hij]; exact h
theorem wp_region_flowW {id : Nat} {Q : Exit → Act → World → Prop} {a : Act} {w : World} {l : List Oper} (bs : List Nat) (n : Nat) (hm : P.follows .mixedOrders = true) (hn : a.tmps.size = n)
    (hB : flowB n l = true) (hO : flowO l 0 = true) (hbs : bs.all (lastW l) = true) (h : Flow P w a bs Q l l 0 []) : (Code.region id l.toArray true).wp P Q a w := by
  obtain ⟨T, -, -, hlen, hobl, hfin⟩ := flow_table l 0 [] (by simp) h
  subst hn
  refine wp_region_any hm ?_
  refine wpAny_inv (fun listed A w' => listed.size = l.length ∧ Below w.heap.size w w' ∧ A.defers = a.defers ∧ A.tmps.size = a.tmps.size ∧ (∀ t, a.tmps[t]? ≠ A.tmps[t]? → ∃ (i : Nat) (o : Oper), l[i]? = some o ∧ o.dst = some t ∧ listed.getD i false = true) ∧
      (∀ (j : Nat) (o : Oper), l[j]? = some o → listed.getD j false = true → ∀ e ∈ o.after.toList, Region.binds .any e = true → listed.getD e.on false = true) ∧
      (∀ i d R, (i, d, R) ∈ T → listed.getD i false = true → R w' (A.eval (.tmp d)))) ?_ ?_ (fun listed => unl listed.toList) ?_ _ _ _ _ ?_ ?_
  · rintro listed A w' i ⟨hsz, hbel, hdef, hts, hdiff, hcl, hall⟩ hi
    obtain ⟨hun, o, ho, haft⟩ := mem_ready.1 hi
    have ho' : l[i]? = some o := by simpa using ho
    obtain ⟨hg, hd⟩ := flowB_spec hB i o ho'
    obtain ⟨R, hmono, huniq, hob⟩ := hobl i o ho'
    simp only [Nat.zero_add] at huniq
    unfold wpOp
    rw [ho]
    simp only [Region.wanted, hg, if_true]
    refine .inl (flow_upon (hob A w' hbel (baseF_of fun t ht => ?_) fun e he hb d R hmem => hall _ d R hmem (haft e (by simpa using he) hb)) fun v w2 hb2 hR => ?_)
    · have h1 := List.all_eq_true.1 hbs t ht
      have h3 : a.tmps[t]? = A.tmps[t]? := Classical.byContradiction fun hne => by
        obtain ⟨j, oj, hj, hdj, hlj⟩ := hdiff t hne
        have hil : i < l.length := (List.getElem?_eq_some_iff.1 ho').1
        have hij : i ≠ j := fun e => by
          subst e
          rw [getD_ft (by omega)] at hlj
          simp [hun] at hlj
        obtain ⟨e, he, heo, heb⟩ := lastW_spec h1 j oj hj hdj i hil hij
        have := hcl j oj hj hlj e he heb
        rw [heo, getD_ft (by omega)] at this
        simp [hun] at this
      simp only [Act.eval, Array.getD_eq_getD_getElem?, h3]
    · refine ⟨by simpa using hsz, hbel.trans ⟨hb2.os, hb2.tape, hb2.output, hb2.size, fun k hk => hb2.block k (Nat.lt_of_lt_of_le hk hbel.size)⟩, ?_, ?_, ?_, ?_, ?_⟩
      · rw [← hdef]; unfold Act.put; split <;> rfl
      · rw [← hts]; unfold Act.put; split <;> simp
      · intro t ht
        by_cases hdt : o.dst = some t
        · exact ⟨i, o, ho', hdt, getD_set_self (by have := (List.getElem?_eq_some_iff.1 ho').1; omega)⟩
        · refine (hdiff t fun he => ht ?_).imp fun j => Exists.imp fun oj h => ⟨h.1, h.2.1, getD_set_mono h.2.2⟩
          rw [he]
          unfold Act.put
          split
          · rename_i t' ht'
            have : t' ≠ t := fun e => hdt (by rw [ht', e])
            rw [Array.getElem?_setIfInBounds_ne this]
          · rfl
      · intro j oj hj hlj e he hb
        by_cases hij : i = j
        · subst hij
          obtain rfl : o = oj := by rw [ho'] at hj; exact Option.some.inj hj
          exact getD_set_mono (haft e (by simpa using he) hb)
        · rw [getD_set_ne false hij] at hlj
          exact getD_set_mono (hcl j oj hj hlj e he hb)
      · intro k d R' hmem hk
        by_cases hki : i = k
        · subst hki
          obtain ⟨hod, rfl⟩ := huniq d R' hmem
          rw [eval_put_eq hod (by rw [hts]; exact (hd d hod).1)]
          exact hR
        · have hk' : listed.getD k false = true := by rw [getD_set_ne false hki] at hk; exact hk
          have hold := hall k d R' hmem hk'
          have hkl : k < l.length := by simpa using hlen k d R' hmem
          have hko : l[k]? = some l[k] := by simp [hkl]
          obtain ⟨R2, hmono2, huniq2, -⟩ := hobl k l[k] hko
          simp only [Nat.zero_add] at huniq2
          obtain ⟨hod, rfl⟩ := huniq2 d R' hmem
          have hne : o.dst ≠ some d := fun hd0 => by
            rcases Nat.lt_or_gt_of_ne hki with h | h
            · exact (hd d hd0).2 k l[k] hko h hod
            · exact ((flowB_spec hB k l[k] hko).2 d hod).2 i o ho' h hd0
          rw [eval_put_ne hne]
          exact hmono2 _ _ _ hold hb2
  · rintro listed A w' ⟨hsz, hbel, hdef, hts, hdiff, hcl, hall⟩ hno
    have hdone : ∀ k, k < l.length → listed.getD k false = true := by
      intro k
      induction k using Nat.strongRecOn with
      | _ k ih =>
        intro hk
        refine Classical.byContradiction fun hf => hno k (mem_ready.2 ⟨?_, l[k], by simp [hk], fun e he hb => ?_⟩)
        · have hks : k < listed.size := by omega
          simp only [Array.getD_eq_getD_getElem?, Array.getElem?_eq_getElem hks, Option.getD_some] at hf ⊢
          simpa using hf
        · have hlt := flowO_spec hO k l[k] (by simp [hk]) e (by simpa using he) hb
          exact ih e.on (by omega) (by omega)
    have hx : frameOf (fun i => match (l[i]?).bind (·.dst) with | some d => A.eval (.tmp d) | none => undef) l 0 a = A := by
      refine frame_eq _ A l 0 a hdef hts (fun i o d hi hd hlt => ?_) (fun t ht => (hdiff t ht).imp fun j => Exists.imp fun oj h => ⟨h.1, h.2.1⟩)
      simp only [Nat.zero_add, hi, Option.bind_some, hd, Act.eval, Array.getD_eq_getD_getElem?]
      have : d < A.tmps.size := by rw [hts]; exact hlt
      simp [this]
    have := hfin (fun i => match (l[i]?).bind (·.dst) with | some d => A.eval (.tmp d) | none => undef) w' hbel (allT_of fun k d R hmem => by
      have hkl : k < l.length := by simpa using hlen k d R hmem
      have hko : l[k]? = some l[k] := by simp [hkl]
      obtain ⟨R2, -, huniq2, -⟩ := hobl k l[k] hko
      simp only [Nat.zero_add] at huniq2
      obtain ⟨hod, -⟩ := huniq2 d R hmem
      simp only [hko, Option.bind_some, hod]
      exact hall k d R hmem (hdone k hkl))
    rw [hx] at this
    exact this
  · rintro listed A w' i ⟨hsz, -⟩ hi
    obtain ⟨hun, o, ho, -⟩ := mem_ready.1 hi
    have hil : i < listed.size := by have := (Array.getElem?_eq_some_iff.1 ho).1; simp at this; omega
    simp only [Array.toList_setIfInBounds]
    refine unl_set _ _ ?_
    simp only [Array.getD_eq_getD_getElem?, Array.getElem?_eq_getElem hil, Option.getD_some] at hun
    simp [hil, hun]
  · simp [unl_rep]
  · exact ⟨by simp, ⟨rfl, rfl, rfl, Nat.le_refl _, fun _ _ => rfl⟩, rfl, rfl, fun t ht => absurd rfl ht, fun j o _ hl => by simp [Array.getD_eq_getD_getElem?, Array.getElem?_replicate] at hl; split at hl <;> simp at hl, fun i d R _ hl => by simp [Array.getD_eq_getD_getElem?, Array.getElem?_replicate] at hl; split at hl <;> simp at hl⟩
end
end Go.Proofs.Ytmljihfaapoakaa
end

section
namespace Go.Proofs.Ytmljihfaapoakaa
open Go.RowKit
set_option linter.unusedVariables false
set_option linter.unusedSimpArgs false
section
variable {P : Program} {L : World → World → Prop}
def VMonoL (L : World → World → Prop) (R : VPred) : Prop := ∀ w w' v, R w v → L w w' → R w' v
def flowUponL (P : Program) (L : World → World → Prop) (R : VPred) (w : World) : Result Next → Prop
  | .ok (.value u) w' => L w w' ∧ R w' u
  | .ok .skip w' => L w w' ∧ R w' undef
  | .ok (.enter f args) w' => Calls P f args w' (fun e w'' => ∃ v, e = .returned v ∧ L w w'' ∧ R w'' v)
  | _ => False
def lastUpon (P : Program) (Q : Act → World → Prop) (o : Oper) (A : Act) : Result Next → Prop
  | .ok (.value u) w' => Q (A.put o.dst u) w'
  | .ok .skip w' => Q (A.put o.dst undef) w'
  | .ok (.enter f args) w' => Calls P f args w' (fun e w'' => ∃ v, e = .returned v ∧ Q (A.put o.dst v) w'')
  | _ => False
structure LastUpon (P : Program) (Q : Act → World → Prop) (o : Oper) (A : Act) (r : Result Next) : Prop where
  out : lastUpon P Q o A r
def FlowL (P : Program) (L : World → World → Prop) (w : World) (a : Act) (bs : List Nat) (Q : Exit → Act → World → Prop) (l0 : List Oper) : List Oper → Nat → FTab → Prop
  | [], _, T => False
  | [o], i, T => ∀ x w', L w w' → allT x w' T → LastUpon P (Q .normal) o (frameOf x l0.dropLast 0 a) ((execOp (frameOf x l0.dropLast 0 a).eval o).run P w')
  | o :: o2 :: rest, i, T => ∃ R : VPred, VMonoL L R ∧
      (∀ A w', L w w' → baseF A a bs → deps T A w' o.after.toList → flowUponL P L R w' ((execOp A.eval o).run P w')) ∧ FlowL P L w a bs Q l0 (o2 :: rest) (i + 1) (addT o i R T)
theorem flow_tableL {w : World} {a : Act} {bs : List Nat} {Q : Exit → Act → World → Prop} {l0 : List Oper} : ∀ (rest : List Oper) (i : Nat) (T : FTab), (∀ k d R, (k, d, R) ∈ T → k < i) → FlowL P L w a bs Q l0 rest i T →
    ∃ (T' : FTab) (last : Oper), rest[rest.length - 1]? = some last ∧ 0 < rest.length ∧ (∀ x ∈ T, x ∈ T') ∧ (∀ k d R, (k, d, R) ∈ T' → k < i → (k, d, R) ∈ T) ∧ (∀ k d R, (k, d, R) ∈ T' → k + 1 < i + rest.length) ∧
      (∀ (j : Nat) (o : Oper), rest[j]? = some o → j + 1 < rest.length → ∃ R, VMonoL L R ∧ (∀ d' R', (i + j, d', R') ∈ T' → o.dst = some d' ∧ R' = R) ∧
        (∀ A w', L w w' → baseF A a bs → (∀ e ∈ o.after.toList, Region.binds .any e = true → ∀ d R, (e.on, d, R) ∈ T' → R w' (A.eval (.tmp d))) → flowUponL P L R w' ((execOp A.eval o).run P w'))) ∧
      (∀ x w', L w w' → allT x w' T' → LastUpon P (Q .normal) last (frameOf x l0.dropLast 0 a) ((execOp (frameOf x l0.dropLast 0 a).eval last).run P w'))
  | [], i, T, hT, h => h.elim
  | [o], i, T, hT, h => ⟨T, o, rfl, by simp, fun _ h => h, fun _ _ _ h _ => h, fun k d R hm => by have := hT k d R hm; simp only [List.length_singleton]; omega, fun j o' hj hl => by simp at hl, h⟩
  | o :: o2 :: rest, i, T, hT, h => by
    obtain ⟨R, hmono, hobl, hrest⟩ := h
    have hT1 : ∀ k d R', (k, d, R') ∈ addT o i R T → k < i + 1 := fun k d R' hm => by
      unfold addT at hm
      split at hm
      · rcases List.mem_cons.1 hm with hm | hm
        · simp only [Prod.mk.injEq] at hm; omega
        · have := hT k d R' hm; omega
      · have := hT k d R' hm; omega
    have hsub : ∀ y ∈ T, y ∈ addT o i R T := fun y hy => by
      unfold addT
      split
      · exact .tail _ hy
      · exact hy
    obtain ⟨T', last, h0, hpos, h1, h2, h3, h4, h5⟩ := flow_tableL (o2 :: rest) (i + 1) (addT o i R T) hT1 hrest
    refine ⟨T', last, by simpa using h0, by simp, fun y hy => h1 y (hsub y hy), fun k d R' hm hk => ?_, fun k d R' hm => ?_, fun j o' hj hjl => ?_, h5⟩
    · have := h2 k d R' hm (by omega)
      unfold addT at this
      split at this
      · rcases List.mem_cons.1 this with hm | hm
        · simp only [Prod.mk.injEq] at hm; omega
        · exact hm
      · exact this
    · have := h3 k d R' hm
      simp only [List.length_cons] at this ⊢; omega
    · cases j with
      | zero =>
        simp only [List.getElem?_cons_zero, Option.some.injEq] at hj
        subst hj
        refine ⟨R, hmono, fun d' R' hm => ?_, fun A w' hb hbase hd => hobl A w' hb hbase (deps_of fun e he hbn d R' hm => hd e he hbn d R' (h1 _ (hsub _ hm)))⟩
        have := h2 _ d' R' hm (by omega)
        unfold addT at this
        split at this
        · rename_i dd hdd
          rcases List.mem_cons.1 this with hm | hm
          · simp only [Prod.mk.injEq] at hm
            exact ⟨by rw [hdd, hm.2.1], hm.2.2⟩
          · have := hT _ d' R' hm; omega
        · have := hT _ d' R' this; omega
      | succ j =>
        simp only [List.getElem?_cons_succ] at hj
        obtain ⟨R2, a1, a2, a3⟩ := h4 j o' hj (by simp only [List.length_cons] at hjl ⊢; omega)
        exact ⟨R2, a1, fun d' R' hm => a2 d' R' (by rw [show i + 1 + j = i + (j + 1) from by omega]; exact hm), a3⟩
theorem flow_uponL {o : Oper} {A : Act} {w : World} {R : VPred} {K : Act → World → Prop} {Q : Exit → Act → World → Prop}
    (h : flowUponL P L R w ((execOp A.eval o).run P w)) (hk : ∀ v w', L w w' → (R w' v) → K (A.put o.dst v) w') : o.wp P A w K Q := by
  unfold Oper.wp
  generalize (execOp A.eval o).run P w = r at *
  cases r with
  | ok n w' =>
    cases n <;> simp only [flowUponL] at h <;> simp only [Oper.upon]
    case value u => exact hk _ _ h.1 h.2
    case skip => exact hk _ _ h.1 h.2
    case enter f args =>
      refine h.mono ?_
      rintro e w2 ⟨v, rfl, hb, hr⟩
      exact hk _ _ hb hr
  | halt x w' => simp only [flowUponL] at h
theorem last_upon {o : Oper} {A : Act} {w : World} {K K' : Act → World → Prop} {Q : Exit → Act → World → Prop}
    (h : lastUpon P K' o A ((execOp A.eval o).run P w)) (hk : ∀ v w', K' (A.put o.dst v) w' → K (A.put o.dst v) w') : o.wp P A w K Q := by
  unfold Oper.wp
  generalize (execOp A.eval o).run P w = r at *
  cases r with
  | ok n w' =>
    cases n <;> simp only [lastUpon] at h <;> simp only [Oper.upon]
    case value u => exact hk _ _ h
    case skip => exact hk _ _ h
    case enter f args =>
      refine h.mono ?_
      rintro e w2 ⟨v, rfl, hr⟩
      exact hk _ _ hr
  | halt x w' => simp only [lastUpon] at h
def feedB (l : List Oper) : Bool := (List.range (l.length - 1)).all fun i => (List.range l.length).any fun j => decide (i < j) && match l[j]? with
  | some o => o.after.toList.any fun e => e.on == i && Region.binds .any e
  | none => false
theorem feedB_spec {l : List Oper} (h : feedB l = true) (i : Nat) (hi : i + 1 < l.length) : ∃ (j : Nat) (o : Oper), i < j ∧ l[j]? = some o ∧ ∃ e ∈ o.after.toList, e.on = i ∧ Region.binds .any e = true := by
  have h1 := List.all_eq_true.1 h i (List.mem_range.2 (by omega))
  obtain ⟨j, hj, h2⟩ := List.any_eq_true.1 h1
  simp only [Bool.and_eq_true, decide_eq_true_eq] at h2
  obtain ⟨hij, h3⟩ := h2
  cases ho : l[j]? with
  | none => rw [ho] at h3; simp at h3
  | some o =>
    rw [ho] at h3
    simp only [List.any_eq_true, Bool.and_eq_true, beq_iff_eq] at h3
    obtain ⟨e, he, h4, h5⟩ := h3
    exact ⟨j, o, hij, ho, e, he, h4, h5⟩
theorem wp_region_flowL {id : Nat} {Q : Exit → Act → World → Prop} {a : Act} {w : World} {l : List Oper} (hdr : ∀ w : World, L w w.drew) (htr : ∀ a b c, L a b → L b c → L a c) (bs : List Nat) (n : Nat) (hm : P.follows .mixedOrders = true) (hn : a.tmps.size = n)
    (hB : flowB n l = true) (hO : flowO l 0 = true) (hF : feedB l = true) (hbs : bs.all (fun t => l.dropLast.all (fun o => o.dst != some t)) = true) (h : FlowL P L w a bs Q l l 0 []) : (Code.region id l.toArray true).wp P Q a w := by
  obtain ⟨T, last, hlast, hpos, -, -, hlen, hobl, hfin⟩ := flow_tableL l 0 [] (by simp) h
  subst hn
  have hdrop : ∀ i, i + 1 < l.length → l.dropLast[i]? = l[i]? := fun i hi => by
    rw [List.getElem?_dropLast, if_pos (by omega)]
  refine wp_region_any hm ?_
  refine wpAny_inv (fun listed A w' => listed.size = l.length ∧ ((listed.getD (l.length - 1) false = false ∧ L w w' ∧ A.defers = a.defers ∧ A.tmps.size = a.tmps.size ∧ (∀ t, a.tmps[t]? ≠ A.tmps[t]? → ∃ (i : Nat) (o : Oper), l[i]? = some o ∧ o.dst = some t ∧ listed.getD i false = true) ∧
      (∀ (j : Nat) (o : Oper), l[j]? = some o → listed.getD j false = true → ∀ e ∈ o.after.toList, Region.binds .any e = true → listed.getD e.on false = true) ∧
      (∀ i d R, (i, d, R) ∈ T → listed.getD i false = true → R w' (A.eval (.tmp d)))) ∨ ((∀ i, i < l.length → listed.getD i false = true) ∧ Q .normal A w'))) ?_ ?_ (fun listed => unl listed.toList) ?_ _ _ _ _ ?_ ?_
  · rintro listed A w' i ⟨hsz, hI⟩ hi
    obtain ⟨hun, o, ho, haft⟩ := mem_ready.1 hi
    have ho' : l[i]? = some o := by simpa using ho
    have hil : i < l.length := (List.getElem?_eq_some_iff.1 ho').1
    obtain ⟨hg, hd⟩ := flowB_spec hB i o ho'
    rcases hI with ⟨hnl, hbel, hdef, hts, hdiff, hcl, hall⟩ | ⟨hdone, -⟩
    · unfold wpOp
      rw [ho]
      simp only [Region.wanted, hg, if_true]
      by_cases hil1 : i + 1 < l.length
      · obtain ⟨R, hmono, huniq, hob⟩ := hobl i o ho' hil1
        simp only [Nat.zero_add] at huniq
        refine .inl (flow_uponL (hob A w' hbel (baseF_of fun t ht => ?_) fun e he hb d R hmem => hall _ d R hmem (haft e (by simpa using he) hb)) fun v w2 hb2 hR => ?_)
        · have h1 := List.all_eq_true.1 hbs t ht
          have h2 : ∀ o ∈ l.dropLast, o.dst ≠ some t := fun o ho => by simpa using List.all_eq_true.1 h1 o ho
          have h3 : a.tmps[t]? = A.tmps[t]? := Classical.byContradiction fun hne => by
            obtain ⟨j, oj, hj, hdj, hlj⟩ := hdiff t hne
            have hjl : j < l.length := (List.getElem?_eq_some_iff.1 hj).1
            have hj1 : j + 1 < l.length := by
              by_cases hjj : j = l.length - 1
              · subst hjj; rw [hnl] at hlj; cases hlj
              · omega
            exact h2 oj (List.mem_of_getElem? ((hdrop j hj1).trans hj)) hdj
          simp only [Act.eval, Array.getD_eq_getD_getElem?, h3]
        · refine ⟨by simpa using hsz, .inl ⟨?_, htr _ _ _ hbel hb2, ?_, ?_, ?_, ?_, ?_⟩⟩
          · rw [getD_set_ne false (by omega)]; exact hnl
          · rw [← hdef]; unfold Act.put; split <;> rfl
          · rw [← hts]; unfold Act.put; split <;> simp
          · intro t ht
            by_cases hdt : o.dst = some t
            · exact ⟨i, o, ho', hdt, getD_set_self (by omega)⟩
            · refine (hdiff t fun he => ht ?_).imp fun j => Exists.imp fun oj h => ⟨h.1, h.2.1, getD_set_mono h.2.2⟩
              rw [he]
              unfold Act.put
              split
              · rename_i t' ht'
                have : t' ≠ t := fun e => hdt (by rw [ht', e])
                rw [Array.getElem?_setIfInBounds_ne this]
              · rfl
          · intro j oj hj hlj e he hb
            by_cases hij : i = j
            · subst hij
              obtain rfl : o = oj := by rw [ho'] at hj; exact Option.some.inj hj
              exact getD_set_mono (haft e (by simpa using he) hb)
            · rw [getD_set_ne false hij] at hlj
              exact getD_set_mono (hcl j oj hj hlj e he hb)
          · intro k d R' hmem hk
            have hk1 : k + 1 < l.length := by simpa using hlen k d R' hmem
            by_cases hki : i = k
            · subst hki
              obtain ⟨hod, rfl⟩ := huniq d R' hmem
              rw [eval_put_eq hod (by rw [hts]; exact (hd d hod).1)]
              exact hR
            · have hk' : listed.getD k false = true := by rw [getD_set_ne false hki] at hk; exact hk
              have hold := hall k d R' hmem hk'
              have hkl : k < l.length := by omega
              have hko : l[k]? = some l[k] := by simp [hkl]
              obtain ⟨R2, hmono2, huniq2, -⟩ := hobl k l[k] hko hk1
              simp only [Nat.zero_add] at huniq2
              obtain ⟨hod, rfl⟩ := huniq2 d R' hmem
              have hne : o.dst ≠ some d := fun hd0 => by
                rcases Nat.lt_or_gt_of_ne hki with h | h
                · exact (hd d hd0).2 k l[k] hko h hod
                · exact ((flowB_spec hB k l[k] hko).2 d hod).2 i o ho' h hd0
              rw [eval_put_ne hne]
              exact hmono2 _ _ _ hold hb2
      · obtain rfl : i = l.length - 1 := by omega
        obtain rfl : last = o := by rw [ho'] at hlast; exact (Option.some.inj hlast).symm
        have hdone : ∀ m k, k + 1 < l.length → l.length - k ≤ m → listed.getD k false = true := by
          intro m
          induction m with
          | zero => intro k hk hm; omega
          | succ m ih =>
            intro k hk hm
            obtain ⟨j, oj, hkj, hj, e, he, heo, heb⟩ := feedB_spec hF k hk
            have hjl : j < l.length := (List.getElem?_eq_some_iff.1 hj).1
            by_cases hjl1 : j + 1 < l.length
            · have := hcl j oj hj (ih j hjl1 (by omega)) e he heb
              rw [heo] at this; exact this
            · obtain rfl : j = l.length - 1 := by omega
              obtain rfl : last = oj := by rw [ho'] at hj; exact Option.some.inj hj
              have := haft e (by simpa using he) heb
              rw [heo] at this; exact this
        have hx : frameOf (fun i => match (l[i]?).bind (·.dst) with | some d => A.eval (.tmp d) | none => undef) l.dropLast 0 a = A := by
          refine frame_eq _ A l.dropLast 0 a hdef hts (fun i o d hi hd hlt => ?_) (fun t ht => ?_)
          · have hi1 : i + 1 < l.length := by have := (List.getElem?_eq_some_iff.1 hi).1; simp at this; omega
            rw [hdrop i hi1] at hi
            simp only [Nat.zero_add, hi, Option.bind_some, hd, Act.eval, Array.getD_eq_getD_getElem?]
            have : d < A.tmps.size := by rw [hts]; exact hlt
            simp [this]
          · obtain ⟨j, oj, hj, hdj, hlj⟩ := hdiff t ht
            have hjl : j < l.length := (List.getElem?_eq_some_iff.1 hj).1
            have hj1 : j + 1 < l.length := by
              by_cases hjj : j = l.length - 1
              · subst hjj; rw [hnl] at hlj; cases hlj
              · omega
            exact ⟨j, oj, (hdrop j hj1).trans hj, hdj⟩
        have hq := hfin (fun i => match (l[i]?).bind (·.dst) with | some d => A.eval (.tmp d) | none => undef) w' hbel (allT_of fun k d R hmem => by
          have hk1 : k + 1 < l.length := by simpa using hlen k d R hmem
          have hkl : k < l.length := by omega
          have hko : l[k]? = some l[k] := by simp [hkl]
          obtain ⟨R2, -, huniq2, -⟩ := hobl k l[k] hko hk1
          simp only [Nat.zero_add] at huniq2
          obtain ⟨hod, -⟩ := huniq2 d R hmem
          simp only [hko, Option.bind_some, hod]
          exact hall k d R hmem (hdone l.length k hk1 (by omega)))
        rw [hx] at hq
        refine .inl (last_upon hq.out fun v w2 hv => ⟨by simpa using hsz, .inr ⟨fun k hk => ?_, hv⟩⟩)
        by_cases hk1 : k + 1 < l.length
        · exact getD_set_mono (hdone l.length k hk1 (by omega))
        · obtain rfl : k = l.length - 1 := by omega
          exact getD_set_self (by omega)
    · have := hdone i hil
      rw [getD_ft (by omega)] at this
      simp [hun] at this
  · rintro listed A w' ⟨hsz, hI⟩ hno
    rcases hI with ⟨hnl, hbel, hdef, hts, hdiff, hcl, hall⟩ | ⟨-, hq⟩
    · exfalso
      have hdone : ∀ k, k < l.length → listed.getD k false = true := by
        intro k
        induction k using Nat.strongRecOn with
        | _ k ih =>
          intro hk
          refine Classical.byContradiction fun hf => hno k (mem_ready.2 ⟨?_, l[k], by simp [hk], fun e he hb => ?_⟩)
          · have hks : k < listed.size := by omega
            simp only [Array.getD_eq_getD_getElem?, Array.getElem?_eq_getElem hks, Option.getD_some] at hf ⊢
            simpa using hf
          · have hlt := flowO_spec hO k l[k] (by simp [hk]) e (by simpa using he) hb
            exact ih e.on (by omega) (by omega)
      rw [hdone (l.length - 1) (by omega)] at hnl
      cases hnl
    · exact hq
  · rintro listed A w' i ⟨hsz, -⟩ hi
    obtain ⟨hun, o, ho, -⟩ := mem_ready.1 hi
    have hil : i < listed.size := by have := (Array.getElem?_eq_some_iff.1 ho).1; simp at this; omega
    simp only [Array.toList_setIfInBounds]
    refine unl_set _ _ ?_
    simp only [Array.getD_eq_getD_getElem?, Array.getElem?_eq_getElem hil, Option.getD_some] at hun
    simp [hil, hun]
  · simp [unl_rep]
  · refine ⟨by simp, .inl ⟨?_, hdr w, rfl, rfl, fun t ht => absurd rfl ht, fun j o _ hl => ?_, fun i d R _ hl => ?_⟩⟩
    · simp [Array.getD_eq_getD_getElem?, Array.getElem?_replicate]; split <;> simp
    · simp [Array.getD_eq_getD_getElem?, Array.getElem?_replicate] at hl; split at hl <;> simp at hl
    · simp [Array.getD_eq_getD_getElem?, Array.getElem?_replicate] at hl; split at hl <;> simp at hl
theorem flowL_valE {w : World} {a : Act} {bs : List Nat} {Q : Exit → Act → World → Prop} {l0 rest : List Oper} {i : Nat} {T : FTab} {d : Tmp} {op : Op} {ty : TypeId} {pos : String} {es : Array Edge} {g : Option (Nat × Bool)} {o2 : Oper}
    (h : ∃ e, (∀ A w', L w w' → baseF A a bs → deps T A w' es.toList → flowUponL P L (fun _ v => v = e) w' ((execOp A.eval ⟨some d, op, ty, pos, es, g⟩).run P w')) ∧
      FlowL P L w a bs Q l0 (o2 :: rest) (i + 1) ((i, d, fun _ v => v = e) :: T)) : FlowL P L w a bs Q l0 (⟨some d, op, ty, pos, es, g⟩ :: o2 :: rest) i T :=
  let ⟨e, h, k⟩ := h
  ⟨_, fun _ _ _ h _ => h, h, k⟩
theorem flowL_last {w : World} {a : Act} {bs : List Nat} {Q : Exit → Act → World → Prop} {l0 : List Oper} {i : Nat} {T : FTab} {o : Oper}
    (h : ∀ x w', L w w' → allT x w' T → LastUpon P (Q .normal) o (frameOf x l0.dropLast 0 a) ((execOp (frameOf x l0.dropLast 0 a).eval o).run P w')) : FlowL P L w a bs Q l0 [o] i T := h
theorem flowL_R {w : World} {a : Act} {bs : List Nat} {Q : Exit → Act → World → Prop} {l0 rest : List Oper} {i : Nat} {T : FTab} {d : Tmp} {op : Op} {ty : TypeId} {pos : String} {es : Array Edge} {g : Option (Nat × Bool)} {o2 : Oper} (R : VPred) (hm : VMonoL L R)
    (h : ∀ A w', L w w' → baseF A a bs → deps T A w' es.toList → flowUponL P L R w' ((execOp A.eval ⟨some d, op, ty, pos, es, g⟩).run P w'))
    (k : FlowL P L w a bs Q l0 (o2 :: rest) (i + 1) ((i, d, R) :: T)) : FlowL P L w a bs Q l0 (⟨some d, op, ty, pos, es, g⟩ :: o2 :: rest) i T := ⟨R, hm, h, k⟩
end
end Go.Proofs.Ytmljihfaapoakaa
end
