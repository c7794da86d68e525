import Derived.Test.YtallakebnoighaaSSEA
import Derived.Test.YtallakebnoighaaSSEP
import Derived.Test.YtallakebnoighaaSSEQ

section
namespace Go.Proofs.Ytallakebnoighaa.PFnExactSettle
open Go.RowKit Go.Proofs.YtallakebnoighaaW.PrintWords Go.Proofs.YtallakebnoighaaW.PrintLast Go.Proofs.YtallakebnoighaaW.PrintMore
set_option linter.unusedVariables false
set_option linter.unusedSimpArgs false
def laws_heldEntryS.l0 : Nat → List (S87) → Int → Int → Option (Int)
  | 0, _, _, _ => none
  | k + 1, x0, x1, x5 => if x5 < (x0.length : Int) then (if 0 ≤ x5 then (if ((rd_T87 x0 x5).f0) = x1 then (if ((rd_T87 x0 x5).f1) = (wrap64 (x1 + 1)) then ((laws_markText.f k (wrap64 ((wrap64 (x1 + 1)) + 1))).bind fun t428 => (if ((rd_T87 x0 x5).f2).toList = t428.toList then (laws_heldEntryS.l0 k x0 (wrap64 ((wrap64 ((wrap64 (x1 + 1)) + 1)) + 1)) (wrap64 (x5 + 1))) else (some (-1)))) else (some (-1))) else (some (-1))) else (none)) else (some x1)
def laws_heldEntryS.f (k : Nat) (l0 : List (S87)) (a1 : Int) : Option (Int) := laws_heldEntryS.l0 k l0 a1 0
theorem laws_heldEntryS.mono_l : ∀ k, (∀ y0 y1 y2, LeO (laws_heldEntryS.l0 k y0 y1 y2) (laws_heldEntryS.l0 (k + 1) y0 y1 y2))
  | 0 => fun _ _ _ r h => by simp [laws_heldEntryS.l0] at h
  | k + 1 => by
    have ih0 := laws_heldEntryS.mono_l k
    · intro y0 y1 y2
      unfold laws_heldEntryS.l0
      repeat' first
      | (with_reducible exact ih0 _ _ _)
      | (with_reducible exact laws_markText.mono _ _)
      | (with_reducible exact LeO.refl _)
      | (with_reducible exact LeO.none _)
      | (with_reducible refine LeO.ite ?_ ?_)
      | (with_reducible refine LeO.bind ?_ (fun _ => ?_))
      | exact ih0 _ _ _
      | exact laws_markText.mono _ _
      | exact LeO.none _
      | refine LeO.ite ?_ ?_
      | refine LeO.bind ?_ (fun _ => ?_)
theorem laws_heldEntryS.mono : ∀ a0 a1 k, LeO (laws_heldEntryS.f k a0 a1) (laws_heldEntryS.f (k + 1) a0 a1) := by
  intro a0 a1 k
  have ih0 := laws_heldEntryS.mono_l k
  unfold laws_heldEntryS.f
  repeat' first
      | (with_reducible exact ih0 _ _ _)
      | (with_reducible exact laws_markText.mono _ _)
      | (with_reducible exact LeO.refl _)
      | (with_reducible exact LeO.none _)
      | (with_reducible refine LeO.ite ?_ ?_)
      | (with_reducible refine LeO.bind ?_ (fun _ => ?_))
      | exact ih0 _ _ _
      | exact laws_markText.mono _ _
      | exact LeO.none _
      | refine LeO.ite ?_ ?_
      | refine LeO.bind ?_ (fun _ => ?_)
def laws_heldEntryS.T10 : Bool × List (List Nat × List Nat) := (true, [([], []), ([], []), ([0, 1], [0, 1]), ([2], [2]), ([3], [3]), ([], []), ([5], [5]), ([4, 6], [4, 6])])
def laws_heldEntryS.B10 : List Nat := [0, 0, 3, 7, 15, 0, 32, 127]
theorem laws_heldEntryS.tab10 : rtab .any (opsOf Try.f87 10) = laws_heldEntryS.T10 := by kernel_rfl
theorem laws_heldEntryS.bits10 : waitsOk laws_heldEntryS.T10.2 laws_heldEntryS.B10 = true := by kernel_rfl
set_option maxHeartbeats 8000000 in
set_option maxRecDepth 100000 in
theorem laws_heldEntryS.calls (k : Nat) (A0 : Option Addr) (c0 : Nat) (l0 : List (S87)) (a1 : Int) (r : Int) (w : World) (hr0 : Kd.C k87 w A0 l0.length l0) (hc0 : l0.length ≤ c0) (h : laws_heldEntryS.f k l0 a1 = some r) :
    Calls Try.prog 87 #[.slice A0 l0.length c0, .int .i64 a1] w fun e w' => e = .returned (.int .i64 r) ∧ Below w.heap.size w w' := by
  have HR0 := Aside0.mk hr0
  have HC0 := Aside0.mk hc0
  clear hr0 hc0
  have HB := Aside0.mk (Below.refl w.heap.size w)
  have H : (laws_heldEntryS.l0 k l0 a1 0) = some r := h
  clear h
  have H' := Aside0.mk H
  clear H
  go_enter Try.func87, Try.ntmps87
  go_wp2
  go_loopg [1, 5] k (fun kq v1 v5 w' => ∃ (x1_1 : Int) (x5_1 : Int), v1 = .int .i64 x1_1 ∧ v5 = .int .i64 x5_1 ∧ Aside0 (laws_heldEntryS.l0 kq l0 x1_1 x5_1 = some r) ∧ Aside0 (kq ≤ k) ∧ Aside0 (Below w.heap.size w w'))
  case atStart => exact ⟨(a1), (0), (by first | rfl | (simp; done) | (simp [*]; done)), (by first | rfl | (simp; done) | (simp [*]; done)), H', ⟨Nat.le_refl _⟩, ⟨by repeat (first | (with_reducible first | exact HB.out | apply below_alloc | apply pw_below_drewN | apply below_drew1) | exact HB.out)⟩⟩
  case round =>
    clear H'
    try clear p2
    obtain ⟨x1_1, x5_1, rfl, rfl, HA, HK1, HB⟩ := hrel
    cases gk with
    | zero => exact absurd HA.out (by simp [laws_heldEntryS.l0])
    | succ k1 =>
      have H := HA.out
      clear HA
      simp only [laws_heldEntryS.l0] at H
      by_cases c3 : x5_1 < (l0.length : Int)
      · rw [if_pos c3] at H
        have c3b0 : decide (x5_1 < (l0.length : Int)) = true := decide_eq_true c3
        clear c3
        by_cases c4 : 0 ≤ x5_1
        · rw [if_pos c4] at H
          have c4b0 : decide (0 ≤ x5_1) = true := decide_eq_true c4
          clear c4
          by_cases c5 : ((rd_T87 l0 x5_1).f0) = x1_1
          · rw [if_pos c5] at H
            have c5b0 : (((rd_T87 l0 x5_1).f0) == x1_1) = true := beq_iff_eq.mpr c5
            have c5b1 : (((rd_T87 l0 x5_1).f0) != x1_1) = false := bne_eq_false_iff_eq.mpr c5
            clear c5
            by_cases c6 : ((rd_T87 l0 x5_1).f1) = (wrap64 (x1_1 + 1))
            · rw [if_pos c6] at H
              have c6b0 : (((rd_T87 l0 x5_1).f1) == (wrap64 (x1_1 + 1))) = true := beq_iff_eq.mpr c6
              have c6b1 : (((rd_T87 l0 x5_1).f1) != (wrap64 (x1_1 + 1))) = false := bne_eq_false_iff_eq.mpr c6
              clear c6
              replace H := Option.bind_eq_some_iff.mp H
              obtain ⟨t428, A70, H⟩ := H
              replace H : (if ((rd_T87 l0 x5_1).f2).toList = t428.toList then (laws_heldEntryS.l0 k1 l0 (wrap64 ((wrap64 ((wrap64 (x1_1 + 1)) + 1)) + 1)) (wrap64 (x5_1 + 1))) else (some (-1))) = some r := H
              have A7 := Aside0.mk A70
              clear A70
              by_cases c8 : ((rd_T87 l0 x5_1).f2).toList = t428.toList
              · rw [if_pos c8] at H
                have c8b0 : (((rd_T87 l0 x5_1).f2).toList == t428.toList) = true := beq_iff_eq.mpr c8
                have c8b1 : (((rd_T87 l0 x5_1).f2).toList != t428.toList) = false := bne_eq_false_iff_eq.mpr c8
                clear c8
                have H' := Aside0.mk H
                clear H
                have p425 : 0 ≤ (x5_1 : Int) := of_decide_eq_true (by first | (with_reducible assumption) | assumption)
                have q425 : x5_1 < (l0.length : Int) := of_decide_eq_true (by first | (with_reducible assumption) | assumption)
                obtain ⟨ad425, e425, hx425_0, hx425_1, hx425_2⟩ := at_T87 HR0.out x5_1 p425 q425
                cases e425
                replace hx425_0 := (HB.out.cell (World.block_lt_of_cell? w _ hx425_0)).trans hx425_0
                replace hx425_1 := (HB.out.cell (World.block_lt_of_cell? w _ hx425_1)).trans hx425_1
                replace hx425_2 := (HB.out.cell (World.block_lt_of_cell? w _ hx425_2)).trans hx425_2
                replace p425 := eq_true p425
                replace q425 := eq_true q425
                have p426 : 0 ≤ (x5_1 : Int) := of_decide_eq_true (by first | (with_reducible assumption) | assumption)
                have q426 : x5_1 < (l0.length : Int) := of_decide_eq_true (by first | (with_reducible assumption) | assumption)
                obtain ⟨ad426, e426, hx426_0, hx426_1, hx426_2⟩ := at_T87 HR0.out x5_1 p426 q426
                obtain rfl : ad425 = ad426 := (by injection e426)
                replace hx426_0 := (HB.out.cell (World.block_lt_of_cell? w _ hx426_0)).trans hx426_0
                replace hx426_1 := (HB.out.cell (World.block_lt_of_cell? w _ hx426_1)).trans hx426_1
                replace hx426_2 := (HB.out.cell (World.block_lt_of_cell? w _ hx426_2)).trans hx426_2
                replace p426 := eq_true p426
                replace q426 := eq_true q426
                try go_wp2
                have n0_ := Aside0.mk (below_drew1 HB.out)
                clear HB
                have HB := n0_
                clear n0_
                have p427 : 0 ≤ (x5_1 : Int) := of_decide_eq_true (by first | (with_reducible assumption) | assumption)
                have q427 : x5_1 < (l0.length : Int) := of_decide_eq_true (by first | (with_reducible assumption) | assumption)
                obtain ⟨ad427, e427, hx427_0, hx427_1, hx427_2⟩ := at_T87 HR0.out x5_1 p427 q427
                have hw427_2 := hx427_2
                have hw427_1 := hx427_1
                have hw427_0 := hx427_0
                obtain rfl : ad425 = ad427 := (by injection e427)
                replace hx427_0 := (HB.out.cell (World.block_lt_of_cell? w _ hx427_0)).trans hx427_0
                replace hx427_1 := (HB.out.cell (World.block_lt_of_cell? w _ hx427_1)).trans hx427_1
                replace hx427_2 := (HB.out.cell (World.block_lt_of_cell? w _ hx427_2)).trans hx427_2
                replace p427 := eq_true p427
                replace q427 := eq_true q427
                refine start_ (n := 8) (S := fun w' => w'.cell? (ad425.add ((x5_1).toNat * 3)) = some (.int .i64 ((rd_T87 l0 x5_1).f0)) ∧ w'.cell? ⟨(ad425.add ((x5_1).toNat * 3)).block, (ad425.add ((x5_1).toNat * 3)).off + 1, none⟩ = some (.int .i64 ((rd_T87 l0 x5_1).f1)) ∧ w'.cell? ⟨(ad425.add ((x5_1).toNat * 3)).block, (ad425.add ((x5_1).toNat * 3)).off + 2, none⟩ = some (.string ((rd_T87 l0 x5_1).f2))) (ds := []) #[false, false, false, false, false, false, false, false] (by kernel_rfl) rfl rfl ⟨((HB.out.cell (World.block_lt_of_cell? w _ hw427_0)).trans hw427_0), ((HB.out.cell (World.block_lt_of_cell? w _ hw427_1)).trans hw427_1), ((HB.out.cell (World.block_lt_of_cell? w _ hw427_2)).trans hw427_2)⟩ (fun hHeld => ?_); refine with_tabW laws_heldEntryS.tab10 laws_heldEntryS.bits10 (fun HT_ HW_ => ?_)
                generalize wr.drew = w9 at HB hx427_0 hx427_1 hx427_2 hHeld ⊢
                refine pure_ (i := 0) (N := some 30) (v := ?_) (a' := ?_) #[true, false, false, false, false, false, false, false] rfl rfl (any_of HT_.out (by kernel_rfl)) (fun _ _ _ h => h) (Or.inl ⟨by rfl, ?_⟩) ?_ ?_
                rotate_left
                · intro w'
                  go_simp
                  with_reducible rfl
                rotate_left
                · simp only [Act.put, List.setIfInBounds_toArray, List.set_cons_zero, List.set_cons_succ, i64_w, i32_w]
                  rfl
                refine pure_ (i := 1) (N := some 31) (v := ?_) (a' := ?_) #[true, true, false, false, false, false, false, false] rfl rfl (any_of HT_.out (by kernel_rfl)) (fun _ _ _ h => h) (Or.inl ⟨by rfl, ?_⟩) ?_ ?_
                rotate_left
                · intro w'
                  go_simp
                  with_reducible rfl
                rotate_left
                · simp only [Act.put, List.setIfInBounds_toArray, List.set_cons_zero, List.set_cons_succ, i64_w, i32_w]
                  rfl
                refine pure_ (i := 2) (N := some 32) (v := ?_) (a' := ?_) #[true, true, true, false, false, false, false, false] rfl rfl (any_of HT_.out (by kernel_rfl)) (fun _ _ _ h => h) (Or.inl ⟨by rfl, ?_⟩) ?_ ?_
                rotate_left
                · intro w'
                  go_simp
                  with_reducible rfl
                rotate_left
                · simp only [Act.put, List.setIfInBounds_toArray, List.set_cons_zero, List.set_cons_succ, i64_w, i32_w]
                  rfl
                refine pure_ (i := 3) (N := some 33) (v := ?_) (a' := ?_) #[true, true, true, true, false, false, false, false] rfl rfl (any_of HT_.out (by kernel_rfl)) (fun _ _ _ h => h) (Or.inl ⟨by rfl, ?_⟩) ?_ ?_
                rotate_left
                · intro w'
                  go_simp
                  with_reducible rfl
                rotate_left
                · simp only [Act.put, List.setIfInBounds_toArray, List.set_cons_zero, List.set_cons_succ, i64_w, i32_w]
                  rfl
                refine pure_ (i := 5) (N := some 35) (v := ?_) (a' := ?_) #[true, true, true, true, false, true, false, false] rfl rfl (any_of HT_.out (by kernel_rfl)) (fun _ _ _ h => h) (Or.inl ⟨by rfl, ?_⟩) ?_ ?_
                rotate_left
                · intro w'
                  go_simp
                  with_reducible rfl
                rotate_left
                · simp only [Act.put, List.setIfInBounds_toArray, List.set_cons_zero, List.set_cons_succ, i64_w, i32_w]
                  rfl
                refine take_ (i := 4) (N := some 34) (v := ?_) (a' := ?_) #[true, true, true, true, true, true, false, false] rfl rfl (take_ofW HT_.out HW_.out (by kernel_rfl)) (fun _ _ _ h => h) (Or.inl ⟨by rfl, ?_⟩) hHeld ?_ ?_
                rotate_left
                · rintro w' ⟨s0, s1, s2⟩
                  go_simp
                  with_reducible rfl
                rotate_left
                · simp only [Act.put, List.setIfInBounds_toArray, List.set_cons_zero, List.set_cons_succ, i64_w, i32_w]
                  rfl
                refine one_ (i := 6) (N := some 36) #[true, true, true, true, true, true, true, false] rfl rfl (one_of HT_.out (by kernel_rfl)) (by decide) (fun K hK => ?_)
                refine goes_ Try.func103 (by kernel_rfl) rfl #[.int .i64 (wrap64 ((wrap64 (x1_1 + 1)) + 1))] (by rfl) rfl rfl (by (try simp only [List.map_toArray, List.map_cons, List.map_nil]); first | done | rfl | (simp only [List.length_drop, List.length_take]; rfl)) ?_
                with_reducible refine (laws_markText.calls k1 (wrap64 ((wrap64 (x1_1 + 1)) + 1)) t428 _ A7.out).mono ?_
                rintro e w10 ⟨rfl, hb⟩
                refine ⟨_, rfl, ?_⟩
                have n0_ := Aside0.mk (below_step (by repeat (first | (with_reducible first | exact HB.out | apply below_alloc | apply pw_below_drewN | apply below_drew1) | exact HB.out)) hb)
                clear HB
                have HB := n0_
                clear n0_
                (try clear hb)
                (try clear hb2)
                (try clear hk)
                (try clear hi)
                refine hK.out _ _ ⟨((HB.out.cell (World.block_lt_of_cell? w _ hw427_0)).trans hw427_0), ((HB.out.cell (World.block_lt_of_cell? w _ hw427_1)).trans hw427_1), ((HB.out.cell (World.block_lt_of_cell? w _ hw427_2)).trans hw427_2)⟩ (fun hHeld => ?_)
                clear hK K
                refine norm_ (a' := ?_) ?_ ?_
                rotate_left
                · show Act.put _ (some 36) _ = _
                  simp only [Act.put, List.setIfInBounds_toArray, List.set_cons_zero, List.set_cons_succ, i64_w, i32_w]
                  rfl
                refine pure_ (i := 7) (N := some 37) (v := ?_) (a' := ?_) #[true, true, true, true, true, true, true, true] rfl rfl (any_of HT_.out (by kernel_rfl)) (fun _ _ _ h => h) (Or.inl ⟨by rfl, ?_⟩) ?_ ?_
                rotate_left
                · intro w'
                  go_simp
                  with_reducible rfl
                rotate_left
                · simp only [Act.put, List.setIfInBounds_toArray, List.set_cons_zero, List.set_cons_succ, i64_w, i32_w]
                  rfl
                refine done_ (done_of HT_.out (by kernel_rfl)) ?_
                try go_wp2
                go_roundg k1
                case measure => have := HK1.out; omega
                case rel => exact ⟨(wrap64 ((wrap64 ((wrap64 (x1_1 + 1)) + 1)) + 1)), (wrap64 (x5_1 + 1)), (by first | rfl | (simp; done) | (simp [*]; done)), (by first | rfl | (simp; done) | (simp [*]; done)), H', ⟨by have := HK1.out; omega⟩, ⟨by repeat (first | (with_reducible first | exact HB.out | apply below_alloc | apply pw_below_drewN | apply below_drew1) | exact HB.out)⟩⟩
              · rw [if_neg c8] at H
                have c8b0 : (((rd_T87 l0 x5_1).f2).toList == t428.toList) = false := beq_eq_false_iff_ne.mpr c8
                have c8b1 : (((rd_T87 l0 x5_1).f2).toList != t428.toList) = true := bne_iff_ne.mpr c8
                obtain rfl := Option.some.inj H
                have p425 : 0 ≤ (x5_1 : Int) := of_decide_eq_true (by first | (with_reducible assumption) | assumption)
                have q425 : x5_1 < (l0.length : Int) := of_decide_eq_true (by first | (with_reducible assumption) | assumption)
                obtain ⟨ad425, e425, hx425_0, hx425_1, hx425_2⟩ := at_T87 HR0.out x5_1 p425 q425
                cases e425
                replace hx425_0 := (HB.out.cell (World.block_lt_of_cell? w _ hx425_0)).trans hx425_0
                replace hx425_1 := (HB.out.cell (World.block_lt_of_cell? w _ hx425_1)).trans hx425_1
                replace hx425_2 := (HB.out.cell (World.block_lt_of_cell? w _ hx425_2)).trans hx425_2
                replace p425 := eq_true p425
                replace q425 := eq_true q425
                have p426 : 0 ≤ (x5_1 : Int) := of_decide_eq_true (by first | (with_reducible assumption) | assumption)
                have q426 : x5_1 < (l0.length : Int) := of_decide_eq_true (by first | (with_reducible assumption) | assumption)
                obtain ⟨ad426, e426, hx426_0, hx426_1, hx426_2⟩ := at_T87 HR0.out x5_1 p426 q426
                obtain rfl : ad425 = ad426 := (by injection e426)
                replace hx426_0 := (HB.out.cell (World.block_lt_of_cell? w _ hx426_0)).trans hx426_0
                replace hx426_1 := (HB.out.cell (World.block_lt_of_cell? w _ hx426_1)).trans hx426_1
                replace hx426_2 := (HB.out.cell (World.block_lt_of_cell? w _ hx426_2)).trans hx426_2
                replace p426 := eq_true p426
                replace q426 := eq_true q426
                try go_wp2
                have n0_ := Aside0.mk (below_drew1 HB.out)
                clear HB
                have HB := n0_
                clear n0_
                have p427 : 0 ≤ (x5_1 : Int) := of_decide_eq_true (by first | (with_reducible assumption) | assumption)
                have q427 : x5_1 < (l0.length : Int) := of_decide_eq_true (by first | (with_reducible assumption) | assumption)
                obtain ⟨ad427, e427, hx427_0, hx427_1, hx427_2⟩ := at_T87 HR0.out x5_1 p427 q427
                have hw427_2 := hx427_2
                have hw427_1 := hx427_1
                have hw427_0 := hx427_0
                obtain rfl : ad425 = ad427 := (by injection e427)
                replace hx427_0 := (HB.out.cell (World.block_lt_of_cell? w _ hx427_0)).trans hx427_0
                replace hx427_1 := (HB.out.cell (World.block_lt_of_cell? w _ hx427_1)).trans hx427_1
                replace hx427_2 := (HB.out.cell (World.block_lt_of_cell? w _ hx427_2)).trans hx427_2
                replace p427 := eq_true p427
                replace q427 := eq_true q427
                refine start_ (n := 8) (S := fun w' => w'.cell? (ad425.add ((x5_1).toNat * 3)) = some (.int .i64 ((rd_T87 l0 x5_1).f0)) ∧ w'.cell? ⟨(ad425.add ((x5_1).toNat * 3)).block, (ad425.add ((x5_1).toNat * 3)).off + 1, none⟩ = some (.int .i64 ((rd_T87 l0 x5_1).f1)) ∧ w'.cell? ⟨(ad425.add ((x5_1).toNat * 3)).block, (ad425.add ((x5_1).toNat * 3)).off + 2, none⟩ = some (.string ((rd_T87 l0 x5_1).f2))) (ds := []) #[false, false, false, false, false, false, false, false] (by kernel_rfl) rfl rfl ⟨((HB.out.cell (World.block_lt_of_cell? w _ hw427_0)).trans hw427_0), ((HB.out.cell (World.block_lt_of_cell? w _ hw427_1)).trans hw427_1), ((HB.out.cell (World.block_lt_of_cell? w _ hw427_2)).trans hw427_2)⟩ (fun hHeld => ?_); refine with_tabW laws_heldEntryS.tab10 laws_heldEntryS.bits10 (fun HT_ HW_ => ?_)
                generalize wr.drew = w11 at HB hx427_0 hx427_1 hx427_2 hHeld ⊢
                refine pure_ (i := 0) (N := some 30) (v := ?_) (a' := ?_) #[true, false, false, false, false, false, false, false] rfl rfl (any_of HT_.out (by kernel_rfl)) (fun _ _ _ h => h) (Or.inl ⟨by rfl, ?_⟩) ?_ ?_
                rotate_left
                · intro w'
                  go_simp
                  with_reducible rfl
                rotate_left
                · simp only [Act.put, List.setIfInBounds_toArray, List.set_cons_zero, List.set_cons_succ, i64_w, i32_w]
                  rfl
                refine pure_ (i := 1) (N := some 31) (v := ?_) (a' := ?_) #[true, true, false, false, false, false, false, false] rfl rfl (any_of HT_.out (by kernel_rfl)) (fun _ _ _ h => h) (Or.inl ⟨by rfl, ?_⟩) ?_ ?_
                rotate_left
                · intro w'
                  go_simp
                  with_reducible rfl
                rotate_left
                · simp only [Act.put, List.setIfInBounds_toArray, List.set_cons_zero, List.set_cons_succ, i64_w, i32_w]
                  rfl
                refine pure_ (i := 2) (N := some 32) (v := ?_) (a' := ?_) #[true, true, true, false, false, false, false, false] rfl rfl (any_of HT_.out (by kernel_rfl)) (fun _ _ _ h => h) (Or.inl ⟨by rfl, ?_⟩) ?_ ?_
                rotate_left
                · intro w'
                  go_simp
                  with_reducible rfl
                rotate_left
                · simp only [Act.put, List.setIfInBounds_toArray, List.set_cons_zero, List.set_cons_succ, i64_w, i32_w]
                  rfl
                refine pure_ (i := 3) (N := some 33) (v := ?_) (a' := ?_) #[true, true, true, true, false, false, false, false] rfl rfl (any_of HT_.out (by kernel_rfl)) (fun _ _ _ h => h) (Or.inl ⟨by rfl, ?_⟩) ?_ ?_
                rotate_left
                · intro w'
                  go_simp
                  with_reducible rfl
                rotate_left
                · simp only [Act.put, List.setIfInBounds_toArray, List.set_cons_zero, List.set_cons_succ, i64_w, i32_w]
                  rfl
                refine pure_ (i := 5) (N := some 35) (v := ?_) (a' := ?_) #[true, true, true, true, false, true, false, false] rfl rfl (any_of HT_.out (by kernel_rfl)) (fun _ _ _ h => h) (Or.inl ⟨by rfl, ?_⟩) ?_ ?_
                rotate_left
                · intro w'
                  go_simp
                  with_reducible rfl
                rotate_left
                · simp only [Act.put, List.setIfInBounds_toArray, List.set_cons_zero, List.set_cons_succ, i64_w, i32_w]
                  rfl
                refine take_ (i := 4) (N := some 34) (v := ?_) (a' := ?_) #[true, true, true, true, true, true, false, false] rfl rfl (take_ofW HT_.out HW_.out (by kernel_rfl)) (fun _ _ _ h => h) (Or.inl ⟨by rfl, ?_⟩) hHeld ?_ ?_
                rotate_left
                · rintro w' ⟨s0, s1, s2⟩
                  go_simp
                  with_reducible rfl
                rotate_left
                · simp only [Act.put, List.setIfInBounds_toArray, List.set_cons_zero, List.set_cons_succ, i64_w, i32_w]
                  rfl
                refine one_ (i := 6) (N := some 36) #[true, true, true, true, true, true, true, false] rfl rfl (one_of HT_.out (by kernel_rfl)) (by decide) (fun K hK => ?_)
                refine goes_ Try.func103 (by kernel_rfl) rfl #[.int .i64 (wrap64 ((wrap64 (x1_1 + 1)) + 1))] (by rfl) rfl rfl (by (try simp only [List.map_toArray, List.map_cons, List.map_nil]); first | done | rfl | (simp only [List.length_drop, List.length_take]; rfl)) ?_
                with_reducible refine (laws_markText.calls k1 (wrap64 ((wrap64 (x1_1 + 1)) + 1)) t428 _ A7.out).mono ?_
                rintro e w12 ⟨rfl, hb⟩
                refine ⟨_, rfl, ?_⟩
                have n0_ := Aside0.mk (below_step (by repeat (first | (with_reducible first | exact HB.out | apply below_alloc | apply pw_below_drewN | apply below_drew1) | exact HB.out)) hb)
                clear HB
                have HB := n0_
                clear n0_
                (try clear hb)
                (try clear hb2)
                (try clear hk)
                (try clear hi)
                refine hK.out _ _ ⟨((HB.out.cell (World.block_lt_of_cell? w _ hw427_0)).trans hw427_0), ((HB.out.cell (World.block_lt_of_cell? w _ hw427_1)).trans hw427_1), ((HB.out.cell (World.block_lt_of_cell? w _ hw427_2)).trans hw427_2)⟩ (fun hHeld => ?_)
                clear hK K
                refine norm_ (a' := ?_) ?_ ?_
                rotate_left
                · show Act.put _ (some 36) _ = _
                  simp only [Act.put, List.setIfInBounds_toArray, List.set_cons_zero, List.set_cons_succ, i64_w, i32_w]
                  rfl
                refine pure_ (i := 7) (N := some 37) (v := ?_) (a' := ?_) #[true, true, true, true, true, true, true, true] rfl rfl (any_of HT_.out (by kernel_rfl)) (fun _ _ _ h => h) (Or.inl ⟨by rfl, ?_⟩) ?_ ?_
                rotate_left
                · intro w'
                  go_simp
                  with_reducible rfl
                rotate_left
                · simp only [Act.put, List.setIfInBounds_toArray, List.set_cons_zero, List.set_cons_succ, i64_w, i32_w]
                  rfl
                refine done_ (done_of HT_.out (by kernel_rfl)) ?_
                try go_wp2
                go_ret
                exact ⟨by first | rfl | (simp [errW_none, errW_some] <;> rfl) | (simp [*, errW_none, errW_some] <;> rfl), by repeat (first | (with_reducible first | exact HB.out | apply below_alloc | apply pw_below_drewN | apply below_drew1) | exact HB.out)⟩
            · rw [if_neg c6] at H
              have c6b0 : (((rd_T87 l0 x5_1).f1) == (wrap64 (x1_1 + 1))) = false := beq_eq_false_iff_ne.mpr c6
              have c6b1 : (((rd_T87 l0 x5_1).f1) != (wrap64 (x1_1 + 1))) = true := bne_iff_ne.mpr c6
              obtain rfl := Option.some.inj H
              have p425 : 0 ≤ (x5_1 : Int) := of_decide_eq_true (by first | (with_reducible assumption) | assumption)
              have q425 : x5_1 < (l0.length : Int) := of_decide_eq_true (by first | (with_reducible assumption) | assumption)
              obtain ⟨ad425, e425, hx425_0, hx425_1, hx425_2⟩ := at_T87 HR0.out x5_1 p425 q425
              cases e425
              replace hx425_0 := (HB.out.cell (World.block_lt_of_cell? w _ hx425_0)).trans hx425_0
              replace hx425_1 := (HB.out.cell (World.block_lt_of_cell? w _ hx425_1)).trans hx425_1
              replace hx425_2 := (HB.out.cell (World.block_lt_of_cell? w _ hx425_2)).trans hx425_2
              replace p425 := eq_true p425
              replace q425 := eq_true q425
              have p426 : 0 ≤ (x5_1 : Int) := of_decide_eq_true (by first | (with_reducible assumption) | assumption)
              have q426 : x5_1 < (l0.length : Int) := of_decide_eq_true (by first | (with_reducible assumption) | assumption)
              obtain ⟨ad426, e426, hx426_0, hx426_1, hx426_2⟩ := at_T87 HR0.out x5_1 p426 q426
              obtain rfl : ad425 = ad426 := (by injection e426)
              replace hx426_0 := (HB.out.cell (World.block_lt_of_cell? w _ hx426_0)).trans hx426_0
              replace hx426_1 := (HB.out.cell (World.block_lt_of_cell? w _ hx426_1)).trans hx426_1
              replace hx426_2 := (HB.out.cell (World.block_lt_of_cell? w _ hx426_2)).trans hx426_2
              replace p426 := eq_true p426
              replace q426 := eq_true q426
              go_wp2
              go_ret
              exact ⟨by first | rfl | (simp [errW_none, errW_some] <;> rfl) | (simp [*, errW_none, errW_some] <;> rfl), by repeat (first | (with_reducible first | exact HB.out | apply below_alloc | apply pw_below_drewN | apply below_drew1) | exact HB.out)⟩
          · rw [if_neg c5] at H
            have c5b0 : (((rd_T87 l0 x5_1).f0) == x1_1) = false := beq_eq_false_iff_ne.mpr c5
            have c5b1 : (((rd_T87 l0 x5_1).f0) != x1_1) = true := bne_iff_ne.mpr c5
            obtain rfl := Option.some.inj H
            have p425 : 0 ≤ (x5_1 : Int) := of_decide_eq_true (by first | (with_reducible assumption) | assumption)
            have q425 : x5_1 < (l0.length : Int) := of_decide_eq_true (by first | (with_reducible assumption) | assumption)
            obtain ⟨ad425, e425, hx425_0, hx425_1, hx425_2⟩ := at_T87 HR0.out x5_1 p425 q425
            cases e425
            replace hx425_0 := (HB.out.cell (World.block_lt_of_cell? w _ hx425_0)).trans hx425_0
            replace hx425_1 := (HB.out.cell (World.block_lt_of_cell? w _ hx425_1)).trans hx425_1
            replace hx425_2 := (HB.out.cell (World.block_lt_of_cell? w _ hx425_2)).trans hx425_2
            replace p425 := eq_true p425
            replace q425 := eq_true q425
            go_wp2
            go_ret
            exact ⟨by first | rfl | (simp [errW_none, errW_some] <;> rfl) | (simp [*, errW_none, errW_some] <;> rfl), by repeat (first | (with_reducible first | exact HB.out | apply below_alloc | apply pw_below_drewN | apply below_drew1) | exact HB.out)⟩
        · rw [if_neg c4] at H
          exact absurd H (by simp)
      · rw [if_neg c3] at H
        have c3b0 : decide (x5_1 < (l0.length : Int)) = false := decide_eq_false c3
        clear c3
        obtain rfl := Option.some.inj H
        go_wp2
        go_ret
        exact ⟨by first | rfl | (simp [errW_none, errW_some] <;> rfl) | (simp [*, errW_none, errW_some] <;> rfl), by repeat (first | (with_reducible first | exact HB.out | apply below_alloc | apply pw_below_drewN | apply below_drew1) | exact HB.out)⟩
end Go.Proofs.Ytallakebnoighaa.PFnExactSettle
end

section
namespace Go.Proofs.Ytallakebnoighaa.PFnExactSettle
open Go.RowKit Go.Proofs.YtallakebnoighaaW.PrintWords Go.Proofs.YtallakebnoighaaW.PrintLast Go.Proofs.YtallakebnoighaaW.PrintMore
set_option linter.unusedVariables false
set_option linter.unusedSimpArgs false
def laws_heldLog.f (k : Nat) (a0_0 : Int) (a0_1 : Int) (l0_2 : List (S87)) (a1 : Int) : Option (Int) := (laws_heldEntryS.f k l0_2 a1).bind fun t430 => (if t430 < 0 then (some (-1)) else (some t430))
theorem laws_heldLog.mono : ∀ a0 a1 a2 a3 k, LeO (laws_heldLog.f k a0 a1 a2 a3) (laws_heldLog.f (k + 1) a0 a1 a2 a3) := by
  intro a0 a1 a2 a3 k
  unfold laws_heldLog.f
  repeat' first
      | (with_reducible exact laws_heldEntryS.mono _ _ _)
      | (with_reducible exact LeO.refl _)
      | (with_reducible exact LeO.none _)
      | (with_reducible refine LeO.ite ?_ ?_)
      | (with_reducible refine LeO.bind ?_ (fun _ => ?_))
      | exact laws_heldEntryS.mono _ _ _
      | exact LeO.none _
      | refine LeO.ite ?_ ?_
      | refine LeO.bind ?_ (fun _ => ?_)
set_option maxHeartbeats 8000000 in
set_option maxRecDepth 100000 in
theorem laws_heldLog.calls (k : Nat) (a0_0 : Int) (a0_1 : Int) (A0_2 : Option Addr) (c0_2 : Nat) (l0_2 : List (S87)) (a1 : Int) (r : Int) (w : World) (hr0_2 : Kd.C k87 w A0_2 l0_2.length l0_2) (hc0_2 : l0_2.length ≤ c0_2) (h : laws_heldLog.f k a0_0 a0_1 l0_2 a1 = some r) :
    Calls Try.prog 57 #[.agg #[.int .i64 a0_0, .int .i64 a0_1, .slice A0_2 l0_2.length c0_2], .int .i64 a1] w fun e w' => e = .returned (.int .i64 r) ∧ Below w.heap.size w w' := by
  have hu33 := Try.underlying33
  have HR0_2 := Aside0.mk hr0_2
  have HC0_2 := Aside0.mk hc0_2
  clear hr0_2 hc0_2
  have HB := Aside0.mk (Below.refl w.heap.size w)
  have H : ((laws_heldEntryS.f k l0_2 a1).bind fun t430 => (if t430 < 0 then (some (-1)) else (some t430))) = some r := h
  clear h
  replace H := Option.bind_eq_some_iff.mp H
  obtain ⟨t430, A30, H⟩ := H
  replace H : (if t430 < 0 then (some (-1)) else (some t430)) = some r := H
  have A3 := Aside0.mk A30
  clear A30
  by_cases c4 : t430 < 0
  · rw [if_pos c4] at H
    have c4b0 : decide (t430 < 0) = true := decide_eq_true c4
    clear c4
    obtain rfl := Option.some.inj H
    go_enter Try.func57, Try.ntmps57
    go_wp2_with (first | ((with_reducible refine gate_dst (N := 2) rfl ?_); refine box_event ?hg (N := 2) ?hd (cs := #[.int .i64 a0_0, .int .i64 a0_1, .slice A0_2 l0_2.length c0_2]) (t := 33) ?hr ?_; (case hd => rfl); (case hg => rfl); (case hr => first | (go_simp; done) | (go_simp; rfl)); intro gb429 hg w5 hbox hb; have n0_ := Aside0.mk (below_step (by repeat (first | (with_reducible first | exact HB.out | apply below_alloc | apply pw_below_drewN | apply below_drew1) | exact HB.out)) hb); have n1_ := Aside0.mk (hbox); have n2_ := Aside0.mk ((by rw [hg]; exact (below_size (by repeat (first | (with_reducible first | exact HB.out | apply below_alloc | apply pw_below_drewN | apply below_drew1) | exact HB.out))) : w.heap.size ≤ gb429)); have n3_ := Aside0.mk ((by rw [hg]; exact (below_size (by repeat (first | (with_reducible first | exact HB.out | apply below_alloc | apply pw_below_drewN | apply below_drew1) | exact HB.out))) : w.heap.size ≤ gb429)); clear HB; have HB := n0_; have BK429 := n1_; have GW429 := n2_; have GE429 := n3_; clear n0_ n1_ n2_ n3_; clear hb hbox hg; have hcz6_0 : w5.cell? ⟨gb429, 0, none⟩ = some (.int .i64 a0_0) := (blk_cell BK429.out 0).trans rfl; have hcz6_1 : w5.cell? ⟨gb429, 1, none⟩ = some (.int .i64 a0_1) := (blk_cell BK429.out 1).trans rfl; have hcz6_2 : w5.cell? ⟨gb429, 2, none⟩ = some (.slice A0_2 l0_2.length c0_2) := (blk_cell BK429.out 2).trans rfl; have hfz6_0 := blk_frozen BK429.out 0; have hfz6_1 := blk_frozen BK429.out 1; have hfz6_2 := blk_frozen BK429.out 2) | ((with_reducible refine gate_callee (f := 87) rfl ?_); refine goesL_ (some 8) rfl rfl Try.func87 (by kernel_rfl) rfl #[.slice A0_2 l0_2.length c0_2, .int .i64 a1] rfl (by (try simp only [List.map_toArray, List.map_cons, List.map_nil]); first | done | rfl | (simp only [List.length_drop, List.length_take]; rfl)) ?_; (with_reducible refine (laws_heldEntryS.calls k _ _ l0_2 a1 t430 _ ?side1 ?side2 A3.out).mono ?_); (case side1 => repeat (first | exact (Kd.C_below HR0_2.out HB.out) | (with_reducible refine Kd.C_alloc ?_ _) | (with_reducible refine Kd.C_drewN ?_ _) | (with_reducible refine Kd.C_drew ?_))); (case side2 => exact HC0_2.out); rintro e w7 ⟨rfl, hb⟩; refine ⟨_, rfl, ?_⟩; have n0_ := Aside0.mk (blk_below (g := gb429) (o := .cells #[.int .i64 a0_0, .int .i64 a0_1, .slice A0_2 l0_2.length c0_2] 33 (0, 0)) (by (with_reducible repeat (first | refine blk_drewN ?_ _ | refine blk_drew ?_ | refine blk_alloc ?_ _)); exact BK429.out) hb); have n1_ := Aside0.mk (below_step (by repeat (first | (with_reducible first | exact HB.out | apply below_alloc | apply pw_below_drewN | apply below_drew1 | refine below_set ?_ GE429.out) | exact HB.out)) hb); clear BK429; clear HB; have BK429 := n0_; have HB := n1_; clear n0_ n1_; (try clear hb); (try clear hb2); (try clear hk); (try clear hi)))
    go_ret
    exact ⟨by first | rfl | (simp [errW_none, errW_some] <;> rfl) | (simp [*, errW_none, errW_some] <;> rfl), by repeat (first | (with_reducible first | exact HB.out | apply below_alloc | apply pw_below_drewN | apply below_drew1 | refine below_set ?_ GE429.out) | exact HB.out)⟩
  · rw [if_neg c4] at H
    have c4b0 : decide (t430 < 0) = false := decide_eq_false c4
    clear c4
    obtain rfl := Option.some.inj H
    go_enter Try.func57, Try.ntmps57
    go_wp2_with (first | ((with_reducible refine gate_dst (N := 2) rfl ?_); refine box_event ?hg (N := 2) ?hd (cs := #[.int .i64 a0_0, .int .i64 a0_1, .slice A0_2 l0_2.length c0_2]) (t := 33) ?hr ?_; (case hd => rfl); (case hg => rfl); (case hr => first | (go_simp; done) | (go_simp; rfl)); intro gb429 hg w8 hbox hb; have n0_ := Aside0.mk (below_step (by repeat (first | (with_reducible first | exact HB.out | apply below_alloc | apply pw_below_drewN | apply below_drew1) | exact HB.out)) hb); have n1_ := Aside0.mk (hbox); have n2_ := Aside0.mk ((by rw [hg]; exact (below_size (by repeat (first | (with_reducible first | exact HB.out | apply below_alloc | apply pw_below_drewN | apply below_drew1) | exact HB.out))) : w.heap.size ≤ gb429)); have n3_ := Aside0.mk ((by rw [hg]; exact (below_size (by repeat (first | (with_reducible first | exact HB.out | apply below_alloc | apply pw_below_drewN | apply below_drew1) | exact HB.out))) : w.heap.size ≤ gb429)); clear HB; have HB := n0_; have BK429 := n1_; have GW429 := n2_; have GE429 := n3_; clear n0_ n1_ n2_ n3_; clear hb hbox hg; have hcz9_0 : w8.cell? ⟨gb429, 0, none⟩ = some (.int .i64 a0_0) := (blk_cell BK429.out 0).trans rfl; have hcz9_1 : w8.cell? ⟨gb429, 1, none⟩ = some (.int .i64 a0_1) := (blk_cell BK429.out 1).trans rfl; have hcz9_2 : w8.cell? ⟨gb429, 2, none⟩ = some (.slice A0_2 l0_2.length c0_2) := (blk_cell BK429.out 2).trans rfl; have hfz9_0 := blk_frozen BK429.out 0; have hfz9_1 := blk_frozen BK429.out 1; have hfz9_2 := blk_frozen BK429.out 2) | ((with_reducible refine gate_callee (f := 87) rfl ?_); refine goesL_ (some 8) rfl rfl Try.func87 (by kernel_rfl) rfl #[.slice A0_2 l0_2.length c0_2, .int .i64 a1] rfl (by (try simp only [List.map_toArray, List.map_cons, List.map_nil]); first | done | rfl | (simp only [List.length_drop, List.length_take]; rfl)) ?_; (with_reducible refine (laws_heldEntryS.calls k _ _ l0_2 a1 t430 _ ?side1 ?side2 A3.out).mono ?_); (case side1 => repeat (first | exact (Kd.C_below HR0_2.out HB.out) | (with_reducible refine Kd.C_alloc ?_ _) | (with_reducible refine Kd.C_drewN ?_ _) | (with_reducible refine Kd.C_drew ?_))); (case side2 => exact HC0_2.out); rintro e w10 ⟨rfl, hb⟩; refine ⟨_, rfl, ?_⟩; have n0_ := Aside0.mk (blk_below (g := gb429) (o := .cells #[.int .i64 a0_0, .int .i64 a0_1, .slice A0_2 l0_2.length c0_2] 33 (0, 0)) (by (with_reducible repeat (first | refine blk_drewN ?_ _ | refine blk_drew ?_ | refine blk_alloc ?_ _)); exact BK429.out) hb); have n1_ := Aside0.mk (below_step (by repeat (first | (with_reducible first | exact HB.out | apply below_alloc | apply pw_below_drewN | apply below_drew1 | refine below_set ?_ GE429.out) | exact HB.out)) hb); clear BK429; clear HB; have BK429 := n0_; have HB := n1_; clear n0_ n1_; (try clear hb); (try clear hb2); (try clear hk); (try clear hi)))
    go_ret
    exact ⟨by first | rfl | (simp [errW_none, errW_some] <;> rfl) | (simp [*, errW_none, errW_some] <;> rfl), by repeat (first | (with_reducible first | exact HB.out | apply below_alloc | apply pw_below_drewN | apply below_drew1 | refine below_set ?_ GE429.out) | exact HB.out)⟩
end Go.Proofs.Ytallakebnoighaa.PFnExactSettle
end

section
namespace Go.Proofs.Ytallakebnoighaa.PFnExactSettle
open Go.RowKit Go.Proofs.YtallakebnoighaaW.PrintWords Go.Proofs.YtallakebnoighaaW.PrintLast Go.Proofs.YtallakebnoighaaW.PrintMore
set_option linter.unusedVariables false
set_option linter.unusedSimpArgs false
def laws_heldPeerS.l0 : Nat → List (S69) → Int → Int → Option (Int)
  | 0, _, _, _ => none
  | k + 1, x0, x1, x5 => if x5 < (x0.length : Int) then (if 0 ≤ x5 then (if ((rd_T69 x0 x5).f0) = x1 then (if ((rd_T69 x0 x5).f1) = (wrap64 (x1 + 1)) then (if ((rd_T69 x0 x5).f2) = (wrap64 ((wrap64 (x1 + 1)) + 1)) then (if ((rd_T69 x0 x5).f3) = (wrap64 ((wrap64 ((wrap64 (x1 + 1)) + 1)) + 1)) then (laws_heldPeerS.l0 k x0 (wrap64 ((wrap64 ((wrap64 ((wrap64 (x1 + 1)) + 1)) + 1)) + 1)) (wrap64 (x5 + 1))) else (some (-1))) else (some (-1))) else (some (-1))) else (some (-1))) else (none)) else (some x1)
def laws_heldPeerS.f (k : Nat) (l0 : List (S69)) (a1 : Int) : Option (Int) := laws_heldPeerS.l0 k l0 a1 0
theorem laws_heldPeerS.mono_l : ∀ k, (∀ y0 y1 y2, LeO (laws_heldPeerS.l0 k y0 y1 y2) (laws_heldPeerS.l0 (k + 1) y0 y1 y2))
  | 0 => fun _ _ _ r h => by simp [laws_heldPeerS.l0] at h
  | k + 1 => by
    have ih0 := laws_heldPeerS.mono_l k
    · intro y0 y1 y2
      unfold laws_heldPeerS.l0
      repeat' first
      | (with_reducible exact ih0 _ _ _)
      | (with_reducible exact LeO.refl _)
      | (with_reducible exact LeO.none _)
      | (with_reducible refine LeO.ite ?_ ?_)
      | (with_reducible refine LeO.bind ?_ (fun _ => ?_))
      | exact ih0 _ _ _
      | exact LeO.none _
      | refine LeO.ite ?_ ?_
      | refine LeO.bind ?_ (fun _ => ?_)
theorem laws_heldPeerS.mono : ∀ a0 a1 k, LeO (laws_heldPeerS.f k a0 a1) (laws_heldPeerS.f (k + 1) a0 a1) := by
  intro a0 a1 k
  have ih0 := laws_heldPeerS.mono_l k
  unfold laws_heldPeerS.f
  repeat' first
      | (with_reducible exact ih0 _ _ _)
      | (with_reducible exact LeO.refl _)
      | (with_reducible exact LeO.none _)
      | (with_reducible refine LeO.ite ?_ ?_)
      | (with_reducible refine LeO.bind ?_ (fun _ => ?_))
      | exact ih0 _ _ _
      | exact LeO.none _
      | refine LeO.ite ?_ ?_
      | refine LeO.bind ?_ (fun _ => ?_)
set_option maxHeartbeats 8000000 in
set_option maxRecDepth 100000 in
theorem laws_heldPeerS.calls (k : Nat) (A0 : Option Addr) (c0 : Nat) (l0 : List (S69)) (a1 : Int) (r : Int) (w : World) (hr0 : Kd.C k69 w A0 l0.length l0) (hc0 : l0.length ≤ c0) (h : laws_heldPeerS.f k l0 a1 = some r) :
    Calls Try.prog 58 #[.slice A0 l0.length c0, .int .i64 a1] w fun e w' => e = .returned (.int .i64 r) ∧ Drawn0 w w' := by
  have HR0 := Aside0.mk hr0
  have HC0 := Aside0.mk hc0
  clear hr0 hc0
  have H : (laws_heldPeerS.l0 k l0 a1 0) = some r := h
  clear h
  have H' := Aside0.mk H
  clear H
  go_enter Try.func58, Try.ntmps58
  go_wp2
  go_loopg [1, 5] k (fun kq v1 v5 w' => ∃ (x1_1 : Int) (x5_1 : Int), v1 = .int .i64 x1_1 ∧ v5 = .int .i64 x5_1 ∧ Aside0 (laws_heldPeerS.l0 kq l0 x1_1 x5_1 = some r) ∧ Aside0 (kq ≤ k) ∧ Drawn0 w w')
  case atStart => exact ⟨(a1), (0), (by first | rfl | (simp; done) | (simp [*]; done)), (by first | rfl | (simp; done) | (simp [*]; done)), H', ⟨Nat.le_refl _⟩, by repeat (first | exact Drawn0.refl _ | apply Drawn0.step)⟩
  case round =>
    clear H'
    try clear p2
    obtain ⟨x1_1, x5_1, rfl, rfl, HA, HK1, ⟨m1, rfl⟩⟩ := hrel
    cases gk with
    | zero => exact absurd HA.out (by simp [laws_heldPeerS.l0])
    | succ k1 =>
      have H := HA.out
      clear HA
      simp only [laws_heldPeerS.l0] at H
      by_cases c3 : x5_1 < (l0.length : Int)
      · rw [if_pos c3] at H
        have c3b0 : decide (x5_1 < (l0.length : Int)) = true := decide_eq_true c3
        clear c3
        by_cases c4 : 0 ≤ x5_1
        · rw [if_pos c4] at H
          have c4b0 : decide (0 ≤ x5_1) = true := decide_eq_true c4
          clear c4
          by_cases c5 : ((rd_T69 l0 x5_1).f0) = x1_1
          · rw [if_pos c5] at H
            have c5b0 : (((rd_T69 l0 x5_1).f0) == x1_1) = true := beq_iff_eq.mpr c5
            have c5b1 : (((rd_T69 l0 x5_1).f0) != x1_1) = false := bne_eq_false_iff_eq.mpr c5
            clear c5
            by_cases c6 : ((rd_T69 l0 x5_1).f1) = (wrap64 (x1_1 + 1))
            · rw [if_pos c6] at H
              have c6b0 : (((rd_T69 l0 x5_1).f1) == (wrap64 (x1_1 + 1))) = true := beq_iff_eq.mpr c6
              have c6b1 : (((rd_T69 l0 x5_1).f1) != (wrap64 (x1_1 + 1))) = false := bne_eq_false_iff_eq.mpr c6
              clear c6
              by_cases c7 : ((rd_T69 l0 x5_1).f2) = (wrap64 ((wrap64 (x1_1 + 1)) + 1))
              · rw [if_pos c7] at H
                have c7b0 : (((rd_T69 l0 x5_1).f2) == (wrap64 ((wrap64 (x1_1 + 1)) + 1))) = true := beq_iff_eq.mpr c7
                have c7b1 : (((rd_T69 l0 x5_1).f2) != (wrap64 ((wrap64 (x1_1 + 1)) + 1))) = false := bne_eq_false_iff_eq.mpr c7
                clear c7
                by_cases c8 : ((rd_T69 l0 x5_1).f3) = (wrap64 ((wrap64 ((wrap64 (x1_1 + 1)) + 1)) + 1))
                · rw [if_pos c8] at H
                  have c8b0 : (((rd_T69 l0 x5_1).f3) == (wrap64 ((wrap64 ((wrap64 (x1_1 + 1)) + 1)) + 1))) = true := beq_iff_eq.mpr c8
                  have c8b1 : (((rd_T69 l0 x5_1).f3) != (wrap64 ((wrap64 ((wrap64 (x1_1 + 1)) + 1)) + 1))) = false := bne_eq_false_iff_eq.mpr c8
                  clear c8
                  have H' := Aside0.mk H
                  clear H
                  have p431 : 0 ≤ (x5_1 : Int) := of_decide_eq_true (by first | (with_reducible assumption) | assumption)
                  have q431 : x5_1 < (l0.length : Int) := of_decide_eq_true (by first | (with_reducible assumption) | assumption)
                  obtain ⟨ad431, e431, hx431_0, hx431_1, hx431_2, hx431_3⟩ := at_T69 HR0.out x5_1 p431 q431
                  cases e431
                  replace p431 := eq_true p431
                  replace q431 := eq_true q431
                  have p432 : 0 ≤ (x5_1 : Int) := of_decide_eq_true (by first | (with_reducible assumption) | assumption)
                  have q432 : x5_1 < (l0.length : Int) := of_decide_eq_true (by first | (with_reducible assumption) | assumption)
                  obtain ⟨ad432, e432, hx432_0, hx432_1, hx432_2, hx432_3⟩ := at_T69 HR0.out x5_1 p432 q432
                  obtain rfl : ad431 = ad432 := (by injection e432)
                  replace p432 := eq_true p432
                  replace q432 := eq_true q432
                  have p433 : 0 ≤ (x5_1 : Int) := of_decide_eq_true (by first | (with_reducible assumption) | assumption)
                  have q433 : x5_1 < (l0.length : Int) := of_decide_eq_true (by first | (with_reducible assumption) | assumption)
                  obtain ⟨ad433, e433, hx433_0, hx433_1, hx433_2, hx433_3⟩ := at_T69 HR0.out x5_1 p433 q433
                  obtain rfl : ad431 = ad433 := (by injection e433)
                  replace p433 := eq_true p433
                  replace q433 := eq_true q433
                  have p434 : 0 ≤ (x5_1 : Int) := of_decide_eq_true (by first | (with_reducible assumption) | assumption)
                  have q434 : x5_1 < (l0.length : Int) := of_decide_eq_true (by first | (with_reducible assumption) | assumption)
                  obtain ⟨ad434, e434, hx434_0, hx434_1, hx434_2, hx434_3⟩ := at_T69 HR0.out x5_1 p434 q434
                  obtain rfl : ad431 = ad434 := (by injection e434)
                  replace p434 := eq_true p434
                  replace q434 := eq_true q434
                  go_wp2
                  go_roundg k1
                  case measure => have := HK1.out; omega
                  case rel => exact ⟨(wrap64 ((wrap64 ((wrap64 ((wrap64 (x1_1 + 1)) + 1)) + 1)) + 1)), (wrap64 (x5_1 + 1)), (by first | rfl | (simp; done) | (simp [*]; done)), (by first | rfl | (simp; done) | (simp [*]; done)), H', ⟨by have := HK1.out; omega⟩, by repeat (first | exact Drawn0.refl _ | apply Drawn0.step)⟩
                · rw [if_neg c8] at H
                  have c8b0 : (((rd_T69 l0 x5_1).f3) == (wrap64 ((wrap64 ((wrap64 (x1_1 + 1)) + 1)) + 1))) = false := beq_eq_false_iff_ne.mpr c8
                  have c8b1 : (((rd_T69 l0 x5_1).f3) != (wrap64 ((wrap64 ((wrap64 (x1_1 + 1)) + 1)) + 1))) = true := bne_iff_ne.mpr c8
                  obtain rfl := Option.some.inj H
                  have p431 : 0 ≤ (x5_1 : Int) := of_decide_eq_true (by first | (with_reducible assumption) | assumption)
                  have q431 : x5_1 < (l0.length : Int) := of_decide_eq_true (by first | (with_reducible assumption) | assumption)
                  obtain ⟨ad431, e431, hx431_0, hx431_1, hx431_2, hx431_3⟩ := at_T69 HR0.out x5_1 p431 q431
                  cases e431
                  replace p431 := eq_true p431
                  replace q431 := eq_true q431
                  have p432 : 0 ≤ (x5_1 : Int) := of_decide_eq_true (by first | (with_reducible assumption) | assumption)
                  have q432 : x5_1 < (l0.length : Int) := of_decide_eq_true (by first | (with_reducible assumption) | assumption)
                  obtain ⟨ad432, e432, hx432_0, hx432_1, hx432_2, hx432_3⟩ := at_T69 HR0.out x5_1 p432 q432
                  obtain rfl : ad431 = ad432 := (by injection e432)
                  replace p432 := eq_true p432
                  replace q432 := eq_true q432
                  have p433 : 0 ≤ (x5_1 : Int) := of_decide_eq_true (by first | (with_reducible assumption) | assumption)
                  have q433 : x5_1 < (l0.length : Int) := of_decide_eq_true (by first | (with_reducible assumption) | assumption)
                  obtain ⟨ad433, e433, hx433_0, hx433_1, hx433_2, hx433_3⟩ := at_T69 HR0.out x5_1 p433 q433
                  obtain rfl : ad431 = ad433 := (by injection e433)
                  replace p433 := eq_true p433
                  replace q433 := eq_true q433
                  have p434 : 0 ≤ (x5_1 : Int) := of_decide_eq_true (by first | (with_reducible assumption) | assumption)
                  have q434 : x5_1 < (l0.length : Int) := of_decide_eq_true (by first | (with_reducible assumption) | assumption)
                  obtain ⟨ad434, e434, hx434_0, hx434_1, hx434_2, hx434_3⟩ := at_T69 HR0.out x5_1 p434 q434
                  obtain rfl : ad431 = ad434 := (by injection e434)
                  replace p434 := eq_true p434
                  replace q434 := eq_true q434
                  go_wp2
                  go_ret
                  exact ⟨by first | rfl | (simp; done) | (simp [*]; done), by repeat (first | exact Drawn0.refl _ | apply Drawn0.step)⟩
              · rw [if_neg c7] at H
                have c7b0 : (((rd_T69 l0 x5_1).f2) == (wrap64 ((wrap64 (x1_1 + 1)) + 1))) = false := beq_eq_false_iff_ne.mpr c7
                have c7b1 : (((rd_T69 l0 x5_1).f2) != (wrap64 ((wrap64 (x1_1 + 1)) + 1))) = true := bne_iff_ne.mpr c7
                obtain rfl := Option.some.inj H
                have p431 : 0 ≤ (x5_1 : Int) := of_decide_eq_true (by first | (with_reducible assumption) | assumption)
                have q431 : x5_1 < (l0.length : Int) := of_decide_eq_true (by first | (with_reducible assumption) | assumption)
                obtain ⟨ad431, e431, hx431_0, hx431_1, hx431_2, hx431_3⟩ := at_T69 HR0.out x5_1 p431 q431
                cases e431
                replace p431 := eq_true p431
                replace q431 := eq_true q431
                have p432 : 0 ≤ (x5_1 : Int) := of_decide_eq_true (by first | (with_reducible assumption) | assumption)
                have q432 : x5_1 < (l0.length : Int) := of_decide_eq_true (by first | (with_reducible assumption) | assumption)
                obtain ⟨ad432, e432, hx432_0, hx432_1, hx432_2, hx432_3⟩ := at_T69 HR0.out x5_1 p432 q432
                obtain rfl : ad431 = ad432 := (by injection e432)
                replace p432 := eq_true p432
                replace q432 := eq_true q432
                have p433 : 0 ≤ (x5_1 : Int) := of_decide_eq_true (by first | (with_reducible assumption) | assumption)
                have q433 : x5_1 < (l0.length : Int) := of_decide_eq_true (by first | (with_reducible assumption) | assumption)
                obtain ⟨ad433, e433, hx433_0, hx433_1, hx433_2, hx433_3⟩ := at_T69 HR0.out x5_1 p433 q433
                obtain rfl : ad431 = ad433 := (by injection e433)
                replace p433 := eq_true p433
                replace q433 := eq_true q433
                go_wp2
                go_ret
                exact ⟨by first | rfl | (simp; done) | (simp [*]; done), by repeat (first | exact Drawn0.refl _ | apply Drawn0.step)⟩
            · rw [if_neg c6] at H
              have c6b0 : (((rd_T69 l0 x5_1).f1) == (wrap64 (x1_1 + 1))) = false := beq_eq_false_iff_ne.mpr c6
              have c6b1 : (((rd_T69 l0 x5_1).f1) != (wrap64 (x1_1 + 1))) = true := bne_iff_ne.mpr c6
              obtain rfl := Option.some.inj H
              have p431 : 0 ≤ (x5_1 : Int) := of_decide_eq_true (by first | (with_reducible assumption) | assumption)
              have q431 : x5_1 < (l0.length : Int) := of_decide_eq_true (by first | (with_reducible assumption) | assumption)
              obtain ⟨ad431, e431, hx431_0, hx431_1, hx431_2, hx431_3⟩ := at_T69 HR0.out x5_1 p431 q431
              cases e431
              replace p431 := eq_true p431
              replace q431 := eq_true q431
              have p432 : 0 ≤ (x5_1 : Int) := of_decide_eq_true (by first | (with_reducible assumption) | assumption)
              have q432 : x5_1 < (l0.length : Int) := of_decide_eq_true (by first | (with_reducible assumption) | assumption)
              obtain ⟨ad432, e432, hx432_0, hx432_1, hx432_2, hx432_3⟩ := at_T69 HR0.out x5_1 p432 q432
              obtain rfl : ad431 = ad432 := (by injection e432)
              replace p432 := eq_true p432
              replace q432 := eq_true q432
              go_wp2
              go_ret
              exact ⟨by first | rfl | (simp; done) | (simp [*]; done), by repeat (first | exact Drawn0.refl _ | apply Drawn0.step)⟩
          · rw [if_neg c5] at H
            have c5b0 : (((rd_T69 l0 x5_1).f0) == x1_1) = false := beq_eq_false_iff_ne.mpr c5
            have c5b1 : (((rd_T69 l0 x5_1).f0) != x1_1) = true := bne_iff_ne.mpr c5
            obtain rfl := Option.some.inj H
            have p431 : 0 ≤ (x5_1 : Int) := of_decide_eq_true (by first | (with_reducible assumption) | assumption)
            have q431 : x5_1 < (l0.length : Int) := of_decide_eq_true (by first | (with_reducible assumption) | assumption)
            obtain ⟨ad431, e431, hx431_0, hx431_1, hx431_2, hx431_3⟩ := at_T69 HR0.out x5_1 p431 q431
            cases e431
            replace p431 := eq_true p431
            replace q431 := eq_true q431
            go_wp2
            go_ret
            exact ⟨by first | rfl | (simp; done) | (simp [*]; done), by repeat (first | exact Drawn0.refl _ | apply Drawn0.step)⟩
        · rw [if_neg c4] at H
          exact absurd H (by simp)
      · rw [if_neg c3] at H
        have c3b0 : decide (x5_1 < (l0.length : Int)) = false := decide_eq_false c3
        clear c3
        obtain rfl := Option.some.inj H
        go_wp2
        go_ret
        exact ⟨by first | rfl | (simp; done) | (simp [*]; done), by repeat (first | exact Drawn0.refl _ | apply Drawn0.step)⟩
end Go.Proofs.Ytallakebnoighaa.PFnExactSettle
end

section
namespace Go.Proofs.Ytallakebnoighaa.PFnExactSettle
open Go.RowKit Go.Proofs.YtallakebnoighaaW.PrintWords Go.Proofs.Ytallakebnoighaa
set_option linter.unusedSimpArgs false
set_option linter.unusedVariables false
def bnd : Nat → Int
  | 0 => 0
  | n + 1 => 10 * bnd n + 9
def mtail : Nat → Int → ByteArray → ByteArray
  | 0, _, s => (⟨#[109]⟩ : ByteArray) ++ s
  | n + 1, x, s => if x > 0 then mtail n (wrap64 (Int.tdiv x 10)) (strOfNums [(wrap64 (48 + (Int.tmod x 10))) % 256] ++ s) else (⟨#[109]⟩ : ByteArray) ++ s
theorem mtail_l0 : ∀ (n k : Nat) (x : Int) (s : ByteArray), n < k → 0 ≤ x → x ≤ bnd n → x ≤ 1000000000000 → s.size + n ≤ 1000 → laws_markText.l0 k x s = some (mtail n x s)
  | _, 0, _, _, hk, _, _, _, _ => by omega
  | 0, k + 1, x, s, hk, h0, h1, h2, hs => by
    have hx : x = 0 := by unfold bnd at h1; omega
    rw [laws_markText.l0, if_neg (by omega), if_pos (by omega)]
    rfl
  | n + 1, k + 1, x, s, hk, h0, h1, h2, hs => by
    rw [laws_markText.l0, mtail]
    by_cases hx : x > 0
    · have e1 : Int.tdiv x 10 = x / 10 := Int.tdiv_eq_ediv_of_nonneg h0
      have e2 : wrap64 (x / 10) = x / 10 := by unfold wrap64; omega
      have hsz : ∀ a : Int, (strOfNums [a]).size = 1 := fun a => by simp [strOfNums, ByteArray.size]
      have h3 : x / 10 ≤ bnd n := by unfold bnd at h1; omega
      rw [if_pos hx, if_pos hx, Option.bind_some, if_pos (by rw [hsz]; omega), e1, e2]
      refine mtail_l0 n k _ _ (by omega) (by omega) h3 (by omega) ?_
      rw [ByteArray.size_append, hsz]
      omega
    · rw [if_neg hx, if_neg hx, if_pos (by omega)]
def mtx (m : Int) : ByteArray := if m ≤ 0 then (⟨#[109, 48]⟩ : ByteArray) else mtail 13 m ⟨#[]⟩
theorem mtx_f (k : Nat) (m : Int) (hk : 13 < k) (h0 : 0 ≤ m) (h1 : m ≤ 1000000000000) : laws_markText.f k m = some (mtx m) := by
  unfold laws_markText.f mtx
  split
  · rfl
  · exact mtail_l0 13 k m _ hk h0 (by simp only [bnd]; omega) h1 (by decide)
theorem rdE_set (xs : List S87) (i : Nat) (hi : i < xs.length) (y : S87) : rd_T87 (xs.set i y) (i : Int) = y := by simp [rd_T87, hi]
theorem rdP_set (xs : List S69) (i : Nat) (hi : i < xs.length) (y : S69) : rd_T69 (xs.set i y) (i : Int) = y := by simp [rd_T69, hi]
def mksE (m : Int) : Nat → List S87
  | 0 => []
  | n + 1 => ⟨m, m + 1, mtx (m + 2)⟩ :: mksE (m + 3) n
theorem mksE_length : ∀ (n : Nat) (m : Int), (mksE m n).length = n
  | 0, _ => rfl
  | n + 1, m => by simp [mksE, mksE_length n]
theorem mksE_snoc : ∀ (n : Nat) (m : Int), mksE m (n + 1) = mksE m n ++ [⟨m + 3 * n, m + 3 * n + 1, mtx (m + 3 * n + 2)⟩]
  | 0, m => by simp [mksE]
  | n + 1, m => by
    have h := mksE_snoc n (m + 3)
    rw [mksE, h, mksE, List.cons_append, show m + 3 + 3 * (n : Int) = m + 3 * ((n + 1 : Nat) : Int) from by omega]
theorem rd_mksE : ∀ (n i : Nat) (m : Int), i < n → rd_T87 (mksE m n) (i : Int) = ⟨m + 3 * i, m + 3 * i + 1, mtx (m + 3 * i + 2)⟩
  | 0, _, _, h => by omega
  | n + 1, 0, m, _ => by simp [mksE, rd_T87]
  | n + 1, i + 1, m, h => by
    have h1 := rd_mksE n i (m + 3) (by omega)
    have e : rd_T87 (mksE m (n + 1)) ((i + 1 : Nat) : Int) = rd_T87 (mksE (m + 3) n) (i : Int) := by simp [mksE, rd_T87]
    rw [e, h1, show m + 3 + 3 * (i : Int) = m + 3 * ((i + 1 : Nat) : Int) from by omega]
theorem mkE_l0 (xs : List S87) (m : Int) (h0 : 0 ≤ m) (h1 : m ≤ 100000000) (hl : xs.length ≤ 1048576) : ∀ (n k i : Nat), n + i = xs.length → n + 14 < k →
    laws_markEntryS.l0 k (mksE m i ++ xs.drop i) (m + 3 * i) i = some (m + 3 * xs.length, mksE m xs.length)
  | _, 0, _, _, hk => by omega
  | 0, k + 1, i, h, hk => by
    unfold laws_markEntryS.l0
    rw [if_neg (by simp [mksE_length]; omega), show i = xs.length from by omega, List.drop_length, List.append_nil]
  | n + 1, k + 1, i, h, hk => by
    have hi : i < xs.length := by omega
    have hlen : (mksE m i ++ xs.drop i).length = xs.length := by simp [mksE_length]; omega
    have e1 : wrap64 (m + 3 * (i : Int) + 1) = m + 3 * (i : Int) + 1 := by unfold wrap64; omega
    have e2 : wrap64 (m + 3 * (i : Int) + 1 + 1) = m + 3 * (i : Int) + 2 := by clear e1; unfold wrap64; omega
    have e3 : wrap64 (m + 3 * (i : Int) + 2 + 1) = m + 3 * ((i + 1 : Nat) : Int) := by clear e1 e2; unfold wrap64; omega
    have e4 : wrap64 ((i : Int) + 1) = ((i + 1 : Nat) : Int) := by clear e1 e2 e3; unfold wrap64; omega
    have ht := mtx_f k (m + 3 * (i : Int) + 2) (by omega) (by omega) (by omega)
    have hs : (mksE m i ++ xs.drop i).set i ⟨m + 3 * (i : Int), m + 3 * (i : Int) + 1, mtx (m + 3 * (i : Int) + 2)⟩ = mksE m (i + 1) ++ xs.drop (i + 1) := by
      rw [List.set_append_right _ _ (by rw [mksE_length]; omega), mksE_length, Nat.sub_self, List.drop_eq_getElem_cons hi, List.set_cons_zero, mksE_snoc, List.append_assoc]
      rfl
    obtain ⟨ys, hys⟩ : ∃ ys, mksE m i ++ xs.drop i = ys := ⟨_, rfl⟩
    rw [hys] at hs hlen ⊢
    clear hys
    unfold laws_markEntryS.l0
    rw [if_pos (by rw [hlen]; omega), if_pos (by omega)]
    simp only [Option.bind_some, Int.toNat_natCast, e1, e2, e3, e4, ht]
    rw [rdE_set _ _ (by omega), rdE_set _ _ (by simp; omega), List.set_set, List.set_set, hs]
    clear e1 e2 e3 e4 ht hs
    exact mkE_l0 xs m h0 h1 hl n k (i + 1) (by omega) (by omega)
theorem mkE_f (xs : List S87) (m : Int) (k : Nat) (h0 : 0 ≤ m) (h1 : m ≤ 100000000) (hl : xs.length ≤ 1048576) (hk : 2000000 ≤ k) : laws_markEntryS.f k xs m = some (m + 3 * xs.length, mksE m xs.length) := by
  have := mkE_l0 xs m h0 h1 hl xs.length k 0 (by omega) (by omega)
  simpa [laws_markEntryS.f, mksE] using this
theorem hdE_l0 (N : Nat) (m : Int) (h0 : 0 ≤ m) (h1 : m ≤ 100000000) (hl : N ≤ 1048576) : ∀ (n k i : Nat), n + i = N → n + 14 < k →
    laws_heldEntryS.l0 k (mksE m N) (m + 3 * i) i = some (m + 3 * N)
  | _, 0, _, _, hk => by omega
  | 0, k + 1, i, h, hk => by
    unfold laws_heldEntryS.l0
    rw [if_neg (by rw [mksE_length]; omega), show i = N from by omega]
  | n + 1, k + 1, i, h, hk => by
    have e1 : wrap64 (m + 3 * (i : Int) + 1) = m + 3 * (i : Int) + 1 := by unfold wrap64; omega
    have e2 : wrap64 (m + 3 * (i : Int) + 1 + 1) = m + 3 * (i : Int) + 2 := by clear e1; unfold wrap64; omega
    have e3 : wrap64 (m + 3 * (i : Int) + 2 + 1) = m + 3 * ((i + 1 : Nat) : Int) := by clear e1 e2; unfold wrap64; omega
    have e4 : wrap64 ((i : Int) + 1) = ((i + 1 : Nat) : Int) := by clear e1 e2 e3; unfold wrap64; omega
    have ht := mtx_f k (m + 3 * (i : Int) + 2) (by omega) (by omega) (by omega)
    unfold laws_heldEntryS.l0
    rw [if_pos (by rw [mksE_length]; omega), if_pos (by omega), rd_mksE N i m (by omega), if_pos rfl, e1, if_pos rfl, e2, ht, Option.bind_some, if_pos rfl, e3, e4]
    clear e1 e2 e3 e4 ht
    exact hdE_l0 N m h0 h1 hl n k (i + 1) (by omega) (by omega)
theorem hdE_f (N : Nat) (m : Int) (k : Nat) (h0 : 0 ≤ m) (h1 : m ≤ 100000000) (hl : N ≤ 1048576) (hk : 2000000 ≤ k) : laws_heldEntryS.f k (mksE m N) m = some (m + 3 * N) := by
  have := hdE_l0 N m h0 h1 hl N k 0 (by omega) (by omega)
  simpa [laws_heldEntryS.f] using this
def mksP (m : Int) : Nat → List S69
  | 0 => []
  | n + 1 => ⟨m, m + 1, m + 2, m + 3⟩ :: mksP (m + 4) n
theorem mksP_length : ∀ (n : Nat) (m : Int), (mksP m n).length = n
  | 0, _ => rfl
  | n + 1, m => by simp [mksP, mksP_length n]
theorem mksP_snoc : ∀ (n : Nat) (m : Int), mksP m (n + 1) = mksP m n ++ [⟨m + 4 * n, m + 4 * n + 1, m + 4 * n + 2, m + 4 * n + 3⟩]
  | 0, m => by simp [mksP]
  | n + 1, m => by
    have h := mksP_snoc n (m + 4)
    rw [mksP, h, mksP, List.cons_append, show m + 4 + 4 * (n : Int) = m + 4 * ((n + 1 : Nat) : Int) from by omega]
theorem rd_mksP : ∀ (n i : Nat) (m : Int), i < n → rd_T69 (mksP m n) (i : Int) = ⟨m + 4 * i, m + 4 * i + 1, m + 4 * i + 2, m + 4 * i + 3⟩
  | 0, _, _, h => by omega
  | n + 1, 0, m, _ => by simp [mksP, rd_T69]
  | n + 1, i + 1, m, h => by
    have h1 := rd_mksP n i (m + 4) (by omega)
    have e : rd_T69 (mksP m (n + 1)) ((i + 1 : Nat) : Int) = rd_T69 (mksP (m + 4) n) (i : Int) := by simp [mksP, rd_T69]
    rw [e, h1, show m + 4 + 4 * (i : Int) = m + 4 * ((i + 1 : Nat) : Int) from by omega]
theorem mkP_l0 (xs : List S69) (m : Int) (h0 : 0 ≤ m) (h1 : m ≤ 100000000) (hl : xs.length ≤ 1048576) : ∀ (n k i : Nat), n + i = xs.length → n < k →
    laws_markPeerS.l0 k (mksP m i ++ xs.drop i) (m + 4 * i) i = some (m + 4 * xs.length, mksP m xs.length)
  | _, 0, _, _, hk => by omega
  | 0, k + 1, i, h, hk => by
    unfold laws_markPeerS.l0
    rw [if_neg (by simp [mksP_length]; omega), show i = xs.length from by omega, List.drop_length, List.append_nil]
  | n + 1, k + 1, i, h, hk => by
    have hi : i < xs.length := by omega
    have hlen : (mksP m i ++ xs.drop i).length = xs.length := by simp [mksP_length]; omega
    have e1 : wrap64 (m + 4 * (i : Int) + 1) = m + 4 * (i : Int) + 1 := by unfold wrap64; omega
    have e2 : wrap64 (m + 4 * (i : Int) + 1 + 1) = m + 4 * (i : Int) + 2 := by clear e1; unfold wrap64; omega
    have e3 : wrap64 (m + 4 * (i : Int) + 2 + 1) = m + 4 * (i : Int) + 3 := by clear e1 e2; unfold wrap64; omega
    have e5 : wrap64 (m + 4 * (i : Int) + 3 + 1) = m + 4 * ((i + 1 : Nat) : Int) := by clear e1 e2 e3; unfold wrap64; omega
    have e4 : wrap64 ((i : Int) + 1) = ((i + 1 : Nat) : Int) := by clear e1 e2 e3 e5; unfold wrap64; omega
    have hs : (mksP m i ++ xs.drop i).set i ⟨m + 4 * (i : Int), m + 4 * (i : Int) + 1, m + 4 * (i : Int) + 2, m + 4 * (i : Int) + 3⟩ = mksP m (i + 1) ++ xs.drop (i + 1) := by
      rw [List.set_append_right _ _ (by rw [mksP_length]; omega), mksP_length, Nat.sub_self, List.drop_eq_getElem_cons hi, List.set_cons_zero, mksP_snoc, List.append_assoc]
      rfl
    obtain ⟨ys, hys⟩ : ∃ ys, mksP m i ++ xs.drop i = ys := ⟨_, rfl⟩
    rw [hys] at hs hlen ⊢
    clear hys
    unfold laws_markPeerS.l0
    rw [if_pos (by rw [hlen]; omega), if_pos (by omega)]
    simp only [Option.bind_some, Int.toNat_natCast, e1, e2, e3, e4, e5]
    rw [rdP_set _ _ (by omega), rdP_set _ _ (by simp; omega), rdP_set _ _ (by simp; omega), List.set_set, List.set_set, List.set_set, hs]
    clear e1 e2 e3 e4 e5 hs
    exact mkP_l0 xs m h0 h1 hl n k (i + 1) (by omega) (by omega)
theorem mkP_f (xs : List S69) (m : Int) (k : Nat) (h0 : 0 ≤ m) (h1 : m ≤ 100000000) (hl : xs.length ≤ 1048576) (hk : 2000000 ≤ k) : laws_markPeerS.f k xs m = some (m + 4 * xs.length, mksP m xs.length) := by
  have := mkP_l0 xs m h0 h1 hl xs.length k 0 (by omega) (by omega)
  simpa [laws_markPeerS.f, mksP] using this
theorem hdP_l0 (N : Nat) (m : Int) (h0 : 0 ≤ m) (h1 : m ≤ 100000000) (hl : N ≤ 1048576) : ∀ (n k i : Nat), n + i = N → n < k →
    laws_heldPeerS.l0 k (mksP m N) (m + 4 * i) i = some (m + 4 * N)
  | _, 0, _, _, hk => by omega
  | 0, k + 1, i, h, hk => by
    unfold laws_heldPeerS.l0
    rw [if_neg (by rw [mksP_length]; omega), show i = N from by omega]
  | n + 1, k + 1, i, h, hk => by
    have e1 : wrap64 (m + 4 * (i : Int) + 1) = m + 4 * (i : Int) + 1 := by unfold wrap64; omega
    have e2 : wrap64 (m + 4 * (i : Int) + 1 + 1) = m + 4 * (i : Int) + 2 := by clear e1; unfold wrap64; omega
    have e3 : wrap64 (m + 4 * (i : Int) + 2 + 1) = m + 4 * (i : Int) + 3 := by clear e1 e2; unfold wrap64; omega
    have e5 : wrap64 (m + 4 * (i : Int) + 3 + 1) = m + 4 * ((i + 1 : Nat) : Int) := by clear e1 e2 e3; unfold wrap64; omega
    have e4 : wrap64 ((i : Int) + 1) = ((i + 1 : Nat) : Int) := by clear e1 e2 e3 e5; unfold wrap64; omega
    unfold laws_heldPeerS.l0
    rw [if_pos (by rw [mksP_length]; omega), if_pos (by omega), rd_mksP N i m (by omega), if_pos rfl, e1, if_pos rfl, e2, if_pos rfl, e3, if_pos rfl, e5, e4]
    clear e1 e2 e3 e4 e5
    exact hdP_l0 N m h0 h1 hl n k (i + 1) (by omega) (by omega)
theorem hdP_f (N : Nat) (m : Int) (k : Nat) (h0 : 0 ≤ m) (h1 : m ≤ 100000000) (hl : N ≤ 1048576) (hk : 2000000 ≤ k) : laws_heldPeerS.f k (mksP m N) m = some (m + 4 * N) := by
  have := hdP_l0 N m h0 h1 hl N k 0 (by omega) (by omega)
  simpa [laws_heldPeerS.f] using this
structure NodeW (n : NF) (base : Nat) (ok : Nat → Prop) (v5 v8 v12 v13 : Value) (W : World) : Prop where
  r5 : Kd.R (Kd.int .i64) 3 W base (fun k => ok k ∧ some k ≠ v12.ownBlock) v5 n.cf
  r8 : Kd.R k87 87 W base ok v8 n.es
  r12 : Kd.R (Kd.int .i64) 3 W base (fun k => ok k ∧ some k = v12.ownBlock) v12 n.vs
  r13 : Kd.R k69 69 W base ok v13 n.ps
theorem R_only {e base : Nat} {W : World} {ok : Nat → Prop} {v : Value} {xs : List Int} (h : Kd.R (Kd.int .i64) e W base ok v xs) : Kd.R (Kd.int .i64) e W base (fun k => ok k ∧ some k = v.ownBlock) v xs := by
  obtain ⟨h0, inner, ho, hr⟩ := h
  exact ⟨fun k hk => ⟨h0 k hk, hk.symm⟩, inner, ho, hr.imp_ (fun _ _ hp => hp)⟩
section
variable {n : NF} {base : Nat} {ok : Nat → Prop} {v5 v8 v12 v13 : Value} {W W1 : World}
theorem NodeW.step (h : NodeW n base ok v5 v8 v12 v13 W) (hm : ∀ k, ok k → k < W.heap.size → W1.heap[k]? = W.heap[k]?) : NodeW n base ok v5 v8 v12 v13 W1 :=
  ⟨Kd.R_step h.r5 (fun k hk hl => hm k hk.1 hl), Kd.R_step h.r8 (fun k hk hl => hm k hk hl), Kd.R_step h.r12 (fun k hk hl => hm k hk.1 hl), Kd.R_step h.r13 (fun k hk hl => hm k hk hl)⟩
theorem NodeW.below (h : NodeW n base ok v5 v8 v12 v13 W) (hb : Below W.heap.size W W1) : NodeW n base ok v5 v8 v12 v13 W1 := h.step (fun k _ hl => hb.block k hl)
theorem NodeW.kept {P : Nat → Prop} (h : NodeW n base ok v5 v8 v12 v13 W) (hk : Kept W W1 P) (hp : ∀ k, ok k → ¬ P k) : NodeW n base ok v5 v8 v12 v13 W1 := h.step (fun k h1 hl => hk.2 k hl (hp k h1))
theorem NodeW.mono {ok' : Nat → Prop} (h : NodeW n base ok v5 v8 v12 v13 W) (hm : ∀ k, ok k → ok' k) : NodeW n base ok' v5 v8 v12 v13 W :=
  ⟨Kd.R_mono h.r5 (fun k hk => ⟨hm k hk.1, hk.2⟩), Kd.R_mono h.r8 hm, Kd.R_mono h.r12 (fun k hk => ⟨hm k hk.1, hk.2⟩), Kd.R_mono h.r13 hm⟩
theorem NodeW.bound (h : NodeW n base ok v5 v8 v12 v13 W) : NodeW n base (fun k => ok k ∧ base ≤ k ∧ k < W.heap.size) v5 v8 v12 v13 W :=
  ⟨Kd.R_mono (Kd.R_bound h.r5) (fun k hk => ⟨⟨hk.1.1, hk.2.1, hk.2.2.1⟩, hk.1.2⟩), Kd.R_mono (Kd.R_bound h.r8) (fun k hk => ⟨hk.1, hk.2.1, hk.2.2.1⟩), Kd.R_mono (Kd.R_bound h.r12) (fun k hk => ⟨⟨hk.1.1, hk.2.1, hk.2.2.1⟩, hk.1.2⟩), Kd.R_mono (Kd.R_bound h.r13) (fun k hk => ⟨hk.1, hk.2.1, hk.2.2.1⟩)⟩
theorem NodeW.lower {base' : Nat} (h : NodeW n base ok v5 v8 v12 v13 W) (hb : base' ≤ base) : NodeW n base' ok v5 v8 v12 v13 W :=
  ⟨Kd.R_lower h.r5 hb, Kd.R_lower h.r8 hb, Kd.R_lower h.r12 hb, Kd.R_lower h.r13 hb⟩
theorem NodeW.reads (h : NodeW n base ok v5 v8 v12 v13 W) : ∃ A5 c5 A8 c8 A12 c12 A13 c13, v5 = .slice A5 n.cf.length c5 ∧ v8 = .slice A8 n.es.length c8 ∧ v12 = .slice A12 n.vs.length c12 ∧ v13 = .slice A13 n.ps.length c13 ∧ NodeC n A5 c5 A8 c8 A12 c12 A13 c13 W := by
  obtain ⟨B5, b5, rfl, g5, D5⟩ := Kd.R_reads h.r5
  obtain ⟨B8, b8, rfl, g8, D8⟩ := Kd.R_reads h.r8
  obtain ⟨B12, b12, rfl, g12, D12⟩ := Kd.R_reads h.r12
  obtain ⟨B13, b13, rfl, g13, D13⟩ := Kd.R_reads h.r13
  exact ⟨B5, b5, B8, b8, B12, b12, B13, b13, rfl, rfl, rfl, rfl, ⟨D5, g5, R_none h.r5, D8, g8, R_none h.r8, D12, g12, R_none h.r12, D13, g13, R_none h.r13⟩⟩
end
theorem NodeW.nodeC {n : NF} {base : Nat} {ok : Nat → Prop} {A5 : Option Addr} {c5 : Nat} {A8 : Option Addr} {c8 : Nat} {A12 : Option Addr} {c12 : Nat} {A13 : Option Addr} {c13 n5 n8 n12 n13 : Nat} {W : World} (h : NodeW n base ok (.slice A5 n5 c5) (.slice A8 n8 c8) (.slice A12 n12 c12) (.slice A13 n13 c13) W) : NodeC n A5 c5 A8 c8 A12 c12 A13 c13 W := by
  obtain ⟨B5, b5, B8, b8, B12, b12, B13, b13, e5, e8, e12, e13, hC⟩ := h.reads
  injection e5 with a1 a2 a3
  injection e8 with b1 b2 b3
  injection e12 with c1 c2 c3
  injection e13 with d1 d2 d3
  subst a1 a3 b1 b3 c1 c3 d1 d3
  exact hC
theorem blk_kept {T g : Nat} {cs : Array Value} {W W1 : World} {P : Nat → Prop} (h : Blk T g cs W) (hk : Kept W W1 P) (hp : ¬ P g) : Blk T g cs W1 := (hk.2 g h.lt hp).trans h
theorem toNW_C (a0 a1 a2 a3 a4 : Int) (A5 : Option Addr) (c5 : Nat) (cf : List Int) (a6 a7 : Int) (A8 : Option Addr) (c8 : Nat) (es : List S122) (a9 a10 a11 : Int) (A12 : Option Addr) (c12 : Nat) (vs : List Int) (A13 : Option Addr) (c13 : Nat) (ps : List S98) (m : NF) (hm : Hid (m = ⟨a0, a1, a2, a3, a4, cf, a6, a7, es.map conv, a9, a10, a11, vs, ps.map convP⟩)) (w : World) (h5 : cf.length ≤ c5) (C5 : Kd.C (Kd.int .i64) w A5 cf.length cf) (h8 : es.length ≤ c8) (C8 : Kd.C k122 w A8 es.length es) (h12 : vs.length ≤ c12) (C12 : Kd.C (Kd.int .i64) w A12 vs.length vs) (h13 : ps.length ≤ c13) (C13 : Kd.C k98 w A13 ps.length ps)
    (l5 : cf.length ≤ 1048576) (l8 : es.length ≤ 1048576) (l12 : vs.length ≤ 1048576) (l13 : ps.length ≤ 1048576) :
    Calls Try.prog 8 #[.agg #[.int .i64 a0, .int .i64 a1, .int .i64 a2, .int .i64 a3, .int .i64 a4, .slice A5 cf.length c5, .int .i64 a6, .int .i64 a7, .slice A8 es.length c8, .int .i64 a9, .int .i64 a10, .int .i64 a11, .slice A12 vs.length c12, .slice A13 ps.length c13]] w fun e w' => ∃ v5 v8 v12 v13, e = .returned (.agg #[.int .i64 m.id, .int .i64 m.term, .int .i64 m.vote, .int .i64 m.role, .int .i64 m.lead, v5, .int .i64 m.st, .int .i64 m.tm, v8, .int .i64 m.cm, .int .i64 m.ck, .int .i64 m.lm, v12, v13]) ∧ NodeW m w.heap.size (fun _ => True) v5 v8 v12 v13 w' ∧ Below w.heap.size w w' := by
  obtain rfl := hm.out
  refine (laws_toNode.calls 3145735 a0 a1 a2 a3 a4 A5 c5 cf a6 a7 A8 c8 es a9 a10 a11 A12 c12 vs A13 c13 ps _ _ _ _ _ _ _ _ _ _ _ _ _ _ w C5 h5 C8 h8 C12 h12 C13 h13 (toN_f a0 a1 a2 a3 a4 A5 c5 cf a6 a7 A8 c8 es a9 a10 a11 A12 c12 vs A13 c13 ps l5 l8 l12 l13)).mono ?_
  rintro e w' ⟨v5, v8, v12, v13, rfl, R5, R8, R12, R13, hb⟩
  exact ⟨v5, v8, v12, v13, rfl, ⟨Kd.R_mono R5 (fun k hk => ⟨trivial, hk⟩), R8, Kd.R_mono (R_only R12) (fun k hk => ⟨trivial, hk.2⟩), R13⟩, hb⟩
def NF.marked (n : NF) : NF := { n with cf := marksI 1 n.cf.length, es := mksE (1 + n.cf.length) n.es.length, vs := marksI (1 + n.cf.length + 3 * n.es.length) n.vs.length, ps := mksP (1 + n.cf.length + 3 * n.es.length + n.vs.length) n.ps.length }
def NF.marks (n : NF) : Int := 1 + n.cf.length + 3 * n.es.length + n.vs.length + 4 * n.ps.length
theorem markN_f (n : NF) (hz : NodeZ n) : laws_markNode.f 2100000 n.id n.term n.vote n.role n.lead n.cf n.st n.tm n.es n.cm n.ck n.lm n.vs n.ps 1 = some (n.marks, n.marked.cf, n.marked.es, n.marked.vs, n.marked.ps) := by
  have h1 := hz.cf
  have h2 := hz.es
  have h3 := hz.vs
  have h4 := hz.ps
  unfold laws_markNode.f laws_markLog.f
  rw [markI_f n.cf 1 2100000 (by omega) (by omega) (by omega) (by omega)]
  simp only [Option.bind_some]
  rw [mkE_f n.es _ 2100000 (by omega) (by omega) h2 (by omega)]
  simp only [Option.bind_some]
  rw [markI_f n.vs _ 2100000 (by omega) (by omega) (by omega) (by omega)]
  simp only [Option.bind_some]
  rw [mkP_f n.ps _ 2100000 (by omega) (by omega) h4 (by omega)]
  rfl
theorem markN_C (n : NF) (hz : NodeZ n) (ok : Nat → Prop) (v5 v8 v12 v13 : Value) (w0 w : World) (hB : Below w0.heap.size w0 w) (hW : NodeW n w0.heap.size ok v5 v8 v12 v13 w) :
    Calls Try.prog 13 #[.agg #[.int .i64 n.id, .int .i64 n.term, .int .i64 n.vote, .int .i64 n.role, .int .i64 n.lead, v5, .int .i64 n.st, .int .i64 n.tm, v8, .int .i64 n.cm, .int .i64 n.ck, .int .i64 n.lm, v12, v13], .int .i64 1] w
      fun e w' => e = .returned (.int .i64 n.marks) ∧ NodeW n.marked w0.heap.size (fun _ => True) v5 v8 v12 v13 w' ∧ Below w0.heap.size w0 w' ∧ Kept w w' ok := by
  refine (laws_markNode.calls 2100000 n.id n.term n.vote n.role n.lead _ v5 n.cf n.st n.tm _ v8 n.es n.cm n.ck n.lm _ v12 n.vs _ v13 n.ps 1 n.marks n.marked.cf n.marked.es n.marked.vs n.marked.ps w0 w hB hW.r5 (fun k h1 h2 => h1.2 h2.2) hW.r8 hW.r12 (fun k h1 h2 => h2.2 h1.2) hW.r13 (markN_f n hz)).mono ?_
  rintro e w' ⟨rfl, g5, g8, g12, g13, hb, hk⟩
  refine ⟨rfl, ⟨?_, Kd.R_mono g8 (fun _ _ => trivial), Kd.R_mono (R_only g12) (fun _ h => ⟨trivial, h.2⟩), Kd.R_mono g13 (fun _ _ => trivial)⟩, hb, ?_⟩
  · refine Kd.R_mono (R_only g5) (fun k h => ⟨trivial, fun e2 => ?_⟩)
    exact (hW.r5.1 k h.2.symm).2 e2
  · refine ⟨hk.1, fun k h1 h2 => hk.2 k h1 ?_⟩
    rintro (h | h | h | h)
    · exact h2 h.1
    · exact h2 h
    · exact h2 h.1
    · exact h2 h
set_option maxHeartbeats 2000000 in
set_option maxRecDepth 100000 in
theorem heldN_C (n : NF) (hz : NodeZ n) (A5 : Option Addr) (c5 : Nat) (A8 : Option Addr) (c8 : Nat) (A12 : Option Addr) (c12 : Nat) (A13 : Option Addr) (c13 : Nat) (w : World) (h : NodeC n.marked A5 c5 A8 c8 A12 c12 A13 c13 w) :
    Calls Try.prog 14 #[.agg #[.int .i64 n.id, .int .i64 n.term, .int .i64 n.vote, .int .i64 n.role, .int .i64 n.lead, .slice A5 n.cf.length c5, .int .i64 n.st, .int .i64 n.tm, .slice A8 n.es.length c8, .int .i64 n.cm, .int .i64 n.ck, .int .i64 n.lm, .slice A12 n.vs.length c12, .slice A13 n.ps.length c13], .int .i64 1] w
      fun e w' => e = .returned (.int .i64 n.marks) ∧ Below w.heap.size w w' := by
  have z5 := hz.cf
  have z8 := hz.es
  have z12 := hz.vs
  have z13 := hz.ps
  obtain ⟨m1, h1⟩ : ∃ m : Int, 1 + (n.cf.length : Int) = m := ⟨_, rfl⟩
  obtain ⟨m2, h2⟩ : ∃ m : Int, m1 + 3 * (n.es.length : Int) = m := ⟨_, rfl⟩
  obtain ⟨m3, h3⟩ : ∃ m : Int, m2 + (n.vs.length : Int) = m := ⟨_, rfl⟩
  obtain ⟨m4, h4⟩ : ∃ m : Int, m3 + 4 * (n.ps.length : Int) = m := ⟨_, rfl⟩
  have p1 : ¬ m1 < 0 := by omega
  have p2 : ¬ m2 < 0 := by omega
  have p3 : ¬ m3 < 0 := by omega
  have p4 : ¬ m4 < 0 := by omega
  have hm : n.marks = m4 := by unfold NF.marks; omega
  have q5 : n.marked.cf = marksI 1 n.cf.length := rfl
  have q8 : n.marked.es = mksE m1 n.es.length := by rw [← h1]; rfl
  have q12 : n.marked.vs = marksI m2 n.vs.length := by rw [← h2, ← h1]; rfl
  have q13 : n.marked.ps = mksP m3 n.ps.length := by rw [← h3, ← h2, ← h1]; rfl
  have HC := Lib.hid h
  rw [hm]
  have c1 : Hid (∀ w', Below w.heap.size w w' → Calls Try.prog 56 #[.slice A5 n.cf.length c5, .int .i64 1] w' fun e w2 => e = .returned (.int .i64 m1) ∧ Below w'.heap.size w' w2) := Lib.hid fun w' hb => by
    have g := h.below hb
    have := laws_heldIntS.calls 2100000 A5 c5 n.marked.cf 1 m1 w' g.h5 g.hc5 (by rw [q5, heldI_f n.cf.length 1 2100000 (by omega) (by omega) (by omega) (by omega), h1])
    rw [q5, marksI_length] at this
    exact this.mono (by rintro e w2 h; first | exact h | (obtain ⟨rfl, k, rfl⟩ := h; exact ⟨rfl, bl_drewN (Below.refl _ _) k⟩))
  have c2 : Hid (∀ w', Below w.heap.size w w' → Calls Try.prog 57 #[.agg #[.int .i64 n.st, .int .i64 n.tm, .slice A8 n.es.length c8], .int .i64 m1] w' fun e w2 => e = .returned (.int .i64 m2) ∧ Below w'.heap.size w' w2) := Lib.hid fun w' hb => by
    have g := h.below hb
    have := laws_heldLog.calls 2100000 n.st n.tm A8 c8 n.marked.es m1 m2 w' g.h8 g.hc8 (by unfold laws_heldLog.f; rw [q8, hdE_f n.es.length m1 2100000 (by omega) (by omega) z8 (by omega), Option.bind_some, h2, if_neg p2])
    rw [q8, mksE_length] at this
    exact this.mono (by rintro e w2 h; first | exact h | (obtain ⟨rfl, k, rfl⟩ := h; exact ⟨rfl, bl_drewN (Below.refl _ _) k⟩))
  have c3 : Hid (∀ w', Below w.heap.size w w' → Calls Try.prog 56 #[.slice A12 n.vs.length c12, .int .i64 m2] w' fun e w2 => e = .returned (.int .i64 m3) ∧ Below w'.heap.size w' w2) := Lib.hid fun w' hb => by
    have g := h.below hb
    have := laws_heldIntS.calls 2100000 A12 c12 n.marked.vs m2 m3 w' g.h12 g.hc12 (by rw [q12, heldI_f n.vs.length m2 2100000 (by omega) (by omega) (by omega) (by omega), h3])
    rw [q12, marksI_length] at this
    exact this.mono (by rintro e w2 h; first | exact h | (obtain ⟨rfl, k, rfl⟩ := h; exact ⟨rfl, bl_drewN (Below.refl _ _) k⟩))
  have c4 : Hid (∀ w', Below w.heap.size w w' → Calls Try.prog 58 #[.slice A13 n.ps.length c13, .int .i64 m3] w' fun e w2 => e = .returned (.int .i64 m4) ∧ Below w'.heap.size w' w2) := Lib.hid fun w' hb => by
    have g := h.below hb
    have := laws_heldPeerS.calls 2100000 A13 c13 n.marked.ps m3 m4 w' g.h13 g.hc13 (by rw [q13, hdP_f n.ps.length m3 2100000 (by omega) (by omega) z13 (by omega), h4])
    rw [q13, mksP_length] at this
    exact this.mono (by rintro e w2 h; first | exact h | (obtain ⟨rfl, k, rfl⟩ := h; exact ⟨rfl, bl_drewN (Below.refl _ _) k⟩))
  clear h h1 h2 h3 h4 hm q5 q8 q12 q13 HC
  go_enter Try.func14, Try.ntmps14
  go_wp2_with fail
  refine calls_atC (fun X => Blk 36 w.heap.size #[.int .i64 n.id, .int .i64 n.term, .int .i64 n.vote, .int .i64 n.role, .int .i64 n.lead, .slice A5 n.cf.length c5, .int .i64 n.st, .int .i64 n.tm, .slice A8 n.es.length c8, .int .i64 n.cm, .int .i64 n.ck, .int .i64 n.lm, .slice A12 n.vs.length c12, .slice A13 n.ps.length c13] X ∧ Below w.heap.size w X) ⟨Blk.new _ _ w, (by repeat (first | exact Below.refl _ _ | apply bl_alloc | apply bl_drewN | apply bl_drew | refine bl_set ?_ (by simp) | refine bl_then ?_ (by assumption)))⟩ ?_
  rintro X0 ⟨k1, B⟩
  refine (c1.out _ B).mono ?_
  rintro e X1 ⟨rfl, hb⟩
  replace k1 := k1.below hb
  replace B := bl_then B hb
  clear hb X0
  have y0 := k1.cell 0 rfl
  have y1 := k1.cell 1 rfl
  have y2 := k1.cell 2 rfl
  have y3 := k1.cell 3 rfl
  have y4 := k1.cell 4 rfl
  have y5 := k1.cell 5 rfl
  have y6 := k1.cell 6 rfl
  have y7 := k1.cell 7 rfl
  have y8 := k1.cell 8 rfl
  have y9 := k1.cell 9 rfl
  have y10 := k1.cell 10 rfl
  have y11 := k1.cell 11 rfl
  have y12 := k1.cell 12 rfl
  have y13 := k1.cell 13 rfl
  have ly := k1.lt
  go_wp2_with fail
  refine (c2.out _ B).mono ?_
  rintro e X2 ⟨rfl, hb⟩
  replace k1 := k1.below hb
  replace B := bl_then B hb
  clear y0 y1 y2 y3 y4 y5 y6 y7 y8 y9 y10 y11 y12 y13 ly hb X1
  have y0 := k1.cell 0 rfl
  have y1 := k1.cell 1 rfl
  have y2 := k1.cell 2 rfl
  have y3 := k1.cell 3 rfl
  have y4 := k1.cell 4 rfl
  have y5 := k1.cell 5 rfl
  have y6 := k1.cell 6 rfl
  have y7 := k1.cell 7 rfl
  have y8 := k1.cell 8 rfl
  have y9 := k1.cell 9 rfl
  have y10 := k1.cell 10 rfl
  have y11 := k1.cell 11 rfl
  have y12 := k1.cell 12 rfl
  have y13 := k1.cell 13 rfl
  have ly := k1.lt
  go_wp2_with fail
  refine (c3.out _ B).mono ?_
  rintro e X3 ⟨rfl, hb⟩
  replace k1 := k1.below hb
  replace B := bl_then B hb
  clear y0 y1 y2 y3 y4 y5 y6 y7 y8 y9 y10 y11 y12 y13 ly hb X2
  have y0 := k1.cell 0 rfl
  have y1 := k1.cell 1 rfl
  have y2 := k1.cell 2 rfl
  have y3 := k1.cell 3 rfl
  have y4 := k1.cell 4 rfl
  have y5 := k1.cell 5 rfl
  have y6 := k1.cell 6 rfl
  have y7 := k1.cell 7 rfl
  have y8 := k1.cell 8 rfl
  have y9 := k1.cell 9 rfl
  have y10 := k1.cell 10 rfl
  have y11 := k1.cell 11 rfl
  have y12 := k1.cell 12 rfl
  have y13 := k1.cell 13 rfl
  have ly := k1.lt
  go_wp2_with fail
  refine (c4.out _ B).mono ?_
  rintro e X4 ⟨rfl, hb⟩
  replace k1 := k1.below hb
  replace B := bl_then B hb
  clear y0 y1 y2 y3 y4 y5 y6 y7 y8 y9 y10 y11 y12 y13 ly hb X3
  have y0 := k1.cell 0 rfl
  have y1 := k1.cell 1 rfl
  have y2 := k1.cell 2 rfl
  have y3 := k1.cell 3 rfl
  have y4 := k1.cell 4 rfl
  have y5 := k1.cell 5 rfl
  have y6 := k1.cell 6 rfl
  have y7 := k1.cell 7 rfl
  have y8 := k1.cell 8 rfl
  have y9 := k1.cell 9 rfl
  have y10 := k1.cell 10 rfl
  have y11 := k1.cell 11 rfl
  have y12 := k1.cell 12 rfl
  have y13 := k1.cell 13 rfl
  have ly := k1.lt
  go_wp2_with fail
  go_ret
  exact ⟨rfl, B⟩
end Go.Proofs.Ytallakebnoighaa.PFnExactSettle
end
