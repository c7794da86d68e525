import Derived.Test.YtmljihfaapoakaaSMessagesA
import Derived.Test.YtmljihfaapoakaaSMessagesC
import Derived.Test.YtmljihfaapoakaaSMessagesD
import Derived.Test.YtmljihfaapoakaaSMessagesE

section
namespace Go.Proofs.Ytmljihfaapoakaa.PFnMessages
open Go.RowKit Go.Proofs.YtmljihfaapoakaaW.PrintWords Go.Proofs.YtmljihfaapoakaaW.PrintLast Go.Proofs.YtmljihfaapoakaaW.PrintMore
set_option linter.unusedVariables false
set_option linter.unusedSimpArgs false
def spec_l05Conf.l0 : Nat → List Int → Int → List Int → Int → Int → Option (List Int × Int × Int)
  | 0, _, _, _, _, _ => none
  | k + 1, x3, x4, x1000, x1001, x1002 => if x4 ≤ 4 then ((spec_l01Once.f x1000 x1001 x1002 2).bind fun bt150 => (if bt150.1 = true then (if x3.length < 17592186044416 then (spec_l05Conf.l0 k (x3 ++ [x4]) (wrap64 (x4 + 1)) x1000 bt150.2.1 bt150.2.2) else (none)) else (spec_l05Conf.l0 k x3 (wrap64 (x4 + 1)) x1000 bt150.2.1 bt150.2.2))) else (if (x3.length : Int) = 0 then (if x3.length < 17592186044416 then (some ((x3 ++ [1]), x1001, x1002)) else (none)) else (some (x3, x1001, x1002)))
def spec_l05Conf.f (k : Nat) (s0_0 : List Int) (s0_1 : Int) (s0_2 : Int) : Option (List Int × Int × Int) := spec_l05Conf.l0 k (([] : List Int)) 1 s0_0 s0_1 s0_2
theorem spec_l05Conf.mono_l : ∀ k, (∀ y0 y1 y2 y3 y4, LeO (spec_l05Conf.l0 k y0 y1 y2 y3 y4) (spec_l05Conf.l0 (k + 1) y0 y1 y2 y3 y4))
  | 0 => fun _ _ _ _ _ r h => by simp [spec_l05Conf.l0] at h
  | k + 1 => by
    have ih0 := spec_l05Conf.mono_l k
    · intro y0 y1 y2 y3 y4
      unfold spec_l05Conf.l0
      repeat' first
      | (with_reducible exact ih0 _ _ _ _ _)
      | (with_reducible exact LeO.refl _)
      | (with_reducible exact LeO.none _)
      | (with_reducible refine LeO.ite ?_ ?_)
      | (with_reducible refine LeO.bind ?_ (fun _ => ?_))
      | exact ih0 _ _ _ _ _
      | exact LeO.none _
      | refine LeO.ite ?_ ?_
      | refine LeO.bind ?_ (fun _ => ?_)
theorem spec_l05Conf.mono : ∀ a0 a1 a2 k, LeO (spec_l05Conf.f k a0 a1 a2) (spec_l05Conf.f (k + 1) a0 a1 a2) := by
  intro a0 a1 a2 k
  have ih0 := spec_l05Conf.mono_l k
  unfold spec_l05Conf.f
  repeat' first
      | (with_reducible exact ih0 _ _ _ _ _)
      | (with_reducible exact LeO.refl _)
      | (with_reducible exact LeO.none _)
      | (with_reducible refine LeO.ite ?_ ?_)
      | (with_reducible refine LeO.bind ?_ (fun _ => ?_))
      | exact ih0 _ _ _ _ _
      | exact LeO.none _
      | refine LeO.ite ?_ ?_
      | refine LeO.bind ?_ (fun _ => ?_)
set_option maxHeartbeats 8000000 in
set_option maxRecDepth 100000 in
theorem spec_l05Conf.calls (k : Nat) (g : Nat) (s0_0 : List Int) (s0_1 : Int) (s0_2 : Int) (r1 : List Int) (r2 : Int) (r3 : Int) (w0 w : World) (hI : IsS75 w0 w g s0_0 s0_1 s0_2) (hB : Below w0.heap.size w0 w) (h : spec_l05Conf.f k s0_0 s0_1 s0_2 = some (r1, r2, r3)) :
    Calls Try.prog 63 #[.pointer (some ⟨g, 0, none⟩)] w fun e w' => ∃ v0_ : Value, e = .returned (v0_) ∧ Kd.R (Kd.int .i64) 3 w' w.heap.size (fun _ => True) v0_ r1 ∧ IsS75 w0 w' g s0_0 r2 r3 ∧ Below w0.heap.size w0 w' ∧ KeepBut w w' g none := by
  have HI0 := Aside0.mk hI
  have HK := Aside0.mk (KeepBut.refl w g none)
  have HL := Aside0.mk hB.size
  clear hI
  have HW0 := Aside0.mk hB.size
  have HB := Aside0.mk hB
  clear hB
  have H : (spec_l05Conf.l0 k (([] : List Int)) 1 s0_0 s0_1 s0_2) = some (r1, r2, r3) := h
  clear h
  obtain ⟨y147, hy147⟩ : ∃ y_ : List Int, y_ = (([] : List Int)) := ⟨_, rfl⟩
  replace H : (spec_l05Conf.l0 k y147 1 s0_0 s0_1 s0_2) = some (r1, r2, r3) := by first | (rw [hy147]; with_reducible exact H) | (have H2_ := (Option.bind_some _ _).symm.trans H; rw [hy147]; with_reducible exact H2_) | (have H2_ := (Option.bind_some _ _).symm.trans H; with_reducible exact H2_) | with_reducible exact H | (rw [hy147]; exact H) | exact H
  have Ny147 := Aside0.mk hy147
  clear hy147
  have H' := Aside0.mk H
  clear H
  go_enter Try.func63, Try.ntmps63
  go_wp2_with (first | ((with_reducible refine gate_dst (N := 5) rfl ?_); refine Kd.R_lit (Kd.int .i64) _ 3 ?hg (N := 5) ?hd (xs := ([] : List Int)) (inner := []) (ok := fun _ => True) (okp := fun _ => True) ?hr ?hp (fun _ hk => hk) trivial (Below.refl _ _) (Nat.le_refl _) (by simp) ?_; (case hd => rfl); (case hg => rfl); (case hr => first | (go_simp; done) | (go_simp; rfl)); (case hp => exact (Reps.none _ _)); intro v148 w2 ho3 hb hg_ hnew_; clear hg_ hnew_; (first | rw [← Ny147.out] at ho3 | (simp only [Int.reduceToNat] at ho3; rw [← Ny147.out] at ho3)); have n0_ := Aside0.mk (Kd.R_lower ho3 (keep_size (w := w) (g := g) (row := none) (by repeat (first | (with_reducible first | exact HK.out | apply KeepBut.set_ | apply keep_drewN | apply keep_drew | apply keep_alloc) | exact HK.out)))); have n1_ := Aside0.mk (IsS75.below (by repeat (first | (with_reducible first | exact HI0.out | apply IsS75.alloc | apply IsS75.drewN | apply IsS75.drew | apply IsS75.set_1 | apply IsS75.set_2) | exact HI0.out)) hb); have n2_ := Aside0.mk (KeepBut.trans (by repeat (first | (with_reducible first | exact HK.out | apply KeepBut.set_ | apply keep_drewN | apply keep_drew | apply keep_alloc) | exact HK.out)) (KeepBut.of_below hb g none) (.inl rfl)); have n3_ := Aside0.mk (below_step (by repeat (first | (with_reducible first | exact HB.out | apply below_alloc | apply pw_below_drewN | apply below_drew1 | refine below_set ?_ (IsS75.ge HI0.out)) | exact HB.out)) hb); clear HI0; clear HK; clear HB; have HO149 := n0_; have HI0 := n1_; have HK := n2_; have HB := n3_; clear n0_ n1_ n2_ n3_; clear hb ho3))
  go_loopg [3, 4] k (fun kq v3 v4 w' => ∃ (x3_1 : List Int) (x4_1 : Int) (x1001_1 : Int) (x1002_1 : Int), v4 = .int .i64 x4_1 ∧ Aside0 (spec_l05Conf.l0 kq x3_1 x4_1 s0_0 x1001_1 x1002_1 = some (r1, r2, r3)) ∧ Aside0 (kq ≤ k) ∧ Aside0 (Kd.R (Kd.int .i64) 3 w' w.heap.size (fun _ => True) v3 x3_1) ∧ Aside0 (IsS75 w0 w' g s0_0 x1001_1 x1002_1) ∧ Aside0 (KeepBut w w' g none) ∧ Aside0 (Below w0.heap.size w0 w'))
  case atStart => exact ⟨(y147), (1), (s0_1), (s0_2), (by first | rfl | (simp; done) | (simp [*]; done)), H', ⟨Nat.le_refl _⟩, ⟨by (with_reducible repeat (first | apply Kd.R_alloc | apply Kd.R_drewN | apply Kd.R_drew)); exact HO149.out⟩, ⟨by repeat (first | (with_reducible first | exact HI0.out | apply IsS75.alloc | apply IsS75.drewN | apply IsS75.drew | apply IsS75.set_1 | apply IsS75.set_2) | exact HI0.out)⟩, ⟨by repeat (first | (with_reducible first | exact HK.out | apply KeepBut.set_ | apply keep_drewN | apply keep_drew | apply keep_alloc) | exact HK.out)⟩, ⟨by repeat (first | (with_reducible first | exact HB.out | apply below_alloc | apply pw_below_drewN | apply below_drew1 | refine below_set ?_ (IsS75.ge HI0.out)) | exact HB.out)⟩⟩
  case round =>
    clear H'
    try clear p2
    obtain ⟨x3_1, x4_1, x1001_1, x1002_1, rfl, HA, HK1, HO_3, HI0, HK, HB⟩ := hrel
    cases gk with
    | zero => exact absurd HA.out (by simp [spec_l05Conf.l0])
    | succ k1 =>
      have H := HA.out
      clear HA
      simp only [spec_l05Conf.l0] at H
      by_cases c4 : x4_1 ≤ 4
      · rw [if_pos c4] at H
        have c4b0 : decide (x4_1 ≤ 4) = true := decide_eq_true c4
        clear c4
        replace H := Option.bind_eq_some_iff.mp H
        obtain ⟨⟨t150, t151, t152⟩, A50, H⟩ := H
        replace H : (if t150 = true then (if x3_1.length < 17592186044416 then (spec_l05Conf.l0 k1 (x3_1 ++ [x4_1]) (wrap64 (x4_1 + 1)) s0_0 t151 t152) else (none)) else (spec_l05Conf.l0 k1 x3_1 (wrap64 (x4_1 + 1)) s0_0 t151 t152)) = some (r1, r2, r3) := H
        have A5 := Aside0.mk A50
        clear A50
        by_cases c6 : t150 = true
        · subst c6
          have H1 : (if x3_1.length < 17592186044416 then (spec_l05Conf.l0 k1 (x3_1 ++ [x4_1]) (wrap64 (x4_1 + 1)) s0_0 t151 t152) else (none)) = some (r1, r2, r3) := by rw [if_pos rfl] at H; exact H
          clear H
          have H := H1
          clear H1
          by_cases c7 : x3_1.length < 17592186044416
          · rw [if_pos c7] at H
            have LMc7 := Aside0.mk c7
            clear c7
            obtain ⟨y153, hy153⟩ : ∃ y_ : List Int, y_ = (x3_1 ++ [x4_1]) := ⟨_, rfl⟩
            replace H : (spec_l05Conf.l0 k1 y153 (wrap64 (x4_1 + 1)) s0_0 t151 t152) = some (r1, r2, r3) := by first | (rw [hy153]; with_reducible exact H) | (have H2_ := (Option.bind_some _ _).symm.trans H; rw [hy153]; with_reducible exact H2_) | (have H2_ := (Option.bind_some _ _).symm.trans H; with_reducible exact H2_) | with_reducible exact H | (rw [hy153]; exact H) | exact H
            have Ny153 := Aside0.mk hy153
            clear hy153
            have H' := Aside0.mk H
            clear H
            go_wp2_with (first | ((with_reducible refine gate_callee (f := 61) rfl ?_); refine goesL_ (some 11) rfl rfl Try.func61 (by kernel_rfl) rfl #[.pointer (some ⟨g, 0, none⟩), .int .i64 2] rfl (by (try simp only [List.map_toArray, List.map_cons, List.map_nil]); first | done | rfl | (simp only [List.length_drop, List.length_take]; rfl)) ?_; (with_reducible refine (spec_l01Once.calls g s0_0 x1001_1 x1002_1 2 true t151 t152 w0 _ ?side1 ?side2 A5.out).mono ?_); (case side1 => repeat (first | (with_reducible first | exact HI0.out | apply IsS75.alloc | apply IsS75.drewN | apply IsS75.drew | apply IsS75.set_1 | apply IsS75.set_2) | exact HI0.out)); (case side2 => repeat (first | (with_reducible first | exact HB.out | apply below_alloc | apply pw_below_drewN | apply below_drew1 | refine below_set ?_ (IsS75.ge HI0.out)) | exact HB.out)); rintro e w8 ⟨rfl, hi, hb, hk⟩; refine ⟨_, rfl, ?_⟩; have n0_ := Aside0.mk (Kd.R_mono (Kd.R_keep (IsS75.apart (show IsS75 w0 _ g s0_0 x1001_1 x1002_1 from by repeat (first | (with_reducible first | exact HI0.out | apply IsS75.alloc | apply IsS75.drewN | apply IsS75.drew | apply IsS75.set_1 | apply IsS75.set_2) | exact HI0.out)) (by (with_reducible repeat (first | apply Kd.R_alloc | apply Kd.R_drewN | apply Kd.R_drew)); exact HO_3.out) (by decide)) hk (fun _ h => h.2)) (fun _ h => h.1)); have n1_ := Aside0.mk (KeepBut.trans (by repeat (first | (with_reducible first | exact HK.out | apply KeepBut.set_ | apply keep_drewN | apply keep_drew | apply keep_alloc) | exact HK.out)) hk (.inl rfl)); have n2_ := Aside0.mk (hb); have n3_ := Aside0.mk (hi); clear HO_3; clear HK; clear HB; clear HI0; have HO_3 := n0_; have HK := n1_; have HB := n2_; have HI0 := n3_; clear n0_ n1_ n2_ n3_; (try clear hb); (try clear hb2); (try clear hk); (try clear hi)) | ((with_reducible refine gate_builtin (b := .append) (xs := #[.tmp 12, .tmp 14]) rfl ?_); at_builtin; refine Kd.R_append (Kd.int .i64) w.heap.size rfl (.tmp 12) (.tmp 14) 25 3 (.int .i64 0) 8 rfl Try.underlying25 info3 rfl (by decide) (by omega) u3 x3_1 x4_1 [.int .i64 x4_1] (fun _ => True) (fun _ => False) rfl rfl ?aP (fun _ hk => hk.elim) ?aF ?aO (Below.refl _ _) ?aS ?aL ?_; (case aP => exact rfl); (case aF => exact (fun _ _ => trivial)); (case aO => exact (by (with_reducible repeat (first | apply Kd.R_alloc | apply Kd.R_drewN | apply Kd.R_drew)); exact HO_3.out)); (case aS => exact (keep_size (w := w) (g := g) (row := none) (by repeat (first | (with_reducible first | exact HK.out | apply KeepBut.set_ | apply keep_drewN | apply keep_drew | apply keep_alloc) | exact HK.out)))); (case aL => have := LMc7.out; omega); intro v154 w9 ho hb hg hat; rw [← Ny153.out] at ho; have n0_ := Aside0.mk (IsS75.grown (by repeat (first | (with_reducible first | exact HI0.out | apply IsS75.alloc | apply IsS75.drewN | apply IsS75.drew | apply IsS75.set_1 | apply IsS75.set_2) | exact HI0.out)) hg (IsS75.own_ne HI0.out HO_3.out (by decide))); have n1_ := Aside0.mk (below_weaken (by repeat (first | (with_reducible first | exact HB.out | apply below_alloc | apply pw_below_drewN | apply below_drew1 | refine below_set ?_ (IsS75.ge HI0.out)) | exact HB.out)) HL.out hb); have n2_ := Aside0.mk (KeepBut.trans (by repeat (first | (with_reducible first | exact HK.out | apply KeepBut.set_ | apply keep_drewN | apply keep_drew | apply keep_alloc) | exact HK.out)) (KeepBut.of_grown hg g) (Kd.R_base2 HO_3.out)); have n3_ := Aside0.mk (ho); clear HI0; clear HB; clear HK; clear HO_3; have HI0 := n0_; have HB := n1_; have HK := n2_; have HO155 := n3_; clear n0_ n1_ n2_ n3_; clear ho hb hg hat))
            go_roundg k1
            case measure => have := HK1.out; omega
            case rel => exact ⟨(y153), (wrap64 (x4_1 + 1)), (t151), (t152), (by first | rfl | (simp; done) | (simp [*]; done)), H', ⟨by have := HK1.out; omega⟩, ⟨by (with_reducible repeat (first | apply Kd.R_alloc | apply Kd.R_drewN | apply Kd.R_drew)); exact HO155.out⟩, ⟨by repeat (first | (with_reducible first | exact HI0.out | apply IsS75.alloc | apply IsS75.drewN | apply IsS75.drew | apply IsS75.set_1 | apply IsS75.set_2) | exact HI0.out)⟩, ⟨by repeat (first | (with_reducible first | exact HK.out | apply KeepBut.set_ | apply keep_drewN | apply keep_drew | apply keep_alloc) | exact HK.out)⟩, ⟨by repeat (first | (with_reducible first | exact HB.out | apply below_alloc | apply pw_below_drewN | apply below_drew1 | refine below_set ?_ (IsS75.ge HI0.out)) | exact HB.out)⟩⟩
          · rw [if_neg c7] at H
            exact absurd H (by simp)
        · replace c6 := Bool.eq_false_iff.mpr c6
          subst c6
          have H1 : (spec_l05Conf.l0 k1 x3_1 (wrap64 (x4_1 + 1)) s0_0 t151 t152) = some (r1, r2, r3) := by rw [if_neg (show ¬ (false = true) by decide)] at H; exact H
          clear H
          have H := H1
          clear H1
          have H' := Aside0.mk H
          clear H
          go_wp2_with (first | ((with_reducible refine gate_callee (f := 61) rfl ?_); refine goesL_ (some 11) rfl rfl Try.func61 (by kernel_rfl) rfl #[.pointer (some ⟨g, 0, none⟩), .int .i64 2] rfl (by (try simp only [List.map_toArray, List.map_cons, List.map_nil]); first | done | rfl | (simp only [List.length_drop, List.length_take]; rfl)) ?_; (with_reducible refine (spec_l01Once.calls g s0_0 x1001_1 x1002_1 2 false t151 t152 w0 _ ?side1 ?side2 A5.out).mono ?_); (case side1 => repeat (first | (with_reducible first | exact HI0.out | apply IsS75.alloc | apply IsS75.drewN | apply IsS75.drew | apply IsS75.set_1 | apply IsS75.set_2) | exact HI0.out)); (case side2 => repeat (first | (with_reducible first | exact HB.out | apply below_alloc | apply pw_below_drewN | apply below_drew1 | refine below_set ?_ (IsS75.ge HI0.out)) | exact HB.out)); rintro e w10 ⟨rfl, hi, hb, hk⟩; refine ⟨_, rfl, ?_⟩; have n0_ := Aside0.mk (Kd.R_mono (Kd.R_keep (IsS75.apart (show IsS75 w0 _ g s0_0 x1001_1 x1002_1 from by repeat (first | (with_reducible first | exact HI0.out | apply IsS75.alloc | apply IsS75.drewN | apply IsS75.drew | apply IsS75.set_1 | apply IsS75.set_2) | exact HI0.out)) (by (with_reducible repeat (first | apply Kd.R_alloc | apply Kd.R_drewN | apply Kd.R_drew)); exact HO_3.out) (by decide)) hk (fun _ h => h.2)) (fun _ h => h.1)); have n1_ := Aside0.mk (KeepBut.trans (by repeat (first | (with_reducible first | exact HK.out | apply KeepBut.set_ | apply keep_drewN | apply keep_drew | apply keep_alloc) | exact HK.out)) hk (.inl rfl)); have n2_ := Aside0.mk (hb); have n3_ := Aside0.mk (hi); clear HO_3; clear HK; clear HB; clear HI0; have HO_3 := n0_; have HK := n1_; have HB := n2_; have HI0 := n3_; clear n0_ n1_ n2_ n3_; (try clear hb); (try clear hb2); (try clear hk); (try clear hi)))
          go_roundg k1
          case measure => have := HK1.out; omega
          case rel => exact ⟨(x3_1), (wrap64 (x4_1 + 1)), (t151), (t152), (by first | rfl | (simp; done) | (simp [*]; done)), H', ⟨by have := HK1.out; omega⟩, ⟨by (with_reducible repeat (first | apply Kd.R_alloc | apply Kd.R_drewN | apply Kd.R_drew)); exact HO_3.out⟩, ⟨by repeat (first | (with_reducible first | exact HI0.out | apply IsS75.alloc | apply IsS75.drewN | apply IsS75.drew | apply IsS75.set_1 | apply IsS75.set_2) | exact HI0.out)⟩, ⟨by repeat (first | (with_reducible first | exact HK.out | apply KeepBut.set_ | apply keep_drewN | apply keep_drew | apply keep_alloc) | exact HK.out)⟩, ⟨by repeat (first | (with_reducible first | exact HB.out | apply below_alloc | apply pw_below_drewN | apply below_drew1 | refine below_set ?_ (IsS75.ge HI0.out)) | exact HB.out)⟩⟩
      · rw [if_neg c4] at H
        have c4b0 : decide (x4_1 ≤ 4) = false := decide_eq_false c4
        clear c4
        by_cases c11 : (x3_1.length : Int) = 0
        · rw [if_pos c11] at H
          have c11b0 : ((x3_1.length : Int) == 0) = true := beq_iff_eq.mpr c11
          have c11b1 : ((x3_1.length : Int) != 0) = false := bne_eq_false_iff_eq.mpr c11
          clear c11
          by_cases c12 : x3_1.length < 17592186044416
          · rw [if_pos c12] at H
            have LMc12 := Aside0.mk c12
            clear c12
            obtain ⟨y156, hy156⟩ : ∃ y_ : List Int, y_ = (x3_1 ++ [1]) := ⟨_, rfl⟩
            replace H : (some (y156, x1001_1, x1002_1)) = some (r1, r2, r3) := by first | (rw [hy156]; with_reducible exact H) | (have H2_ := (Option.bind_some _ _).symm.trans H; rw [hy156]; with_reducible exact H2_) | (have H2_ := (Option.bind_some _ _).symm.trans H; with_reducible exact H2_) | with_reducible exact H | (rw [hy156]; exact H) | exact H
            have Ny156 := Aside0.mk hy156
            clear hy156
            simp only [Option.some.injEq, Prod.mk.injEq] at H
            obtain ⟨rfl, rfl, rfl⟩ := H
            obtain ⟨Ao13, co13, eo13⟩ := Kd.R_slice HO_3.out
            subst eo13
            go_wp2_with (first | ((with_reducible refine gate_builtin (b := .append) (xs := #[.tmp 19, .tmp 20]) rfl ?_); at_builtin; refine Kd.R_append (Kd.int .i64) w.heap.size rfl (.tmp 19) (.tmp 20) 25 3 (.int .i64 0) 8 rfl Try.underlying25 info3 rfl (by decide) (by omega) (.slice Ao13 x3_1.length co13) x3_1 1 [.int .i64 1] (fun _ => True) (fun _ => False) rfl rfl ?aP (fun _ hk => hk.elim) ?aF ?aO (Below.refl _ _) ?aS ?aL ?_; (case aP => exact rfl); (case aF => exact (fun _ _ => trivial)); (case aO => exact (by (with_reducible repeat (first | apply Kd.R_alloc | apply Kd.R_drewN | apply Kd.R_drew)); exact HO_3.out)); (case aS => exact (keep_size (w := w) (g := g) (row := none) (by repeat (first | (with_reducible first | exact HK.out | apply KeepBut.set_ | apply keep_drewN | apply keep_drew | apply keep_alloc) | exact HK.out)))); (case aL => have := LMc12.out; omega); intro v157 w14 ho hb hg hat; rw [← Ny156.out] at ho; have n0_ := Aside0.mk (IsS75.grown (by repeat (first | (with_reducible first | exact HI0.out | apply IsS75.alloc | apply IsS75.drewN | apply IsS75.drew | apply IsS75.set_1 | apply IsS75.set_2) | exact HI0.out)) hg (IsS75.own_ne HI0.out HO_3.out (by decide))); have n1_ := Aside0.mk (below_weaken (by repeat (first | (with_reducible first | exact HB.out | apply below_alloc | apply pw_below_drewN | apply below_drew1 | refine below_set ?_ (IsS75.ge HI0.out)) | exact HB.out)) HL.out hb); have n2_ := Aside0.mk (KeepBut.trans (by repeat (first | (with_reducible first | exact HK.out | apply KeepBut.set_ | apply keep_drewN | apply keep_drew | apply keep_alloc) | exact HK.out)) (KeepBut.of_grown hg g) (Kd.R_base2 HO_3.out)); have n3_ := Aside0.mk (ho); clear HI0; clear HB; clear HK; clear HO_3; have HI0 := n0_; have HB := n1_; have HK := n2_; have HO158 := n3_; clear n0_ n1_ n2_ n3_; clear ho hb hg hat))
            go_ret
            exact ⟨_, by first | rfl | (simp [errW_none, errW_some] <;> rfl) | (simp [*, errW_none, errW_some] <;> rfl), by (with_reducible repeat (first | apply Kd.R_alloc | apply Kd.R_drewN | apply Kd.R_drew)); exact HO158.out, by repeat (first | (with_reducible first | exact HI0.out | apply IsS75.alloc | apply IsS75.drewN | apply IsS75.drew | apply IsS75.set_1 | apply IsS75.set_2) | exact HI0.out), by repeat (first | (with_reducible first | exact HB.out | apply below_alloc | apply pw_below_drewN | apply below_drew1 | refine below_set ?_ (IsS75.ge HI0.out)) | exact HB.out), by repeat (first | (with_reducible first | exact HK.out | apply KeepBut.set_ | apply keep_drewN | apply keep_drew | apply keep_alloc) | exact HK.out)⟩
          · rw [if_neg c12] at H
            exact absurd H (by simp)
        · rw [if_neg c11] at H
          have c11b0 : ((x3_1.length : Int) == 0) = false := beq_eq_false_iff_ne.mpr c11
          have c11b1 : ((x3_1.length : Int) != 0) = true := bne_iff_ne.mpr c11
          have c11b2 : ¬ (x3_1 = []) := fun h_ => c11 (by rw [h_]; rfl)
          simp only [Option.some.injEq, Prod.mk.injEq] at H
          obtain ⟨rfl, rfl, rfl⟩ := H
          obtain ⟨Ao15, co15, eo15⟩ := Kd.R_slice HO_3.out
          subst eo15
          go_wp2
          go_ret
          exact ⟨_, by first | rfl | (simp [errW_none, errW_some] <;> rfl) | (simp [*, errW_none, errW_some] <;> rfl), by (with_reducible repeat (first | apply Kd.R_alloc | apply Kd.R_drewN | apply Kd.R_drew)); exact HO_3.out, by repeat (first | (with_reducible first | exact HI0.out | apply IsS75.alloc | apply IsS75.drewN | apply IsS75.drew | apply IsS75.set_1 | apply IsS75.set_2) | exact HI0.out), by repeat (first | (with_reducible first | exact HB.out | apply below_alloc | apply pw_below_drewN | apply below_drew1 | refine below_set ?_ (IsS75.ge HI0.out)) | exact HB.out), by repeat (first | (with_reducible first | exact HK.out | apply KeepBut.set_ | apply keep_drewN | apply keep_drew | apply keep_alloc) | exact HK.out)⟩
end Go.Proofs.Ytmljihfaapoakaa.PFnMessages
end

section
namespace Go.Proofs.Ytmljihfaapoakaa.PFnMessages
open Go.RowKit Go.Proofs.YtmljihfaapoakaaW.PrintWords Go.Proofs.YtmljihfaapoakaaW.PrintLast Go.Proofs.YtmljihfaapoakaaW.PrintMore
set_option linter.unusedVariables false
set_option linter.unusedSimpArgs false
def spec_l05AnyConf.f (k : Nat) (s0_0 : List Int) (s0_1 : Int) (s0_2 : Int) : Option (List Int × Int × Int) := (spec_l05Conf.f k s0_0 s0_1 s0_2).bind fun bt338 => ((spec_l01Below.f s0_0 bt338.2.1 bt338.2.2 12).bind fun bt343 => (if bt343.1 = 0 then ((spec_l01PickInt.f s0_0 bt343.2.1 bt343.2.2 (([0, 4, 5, 1] : List Int))).bind fun bt349 => (if bt338.1.length < 17592186044416 then (some ((bt338.1 ++ [bt349.1]), bt349.2.1, bt349.2.2)) else (none))) else (if bt343.1 = 1 then (some ((([] : List Int)), bt343.2.1, bt343.2.2)) else (some (bt338.1, bt343.2.1, bt343.2.2)))))
theorem spec_l05AnyConf.mono : ∀ a0 a1 a2 k, LeO (spec_l05AnyConf.f k a0 a1 a2) (spec_l05AnyConf.f (k + 1) a0 a1 a2) := by
  intro a0 a1 a2 k
  unfold spec_l05AnyConf.f
  repeat' first
      | (with_reducible exact spec_l05Conf.mono _ _ _ _)
      | (with_reducible exact LeO.refl _)
      | (with_reducible exact LeO.none _)
      | (with_reducible refine LeO.ite ?_ ?_)
      | (with_reducible refine LeO.bind ?_ (fun _ => ?_))
      | exact spec_l05Conf.mono _ _ _ _
      | exact LeO.none _
      | refine LeO.ite ?_ ?_
      | refine LeO.bind ?_ (fun _ => ?_)
set_option maxHeartbeats 8000000 in
set_option maxRecDepth 100000 in
theorem spec_l05AnyConf.calls (k : Nat) (g : Nat) (s0_0 : List Int) (s0_1 : Int) (s0_2 : Int) (r1 : List Int) (r2 : Int) (r3 : Int) (w0 w : World) (hI : IsS75 w0 w g s0_0 s0_1 s0_2) (hB : Below w0.heap.size w0 w) (h : spec_l05AnyConf.f k s0_0 s0_1 s0_2 = some (r1, r2, r3)) :
    Calls Try.prog 47 #[.pointer (some ⟨g, 0, none⟩)] w fun e w' => ∃ v0_ : Value, e = .returned (v0_) ∧ Kd.R (Kd.int .i64) 3 w' w.heap.size (fun _ => True) v0_ r1 ∧ IsS75 w0 w' g s0_0 r2 r3 ∧ Below w0.heap.size w0 w' ∧ KeepBut w w' g none := by
  have HI0 := Aside0.mk hI
  have HK := Aside0.mk (KeepBut.refl w g none)
  have HL := Aside0.mk hB.size
  clear hI
  have HW0 := Aside0.mk hB.size
  have HB := Aside0.mk hB
  clear hB
  have H : ((spec_l05Conf.f k s0_0 s0_1 s0_2).bind fun bt338 => ((spec_l01Below.f s0_0 bt338.2.1 bt338.2.2 12).bind fun bt343 => (if bt343.1 = 0 then ((spec_l01PickInt.f s0_0 bt343.2.1 bt343.2.2 (([0, 4, 5, 1] : List Int))).bind fun bt349 => (if bt338.1.length < 17592186044416 then (some ((bt338.1 ++ [bt349.1]), bt349.2.1, bt349.2.2)) else (none))) else (if bt343.1 = 1 then (some ((([] : List Int)), bt343.2.1, bt343.2.2)) else (some (bt338.1, bt343.2.1, bt343.2.2)))))) = some (r1, r2, r3) := h
  clear h
  replace H := Option.bind_eq_some_iff.mp H
  obtain ⟨⟨t338, t341, t342⟩, A20, H⟩ := H
  replace H : ((spec_l01Below.f s0_0 t341 t342 12).bind fun bt343 => (if bt343.1 = 0 then ((spec_l01PickInt.f s0_0 bt343.2.1 bt343.2.2 (([0, 4, 5, 1] : List Int))).bind fun bt349 => (if t338.length < 17592186044416 then (some ((t338 ++ [bt349.1]), bt349.2.1, bt349.2.2)) else (none))) else (if bt343.1 = 1 then (some ((([] : List Int)), bt343.2.1, bt343.2.2)) else (some (t338, bt343.2.1, bt343.2.2))))) = some (r1, r2, r3) := H
  have A2 := Aside0.mk A20
  clear A20
  replace H := Option.bind_eq_some_iff.mp H
  obtain ⟨⟨t343, t344, t345⟩, A30, H⟩ := H
  replace H : (if t343 = 0 then ((spec_l01PickInt.f s0_0 t344 t345 (([0, 4, 5, 1] : List Int))).bind fun bt349 => (if t338.length < 17592186044416 then (some ((t338 ++ [bt349.1]), bt349.2.1, bt349.2.2)) else (none))) else (if t343 = 1 then (some ((([] : List Int)), t344, t345)) else (some (t338, t344, t345)))) = some (r1, r2, r3) := H
  have A3 := Aside0.mk A30
  clear A30
  by_cases c4 : t343 = 0
  · rw [if_pos c4] at H
    have c4b0 : (t343 == 0) = true := beq_iff_eq.mpr c4
    have c4b1 : (t343 != 0) = false := bne_eq_false_iff_eq.mpr c4
    clear c4
    obtain ⟨y346, hy346⟩ : ∃ y_ : List Int, y_ = (([0, 4, 5, 1] : List Int)) := ⟨_, rfl⟩
    replace H : ((spec_l01PickInt.f s0_0 t344 t345 y346).bind fun bt349 => (if t338.length < 17592186044416 then (some ((t338 ++ [bt349.1]), bt349.2.1, bt349.2.2)) else (none))) = some (r1, r2, r3) := by first | (rw [hy346]; with_reducible exact H) | (have H2_ := (Option.bind_some _ _).symm.trans H; rw [hy346]; with_reducible exact H2_) | (have H2_ := (Option.bind_some _ _).symm.trans H; with_reducible exact H2_) | with_reducible exact H | (rw [hy346]; exact H) | exact H
    have Ny346 := Aside0.mk hy346
    clear hy346
    replace H := Option.bind_eq_some_iff.mp H
    obtain ⟨⟨t349, t350, t351⟩, A50, H⟩ := H
    replace H : (if t338.length < 17592186044416 then (some ((t338 ++ [t349]), t350, t351)) else (none)) = some (r1, r2, r3) := H
    have A5 := Aside0.mk A50
    clear A50
    by_cases c6 : t338.length < 17592186044416
    · rw [if_pos c6] at H
      have LMc6 := Aside0.mk c6
      clear c6
      obtain ⟨y352, hy352⟩ : ∃ y_ : List Int, y_ = (t338 ++ [t349]) := ⟨_, rfl⟩
      replace H : (some (y352, t350, t351)) = some (r1, r2, r3) := by first | (rw [hy352]; with_reducible exact H) | (have H2_ := (Option.bind_some _ _).symm.trans H; rw [hy352]; with_reducible exact H2_) | (have H2_ := (Option.bind_some _ _).symm.trans H; with_reducible exact H2_) | with_reducible exact H | (rw [hy352]; exact H) | exact H
      have Ny352 := Aside0.mk hy352
      clear hy352
      simp only [Option.some.injEq, Prod.mk.injEq] at H
      obtain ⟨rfl, rfl, rfl⟩ := H
      go_enter Try.func47, Try.ntmps47
      go_wp2_with (first | ((with_reducible refine gate_callee (f := 63) rfl ?_); refine goesL_ (some 5) rfl rfl Try.func63 (by kernel_rfl) rfl #[.pointer (some ⟨g, 0, none⟩)] rfl (by (try simp only [List.map_toArray, List.map_cons, List.map_nil]); first | done | rfl | (simp only [List.length_drop, List.length_take]; rfl)) ?_; (with_reducible refine (spec_l05Conf.calls k g s0_0 s0_1 s0_2 t338 t341 t342 w0 _ ?side1 ?side2 A2.out).mono ?_); (case side1 => repeat (first | (with_reducible first | exact HI0.out | apply IsS75.alloc | apply IsS75.drewN | apply IsS75.drew | apply IsS75.set_1 | apply IsS75.set_2) | exact HI0.out)); (case side2 => repeat (first | (with_reducible first | exact HB.out | apply below_alloc | apply pw_below_drewN | apply below_drew1 | refine below_set ?_ (IsS75.ge HI0.out)) | exact HB.out)); rintro e w7 ⟨v339, rfl, ho0, hi, hb, hk⟩; refine ⟨_, rfl, ?_⟩; have n0_ := Aside0.mk (Kd.R_lower ho0 (keep_size (w := w) (g := g) (row := none) (by repeat (first | (with_reducible first | exact HK.out | apply KeepBut.set_ | apply keep_drewN | apply keep_drew | apply keep_alloc) | exact HK.out)))); have n1_ := Aside0.mk (KeepBut.trans (by repeat (first | (with_reducible first | exact HK.out | apply KeepBut.set_ | apply keep_drewN | apply keep_drew | apply keep_alloc) | exact HK.out)) hk (.inl rfl)); have n2_ := Aside0.mk (hb); have n3_ := Aside0.mk (hi); clear HK; clear HB; clear HI0; have HO340 := n0_; have HK := n1_; have HB := n2_; have HI0 := n3_; clear n0_ n1_ n2_ n3_; (try clear hb); (try clear hb2); (try clear hk); (try clear hi); (try clear ho0)) | ((with_reducible refine gate_callee (f := 43) rfl ?_); refine goesL_ (some 7) rfl rfl Try.func43 (by kernel_rfl) rfl #[.pointer (some ⟨g, 0, none⟩), .int .i64 12] rfl (by (try simp only [List.map_toArray, List.map_cons, List.map_nil]); first | done | rfl | (simp only [List.length_drop, List.length_take]; rfl)) ?_; (with_reducible refine (spec_l01Below.calls g s0_0 t341 t342 12 t343 t344 t345 w0 _ ?side1 ?side2 A3.out).mono ?_); (case side1 => repeat (first | (with_reducible first | exact HI0.out | apply IsS75.alloc | apply IsS75.drewN | apply IsS75.drew | apply IsS75.set_1 | apply IsS75.set_2) | exact HI0.out)); (case side2 => repeat (first | (with_reducible first | exact HB.out | apply below_alloc | apply pw_below_drewN | apply below_drew1 | refine below_set ?_ (IsS75.ge HI0.out)) | exact HB.out)); rintro e w8 ⟨rfl, hi, hb, hk⟩; refine ⟨_, rfl, ?_⟩; have n0_ := Aside0.mk (Kd.R_mono (Kd.R_keep (IsS75.apart (show IsS75 w0 _ g s0_0 t341 t342 from by repeat (first | (with_reducible first | exact HI0.out | apply IsS75.alloc | apply IsS75.drewN | apply IsS75.drew | apply IsS75.set_1 | apply IsS75.set_2) | exact HI0.out)) (by (with_reducible repeat (first | apply Kd.R_alloc | apply Kd.R_drewN | apply Kd.R_drew)); exact HO340.out) (by decide)) hk (fun _ h => h.2)) (fun _ h => h.1)); have n1_ := Aside0.mk (KeepBut.trans (by repeat (first | (with_reducible first | exact HK.out | apply KeepBut.set_ | apply keep_drewN | apply keep_drew | apply keep_alloc) | exact HK.out)) hk (.inl rfl)); have n2_ := Aside0.mk (hb); have n3_ := Aside0.mk (hi); clear HO340; clear HK; clear HB; clear HI0; have HO340 := n0_; have HK := n1_; have HB := n2_; have HI0 := n3_; clear n0_ n1_ n2_ n3_; (try clear hb); (try clear hb2); (try clear hk); (try clear hi)) | ((with_reducible refine gate_dst (N := 12) rfl ?_); refine Kd.R_lit (Kd.int .i64) _ 3 ?hg (N := 12) ?hd (xs := ([0, 4, 5, 1] : List Int)) (inner := [.int .i64 0, .int .i64 4, .int .i64 5, .int .i64 1]) (ok := fun _ => True) (okp := fun _ => True) ?hr ?hp (fun _ hk => hk) trivial (Below.refl _ _) (Nat.le_refl _) (by simp) ?_; (case hd => rfl); (case hg => rfl); (case hr => first | (go_simp; done) | (go_simp; rfl)); (case hp => exact (Reps.one (show Kd.M (Kd.int .i64) _ _ _ 0 [.int .i64 0] from rfl) (Reps.one (show Kd.M (Kd.int .i64) _ _ _ 4 [.int .i64 4] from rfl) (Reps.one (show Kd.M (Kd.int .i64) _ _ _ 5 [.int .i64 5] from rfl) (Reps.one (show Kd.M (Kd.int .i64) _ _ _ 1 [.int .i64 1] from rfl) (Reps.none _ _)))))); intro v347 w9 ho10 hb hg_ hnew_; clear hg_ hnew_; (first | rw [← Ny346.out] at ho10 | (simp only [Int.reduceToNat] at ho10; rw [← Ny346.out] at ho10)); have n0_ := Aside0.mk (Kd.R_elder' (by (with_reducible repeat (first | apply Kd.R_alloc | apply Kd.R_drewN | apply Kd.R_drew)); exact HO340.out) (Kd.R_base ho10) hb); have n1_ := Aside0.mk (Kd.R_lower (Kd.R_new' ho10 (Kd.R_lt (by (with_reducible repeat (first | apply Kd.R_alloc | apply Kd.R_drewN | apply Kd.R_drew)); exact HO340.out))) (keep_size (w := w) (g := g) (row := none) (by repeat (first | (with_reducible first | exact HK.out | apply KeepBut.set_ | apply keep_drewN | apply keep_drew | apply keep_alloc) | exact HK.out)))); have n2_ := Aside0.mk (IsS75.below (by repeat (first | (with_reducible first | exact HI0.out | apply IsS75.alloc | apply IsS75.drewN | apply IsS75.drew | apply IsS75.set_1 | apply IsS75.set_2) | exact HI0.out)) hb); have n3_ := Aside0.mk (KeepBut.trans (by repeat (first | (with_reducible first | exact HK.out | apply KeepBut.set_ | apply keep_drewN | apply keep_drew | apply keep_alloc) | exact HK.out)) (KeepBut.of_below hb g none) (.inl rfl)); have n4_ := Aside0.mk (below_step (by repeat (first | (with_reducible first | exact HB.out | apply below_alloc | apply pw_below_drewN | apply below_drew1 | refine below_set ?_ (IsS75.ge HI0.out)) | exact HB.out)) hb); clear HO340; clear HI0; clear HK; clear HB; have HO340 := n0_; have HO348 := n1_; have HI0 := n2_; have HK := n3_; have HB := n4_; clear n0_ n1_ n2_ n3_ n4_; clear hb ho10; obtain ⟨Ao11, co11, eo11⟩ := Kd.R_slice HO348.out; subst eo11) | ((with_reducible refine gate_callee (f := 44) rfl ?_); refine goesL_ (some 13) rfl rfl Try.func44 (by kernel_rfl) rfl #[.pointer (some ⟨g, 0, none⟩), .slice Ao11 y346.length co11] rfl (by (try simp only [List.map_toArray, List.map_cons, List.map_nil]); first | done | rfl | (simp only [List.length_drop, List.length_take]; rfl)) ?_; (with_reducible refine (spec_l01PickInt.calls g s0_0 t344 t345 _ _ y346 t349 t350 t351 w0 _ ?side1 ?side2 ?side3 ?side4 ?side5 A5.out).mono ?_); (case side1 => repeat (first | (with_reducible first | exact HI0.out | apply IsS75.alloc | apply IsS75.drewN | apply IsS75.drew | apply IsS75.set_1 | apply IsS75.set_2) | exact HI0.out)); (case side2 => repeat (first | (with_reducible first | exact HB.out | apply below_alloc | apply pw_below_drewN | apply below_drew1 | refine below_set ?_ (IsS75.ge HI0.out)) | exact HB.out)); (case side3 => repeat (first | exact (Kd.R_reads' HO348.out).2.2 | (with_reducible refine Kd.C_alloc ?_ _) | (with_reducible refine Kd.C_drewN ?_ _) | (with_reducible refine Kd.C_drew ?_))); (case side4 => exact (Kd.R_reads' HO348.out).2.1); (case side5 => exact far_slice (IsS75.own_ne HI0.out HO348.out (by decide))); rintro e w12 ⟨rfl, hi, hb, hk⟩; refine ⟨_, rfl, ?_⟩; have n0_ := Aside0.mk (Kd.R_mono (Kd.R_keep (IsS75.apart (show IsS75 w0 _ g s0_0 t344 t345 from by repeat (first | (with_reducible first | exact HI0.out | apply IsS75.alloc | apply IsS75.drewN | apply IsS75.drew | apply IsS75.set_1 | apply IsS75.set_2) | exact HI0.out)) (by (with_reducible repeat (first | apply Kd.R_alloc | apply Kd.R_drewN | apply Kd.R_drew)); exact HO340.out) (by decide)) hk (fun _ h => h.2)) (fun _ h => h.1)); have n1_ := Aside0.mk (Kd.R_mono (Kd.R_keep (IsS75.apart (show IsS75 w0 _ g s0_0 t344 t345 from by repeat (first | (with_reducible first | exact HI0.out | apply IsS75.alloc | apply IsS75.drewN | apply IsS75.drew | apply IsS75.set_1 | apply IsS75.set_2) | exact HI0.out)) (by (with_reducible repeat (first | apply Kd.R_alloc | apply Kd.R_drewN | apply Kd.R_drew)); exact HO348.out) (by decide)) hk (fun _ h => h.2)) (fun _ h => h.1)); have n2_ := Aside0.mk (KeepBut.trans (by repeat (first | (with_reducible first | exact HK.out | apply KeepBut.set_ | apply keep_drewN | apply keep_drew | apply keep_alloc) | exact HK.out)) hk (.inl rfl)); have n3_ := Aside0.mk (hb); have n4_ := Aside0.mk (hi); clear HO340; clear HO348; clear HK; clear HB; clear HI0; have HO340 := n0_; have HO348 := n1_; have HK := n2_; have HB := n3_; have HI0 := n4_; clear n0_ n1_ n2_ n3_ n4_; (try clear hb); (try clear hb2); (try clear hk); (try clear hi)) | ((with_reducible refine gate_builtin (b := .append) (xs := #[.tmp 10, .tmp 14]) rfl ?_); at_builtin; refine Kd.R_append (Kd.int .i64) w.heap.size rfl (.tmp 10) (.tmp 14) 25 3 (.int .i64 0) 8 rfl Try.underlying25 info3 rfl (by decide) (by omega) v339 t338 t349 [.int .i64 t349] (fun k_ => some k_ ≠ (.slice Ao11 y346.length co11 : Value).ownBlock) (fun _ => False) rfl rfl ?aP (fun _ hk => hk.elim) ?aF ?aO (Below.refl _ _) ?aS ?aL ?_; (case aP => exact rfl); (case aF => exact (fun k_ hk => Kd.fresh' (Kd.R_lt (by (with_reducible repeat (first | apply Kd.R_alloc | apply Kd.R_drewN | apply Kd.R_drew)); exact HO348.out)) k_ hk)); (case aO => exact (by (with_reducible repeat (first | apply Kd.R_alloc | apply Kd.R_drewN | apply Kd.R_drew)); exact Kd.R_mono HO340.out (fun _ hk => hk.2))); (case aS => exact (keep_size (w := w) (g := g) (row := none) (by repeat (first | (with_reducible first | exact HK.out | apply KeepBut.set_ | apply keep_drewN | apply keep_drew | apply keep_alloc) | exact HK.out)))); (case aL => have := LMc6.out; omega); intro v353 w13 ho hb hg hat; rw [← Ny352.out] at ho; have n0_ := Aside0.mk (IsS75.grown (by repeat (first | (with_reducible first | exact HI0.out | apply IsS75.alloc | apply IsS75.drewN | apply IsS75.drew | apply IsS75.set_1 | apply IsS75.set_2) | exact HI0.out)) hg (IsS75.own_ne HI0.out HO340.out (by decide))); have n1_ := Aside0.mk (Kd.R_after (ok := (fun _ => True)) (by (with_reducible repeat (first | apply Kd.R_alloc | apply Kd.R_drewN | apply Kd.R_drew)); exact HO348.out) hg hat); have n2_ := Aside0.mk (below_weaken (by repeat (first | (with_reducible first | exact HB.out | apply below_alloc | apply pw_below_drewN | apply below_drew1 | refine below_set ?_ (IsS75.ge HI0.out)) | exact HB.out)) HL.out hb); have n3_ := Aside0.mk (KeepBut.trans (by repeat (first | (with_reducible first | exact HK.out | apply KeepBut.set_ | apply keep_drewN | apply keep_drew | apply keep_alloc) | exact HK.out)) (KeepBut.of_grown hg g) (Kd.R_base2 HO340.out)); have n4_ := Aside0.mk (ho); clear HI0; clear HO348; clear HB; clear HK; clear HO340; have HI0 := n0_; have HO348 := n1_; have HB := n2_; have HK := n3_; have HO354 := n4_; clear n0_ n1_ n2_ n3_ n4_; clear ho hb hg hat))
      go_ret
      exact ⟨_, by first | rfl | (simp [errW_none, errW_some] <;> rfl) | (simp [*, errW_none, errW_some] <;> rfl), by (with_reducible repeat (first | apply Kd.R_alloc | apply Kd.R_drewN | apply Kd.R_drew)); exact Kd.R_mono HO354.out (fun _ hk => trivial), by repeat (first | (with_reducible first | exact HI0.out | apply IsS75.alloc | apply IsS75.drewN | apply IsS75.drew | apply IsS75.set_1 | apply IsS75.set_2) | exact HI0.out), by repeat (first | (with_reducible first | exact HB.out | apply below_alloc | apply pw_below_drewN | apply below_drew1 | refine below_set ?_ (IsS75.ge HI0.out)) | exact HB.out), by repeat (first | (with_reducible first | exact HK.out | apply KeepBut.set_ | apply keep_drewN | apply keep_drew | apply keep_alloc) | exact HK.out)⟩
    · rw [if_neg c6] at H
      exact absurd H (by simp)
  · rw [if_neg c4] at H
    have c4b0 : (t343 == 0) = false := beq_eq_false_iff_ne.mpr c4
    have c4b1 : (t343 != 0) = true := bne_iff_ne.mpr c4
    by_cases c14 : t343 = 1
    · rw [if_pos c14] at H
      have c14b0 : (t343 == 1) = true := beq_iff_eq.mpr c14
      have c14b1 : (t343 != 1) = false := bne_eq_false_iff_eq.mpr c14
      clear c14
      obtain ⟨y355, hy355⟩ : ∃ y_ : List Int, y_ = (([] : List Int)) := ⟨_, rfl⟩
      replace H : (some (y355, t344, t345)) = some (r1, r2, r3) := by first | (rw [hy355]; with_reducible exact H) | (have H2_ := (Option.bind_some _ _).symm.trans H; rw [hy355]; with_reducible exact H2_) | (have H2_ := (Option.bind_some _ _).symm.trans H; with_reducible exact H2_) | with_reducible exact H | (rw [hy355]; exact H) | exact H
      have Ny355 := Aside0.mk hy355
      clear hy355
      simp only [Option.some.injEq, Prod.mk.injEq] at H
      obtain ⟨rfl, rfl, rfl⟩ := H
      go_enter Try.func47, Try.ntmps47
      go_wp2_with (first | ((with_reducible refine gate_callee (f := 63) rfl ?_); refine goesL_ (some 5) rfl rfl Try.func63 (by kernel_rfl) rfl #[.pointer (some ⟨g, 0, none⟩)] rfl (by (try simp only [List.map_toArray, List.map_cons, List.map_nil]); first | done | rfl | (simp only [List.length_drop, List.length_take]; rfl)) ?_; (with_reducible refine (spec_l05Conf.calls k g s0_0 s0_1 s0_2 t338 t341 t342 w0 _ ?side1 ?side2 A2.out).mono ?_); (case side1 => repeat (first | (with_reducible first | exact HI0.out | apply IsS75.alloc | apply IsS75.drewN | apply IsS75.drew | apply IsS75.set_1 | apply IsS75.set_2) | exact HI0.out)); (case side2 => repeat (first | (with_reducible first | exact HB.out | apply below_alloc | apply pw_below_drewN | apply below_drew1 | refine below_set ?_ (IsS75.ge HI0.out)) | exact HB.out)); rintro e w15 ⟨v339, rfl, ho0, hi, hb, hk⟩; refine ⟨_, rfl, ?_⟩; have n0_ := Aside0.mk (Kd.R_lower ho0 (keep_size (w := w) (g := g) (row := none) (by repeat (first | (with_reducible first | exact HK.out | apply KeepBut.set_ | apply keep_drewN | apply keep_drew | apply keep_alloc) | exact HK.out)))); have n1_ := Aside0.mk (KeepBut.trans (by repeat (first | (with_reducible first | exact HK.out | apply KeepBut.set_ | apply keep_drewN | apply keep_drew | apply keep_alloc) | exact HK.out)) hk (.inl rfl)); have n2_ := Aside0.mk (hb); have n3_ := Aside0.mk (hi); clear HK; clear HB; clear HI0; have HO340 := n0_; have HK := n1_; have HB := n2_; have HI0 := n3_; clear n0_ n1_ n2_ n3_; (try clear hb); (try clear hb2); (try clear hk); (try clear hi); (try clear ho0)) | ((with_reducible refine gate_callee (f := 43) rfl ?_); refine goesL_ (some 7) rfl rfl Try.func43 (by kernel_rfl) rfl #[.pointer (some ⟨g, 0, none⟩), .int .i64 12] rfl (by (try simp only [List.map_toArray, List.map_cons, List.map_nil]); first | done | rfl | (simp only [List.length_drop, List.length_take]; rfl)) ?_; (with_reducible refine (spec_l01Below.calls g s0_0 t341 t342 12 t343 t344 t345 w0 _ ?side1 ?side2 A3.out).mono ?_); (case side1 => repeat (first | (with_reducible first | exact HI0.out | apply IsS75.alloc | apply IsS75.drewN | apply IsS75.drew | apply IsS75.set_1 | apply IsS75.set_2) | exact HI0.out)); (case side2 => repeat (first | (with_reducible first | exact HB.out | apply below_alloc | apply pw_below_drewN | apply below_drew1 | refine below_set ?_ (IsS75.ge HI0.out)) | exact HB.out)); rintro e w16 ⟨rfl, hi, hb, hk⟩; refine ⟨_, rfl, ?_⟩; have n0_ := Aside0.mk (Kd.R_mono (Kd.R_keep (IsS75.apart (show IsS75 w0 _ g s0_0 t341 t342 from by repeat (first | (with_reducible first | exact HI0.out | apply IsS75.alloc | apply IsS75.drewN | apply IsS75.drew | apply IsS75.set_1 | apply IsS75.set_2) | exact HI0.out)) (by (with_reducible repeat (first | apply Kd.R_alloc | apply Kd.R_drewN | apply Kd.R_drew)); exact HO340.out) (by decide)) hk (fun _ h => h.2)) (fun _ h => h.1)); have n1_ := Aside0.mk (KeepBut.trans (by repeat (first | (with_reducible first | exact HK.out | apply KeepBut.set_ | apply keep_drewN | apply keep_drew | apply keep_alloc) | exact HK.out)) hk (.inl rfl)); have n2_ := Aside0.mk (hb); have n3_ := Aside0.mk (hi); clear HO340; clear HK; clear HB; clear HI0; have HO340 := n0_; have HK := n1_; have HB := n2_; have HI0 := n3_; clear n0_ n1_ n2_ n3_; (try clear hb); (try clear hb2); (try clear hk); (try clear hi)) | ((with_reducible refine gate_dst (N := 18) rfl ?_); refine Kd.R_lit (Kd.int .i64) _ 3 ?hg (N := 18) ?hd (xs := ([] : List Int)) (inner := []) (ok := fun _ => True) (okp := fun _ => True) ?hr ?hp (fun _ hk => hk) trivial (Below.refl _ _) (Nat.le_refl _) (by simp) ?_; (case hd => rfl); (case hg => rfl); (case hr => first | (go_simp; done) | (go_simp; rfl)); (case hp => exact (Reps.none _ _)); intro v356 w17 ho18 hb hg_ hnew_; clear hg_ hnew_; (first | rw [← Ny355.out] at ho18 | (simp only [Int.reduceToNat] at ho18; rw [← Ny355.out] at ho18)); have n0_ := Aside0.mk (Kd.R_elder' (by (with_reducible repeat (first | apply Kd.R_alloc | apply Kd.R_drewN | apply Kd.R_drew)); exact HO340.out) (Kd.R_base ho18) hb); have n1_ := Aside0.mk (Kd.R_lower (Kd.R_new' ho18 (Kd.R_lt (by (with_reducible repeat (first | apply Kd.R_alloc | apply Kd.R_drewN | apply Kd.R_drew)); exact HO340.out))) (keep_size (w := w) (g := g) (row := none) (by repeat (first | (with_reducible first | exact HK.out | apply KeepBut.set_ | apply keep_drewN | apply keep_drew | apply keep_alloc) | exact HK.out)))); have n2_ := Aside0.mk (IsS75.below (by repeat (first | (with_reducible first | exact HI0.out | apply IsS75.alloc | apply IsS75.drewN | apply IsS75.drew | apply IsS75.set_1 | apply IsS75.set_2) | exact HI0.out)) hb); have n3_ := Aside0.mk (KeepBut.trans (by repeat (first | (with_reducible first | exact HK.out | apply KeepBut.set_ | apply keep_drewN | apply keep_drew | apply keep_alloc) | exact HK.out)) (KeepBut.of_below hb g none) (.inl rfl)); have n4_ := Aside0.mk (below_step (by repeat (first | (with_reducible first | exact HB.out | apply below_alloc | apply pw_below_drewN | apply below_drew1 | refine below_set ?_ (IsS75.ge HI0.out)) | exact HB.out)) hb); clear HO340; clear HI0; clear HK; clear HB; have HO340 := n0_; have HO357 := n1_; have HI0 := n2_; have HK := n3_; have HB := n4_; clear n0_ n1_ n2_ n3_ n4_; clear hb ho18))
      go_ret
      exact ⟨_, by first | rfl | (simp [errW_none, errW_some] <;> rfl) | (simp [*, errW_none, errW_some] <;> rfl), by (with_reducible repeat (first | apply Kd.R_alloc | apply Kd.R_drewN | apply Kd.R_drew)); exact Kd.R_mono HO357.out (fun _ hk => trivial), by repeat (first | (with_reducible first | exact HI0.out | apply IsS75.alloc | apply IsS75.drewN | apply IsS75.drew | apply IsS75.set_1 | apply IsS75.set_2) | exact HI0.out), by repeat (first | (with_reducible first | exact HB.out | apply below_alloc | apply pw_below_drewN | apply below_drew1 | refine below_set ?_ (IsS75.ge HI0.out)) | exact HB.out), by repeat (first | (with_reducible first | exact HK.out | apply KeepBut.set_ | apply keep_drewN | apply keep_drew | apply keep_alloc) | exact HK.out)⟩
    · rw [if_neg c14] at H
      have c14b0 : (t343 == 1) = false := beq_eq_false_iff_ne.mpr c14
      have c14b1 : (t343 != 1) = true := bne_iff_ne.mpr c14
      simp only [Option.some.injEq, Prod.mk.injEq] at H
      obtain ⟨rfl, rfl, rfl⟩ := H
      go_enter Try.func47, Try.ntmps47
      go_wp2_with (first | ((with_reducible refine gate_callee (f := 63) rfl ?_); refine goesL_ (some 5) rfl rfl Try.func63 (by kernel_rfl) rfl #[.pointer (some ⟨g, 0, none⟩)] rfl (by (try simp only [List.map_toArray, List.map_cons, List.map_nil]); first | done | rfl | (simp only [List.length_drop, List.length_take]; rfl)) ?_; (with_reducible refine (spec_l05Conf.calls k g s0_0 s0_1 s0_2 t338 t341 t342 w0 _ ?side1 ?side2 A2.out).mono ?_); (case side1 => repeat (first | (with_reducible first | exact HI0.out | apply IsS75.alloc | apply IsS75.drewN | apply IsS75.drew | apply IsS75.set_1 | apply IsS75.set_2) | exact HI0.out)); (case side2 => repeat (first | (with_reducible first | exact HB.out | apply below_alloc | apply pw_below_drewN | apply below_drew1 | refine below_set ?_ (IsS75.ge HI0.out)) | exact HB.out)); rintro e w19 ⟨v339, rfl, ho0, hi, hb, hk⟩; refine ⟨_, rfl, ?_⟩; have n0_ := Aside0.mk (Kd.R_lower ho0 (keep_size (w := w) (g := g) (row := none) (by repeat (first | (with_reducible first | exact HK.out | apply KeepBut.set_ | apply keep_drewN | apply keep_drew | apply keep_alloc) | exact HK.out)))); have n1_ := Aside0.mk (KeepBut.trans (by repeat (first | (with_reducible first | exact HK.out | apply KeepBut.set_ | apply keep_drewN | apply keep_drew | apply keep_alloc) | exact HK.out)) hk (.inl rfl)); have n2_ := Aside0.mk (hb); have n3_ := Aside0.mk (hi); clear HK; clear HB; clear HI0; have HO340 := n0_; have HK := n1_; have HB := n2_; have HI0 := n3_; clear n0_ n1_ n2_ n3_; (try clear hb); (try clear hb2); (try clear hk); (try clear hi); (try clear ho0)) | ((with_reducible refine gate_callee (f := 43) rfl ?_); refine goesL_ (some 7) rfl rfl Try.func43 (by kernel_rfl) rfl #[.pointer (some ⟨g, 0, none⟩), .int .i64 12] rfl (by (try simp only [List.map_toArray, List.map_cons, List.map_nil]); first | done | rfl | (simp only [List.length_drop, List.length_take]; rfl)) ?_; (with_reducible refine (spec_l01Below.calls g s0_0 t341 t342 12 t343 t344 t345 w0 _ ?side1 ?side2 A3.out).mono ?_); (case side1 => repeat (first | (with_reducible first | exact HI0.out | apply IsS75.alloc | apply IsS75.drewN | apply IsS75.drew | apply IsS75.set_1 | apply IsS75.set_2) | exact HI0.out)); (case side2 => repeat (first | (with_reducible first | exact HB.out | apply below_alloc | apply pw_below_drewN | apply below_drew1 | refine below_set ?_ (IsS75.ge HI0.out)) | exact HB.out)); rintro e w20 ⟨rfl, hi, hb, hk⟩; refine ⟨_, rfl, ?_⟩; have n0_ := Aside0.mk (Kd.R_mono (Kd.R_keep (IsS75.apart (show IsS75 w0 _ g s0_0 t341 t342 from by repeat (first | (with_reducible first | exact HI0.out | apply IsS75.alloc | apply IsS75.drewN | apply IsS75.drew | apply IsS75.set_1 | apply IsS75.set_2) | exact HI0.out)) (by (with_reducible repeat (first | apply Kd.R_alloc | apply Kd.R_drewN | apply Kd.R_drew)); exact HO340.out) (by decide)) hk (fun _ h => h.2)) (fun _ h => h.1)); have n1_ := Aside0.mk (KeepBut.trans (by repeat (first | (with_reducible first | exact HK.out | apply KeepBut.set_ | apply keep_drewN | apply keep_drew | apply keep_alloc) | exact HK.out)) hk (.inl rfl)); have n2_ := Aside0.mk (hb); have n3_ := Aside0.mk (hi); clear HO340; clear HK; clear HB; clear HI0; have HO340 := n0_; have HK := n1_; have HB := n2_; have HI0 := n3_; clear n0_ n1_ n2_ n3_; (try clear hb); (try clear hb2); (try clear hk); (try clear hi)))
      go_ret
      exact ⟨_, by first | rfl | (simp [errW_none, errW_some] <;> rfl) | (simp [*, errW_none, errW_some] <;> rfl), by (with_reducible repeat (first | apply Kd.R_alloc | apply Kd.R_drewN | apply Kd.R_drew)); exact HO340.out, by repeat (first | (with_reducible first | exact HI0.out | apply IsS75.alloc | apply IsS75.drewN | apply IsS75.drew | apply IsS75.set_1 | apply IsS75.set_2) | exact HI0.out), by repeat (first | (with_reducible first | exact HB.out | apply below_alloc | apply pw_below_drewN | apply below_drew1 | refine below_set ?_ (IsS75.ge HI0.out)) | exact HB.out), by repeat (first | (with_reducible first | exact HK.out | apply KeepBut.set_ | apply keep_drewN | apply keep_drew | apply keep_alloc) | exact HK.out)⟩
end Go.Proofs.Ytmljihfaapoakaa.PFnMessages
end

section
namespace Go.Proofs.Ytmljihfaapoakaa.PFnMessages
open Go.RowKit Go.Proofs.YtmljihfaapoakaaW.PrintWords
set_option linter.unusedSimpArgs false
set_option linter.unusedVariables false
theorem cmdText_C (op tok seq topic dev edge ep up : Int) (tx : ByteArray) (htx : tx.size ≤ 8) (w : World) :
    Calls Try.prog 66 #[.agg #[.int .i64 op, .int .i64 tok, .int .i64 seq, .int .i64 topic, .int .i64 dev, .int .i64 edge, .int .i64 ep, .int .i64 up, .string tx]] w fun e w' =>
      (∃ (d : ByteArray) (b : Bool), e = .returned (.tuple #[.string d, .bool b]) ∧ d.size ≤ 60) ∧ Below w.heap.size w w' := by
  refine (spec_CommandText op tok seq topic dev edge ep up tx w).mono ?_
  rintro e w' ⟨rfl, hb⟩
  refine ⟨⟨_, _, rfl, ?_⟩, hb⟩
  split
  · rename_i hk
    have hr := cmdOk_range hk
    have s0 := byteS_size op
    have s1 := varS_size tok (by omega) (by omega)
    have s2 := varS_size seq (by omega) (by omega)
    have s6 := varS_size ep (by omega) (by omega)
    have s7 := varS_size up (by omega) (by omega)
    have s8 := varS_size tx.size (by omega) (by omega)
    unfold cmdS shortS
    simp only [ByteArray.size_append, strOfNums_size, List.length_cons, List.length_nil]
    omega
  · show (0 : Nat) ≤ 60; omega
theorem conf_l (bs : List Int) (hb : bs.length ≤ 1048576) : ∀ (n k : Nat) (out : List Int) (x i h : Int), 5 - x ≤ n → n < k → 1 ≤ x → x ≤ 5 → (out.length : Int) + 1 ≤ x → (∀ y ∈ out, 1 ≤ y ∧ y ≤ 4) → 0 ≤ i → i ≤ (bs.length : Int) →
    ∃ r i' h', spec_l05Conf.l0 k out x bs i h = some (r, i', h') ∧ r.length ≤ 4 ∧ 0 ≤ i' ∧ i' ≤ (bs.length : Int)
  | n, 0, _, _, _, _, _, hk, _, _, _, _, _, _ => by omega
  | n, k + 1, out, x, i, h, hn, hk, hx, hx5, hl, hm, h0, h1 => by
    unfold spec_l05Conf.l0
    by_cases h4 : x ≤ 4
    · rw [if_pos h4]
      obtain ⟨r, i1, s1, e1, h2, h3⟩ := once_t bs i h 2 h0 h1 hb
      rw [e1, Option.bind_some]
      have e : wrap64 (x + 1) = x + 1 := by unfold wrap64; omega
      obtain ⟨n, rfl⟩ : ∃ m, n = m + 1 := ⟨n - 1, by omega⟩
      rw [e]
      cases r with
      | true =>
        simp only [if_true]
        rw [if_pos (by omega)]
        exact conf_l bs hb n k (out ++ [x]) (x + 1) i1 s1 (by omega) (by omega) (by omega) (by omega) (by simp; omega) (by intro y hy; rcases List.mem_append.1 hy with h | h; exact hm y h; simp at h; omega) h2 h3
      | false =>
        simp only [Bool.false_eq_true, if_false]
        exact conf_l bs hb n k out (x + 1) i1 s1 (by omega) (by omega) (by omega) (by omega) (by omega) hm h2 h3
    · rw [if_neg h4]
      by_cases hz : (out.length : Int) = 0
      · rw [if_pos hz, if_pos (by omega)]
        exact ⟨_, _, _, rfl, by simp; omega, h0, h1⟩
      · rw [if_neg hz]
        exact ⟨_, _, _, rfl, by omega, h0, h1⟩
theorem conf_C {w0 w : World} {g : Nat} (hc : Cur w0 w g) :
    Calls Try.prog 63 #[.pointer (some ⟨g, 0, none⟩)] w fun e w' => ∃ (A : Option Addr) (c : Nat) (xs : List Int), e = .returned (.slice A xs.length c) ∧ xs.length ≤ c ∧ xs.length ≤ 4 ∧ Kd.C (Kd.int .i64) w' A xs.length xs ∧ Dw w0 w g w' := by
  obtain ⟨bs, i, s, h1, h2, h3, h4, h5⟩ := hc
  obtain ⟨r, i', s', e, hm, h6, h7⟩ := conf_l bs h1 4 5 [] 1 i s (by omega) (by omega) (by omega) (by omega) (by simp) (by simp) h2 h3
  refine (spec_l05Conf.calls 5 g bs i s r i' s' w0 w h4 h5 e).mono ?_
  rintro e w' ⟨v, rfl, hR, k1, k2, k3⟩
  obtain ⟨A, c, rfl, hcap, hC⟩ := Kd.R_reads hR
  exact ⟨A, c, r, rfl, hcap, hm, hC, ⟨bs, i', s', h1, h6, h7, k1, k2⟩, k3⟩
theorem confText_C (A : Option Addr) (c : Nat) (xs : List Int) (w : World) (hr : Kd.C (Kd.int .i64) w A xs.length xs) (hc : xs.length ≤ c) (hl : xs.length ≤ 4) :
    Calls Try.prog 58 #[.slice A xs.length c] w fun e w' => (∃ (d : ByteArray) (b : Bool), e = .returned (.tuple #[.string d, .bool b]) ∧ d.size ≤ 60) ∧ Below w.heap.size w w' := by
  have hf := sctext_f xs (xs.length + 1) (by omega) (by omega)
  cases hk : confOk xs with
  | true =>
    rw [hk, if_pos rfl] at hf
    refine (spec_ConfText.calls (xs.length + 1) A c xs _ _ w hr hc hf).mono ?_
    rintro e w' h
    have hz : (strOfNums (confBs xs)).size ≤ 60 := by rw [strOfNums_size]; simp [confBs]; omega
    first | (obtain ⟨rfl, hb⟩ := h; exact ⟨⟨_, _, rfl, hz⟩, hb⟩) | (obtain ⟨rfl, ⟨n, rfl⟩⟩ := h; exact ⟨⟨_, _, rfl, hz⟩, bl_drewN (Below.refl _ _) n⟩)
  | false =>
    rw [hk, if_neg (by simp)] at hf
    refine (spec_ConfText.calls (xs.length + 1) A c xs _ _ w hr hc hf).mono ?_
    rintro e w' h
    have hz : (⟨#[]⟩ : ByteArray).size ≤ 60 := by decide
    first | (obtain ⟨rfl, hb⟩ := h; exact ⟨⟨_, _, rfl, hz⟩, hb⟩) | (obtain ⟨rfl, ⟨n, rfl⟩⟩ := h; exact ⟨⟨_, _, rfl, hz⟩, bl_drewN (Below.refl _ _) n⟩)
set_option maxHeartbeats 2000000 in
set_option maxRecDepth 100000 in
theorem right_C {w0 w : World} {g : Nat} (hc : Cur w0 w g) :
    Calls Try.prog 67 #[.pointer (some ⟨g, 0, none⟩)] w fun e w' => (∃ (a0 a1 a2 a3 a4 a5 a6 a7 : Int) (s : ByteArray), e = .returned (.agg #[.int .i64 a0, .int .i64 a1, .int .i64 a2, .int .i64 a3, .int .i64 a4, .int .i64 a5, .int .i64 a6, .int .i64 a7, .string s]) ∧ s.size ≤ 8) ∧ Dw w0 w g w' := by
  have hgl := hc.lt
  have hws := hc.bl.size
  go_enter Try.func67, Try.ntmps67
  go_wp2_with fail
  refine calls_at (fun W => Dw w0 w g W ∧ Blk 91 w.heap.size #[.int .i64 0, .int .i64 0, .int .i64 0, .int .i64 0, .int .i64 0, .int .i64 0, .int .i64 0, .int .i64 0, .string ⟨#[]⟩] W) ⟨(Dw.start hc).alloc _, Blk.new _ _ w⟩ ?_
  rintro W1 ⟨D1, k4⟩
  refine (below_C 5 D1.1).mono ?_
  rintro e W2 ⟨r2, rfl, hr2, hc2, hk2⟩
  have D2 := D1.step hc2 hk2
  replace k4 := blk_keep k4 hk2 (by omega)
  clear D1 hc2 hk2
  go_wp2_with fail
  refine (below_C 4 D2.1).mono ?_
  rintro e W3 ⟨r3, rfl, hr3, hc3, hk3⟩
  have D3 := D2.step hc3 hk3
  replace k4 := blk_keep k4 hk3 (by omega)
  clear D2 hc3 hk3
  have z3 := D3.size
  go_wp2_with fail
  refine calls_at (fun W => Dw w0 w g W ∧ Blk 91 w.heap.size #[.int .i64 0, .int .i64 0, .int .i64 0, .int .i64 0, .int .i64 0, .int .i64 0, .int .i64 0, .int .i64 0, .string ⟨#[]⟩] W ∧ Blk 96 W3.heap.size #[.int .i64 (1 + r2), .int .i64 r3, .slice none 0 0] W) ⟨(D3.alloc _).alloc _, (k4.alloc _).alloc _, (Blk.new _ _ W3).alloc _⟩ ?_
  rintro W4 ⟨D4, k4', kS⟩
  refine (cmd_C D4.1 _ r3 (by omega) kS (by omega)).mono ?_
  rintro e W5 ⟨⟨a0, a1, a2, a3, a4, a5, a6, a7, s, rfl, hs⟩, D5⟩
  have D6 := D4.step D5.1 D5.2
  have k6 := blk_keep k4' D5.2 (by omega)
  have l6 := k6.lt
  have c0 := k6.cell 0 rfl
  have c1 := k6.cell 1 rfl
  have c2 := k6.cell 2 rfl
  have c3 := k6.cell 3 rfl
  have c4 := k6.cell 4 rfl
  have c5 := k6.cell 5 rfl
  have c6 := k6.cell 6 rfl
  have c7 := k6.cell 7 rfl
  have c8 := k6.cell 8 rfl
  have f0 := k6.free 0
  have f1 := k6.free 1
  have f2 := k6.free 2
  have f3 := k6.free 3
  have f4 := k6.free 4
  have f5 := k6.free 5
  have f6 := k6.free 6
  have f7 := k6.free 7
  have f8 := k6.free 8
  go_wp2_with fail
  exact bodyPost_ret (results_cell_row rfl _ _ w.heap.size 91 #[.int .i64 a0, .int .i64 a1, .int .i64 a2, .int .i64 a3, .int .i64 a4, .int .i64 a5, .int .i64 a6, .int .i64 a7, .string s] (0, 0) _ rfl (cmd_fill k6 a0 a1 a2 a3 a4 a5 a6 a7 s) Try.underlying91 rfl (by kernel_rfl)) rfl ⟨⟨a0, a1, a2, a3, a4, a5, a6, a7, s, rfl, hs⟩, dw_fill D6 hgl (Nat.le_refl _) hws a0 a1 a2 a3 a4 a5 a6 a7 s⟩
def EntAt (w0 w : World) (g b5 : Nat) (W : World) : Prop := Dw w0 w g W ∧ Blk 43 w.heap.size #[.int .i64 0, .int .i64 0, .string ⟨#[]⟩] W ∧ ∃ (t k : Int) (d : ByteArray), d.size ≤ 200 ∧ Blk 43 b5 #[.int .i64 t, .int .i64 k, .string d] W
section
set_option linter.unusedSectionVars false
variable {w0 w : World} {g b5 : Nat} {W : World} (hg : g < w.heap.size) (h5 : w.heap.size + 1 ≤ b5) (h0 : w0.heap.size ≤ w.heap.size)
include hg h5
theorem EntAt.step {W' : World} (h : EntAt w0 w g b5 W) (hc : Cur w0 W' g) (hk : KeepBut W W' g none) : EntAt w0 w g b5 W' := by
  obtain ⟨D, k4, t, k, d, hd, k5⟩ := h
  exact ⟨D.step hc hk, blk_keep k4 hk (by omega), t, k, d, hd, blk_keep k5 hk (by omega)⟩
theorem EntAt.below {W' : World} (h : EntAt w0 w g b5 W) (hb : Below W.heap.size W W') : EntAt w0 w g b5 W' := by
  obtain ⟨D, k4, t, k, d, hd, k5⟩ := h
  exact ⟨D.below hb, k4.below hb, t, k, d, hd, k5.below hb⟩
theorem EntAt.alloc (h : EntAt w0 w g b5 W) (o : Obj) : EntAt w0 w g b5 (W.alloc o) := h.below hg h5 (bl_alloc (Below.refl _ _) o)
include h0
theorem EntAt.set0 (h : EntAt w0 w g b5 W) (v : Int) : EntAt w0 w g b5 (W.setCell ⟨b5, 0, none⟩ (.int .i64 v)) := by
  obtain ⟨D, k4, t, k, d, hd, k5⟩ := h
  exact ⟨D.far hg (p := ⟨b5, 0, none⟩) (by show w.heap.size ≤ b5; omega) _ h0, k4.far (by show w.heap.size ≠ b5; omega) _, v, k, d, hd, k5.set 0 _ rfl⟩
theorem EntAt.set1 (h : EntAt w0 w g b5 W) (v : Int) : EntAt w0 w g b5 (W.setCell ⟨b5, 1, none⟩ (.int .i64 v)) := by
  obtain ⟨D, k4, t, k, d, hd, k5⟩ := h
  exact ⟨D.far hg (p := ⟨b5, 1, none⟩) (by show w.heap.size ≤ b5; omega) _ h0, k4.far (by show w.heap.size ≠ b5; omega) _, t, v, d, hd, k5.set 1 _ rfl⟩
theorem EntAt.set2 (h : EntAt w0 w g b5 W) (v : ByteArray) (hv : v.size ≤ 200) : EntAt w0 w g b5 (W.setCell ⟨b5, 2, none⟩ (.string v)) := by
  obtain ⟨D, k4, t, k, d, hd, k5⟩ := h
  exact ⟨D.far hg (p := ⟨b5, 2, none⟩) (by show w.heap.size ≤ b5; omega) _ h0, k4.far (by show w.heap.size ≠ b5; omega) _, t, k, v, hv, k5.set 2 _ rfl⟩
end
theorem ent_fill {T b : Nat} {W : World} (h : Blk T b #[.int .i64 0, .int .i64 0, .string ⟨#[]⟩] W) (t k : Int) (d : ByteArray) : Blk T b #[.int .i64 t, .int .i64 k, .string d] (((W.setCell ⟨b, 0, none⟩ (.int .i64 t)).setCell ⟨b, 1, none⟩ (.int .i64 k)).setCell ⟨b, 2, none⟩ (.string d)) := by
  have z0 := h.set 0 (.int .i64 t) (cs' := #[.int .i64 t, .int .i64 0, .string ⟨#[]⟩]) rfl
  have z1 := z0.set 1 (.int .i64 k) (cs' := #[.int .i64 t, .int .i64 k, .string ⟨#[]⟩]) rfl
  exact z1.set 2 (.string d) (cs' := #[.int .i64 t, .int .i64 k, .string d]) rfl
theorem dw_ent {w0 w W : World} {g b : Nat} (D : Dw w0 w g W) (hg : g < w.heap.size) (hb : w.heap.size ≤ b) (h0 : w0.heap.size ≤ w.heap.size) (t k : Int) (d : ByteArray) :
    Dw w0 w g (((W.setCell ⟨b, 0, none⟩ (.int .i64 t)).setCell ⟨b, 1, none⟩ (.int .i64 k)).setCell ⟨b, 2, none⟩ (.string d)) := by
  have z0 := D.far hg (p := ⟨b, 0, none⟩) hb (.int .i64 t) h0
  have z1 := z0.far hg (p := ⟨b, 1, none⟩) hb (.int .i64 k) h0
  exact z1.far hg (p := ⟨b, 2, none⟩) hb (.string d) h0
def EntV (e : Ending) : Prop := ∃ (t k : Int) (d : ByteArray), e = .returned (.agg #[.int .i64 t, .int .i64 k, .string d]) ∧ d.size ≤ 200
set_option maxHeartbeats 2000000 in
set_option maxRecDepth 100000 in
theorem ent_C {w0 w : World} {g : Nat} (hc : Cur w0 w g) (term : Int) :
    Calls Try.prog 62 #[.pointer (some ⟨g, 0, none⟩), .int .i64 term] w fun e w' => EntV e ∧ Dw w0 w g w' := by
  have hgl := hc.lt
  have hws := hc.bl.size
  go_enter Try.func62, Try.ntmps62
  go_wp2_with fail
  refine calls_at (fun W => Dw w0 w g W ∧ Blk 43 w.heap.size #[.int .i64 0, .int .i64 0, .string ⟨#[]⟩] W ∧ Blk 3 (w.heap.size + 1) (([1, 2, 3, 3, 3] : List Int).map (Value.int .i64)).toArray W) ⟨((Dw.start hc).alloc _).alloc _, (Blk.new _ _ w).alloc _, Blk.newE _ _ (w.alloc _) (by simp)⟩ ?_
  rintro W1 ⟨D1, k4, kl⟩
  refine (pickInt_C _ 5 [1, 2, 3, 3, 3] (by decide) D1.1 (blk_ints _ (by decide) kl) (by decide) (by rintro ad ⟨⟩; show w.heap.size + 1 ≠ g; omega)).mono ?_
  rintro e W2 ⟨r, rfl, -, hc2, hk2⟩
  have D2 := D1.step hc2 hk2
  replace k4 := blk_keep k4 hk2 (by omega)
  clear D1 hk2 kl hc2 W1
  go_upto_region 2 with fail
  have h5 : w.heap.size + 1 ≤ W2.heap.size := by have := k4.lt; omega
  obtain ⟨b5, hb5⟩ : ∃ b5, b5 = W2.heap.size := ⟨_, rfl⟩
  refine wp_at (EntAt w0 w g b5) ⟨D2.alloc _, k4.alloc _, term, r, ⟨#[]⟩, by decide, Blk.newE _ _ W2 hb5⟩ ?_
  rw [← hb5] at h5 ⊢
  clear D2 k4 hb5 W2
  intro W hW
  obtain ⟨D, k4, t, k, d, hd, k5⟩ := id hW
  have c1 := k5.cell 1 rfl
  have c2 := k5.cell 2 rfl
  have l5 := k5.lt
  obtain ⟨o2, ho2⟩ : ∃ q, (k == 2) = q := ⟨_, rfl⟩
  obtain ⟨o3, ho3⟩ : ∃ q, (k == 3) = q := ⟨_, rfl⟩
  cases o2 with
  | true =>
    go_wp2_with fail
    clear c1 c2 l5 k4 k5 hd t ho3
    refine (conf_C D.1).mono ?_
    rintro e W3 ⟨A, c, xs, rfl, hcap, hxs, hC, D3⟩
    have hV := hW.step hgl h5 D3.1 D3.2
    clear hW D
    go_wp2_with fail
    refine (confText_C A c xs _ hC hcap hxs).mono ?_
    rintro e W4 ⟨⟨d4, b4, rfl, hd4⟩, hb4⟩
    have hU := hV.below hgl h5 hb4
    clear hV D3 hC hb4
    obtain ⟨D, k4, t, k', d, hd, k5⟩ := id hU
    have c2 := k5.cell 2 rfl
    have f2 := k5.free 2
    have l5 := k5.lt
    go_upto_region 7 with fail
    refine wp_at (EntAt w0 w g b5) ((hU.set2 hgl h5 hws d4 (by omega))) ?_
    rintro Wz ⟨D, k4, t, k, d, hd, k5⟩
    have c0 := k5.cell 0 rfl
    have c1 := k5.cell 1 rfl
    have c2 := k5.cell 2 rfl
    have l5 := k5.lt
    have l4 := k4.lt
    have x0 := k4.cell 0 rfl
    have x1 := k4.cell 1 rfl
    have x2 := k4.cell 2 rfl
    have y0 := k4.free 0
    have y1 := k4.free 1
    have y2 := k4.free 2
    have n45 : w.heap.size ≠ b5 := by omega
    go_wp2_with fail
    exact bodyPost_ret (results_cell_row rfl _ _ w.heap.size 43 #[.int .i64 t, .int .i64 k, .string d] (0, 0) _ rfl (ent_fill k4 t k d) Try.underlying43 rfl (by kernel_rfl)) rfl ⟨⟨t, k, d, rfl, hd⟩, dw_ent D hgl (Nat.le_refl _) hws t k d⟩
  | false =>
    cases o3 with
    | true =>
      go_wp2_with fail
      clear c1 c2 l5 k4 k5 hd t
      refine (right_C D.1).mono ?_
      rintro e W3 ⟨⟨a0, a1, a2, a3, a4, a5, a6, a7, s, rfl, hs⟩, D3⟩
      have hV := hW.step hgl h5 D3.1 D3.2
      clear hW D
      go_wp2_with fail
      refine (cmdText_C _ _ _ _ _ _ _ _ s hs _).mono ?_
      rintro e W4 ⟨⟨d4, b4, rfl, hd4⟩, hb4⟩
      have hU := hV.below hgl h5 hb4
      clear hV D3 hb4
      obtain ⟨D, k4, t, k', d, hd, k5⟩ := id hU
      have c2 := k5.cell 2 rfl
      have f2 := k5.free 2
      have l5 := k5.lt
      go_upto_region 7 with fail
      refine wp_at (EntAt w0 w g b5) ((hU.set2 hgl h5 hws d4 (by omega))) ?_
      rintro Wz ⟨D, k4, t, k, d, hd, k5⟩
      have c0 := k5.cell 0 rfl
      have c1 := k5.cell 1 rfl
      have c2 := k5.cell 2 rfl
      have l5 := k5.lt
      have l4 := k4.lt
      have x0 := k4.cell 0 rfl
      have x1 := k4.cell 1 rfl
      have x2 := k4.cell 2 rfl
      have y0 := k4.free 0
      have y1 := k4.free 1
      have y2 := k4.free 2
      have n45 : w.heap.size ≠ b5 := by omega
      go_wp2_with fail
      exact bodyPost_ret (results_cell_row rfl _ _ w.heap.size 43 #[.int .i64 t, .int .i64 k, .string d] (0, 0) _ rfl (ent_fill k4 t k d) Try.underlying43 rfl (by kernel_rfl)) rfl ⟨⟨t, k, d, rfl, hd⟩, dw_ent D hgl (Nat.le_refl _) hws t k d⟩
    | false =>
      go_upto_region 7 with fail
      refine wp_at (EntAt w0 w g b5) (hW) ?_
      rintro Wz ⟨D, k4, t, k, d, hd, k5⟩
      have c0 := k5.cell 0 rfl
      have c1 := k5.cell 1 rfl
      have c2 := k5.cell 2 rfl
      have l5 := k5.lt
      have l4 := k4.lt
      have x0 := k4.cell 0 rfl
      have x1 := k4.cell 1 rfl
      have x2 := k4.cell 2 rfl
      have y0 := k4.free 0
      have y1 := k4.free 1
      have y2 := k4.free 2
      have n45 : w.heap.size ≠ b5 := by omega
      go_wp2_with fail
      exact bodyPost_ret (results_cell_row rfl _ _ w.heap.size 43 #[.int .i64 t, .int .i64 k, .string d] (0, 0) _ rfl (ent_fill k4 t k d) Try.underlying43 rfl (by kernel_rfl)) rfl ⟨⟨t, k, d, rfl, hd⟩, dw_ent D hgl (Nat.le_refl _) hws t k d⟩
set_option maxHeartbeats 2000000 in
set_option maxRecDepth 100000 in
theorem any_C {w0 w : World} {g : Nat} (hc : Cur w0 w g) :
    Calls Try.prog 45 #[.pointer (some ⟨g, 0, none⟩)] w fun e w' => EntV e ∧ Dw w0 w g w' := by
  have hgl := hc.lt
  have hws := hc.bl.size
  go_enter Try.func45, Try.ntmps45
  go_wp2_with fail
  refine calls_at (fun W => Dw w0 w g W ∧ Blk 43 w.heap.size #[.int .i64 0, .int .i64 0, .string ⟨#[]⟩] W) ⟨(Dw.start hc).alloc _, Blk.new _ _ w⟩ ?_
  rintro W1 ⟨D1, k4⟩
  refine (below_C 9 D1.1).mono ?_
  rintro e W2 ⟨r2, rfl, -, hc2, hk2⟩
  have D2 := D1.step hc2 hk2
  replace k4 := blk_keep k4 hk2 (by omega)
  clear D1 hk2 hc2 W1
  go_wp2_with fail
  refine (ent_C D2.1 r2).mono ?_
  rintro e W3 ⟨⟨t, k, d, rfl, hd⟩, D3⟩
  have D4 := D2.step D3.1 D3.2
  replace k4 := blk_keep k4 D3.2 (by omega)
  clear D2 D3 W2
  go_upto_region 2 with fail
  have h5 : w.heap.size + 1 ≤ W3.heap.size := by have := k4.lt; omega
  obtain ⟨b5, hb5⟩ : ∃ b5, b5 = W3.heap.size := ⟨_, rfl⟩
  refine wp_at (EntAt w0 w g b5) ⟨D4.alloc _, k4.alloc _, t, k, d, hd, Blk.newE _ _ W3 hb5⟩ ?_
  rw [← hb5] at h5 ⊢
  clear D4 k4 hb5 W3
  intro W hW
  go_wp2_with fail
  refine (below_C 30 hW.1.1).mono ?_
  rintro e W4 ⟨r4, rfl, -, hc4, hk4⟩
  have hV := hW.step hgl h5 hc4 hk4
  clear hW hc4 hk4 W
  obtain ⟨o0, ho0⟩ : ∃ q, (r4 == 0) = q := ⟨_, rfl⟩
  obtain ⟨o1, ho1⟩ : ∃ q, (r4 == 1) = q := ⟨_, rfl⟩
  obtain ⟨o2, ho2⟩ : ∃ q, (r4 == 2) = q := ⟨_, rfl⟩
  cases o0 with
  | true =>
    go_wp2_with fail
    refine calls_at (fun W => EntAt w0 w g b5 W ∧ Blk 3 W4.heap.size (([-1, 100000, 100001] : List Int).map (Value.int .i64)).toArray W) ⟨hV.alloc hgl h5 _, Blk.new _ _ W4⟩ ?_
    rintro W5 ⟨hU, kl⟩
    refine (pickInt_C _ 3 [-1, 100000, 100001] (by decide) hU.1.1 (blk_ints _ (by decide) kl) (by decide) (by rintro ad ⟨⟩; show W4.heap.size ≠ g; have := hV.1.size; omega)).mono ?_
    rintro e W6 ⟨r6, rfl, -, hc6, hk6⟩
    have hX := hU.step hgl h5 hc6 hk6
    clear hU kl hc6 hk6
    obtain ⟨D, k4, t, k, d, hd, k5⟩ := id hX
    have c0 := k5.cell 0 rfl
    have f0 := k5.free 0
    have l5 := k5.lt
    go_upto_region 9 with fail
    refine wp_at (EntAt w0 w g b5) (hX.set0 hgl h5 hws r6) ?_
    rintro Wz ⟨D, k4, t, k, d, hd, k5⟩
    have c0 := k5.cell 0 rfl
    have c1 := k5.cell 1 rfl
    have c2 := k5.cell 2 rfl
    have l5 := k5.lt
    have l4 := k4.lt
    have x0 := k4.cell 0 rfl
    have x1 := k4.cell 1 rfl
    have x2 := k4.cell 2 rfl
    have y0 := k4.free 0
    have y1 := k4.free 1
    have y2 := k4.free 2
    have n45 : w.heap.size ≠ b5 := by omega
    go_wp2_with fail
    exact bodyPost_ret (results_cell_row rfl _ _ w.heap.size 43 #[.int .i64 t, .int .i64 k, .string d] (0, 0) _ rfl (ent_fill k4 t k d) Try.underlying43 rfl (by kernel_rfl)) rfl ⟨⟨t, k, d, rfl, hd⟩, dw_ent D hgl (Nat.le_refl _) hws t k d⟩
  | false =>
    cases o1 with
    | true =>
      go_wp2_with fail
      refine calls_at (fun W => EntAt w0 w g b5 W ∧ Blk 3 W4.heap.size (([0, 4, 1, 2] : List Int).map (Value.int .i64)).toArray W) ⟨hV.alloc hgl h5 _, Blk.new _ _ W4⟩ ?_
      rintro W5 ⟨hU, kl⟩
      refine (pickInt_C _ 4 [0, 4, 1, 2] (by decide) hU.1.1 (blk_ints _ (by decide) kl) (by decide) (by rintro ad ⟨⟩; show W4.heap.size ≠ g; have := hV.1.size; omega)).mono ?_
      rintro e W6 ⟨r6, rfl, -, hc6, hk6⟩
      have hX := hU.step hgl h5 hc6 hk6
      clear hU kl hc6 hk6
      obtain ⟨D, k4, t, k, d, hd, k5⟩ := id hX
      have c1 := k5.cell 1 rfl
      have f1 := k5.free 1
      have l5 := k5.lt
      go_upto_region 9 with fail
      refine wp_at (EntAt w0 w g b5) (hX.set1 hgl h5 hws r6) ?_
      rintro Wz ⟨D, k4, t, k, d, hd, k5⟩
      have c0 := k5.cell 0 rfl
      have c1 := k5.cell 1 rfl
      have c2 := k5.cell 2 rfl
      have l5 := k5.lt
      have l4 := k4.lt
      have x0 := k4.cell 0 rfl
      have x1 := k4.cell 1 rfl
      have x2 := k4.cell 2 rfl
      have y0 := k4.free 0
      have y1 := k4.free 1
      have y2 := k4.free 2
      have n45 : w.heap.size ≠ b5 := by omega
      go_wp2_with fail
      exact bodyPost_ret (results_cell_row rfl _ _ w.heap.size 43 #[.int .i64 t, .int .i64 k, .string d] (0, 0) _ rfl (ent_fill k4 t k d) Try.underlying43 rfl (by kernel_rfl)) rfl ⟨⟨t, k, d, rfl, hd⟩, dw_ent D hgl (Nat.le_refl _) hws t k d⟩
    | false =>
      cases o2 with
      | true =>
        go_wp2_with fail
        refine (below_C 2 hV.1.1).mono ?_
        rintro e W5 ⟨r5, rfl, hr5, hc5, hk5⟩
        have hX := hV.step hgl h5 hc5 hk5
        clear hV hc5 hk5
        go_wp2_with fail
        refine (long_C _ 65 W5 (by omega) (by omega)).mono ?_
        rintro e W6 ⟨d6, rfl, hd6, hb6⟩
        have hY := hX.below hgl h5 hb6
        clear hX hb6
        obtain ⟨D, k4, t, k, d, hd, k5⟩ := id hY
        have c0 := k5.cell 0 rfl
        have f0 := k5.free 0
        have c1 := k5.cell 1 rfl
        have f1 := k5.free 1
        have c2 := k5.cell 2 rfl
        have f2 := k5.free 2
        have l5 := k5.lt
        go_upto_region 9 with fail
        refine wp_at (EntAt w0 w g b5) (((hY.set0 hgl h5 hws 0).set1 hgl h5 hws 3).set2 hgl h5 hws d6 (by omega)) ?_
        rintro Wz ⟨D, k4, t, k, d, hd, k5⟩
        have c0 := k5.cell 0 rfl
        have c1 := k5.cell 1 rfl
        have c2 := k5.cell 2 rfl
        have l5 := k5.lt
        have l4 := k4.lt
        have x0 := k4.cell 0 rfl
        have x1 := k4.cell 1 rfl
        have x2 := k4.cell 2 rfl
        have y0 := k4.free 0
        have y1 := k4.free 1
        have y2 := k4.free 2
        have n45 : w.heap.size ≠ b5 := by omega
        go_wp2_with fail
        exact bodyPost_ret (results_cell_row rfl _ _ w.heap.size 43 #[.int .i64 t, .int .i64 k, .string d] (0, 0) _ rfl (ent_fill k4 t k d) Try.underlying43 rfl (by kernel_rfl)) rfl ⟨⟨t, k, d, rfl, hd⟩, dw_ent D hgl (Nat.le_refl _) hws t k d⟩
      | false =>
        go_upto_region 9 with fail
        refine wp_at (EntAt w0 w g b5) (hV) ?_
        rintro Wz ⟨D, k4, t, k, d, hd, k5⟩
        have c0 := k5.cell 0 rfl
        have c1 := k5.cell 1 rfl
        have c2 := k5.cell 2 rfl
        have l5 := k5.lt
        have l4 := k4.lt
        have x0 := k4.cell 0 rfl
        have x1 := k4.cell 1 rfl
        have x2 := k4.cell 2 rfl
        have y0 := k4.free 0
        have y1 := k4.free 1
        have y2 := k4.free 2
        have n45 : w.heap.size ≠ b5 := by omega
        go_wp2_with fail
        exact bodyPost_ret (results_cell_row rfl _ _ w.heap.size 43 #[.int .i64 t, .int .i64 k, .string d] (0, 0) _ rfl (ent_fill k4 t k d) Try.underlying43 rfl (by kernel_rfl)) rfl ⟨⟨t, k, d, rfl, hd⟩, dw_ent D hgl (Nat.le_refl _) hws t k d⟩
end Go.Proofs.Ytmljihfaapoakaa.PFnMessages
end
