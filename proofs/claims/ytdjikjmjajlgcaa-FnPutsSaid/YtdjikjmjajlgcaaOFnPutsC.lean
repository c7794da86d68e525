import Derived.Test.YtdjikjmjajlgcaaPFnPutsA
import Derived.Test.YtdjikjmjajlgcaaOFnPutsA
import Derived.Test.YtdjikjmjajlgcaaOFnPutsB
import Derived.Maps.AppendAt

/-! ### YtdjikjmjajlgcaaQFnPutsx12 -/
section
namespace Go.Proofs.Ytdjikjmjajlgcaa.PFnPuts
open Go.RowKit Go.Proofs.YtdjikjmjajlgcaaW.PrintWords Go.Proofs.YtdjikjmjajlgcaaW.PrintLast Go.Proofs.YtdjikjmjajlgcaaW.PrintMore
attribute [local go_sem] max2_int min2_int max_two min_two max_three min_three max_four min_four   -- for this text's walks alone
set_option linter.unusedVariables false
set_option linter.unusedSimpArgs false

/-! ### spec_l05Conf: function 147 -/
def spec_l05Conf.l0 : Nat → List Int → Int → List Int → Int → Int → Option (List Int × Int × Int)
  | 0, _, _, _, _, _ => none
  | k + 1, x3, x4, x1000, x1001, x1002 => if x4 ≤ 4 then ((spec_l01Once.f x1000 x1001 x1002 2).bind fun bt144 => (if bt144.1 = true then (if x3.length < 17592186044416 then (spec_l05Conf.l0 k (x3 ++ [x4]) (wrap64 (x4 + 1)) x1000 bt144.2.1 bt144.2.2) else (none)) else (spec_l05Conf.l0 k x3 (wrap64 (x4 + 1)) x1000 bt144.2.1 bt144.2.2))) else (if (x3.length : Int) = 0 then (if x3.length < 17592186044416 then (some ((x3 ++ [1]), x1001, x1002)) else (none)) else (some (x3, x1001, x1002)))
def spec_l05Conf.f (k : Nat) (s0_0 : List Int) (s0_1 : Int) (s0_2 : Int) : Option (List Int × Int × Int) := spec_l05Conf.l0 k (([] : List Int)) 1 s0_0 s0_1 s0_2
theorem spec_l05Conf.mono_l : ∀ k, (∀ y0 y1 y2 y3 y4, LeO (spec_l05Conf.l0 k y0 y1 y2 y3 y4) (spec_l05Conf.l0 (k + 1) y0 y1 y2 y3 y4))
  | 0 => fun _ _ _ _ _ r h => by simp [spec_l05Conf.l0] at h
  | k + 1 => by
    have ih0 := spec_l05Conf.mono_l k
    · intro y0 y1 y2 y3 y4
      unfold spec_l05Conf.l0
      repeat' first
      | (with_reducible exact ih0 _ _ _ _ _)
      | (with_reducible exact LeO.refl _)
      | (with_reducible exact LeO.none _)
      | (with_reducible refine LeO.ite ?_ ?_)
      | (with_reducible refine LeO.bind ?_ (fun _ => ?_))
      | exact ih0 _ _ _ _ _
      | exact LeO.none _
      | refine LeO.ite ?_ ?_
      | refine LeO.bind ?_ (fun _ => ?_)
theorem spec_l05Conf.mono : ∀ a0 a1 a2 k, LeO (spec_l05Conf.f k a0 a1 a2) (spec_l05Conf.f (k + 1) a0 a1 a2) := by
  intro a0 a1 a2 k
  have ih0 := spec_l05Conf.mono_l k
  unfold spec_l05Conf.f
  repeat' first
      | (with_reducible exact ih0 _ _ _ _ _)
      | (with_reducible exact LeO.refl _)
      | (with_reducible exact LeO.none _)
      | (with_reducible refine LeO.ite ?_ ?_)
      | (with_reducible refine LeO.bind ?_ (fun _ => ?_))
      | exact ih0 _ _ _ _ _
      | exact LeO.none _
      | refine LeO.ite ?_ ?_
      | refine LeO.bind ?_ (fun _ => ?_)
set_option maxHeartbeats 8000000 in
set_option maxRecDepth 100000 in
theorem spec_l05Conf.calls (k : Nat) (g : Nat) (s0_0 : List Int) (s0_1 : Int) (s0_2 : Int) (r1 : List Int) (r2 : Int) (r3 : Int) (w0 w : World) (hI : IsS186 w0 w g s0_0 s0_1 s0_2) (hB : Below w0.heap.size w0 w) (h : spec_l05Conf.f k s0_0 s0_1 s0_2 = some (r1, r2, r3)) :
    Calls Try.prog 147 #[.pointer (some ⟨g, 0, none⟩)] w fun e w' => ∃ v0_ : Value, e = .returned (v0_) ∧ Kd.R (Kd.int .i64) 3 w' w.heap.size (fun _ => True) v0_ r1 ∧ IsS186 w0 w' g s0_0 r2 r3 ∧ Below w0.heap.size w0 w' ∧ KeepBut w w' g none := by
  have HI0 := Aside0.mk hI
  have HK := Aside0.mk (KeepBut.refl w g none)
  have HL := Aside0.mk hB.size
  clear hI
  have HW0 := Aside0.mk hB.size
  have HB := Aside0.mk hB
  clear hB
  have H : (spec_l05Conf.l0 k (([] : List Int)) 1 s0_0 s0_1 s0_2) = some (r1, r2, r3) := h
  clear h
  obtain ⟨y141, hy141⟩ : ∃ y_ : List Int, y_ = (([] : List Int)) := ⟨_, rfl⟩
  replace H : (spec_l05Conf.l0 k y141 1 s0_0 s0_1 s0_2) = some (r1, r2, r3) := by first | (rw [hy141]; with_reducible exact H) | (have H2_ := (Option.bind_some _ _).symm.trans H; rw [hy141]; with_reducible exact H2_) | (have H2_ := (Option.bind_some _ _).symm.trans H; with_reducible exact H2_) | with_reducible exact H | (rw [hy141]; exact H) | exact H
  have Ny141 := Aside0.mk hy141
  clear hy141
  have H' := Aside0.mk H
  clear H
  go_enter Try.func147, Try.ntmps147
  go_wp2_with (first | ((with_reducible refine gate_dst (N := 5) rfl ?_); refine Kd.R_lit (Kd.int .i64) _ 3 ?hg (N := 5) ?hd (xs := ([] : List Int)) (inner := []) (ok := fun _ => True) (okp := fun _ => True) ?hr ?hp (fun _ hk => hk) trivial (Below.refl _ _) (Nat.le_refl _) (by simp) ?_; (case hd => rfl); (case hg => rfl); (case hr => first | (go_simp; done) | (go_simp; rfl)); (case hp => exact (Reps.none _ _)); intro v142 w2 ho3 hb hg_ hnew_; clear hg_ hnew_; (first | rw [← Ny141.out] at ho3 | (simp only [Int.reduceToNat] at ho3; rw [← Ny141.out] at ho3)); have n0_ := Aside0.mk (Kd.R_lower ho3 (keep_size (w := w) (g := g) (row := none) (by repeat (first | (with_reducible first | exact HK.out | apply KeepBut.set_ | apply keep_drewN | apply keep_drew | apply keep_alloc) | exact HK.out)))); have n1_ := Aside0.mk (IsS186.below (by repeat (first | (with_reducible first | exact HI0.out | apply IsS186.alloc | apply IsS186.drewN | apply IsS186.drew | apply IsS186.set_1 | apply IsS186.set_2) | exact HI0.out)) hb); have n2_ := Aside0.mk (KeepBut.trans (by repeat (first | (with_reducible first | exact HK.out | apply KeepBut.set_ | apply keep_drewN | apply keep_drew | apply keep_alloc) | exact HK.out)) (KeepBut.of_below hb g none) (.inl rfl)); have n3_ := Aside0.mk (below_step (by repeat (first | (with_reducible first | exact HB.out | apply below_alloc | apply pw_below_drewN | apply below_drew1 | refine below_set ?_ (IsS186.ge HI0.out)) | exact HB.out)) hb); clear HI0; clear HK; clear HB; have HO143 := n0_; have HI0 := n1_; have HK := n2_; have HB := n3_; clear n0_ n1_ n2_ n3_; clear hb ho3))
  go_loopg [3, 4] k (fun kq v3 v4 w' => ∃ (x3_1 : List Int) (x4_1 : Int) (x1001_1 : Int) (x1002_1 : Int), v4 = .int .i64 x4_1 ∧ Aside0 (spec_l05Conf.l0 kq x3_1 x4_1 s0_0 x1001_1 x1002_1 = some (r1, r2, r3)) ∧ Aside0 (kq ≤ k) ∧ Aside0 (Kd.R (Kd.int .i64) 3 w' w.heap.size (fun _ => True) v3 x3_1) ∧ Aside0 (IsS186 w0 w' g s0_0 x1001_1 x1002_1) ∧ Aside0 (KeepBut w w' g none) ∧ Aside0 (Below w0.heap.size w0 w'))
  case atStart => exact ⟨(y141), (1), (s0_1), (s0_2), (by first | rfl | (simp; done) | (simp [*]; done)), H', ⟨Nat.le_refl _⟩, ⟨by (with_reducible repeat (first | apply Kd.R_alloc | apply Kd.R_drewN | apply Kd.R_drew)); exact HO143.out⟩, ⟨by repeat (first | (with_reducible first | exact HI0.out | apply IsS186.alloc | apply IsS186.drewN | apply IsS186.drew | apply IsS186.set_1 | apply IsS186.set_2) | exact HI0.out)⟩, ⟨by repeat (first | (with_reducible first | exact HK.out | apply KeepBut.set_ | apply keep_drewN | apply keep_drew | apply keep_alloc) | exact HK.out)⟩, ⟨by repeat (first | (with_reducible first | exact HB.out | apply below_alloc | apply pw_below_drewN | apply below_drew1 | refine below_set ?_ (IsS186.ge HI0.out)) | exact HB.out)⟩⟩
  case round =>
    clear H'
    try clear c1
    try clear p2
    obtain ⟨x3_1, x4_1, x1001_1, x1002_1, rfl, HA, HK1, HO_3, HI0, HK, HB⟩ := hrel
    cases gk with
    | zero => exact absurd HA.out (by simp [spec_l05Conf.l0])
    | succ k1 =>
      have H := HA.out
      clear HA
      simp only [spec_l05Conf.l0] at H
      by_cases c4 : x4_1 ≤ 4
      · rw [if_pos c4] at H
        have c4b0 : decide (x4_1 ≤ 4) = true := decide_eq_true c4
        clear c4
        replace H := Option.bind_eq_some_iff.mp H
        obtain ⟨⟨t144, t145, t146⟩, A50, H⟩ := H
        replace H : (if t144 = true then (if x3_1.length < 17592186044416 then (spec_l05Conf.l0 k1 (x3_1 ++ [x4_1]) (wrap64 (x4_1 + 1)) s0_0 t145 t146) else (none)) else (spec_l05Conf.l0 k1 x3_1 (wrap64 (x4_1 + 1)) s0_0 t145 t146)) = some (r1, r2, r3) := H
        have A5 := Aside0.mk A50
        clear A50
        by_cases c6 : t144 = true
        · subst c6
          have H1 : (if x3_1.length < 17592186044416 then (spec_l05Conf.l0 k1 (x3_1 ++ [x4_1]) (wrap64 (x4_1 + 1)) s0_0 t145 t146) else (none)) = some (r1, r2, r3) := by rw [if_pos rfl] at H; exact H
          clear H
          have H := H1
          clear H1
          by_cases c7 : x3_1.length < 17592186044416
          · rw [if_pos c7] at H
            have LMc7 := Aside0.mk c7
            clear c7
            obtain ⟨y147, hy147⟩ : ∃ y_ : List Int, y_ = (x3_1 ++ [x4_1]) := ⟨_, rfl⟩
            replace H : (spec_l05Conf.l0 k1 y147 (wrap64 (x4_1 + 1)) s0_0 t145 t146) = some (r1, r2, r3) := by first | (rw [hy147]; with_reducible exact H) | (have H2_ := (Option.bind_some _ _).symm.trans H; rw [hy147]; with_reducible exact H2_) | (have H2_ := (Option.bind_some _ _).symm.trans H; with_reducible exact H2_) | with_reducible exact H | (rw [hy147]; exact H) | exact H
            have Ny147 := Aside0.mk hy147
            clear hy147
            have H' := Aside0.mk H
            clear H
            go_wp2_with (first | ((with_reducible refine gate_callee (f := 106) rfl ?_); refine goesL_ (some 11) rfl rfl Try.func106 (by kernel_rfl) rfl #[.pointer (some ⟨g, 0, none⟩), .int .i64 2] rfl (by (try simp only [List.map_toArray, List.map_cons, List.map_nil]); first | done | rfl | (simp only [List.length_drop, List.length_take]; rfl)) ?_; (with_reducible refine (spec_l01Once.calls g s0_0 x1001_1 x1002_1 2 true t145 t146 w0 _ ?side1 ?side2 A5.out).mono ?_); (case side1 => repeat (first | (with_reducible first | exact HI0.out | apply IsS186.alloc | apply IsS186.drewN | apply IsS186.drew | apply IsS186.set_1 | apply IsS186.set_2) | exact HI0.out)); (case side2 => repeat (first | (with_reducible first | exact HB.out | apply below_alloc | apply pw_below_drewN | apply below_drew1 | refine below_set ?_ (IsS186.ge HI0.out)) | exact HB.out)); rintro e w8 ⟨rfl, hi, hb, hk⟩; refine ⟨_, rfl, ?_⟩; have n0_ := Aside0.mk (Kd.R_mono (Kd.R_keep (IsS186.apart (show IsS186 w0 _ g s0_0 x1001_1 x1002_1 from by repeat (first | (with_reducible first | exact HI0.out | apply IsS186.alloc | apply IsS186.drewN | apply IsS186.drew | apply IsS186.set_1 | apply IsS186.set_2) | exact HI0.out)) (by (with_reducible repeat (first | apply Kd.R_alloc | apply Kd.R_drewN | apply Kd.R_drew)); exact HO_3.out) (by decide)) hk (fun _ h => h.2)) (fun _ h => h.1)); have n1_ := Aside0.mk (KeepBut.trans (by repeat (first | (with_reducible first | exact HK.out | apply KeepBut.set_ | apply keep_drewN | apply keep_drew | apply keep_alloc) | exact HK.out)) hk (.inl rfl)); have n2_ := Aside0.mk (hb); have n3_ := Aside0.mk (hi); clear HO_3; clear HK; clear HB; clear HI0; have HO_3 := n0_; have HK := n1_; have HB := n2_; have HI0 := n3_; clear n0_ n1_ n2_ n3_; (try clear hb); (try clear hb2); (try clear hk); (try clear hi)) | ((with_reducible refine gate_builtin (b := .append) (xs := #[.tmp 12, .tmp 14]) rfl ?_); at_builtin; refine Kd.R_append (Kd.int .i64) w.heap.size rfl (.tmp 12) (.tmp 14) 23 3 (.int .i64 0) 8 rfl Try.underlying23 info3 rfl (by decide) (by omega) u3 x3_1 x4_1 [.int .i64 x4_1] (fun _ => True) (fun _ => False) rfl rfl ?aP (fun _ hk => hk.elim) ?aF ?aO (Below.refl _ _) ?aS ?aL ?_; (case aP => exact rfl); (case aF => exact (fun _ _ => trivial)); (case aO => exact (by (with_reducible repeat (first | apply Kd.R_alloc | apply Kd.R_drewN | apply Kd.R_drew)); exact HO_3.out)); (case aS => exact (keep_size (w := w) (g := g) (row := none) (by repeat (first | (with_reducible first | exact HK.out | apply KeepBut.set_ | apply keep_drewN | apply keep_drew | apply keep_alloc) | exact HK.out)))); (case aL => have := LMc7.out; omega); intro v148 w9 ho hb hg hat; rw [← Ny147.out] at ho; have n0_ := Aside0.mk (IsS186.grown (by repeat (first | (with_reducible first | exact HI0.out | apply IsS186.alloc | apply IsS186.drewN | apply IsS186.drew | apply IsS186.set_1 | apply IsS186.set_2) | exact HI0.out)) hg (IsS186.own_ne HI0.out HO_3.out (by decide))); have n1_ := Aside0.mk (below_weaken (by repeat (first | (with_reducible first | exact HB.out | apply below_alloc | apply pw_below_drewN | apply below_drew1 | refine below_set ?_ (IsS186.ge HI0.out)) | exact HB.out)) HL.out hb); have n2_ := Aside0.mk (KeepBut.trans (by repeat (first | (with_reducible first | exact HK.out | apply KeepBut.set_ | apply keep_drewN | apply keep_drew | apply keep_alloc) | exact HK.out)) (KeepBut.of_grown hg g) (Kd.R_base2 HO_3.out)); have n3_ := Aside0.mk (ho); clear HI0; clear HB; clear HK; clear HO_3; have HI0 := n0_; have HB := n1_; have HK := n2_; have HO149 := n3_; clear n0_ n1_ n2_ n3_; clear ho hb hg hat))
            go_roundg k1
            case measure => have := HK1.out; omega
            case rel => exact ⟨(y147), (wrap64 (x4_1 + 1)), (t145), (t146), (by first | rfl | (simp; done) | (simp [*]; done)), H', ⟨by have := HK1.out; omega⟩, ⟨by (with_reducible repeat (first | apply Kd.R_alloc | apply Kd.R_drewN | apply Kd.R_drew)); exact HO149.out⟩, ⟨by repeat (first | (with_reducible first | exact HI0.out | apply IsS186.alloc | apply IsS186.drewN | apply IsS186.drew | apply IsS186.set_1 | apply IsS186.set_2) | exact HI0.out)⟩, ⟨by repeat (first | (with_reducible first | exact HK.out | apply KeepBut.set_ | apply keep_drewN | apply keep_drew | apply keep_alloc) | exact HK.out)⟩, ⟨by repeat (first | (with_reducible first | exact HB.out | apply below_alloc | apply pw_below_drewN | apply below_drew1 | refine below_set ?_ (IsS186.ge HI0.out)) | exact HB.out)⟩⟩
          · rw [if_neg c7] at H
            exact absurd H (by simp)
        · replace c6 := Bool.eq_false_iff.mpr c6
          subst c6
          have H1 : (spec_l05Conf.l0 k1 x3_1 (wrap64 (x4_1 + 1)) s0_0 t145 t146) = some (r1, r2, r3) := by rw [if_neg (show ¬ (false = true) by decide)] at H; exact H
          clear H
          have H := H1
          clear H1
          have H' := Aside0.mk H
          clear H
          go_wp2_with (first | ((with_reducible refine gate_callee (f := 106) rfl ?_); refine goesL_ (some 11) rfl rfl Try.func106 (by kernel_rfl) rfl #[.pointer (some ⟨g, 0, none⟩), .int .i64 2] rfl (by (try simp only [List.map_toArray, List.map_cons, List.map_nil]); first | done | rfl | (simp only [List.length_drop, List.length_take]; rfl)) ?_; (with_reducible refine (spec_l01Once.calls g s0_0 x1001_1 x1002_1 2 false t145 t146 w0 _ ?side1 ?side2 A5.out).mono ?_); (case side1 => repeat (first | (with_reducible first | exact HI0.out | apply IsS186.alloc | apply IsS186.drewN | apply IsS186.drew | apply IsS186.set_1 | apply IsS186.set_2) | exact HI0.out)); (case side2 => repeat (first | (with_reducible first | exact HB.out | apply below_alloc | apply pw_below_drewN | apply below_drew1 | refine below_set ?_ (IsS186.ge HI0.out)) | exact HB.out)); rintro e w10 ⟨rfl, hi, hb, hk⟩; refine ⟨_, rfl, ?_⟩; have n0_ := Aside0.mk (Kd.R_mono (Kd.R_keep (IsS186.apart (show IsS186 w0 _ g s0_0 x1001_1 x1002_1 from by repeat (first | (with_reducible first | exact HI0.out | apply IsS186.alloc | apply IsS186.drewN | apply IsS186.drew | apply IsS186.set_1 | apply IsS186.set_2) | exact HI0.out)) (by (with_reducible repeat (first | apply Kd.R_alloc | apply Kd.R_drewN | apply Kd.R_drew)); exact HO_3.out) (by decide)) hk (fun _ h => h.2)) (fun _ h => h.1)); have n1_ := Aside0.mk (KeepBut.trans (by repeat (first | (with_reducible first | exact HK.out | apply KeepBut.set_ | apply keep_drewN | apply keep_drew | apply keep_alloc) | exact HK.out)) hk (.inl rfl)); have n2_ := Aside0.mk (hb); have n3_ := Aside0.mk (hi); clear HO_3; clear HK; clear HB; clear HI0; have HO_3 := n0_; have HK := n1_; have HB := n2_; have HI0 := n3_; clear n0_ n1_ n2_ n3_; (try clear hb); (try clear hb2); (try clear hk); (try clear hi)))
          go_roundg k1
          case measure => have := HK1.out; omega
          case rel => exact ⟨(x3_1), (wrap64 (x4_1 + 1)), (t145), (t146), (by first | rfl | (simp; done) | (simp [*]; done)), H', ⟨by have := HK1.out; omega⟩, ⟨by (with_reducible repeat (first | apply Kd.R_alloc | apply Kd.R_drewN | apply Kd.R_drew)); exact HO_3.out⟩, ⟨by repeat (first | (with_reducible first | exact HI0.out | apply IsS186.alloc | apply IsS186.drewN | apply IsS186.drew | apply IsS186.set_1 | apply IsS186.set_2) | exact HI0.out)⟩, ⟨by repeat (first | (with_reducible first | exact HK.out | apply KeepBut.set_ | apply keep_drewN | apply keep_drew | apply keep_alloc) | exact HK.out)⟩, ⟨by repeat (first | (with_reducible first | exact HB.out | apply below_alloc | apply pw_below_drewN | apply below_drew1 | refine below_set ?_ (IsS186.ge HI0.out)) | exact HB.out)⟩⟩
      · rw [if_neg c4] at H
        have c4b0 : decide (x4_1 ≤ 4) = false := decide_eq_false c4
        clear c4
        by_cases c11 : (x3_1.length : Int) = 0
        · rw [if_pos c11] at H
          have c11b0 : ((x3_1.length : Int) == 0) = true := beq_iff_eq.mpr c11
          have c11b1 : ((x3_1.length : Int) != 0) = false := bne_eq_false_iff_eq.mpr c11
          clear c11
          by_cases c12 : x3_1.length < 17592186044416
          · rw [if_pos c12] at H
            have LMc12 := Aside0.mk c12
            clear c12
            obtain ⟨y150, hy150⟩ : ∃ y_ : List Int, y_ = (x3_1 ++ [1]) := ⟨_, rfl⟩
            replace H : (some (y150, x1001_1, x1002_1)) = some (r1, r2, r3) := by first | (rw [hy150]; with_reducible exact H) | (have H2_ := (Option.bind_some _ _).symm.trans H; rw [hy150]; with_reducible exact H2_) | (have H2_ := (Option.bind_some _ _).symm.trans H; with_reducible exact H2_) | with_reducible exact H | (rw [hy150]; exact H) | exact H
            have Ny150 := Aside0.mk hy150
            clear hy150
            simp only [Option.some.injEq, Prod.mk.injEq] at H
            obtain ⟨rfl, rfl, rfl⟩ := H
            obtain ⟨Ao13, co13, eo13⟩ := Kd.R_slice HO_3.out
            subst eo13
            go_wp2_with (first | ((with_reducible refine gate_builtin (b := .append) (xs := #[.tmp 19, .tmp 20]) rfl ?_); at_builtin; refine Kd.R_append (Kd.int .i64) w.heap.size rfl (.tmp 19) (.tmp 20) 23 3 (.int .i64 0) 8 rfl Try.underlying23 info3 rfl (by decide) (by omega) (.slice Ao13 x3_1.length co13) x3_1 1 [.int .i64 1] (fun _ => True) (fun _ => False) rfl rfl ?aP (fun _ hk => hk.elim) ?aF ?aO (Below.refl _ _) ?aS ?aL ?_; (case aP => exact rfl); (case aF => exact (fun _ _ => trivial)); (case aO => exact (by (with_reducible repeat (first | apply Kd.R_alloc | apply Kd.R_drewN | apply Kd.R_drew)); exact HO_3.out)); (case aS => exact (keep_size (w := w) (g := g) (row := none) (by repeat (first | (with_reducible first | exact HK.out | apply KeepBut.set_ | apply keep_drewN | apply keep_drew | apply keep_alloc) | exact HK.out)))); (case aL => have := LMc12.out; omega); intro v151 w14 ho hb hg hat; rw [← Ny150.out] at ho; have n0_ := Aside0.mk (IsS186.grown (by repeat (first | (with_reducible first | exact HI0.out | apply IsS186.alloc | apply IsS186.drewN | apply IsS186.drew | apply IsS186.set_1 | apply IsS186.set_2) | exact HI0.out)) hg (IsS186.own_ne HI0.out HO_3.out (by decide))); have n1_ := Aside0.mk (below_weaken (by repeat (first | (with_reducible first | exact HB.out | apply below_alloc | apply pw_below_drewN | apply below_drew1 | refine below_set ?_ (IsS186.ge HI0.out)) | exact HB.out)) HL.out hb); have n2_ := Aside0.mk (KeepBut.trans (by repeat (first | (with_reducible first | exact HK.out | apply KeepBut.set_ | apply keep_drewN | apply keep_drew | apply keep_alloc) | exact HK.out)) (KeepBut.of_grown hg g) (Kd.R_base2 HO_3.out)); have n3_ := Aside0.mk (ho); clear HI0; clear HB; clear HK; clear HO_3; have HI0 := n0_; have HB := n1_; have HK := n2_; have HO152 := n3_; clear n0_ n1_ n2_ n3_; clear ho hb hg hat))
            go_ret
            exact ⟨_, by first | rfl | (simp [errW_none, errW_some] <;> rfl) | (simp [*, errW_none, errW_some] <;> rfl), by (with_reducible repeat (first | apply Kd.R_alloc | apply Kd.R_drewN | apply Kd.R_drew)); exact HO152.out, by repeat (first | (with_reducible first | exact HI0.out | apply IsS186.alloc | apply IsS186.drewN | apply IsS186.drew | apply IsS186.set_1 | apply IsS186.set_2) | exact HI0.out), by repeat (first | (with_reducible first | exact HB.out | apply below_alloc | apply pw_below_drewN | apply below_drew1 | refine below_set ?_ (IsS186.ge HI0.out)) | exact HB.out), by repeat (first | (with_reducible first | exact HK.out | apply KeepBut.set_ | apply keep_drewN | apply keep_drew | apply keep_alloc) | exact HK.out)⟩
          · rw [if_neg c12] at H
            exact absurd H (by simp)
        · rw [if_neg c11] at H
          have c11b0 : ((x3_1.length : Int) == 0) = false := beq_eq_false_iff_ne.mpr c11
          have c11b1 : ((x3_1.length : Int) != 0) = true := bne_iff_ne.mpr c11
          have c11b2 : ¬ (x3_1 = []) := fun h_ => c11 (by rw [h_]; rfl)
          simp only [Option.some.injEq, Prod.mk.injEq] at H
          obtain ⟨rfl, rfl, rfl⟩ := H
          obtain ⟨Ao15, co15, eo15⟩ := Kd.R_slice HO_3.out
          subst eo15
          go_wp2
          go_ret
          exact ⟨_, by first | rfl | (simp [errW_none, errW_some] <;> rfl) | (simp [*, errW_none, errW_some] <;> rfl), by (with_reducible repeat (first | apply Kd.R_alloc | apply Kd.R_drewN | apply Kd.R_drew)); exact HO_3.out, by repeat (first | (with_reducible first | exact HI0.out | apply IsS186.alloc | apply IsS186.drewN | apply IsS186.drew | apply IsS186.set_1 | apply IsS186.set_2) | exact HI0.out), by repeat (first | (with_reducible first | exact HB.out | apply below_alloc | apply pw_below_drewN | apply below_drew1 | refine below_set ?_ (IsS186.ge HI0.out)) | exact HB.out), by repeat (first | (with_reducible first | exact HK.out | apply KeepBut.set_ | apply keep_drewN | apply keep_drew | apply keep_alloc) | exact HK.out)⟩

end Go.Proofs.Ytdjikjmjajlgcaa.PFnPuts
end

/-! ### YtdjikjmjajlgcaaDrawEntFnPuts -/
section
namespace Go.Proofs.Ytdjikjmjajlgcaa.PFnPuts
open Go.RowKit Go.Proofs.YtdjikjmjajlgcaaW.PrintWords
set_option linter.unusedSimpArgs false
set_option linter.unusedVariables false

/-! Drawn entries: every answer. (own) -/
theorem cmdText_C (op tok seq topic dev edge ep up : Int) (tx : ByteArray) (htx : tx.size ≤ 8) (w : World) :
    Calls Try.prog 149 #[.agg #[.int .i64 op, .int .i64 tok, .int .i64 seq, .int .i64 topic, .int .i64 dev, .int .i64 edge, .int .i64 ep, .int .i64 up, .string tx]] w fun e w' =>
      (∃ (d : ByteArray) (b : Bool), e = .returned (.tuple #[.string d, .bool b]) ∧ d.size ≤ 60) ∧ Below w.heap.size w w' := by
  refine (spec_CommandText op tok seq topic dev edge ep up tx w).mono ?_
  rintro e w' ⟨rfl, hb⟩
  refine ⟨⟨_, _, rfl, ?_⟩, hb⟩
  split
  · rename_i hk
    have hr := cmdOk_range hk
    have s0 := byteS_size op
    have s1 := varS_size tok (by omega) (by omega)
    have s2 := varS_size seq (by omega) (by omega)
    have s6 := varS_size ep (by omega) (by omega)
    have s7 := varS_size up (by omega) (by omega)
    have s8 := varS_size tx.size (by omega) (by omega)
    unfold cmdS shortS
    simp only [ByteArray.size_append, strOfNums_size, List.length_cons, List.length_nil]
    omega
  · show (0 : Nat) ≤ 60; omega
theorem conf_l (bs : List Int) (hb : bs.length ≤ 1048576) : ∀ (n k : Nat) (out : List Int) (x i h : Int), 5 - x ≤ n → n < k → 1 ≤ x → x ≤ 5 → (out.length : Int) + 1 ≤ x → (∀ y ∈ out, 1 ≤ y ∧ y ≤ 4) → 0 ≤ i → i ≤ (bs.length : Int) →
    ∃ r i' h', spec_l05Conf.l0 k out x bs i h = some (r, i', h') ∧ r.length ≤ 4 ∧ 0 ≤ i' ∧ i' ≤ (bs.length : Int)
  | n, 0, _, _, _, _, _, hk, _, _, _, _, _, _ => by omega
  | n, k + 1, out, x, i, h, hn, hk, hx, hx5, hl, hm, h0, h1 => by
    unfold spec_l05Conf.l0
    by_cases h4 : x ≤ 4
    · rw [if_pos h4]
      obtain ⟨r, i1, s1, e1, h2, h3⟩ := once_t bs i h 2 h0 h1 hb
      rw [e1, Option.bind_some]
      have e : wrap64 (x + 1) = x + 1 := by unfold wrap64; omega
      obtain ⟨n, rfl⟩ : ∃ m, n = m + 1 := ⟨n - 1, by omega⟩
      rw [e]
      cases r with
      | true =>
        simp only [if_true]
        rw [if_pos (by omega)]
        exact conf_l bs hb n k (out ++ [x]) (x + 1) i1 s1 (by omega) (by omega) (by omega) (by omega) (by simp; omega) (by intro y hy; rcases List.mem_append.1 hy with h | h; exact hm y h; simp at h; omega) h2 h3
      | false =>
        simp only [Bool.false_eq_true, if_false]
        exact conf_l bs hb n k out (x + 1) i1 s1 (by omega) (by omega) (by omega) (by omega) (by omega) hm h2 h3
    · rw [if_neg h4]
      by_cases hz : (out.length : Int) = 0
      · rw [if_pos hz, if_pos (by omega)]
        exact ⟨_, _, _, rfl, by simp; omega, h0, h1⟩
      · rw [if_neg hz]
        exact ⟨_, _, _, rfl, by omega, h0, h1⟩
theorem conf_C {w0 w : World} {g : Nat} (hc : Cur w0 w g) :
    Calls Try.prog 147 #[.pointer (some ⟨g, 0, none⟩)] w fun e w' => ∃ (A : Option Addr) (c : Nat) (xs : List Int), e = .returned (.slice A xs.length c) ∧ xs.length ≤ c ∧ xs.length ≤ 4 ∧ Kd.C (Kd.int .i64) w' A xs.length xs ∧ Dw w0 w g w' := by
  obtain ⟨bs, i, s, h1, h2, h3, h4, h5⟩ := hc
  obtain ⟨r, i', s', e, hm, h6, h7⟩ := conf_l bs h1 4 5 [] 1 i s (by omega) (by omega) (by omega) (by omega) (by simp) (by simp) h2 h3
  refine (spec_l05Conf.calls 5 g bs i s r i' s' w0 w h4 h5 e).mono ?_
  rintro e w' ⟨v, rfl, hR, k1, k2, k3⟩
  obtain ⟨A, c, rfl, hcap, hC⟩ := Kd.R_reads hR
  exact ⟨A, c, r, rfl, hcap, hm, hC, ⟨bs, i', s', h1, h6, h7, k1, k2⟩, k3⟩
theorem confText_C (A : Option Addr) (c : Nat) (xs : List Int) (w : World) (hr : Kd.C (Kd.int .i64) w A xs.length xs) (hc : xs.length ≤ c) (hl : xs.length ≤ 4) :
    Calls Try.prog 47 #[.slice A xs.length c] w fun e w' => (∃ (d : ByteArray) (b : Bool), e = .returned (.tuple #[.string d, .bool b]) ∧ d.size ≤ 60) ∧ Below w.heap.size w w' := by
  have hf := sctext_f xs (xs.length + 1) (by omega) (by omega)
  cases hk : confOk xs with
  | true =>
    rw [hk, if_pos rfl] at hf
    refine (spec_ConfText.calls (xs.length + 1) A c xs _ _ w hr hc hf).mono ?_
    rintro e w' h
    have hz : (strOfNums (confBs xs)).size ≤ 60 := by rw [strOfNums_size]; simp [confBs]; omega
    first | (obtain ⟨rfl, hb⟩ := h; exact ⟨⟨_, _, rfl, hz⟩, hb⟩) | (obtain ⟨rfl, ⟨n, rfl⟩⟩ := h; exact ⟨⟨_, _, rfl, hz⟩, bl_drewN (Below.refl _ _) n⟩)
  | false =>
    rw [hk, if_neg (by simp)] at hf
    refine (spec_ConfText.calls (xs.length + 1) A c xs _ _ w hr hc hf).mono ?_
    rintro e w' h
    have hz : (⟨#[]⟩ : ByteArray).size ≤ 60 := by decide
    first | (obtain ⟨rfl, hb⟩ := h; exact ⟨⟨_, _, rfl, hz⟩, hb⟩) | (obtain ⟨rfl, ⟨n, rfl⟩⟩ := h; exact ⟨⟨_, _, rfl, hz⟩, bl_drewN (Below.refl _ _) n⟩)

set_option maxHeartbeats 2000000 in
set_option maxRecDepth 100000 in
theorem right_C {w0 w : World} {g : Nat} (hc : Cur w0 w g) :
    Calls Try.prog 150 #[.pointer (some ⟨g, 0, none⟩)] w fun e w' => (∃ (a0 a1 a2 a3 a4 a5 a6 a7 : Int) (s : ByteArray), e = .returned (.agg #[.int .i64 a0, .int .i64 a1, .int .i64 a2, .int .i64 a3, .int .i64 a4, .int .i64 a5, .int .i64 a6, .int .i64 a7, .string s]) ∧ s.size ≤ 8) ∧ Dw w0 w g w' := by
  have hgl := hc.lt
  have hws := hc.bl.size
  go_enter Try.func150, Try.ntmps150
  go_wp2_with fail
  refine calls_at (fun W => Dw w0 w g W ∧ Blk 193 w.heap.size #[.int .i64 0, .int .i64 0, .int .i64 0, .int .i64 0, .int .i64 0, .int .i64 0, .int .i64 0, .int .i64 0, .string ⟨#[]⟩] W) ⟨(Dw.start hc).alloc _, Blk.new _ _ w⟩ ?_
  rintro W1 ⟨D1, k4⟩
  refine (below_C 5 D1.1).mono ?_
  rintro e W2 ⟨r2, rfl, hr2, hc2, hk2⟩
  have D2 := D1.step hc2 hk2
  replace k4 := blk_keep k4 hk2 (by omega)
  clear D1 hc2 hk2
  go_wp2_with fail
  refine (below_C 4 D2.1).mono ?_
  rintro e W3 ⟨r3, rfl, hr3, hc3, hk3⟩
  have D3 := D2.step hc3 hk3
  replace k4 := blk_keep k4 hk3 (by omega)
  clear D2 hc3 hk3
  have z3 := D3.size
  go_wp2_with fail
  refine calls_at (fun W => Dw w0 w g W ∧ Blk 193 w.heap.size #[.int .i64 0, .int .i64 0, .int .i64 0, .int .i64 0, .int .i64 0, .int .i64 0, .int .i64 0, .int .i64 0, .string ⟨#[]⟩] W ∧ Blk 120 W3.heap.size #[.int .i64 (1 + r2), .int .i64 r3, .slice none 0 0] W) ⟨(D3.alloc _).alloc _, (k4.alloc _).alloc _, (Blk.new _ _ W3).alloc _⟩ ?_
  rintro W4 ⟨D4, k4', kS⟩
  refine (cmd_C D4.1 _ r3 (by omega) kS (by omega)).mono ?_
  rintro e W5 ⟨⟨a0, a1, a2, a3, a4, a5, a6, a7, s, rfl, hs⟩, D5⟩
  have D6 := D4.step D5.1 D5.2
  have k6 := blk_keep k4' D5.2 (by omega)
  have l6 := k6.lt
  have c0 := k6.cell 0 rfl
  have c1 := k6.cell 1 rfl
  have c2 := k6.cell 2 rfl
  have c3 := k6.cell 3 rfl
  have c4 := k6.cell 4 rfl
  have c5 := k6.cell 5 rfl
  have c6 := k6.cell 6 rfl
  have c7 := k6.cell 7 rfl
  have c8 := k6.cell 8 rfl
  have f0 := k6.free 0
  have f1 := k6.free 1
  have f2 := k6.free 2
  have f3 := k6.free 3
  have f4 := k6.free 4
  have f5 := k6.free 5
  have f6 := k6.free 6
  have f7 := k6.free 7
  have f8 := k6.free 8
  go_wp2_with fail
  exact bodyPost_ret (results_cell_row rfl _ _ w.heap.size 193 #[.int .i64 a0, .int .i64 a1, .int .i64 a2, .int .i64 a3, .int .i64 a4, .int .i64 a5, .int .i64 a6, .int .i64 a7, .string s] (0, 0) _ rfl (cmd_fill k6 a0 a1 a2 a3 a4 a5 a6 a7 s) Try.underlying193 rfl (by kernel_rfl)) rfl ⟨⟨a0, a1, a2, a3, a4, a5, a6, a7, s, rfl, hs⟩, dw_fill D6 hgl (Nat.le_refl _) hws a0 a1 a2 a3 a4 a5 a6 a7 s⟩

/-- An entry that is being drawn. -/
def EntAt (w0 w : World) (g b5 : Nat) (W : World) : Prop := Dw w0 w g W ∧ Blk 54 w.heap.size #[.int .i64 0, .int .i64 0, .string ⟨#[]⟩] W ∧ ∃ (t k : Int) (d : ByteArray), d.size ≤ 200 ∧ Blk 54 b5 #[.int .i64 t, .int .i64 k, .string d] W
section
set_option linter.unusedSectionVars false
variable {w0 w : World} {g b5 : Nat} {W : World} (hg : g < w.heap.size) (h5 : w.heap.size + 1 ≤ b5) (h0 : w0.heap.size ≤ w.heap.size)
include hg h5
theorem EntAt.step {W' : World} (h : EntAt w0 w g b5 W) (hc : Cur w0 W' g) (hk : KeepBut W W' g none) : EntAt w0 w g b5 W' := by
  obtain ⟨D, k4, t, k, d, hd, k5⟩ := h
  exact ⟨D.step hc hk, blk_keep k4 hk (by omega), t, k, d, hd, blk_keep k5 hk (by omega)⟩
theorem EntAt.below {W' : World} (h : EntAt w0 w g b5 W) (hb : Below W.heap.size W W') : EntAt w0 w g b5 W' := by
  obtain ⟨D, k4, t, k, d, hd, k5⟩ := h
  exact ⟨D.below hb, k4.below hb, t, k, d, hd, k5.below hb⟩
theorem EntAt.alloc (h : EntAt w0 w g b5 W) (o : Obj) : EntAt w0 w g b5 (W.alloc o) := h.below hg h5 (bl_alloc (Below.refl _ _) o)
include h0
theorem EntAt.set0 (h : EntAt w0 w g b5 W) (v : Int) : EntAt w0 w g b5 (W.setCell ⟨b5, 0, none⟩ (.int .i64 v)) := by
  obtain ⟨D, k4, t, k, d, hd, k5⟩ := h
  exact ⟨D.far hg (p := ⟨b5, 0, none⟩) (by show w.heap.size ≤ b5; omega) _ h0, k4.far (by show w.heap.size ≠ b5; omega) _, v, k, d, hd, k5.set 0 _ rfl⟩
theorem EntAt.set1 (h : EntAt w0 w g b5 W) (v : Int) : EntAt w0 w g b5 (W.setCell ⟨b5, 1, none⟩ (.int .i64 v)) := by
  obtain ⟨D, k4, t, k, d, hd, k5⟩ := h
  exact ⟨D.far hg (p := ⟨b5, 1, none⟩) (by show w.heap.size ≤ b5; omega) _ h0, k4.far (by show w.heap.size ≠ b5; omega) _, t, v, d, hd, k5.set 1 _ rfl⟩
theorem EntAt.set2 (h : EntAt w0 w g b5 W) (v : ByteArray) (hv : v.size ≤ 200) : EntAt w0 w g b5 (W.setCell ⟨b5, 2, none⟩ (.string v)) := by
  obtain ⟨D, k4, t, k, d, hd, k5⟩ := h
  exact ⟨D.far hg (p := ⟨b5, 2, none⟩) (by show w.heap.size ≤ b5; omega) _ h0, k4.far (by show w.heap.size ≠ b5; omega) _, t, k, v, hv, k5.set 2 _ rfl⟩
end
theorem ent_fill {T b : Nat} {W : World} (h : Blk T b #[.int .i64 0, .int .i64 0, .string ⟨#[]⟩] W) (t k : Int) (d : ByteArray) : Blk T b #[.int .i64 t, .int .i64 k, .string d] (((W.setCell ⟨b, 0, none⟩ (.int .i64 t)).setCell ⟨b, 1, none⟩ (.int .i64 k)).setCell ⟨b, 2, none⟩ (.string d)) := by
  have z0 := h.set 0 (.int .i64 t) (cs' := #[.int .i64 t, .int .i64 0, .string ⟨#[]⟩]) rfl
  have z1 := z0.set 1 (.int .i64 k) (cs' := #[.int .i64 t, .int .i64 k, .string ⟨#[]⟩]) rfl
  exact z1.set 2 (.string d) (cs' := #[.int .i64 t, .int .i64 k, .string d]) rfl
theorem dw_ent {w0 w W : World} {g b : Nat} (D : Dw w0 w g W) (hg : g < w.heap.size) (hb : w.heap.size ≤ b) (h0 : w0.heap.size ≤ w.heap.size) (t k : Int) (d : ByteArray) :
    Dw w0 w g (((W.setCell ⟨b, 0, none⟩ (.int .i64 t)).setCell ⟨b, 1, none⟩ (.int .i64 k)).setCell ⟨b, 2, none⟩ (.string d)) := by
  have z0 := D.far hg (p := ⟨b, 0, none⟩) hb (.int .i64 t) h0
  have z1 := z0.far hg (p := ⟨b, 1, none⟩) hb (.int .i64 k) h0
  exact z1.far hg (p := ⟨b, 2, none⟩) hb (.string d) h0
def EntV (e : Ending) : Prop := ∃ (t k : Int) (d : ByteArray), e = .returned (.agg #[.int .i64 t, .int .i64 k, .string d]) ∧ d.size ≤ 200

set_option maxHeartbeats 2000000 in
set_option maxRecDepth 100000 in
theorem ent_C {w0 w : World} {g : Nat} (hc : Cur w0 w g) (term : Int) :
    Calls Try.prog 104 #[.pointer (some ⟨g, 0, none⟩), .int .i64 term] w fun e w' => EntV e ∧ Dw w0 w g w' := by
  have hgl := hc.lt
  have hws := hc.bl.size
  go_enter Try.func104, Try.ntmps104
  go_wp2_with fail
  refine calls_at (fun W => Dw w0 w g W ∧ Blk 54 w.heap.size #[.int .i64 0, .int .i64 0, .string ⟨#[]⟩] W ∧ Blk 3 (w.heap.size + 1) (([1, 2, 3, 3, 3] : List Int).map (Value.int .i64)).toArray W) ⟨((Dw.start hc).alloc _).alloc _, (Blk.new _ _ w).alloc _, Blk.newE _ _ (w.alloc _) (by simp)⟩ ?_
  rintro W1 ⟨D1, k4, kl⟩
  refine (pickInt_C _ 5 [1, 2, 3, 3, 3] (by decide) D1.1 (blk_ints _ (by decide) kl) (by decide) (by rintro ad ⟨⟩; show w.heap.size + 1 ≠ g; omega)).mono ?_
  rintro e W2 ⟨r, rfl, -, hc2, hk2⟩
  have D2 := D1.step hc2 hk2
  replace k4 := blk_keep k4 hk2 (by omega)
  clear D1 hk2 kl hc2 W1
  go_upto_region 2 with fail
  have h5 : w.heap.size + 1 ≤ W2.heap.size := by have := k4.lt; omega
  obtain ⟨b5, hb5⟩ : ∃ b5, b5 = W2.heap.size := ⟨_, rfl⟩
  refine wp_at (EntAt w0 w g b5) ⟨D2.alloc _, k4.alloc _, term, r, ⟨#[]⟩, by decide, Blk.newE _ _ W2 hb5⟩ ?_
  rw [← hb5] at h5 ⊢
  clear D2 k4 hb5 W2
  intro W hW
  obtain ⟨D, k4, t, k, d, hd, k5⟩ := id hW
  have c1 := k5.cell 1 rfl
  have c2 := k5.cell 2 rfl
  have l5 := k5.lt
  obtain ⟨o2, ho2⟩ : ∃ q, (k == 2) = q := ⟨_, rfl⟩
  obtain ⟨o3, ho3⟩ : ∃ q, (k == 3) = q := ⟨_, rfl⟩
  cases o2 with
  | true =>
    go_wp2_with fail
    clear c1 c2 l5 k4 k5 hd t ho3
    refine (conf_C D.1).mono ?_
    rintro e W3 ⟨A, c, xs, rfl, hcap, hxs, hC, D3⟩
    have hV := hW.step hgl h5 D3.1 D3.2
    clear hW D
    go_wp2_with fail
    refine (confText_C A c xs _ hC hcap hxs).mono ?_
    rintro e W4 ⟨⟨d4, b4, rfl, hd4⟩, hb4⟩
    have hU := hV.below hgl h5 hb4
    clear hV D3 hC hb4
    obtain ⟨D, k4, t, k', d, hd, k5⟩ := id hU
    have c2 := k5.cell 2 rfl
    have f2 := k5.free 2
    have l5 := k5.lt
    go_upto_region 7 with fail
    refine wp_at (EntAt w0 w g b5) ((hU.set2 hgl h5 hws d4 (by omega))) ?_
    rintro Wz ⟨D, k4, t, k, d, hd, k5⟩
    have c0 := k5.cell 0 rfl
    have c1 := k5.cell 1 rfl
    have c2 := k5.cell 2 rfl
    have l5 := k5.lt
    have l4 := k4.lt
    have x0 := k4.cell 0 rfl
    have x1 := k4.cell 1 rfl
    have x2 := k4.cell 2 rfl
    have y0 := k4.free 0
    have y1 := k4.free 1
    have y2 := k4.free 2
    have n45 : w.heap.size ≠ b5 := by omega
    go_wp2_with fail
    exact bodyPost_ret (results_cell_row rfl _ _ w.heap.size 54 #[.int .i64 t, .int .i64 k, .string d] (0, 0) _ rfl (ent_fill k4 t k d) Try.underlying54 rfl (by kernel_rfl)) rfl ⟨⟨t, k, d, rfl, hd⟩, dw_ent D hgl (Nat.le_refl _) hws t k d⟩
  | false =>
    cases o3 with
    | true =>
      go_wp2_with fail
      clear c1 c2 l5 k4 k5 hd t
      refine (right_C D.1).mono ?_
      rintro e W3 ⟨⟨a0, a1, a2, a3, a4, a5, a6, a7, s, rfl, hs⟩, D3⟩
      have hV := hW.step hgl h5 D3.1 D3.2
      clear hW D
      go_wp2_with fail
      refine (cmdText_C _ _ _ _ _ _ _ _ s hs _).mono ?_
      rintro e W4 ⟨⟨d4, b4, rfl, hd4⟩, hb4⟩
      have hU := hV.below hgl h5 hb4
      clear hV D3 hb4
      obtain ⟨D, k4, t, k', d, hd, k5⟩ := id hU
      have c2 := k5.cell 2 rfl
      have f2 := k5.free 2
      have l5 := k5.lt
      go_upto_region 7 with fail
      refine wp_at (EntAt w0 w g b5) ((hU.set2 hgl h5 hws d4 (by omega))) ?_
      rintro Wz ⟨D, k4, t, k, d, hd, k5⟩
      have c0 := k5.cell 0 rfl
      have c1 := k5.cell 1 rfl
      have c2 := k5.cell 2 rfl
      have l5 := k5.lt
      have l4 := k4.lt
      have x0 := k4.cell 0 rfl
      have x1 := k4.cell 1 rfl
      have x2 := k4.cell 2 rfl
      have y0 := k4.free 0
      have y1 := k4.free 1
      have y2 := k4.free 2
      have n45 : w.heap.size ≠ b5 := by omega
      go_wp2_with fail
      exact bodyPost_ret (results_cell_row rfl _ _ w.heap.size 54 #[.int .i64 t, .int .i64 k, .string d] (0, 0) _ rfl (ent_fill k4 t k d) Try.underlying54 rfl (by kernel_rfl)) rfl ⟨⟨t, k, d, rfl, hd⟩, dw_ent D hgl (Nat.le_refl _) hws t k d⟩
    | false =>
      go_upto_region 7 with fail
      refine wp_at (EntAt w0 w g b5) (hW) ?_
      rintro Wz ⟨D, k4, t, k, d, hd, k5⟩
      have c0 := k5.cell 0 rfl
      have c1 := k5.cell 1 rfl
      have c2 := k5.cell 2 rfl
      have l5 := k5.lt
      have l4 := k4.lt
      have x0 := k4.cell 0 rfl
      have x1 := k4.cell 1 rfl
      have x2 := k4.cell 2 rfl
      have y0 := k4.free 0
      have y1 := k4.free 1
      have y2 := k4.free 2
      have n45 : w.heap.size ≠ b5 := by omega
      go_wp2_with fail
      exact bodyPost_ret (results_cell_row rfl _ _ w.heap.size 54 #[.int .i64 t, .int .i64 k, .string d] (0, 0) _ rfl (ent_fill k4 t k d) Try.underlying54 rfl (by kernel_rfl)) rfl ⟨⟨t, k, d, rfl, hd⟩, dw_ent D hgl (Nat.le_refl _) hws t k d⟩

set_option maxHeartbeats 2000000 in
set_option maxRecDepth 100000 in
theorem any_C {w0 w : World} {g : Nat} (hc : Cur w0 w g) :
    Calls Try.prog 91 #[.pointer (some ⟨g, 0, none⟩)] w fun e w' => EntV e ∧ Dw w0 w g w' := by
  have hgl := hc.lt
  have hws := hc.bl.size
  go_enter Try.func91, Try.ntmps91
  go_wp2_with fail
  refine calls_at (fun W => Dw w0 w g W ∧ Blk 54 w.heap.size #[.int .i64 0, .int .i64 0, .string ⟨#[]⟩] W) ⟨(Dw.start hc).alloc _, Blk.new _ _ w⟩ ?_
  rintro W1 ⟨D1, k4⟩
  refine (below_C 9 D1.1).mono ?_
  rintro e W2 ⟨r2, rfl, -, hc2, hk2⟩
  have D2 := D1.step hc2 hk2
  replace k4 := blk_keep k4 hk2 (by omega)
  clear D1 hk2 hc2 W1
  go_wp2_with fail
  refine (ent_C D2.1 r2).mono ?_
  rintro e W3 ⟨⟨t, k, d, rfl, hd⟩, D3⟩
  have D4 := D2.step D3.1 D3.2
  replace k4 := blk_keep k4 D3.2 (by omega)
  clear D2 D3 W2
  go_upto_region 2 with fail
  have h5 : w.heap.size + 1 ≤ W3.heap.size := by have := k4.lt; omega
  obtain ⟨b5, hb5⟩ : ∃ b5, b5 = W3.heap.size := ⟨_, rfl⟩
  refine wp_at (EntAt w0 w g b5) ⟨D4.alloc _, k4.alloc _, t, k, d, hd, Blk.newE _ _ W3 hb5⟩ ?_
  rw [← hb5] at h5 ⊢
  clear D4 k4 hb5 W3
  intro W hW
  go_wp2_with fail
  refine (below_C 30 hW.1.1).mono ?_
  rintro e W4 ⟨r4, rfl, -, hc4, hk4⟩
  have hV := hW.step hgl h5 hc4 hk4
  clear hW hc4 hk4 W
  obtain ⟨o0, ho0⟩ : ∃ q, (r4 == 0) = q := ⟨_, rfl⟩
  obtain ⟨o1, ho1⟩ : ∃ q, (r4 == 1) = q := ⟨_, rfl⟩
  obtain ⟨o2, ho2⟩ : ∃ q, (r4 == 2) = q := ⟨_, rfl⟩
  cases o0 with
  | true =>
    go_wp2_with fail
    refine calls_at (fun W => EntAt w0 w g b5 W ∧ Blk 3 W4.heap.size (([-1, 100000, 100001] : List Int).map (Value.int .i64)).toArray W) ⟨hV.alloc hgl h5 _, Blk.new _ _ W4⟩ ?_
    rintro W5 ⟨hU, kl⟩
    refine (pickInt_C _ 3 [-1, 100000, 100001] (by decide) hU.1.1 (blk_ints _ (by decide) kl) (by decide) (by rintro ad ⟨⟩; show W4.heap.size ≠ g; have := hV.1.size; omega)).mono ?_
    rintro e W6 ⟨r6, rfl, -, hc6, hk6⟩
    have hX := hU.step hgl h5 hc6 hk6
    clear hU kl hc6 hk6
    obtain ⟨D, k4, t, k, d, hd, k5⟩ := id hX
    have c0 := k5.cell 0 rfl
    have f0 := k5.free 0
    have l5 := k5.lt
    go_upto_region 9 with fail
    refine wp_at (EntAt w0 w g b5) (hX.set0 hgl h5 hws r6) ?_
    rintro Wz ⟨D, k4, t, k, d, hd, k5⟩
    have c0 := k5.cell 0 rfl
    have c1 := k5.cell 1 rfl
    have c2 := k5.cell 2 rfl
    have l5 := k5.lt
    have l4 := k4.lt
    have x0 := k4.cell 0 rfl
    have x1 := k4.cell 1 rfl
    have x2 := k4.cell 2 rfl
    have y0 := k4.free 0
    have y1 := k4.free 1
    have y2 := k4.free 2
    have n45 : w.heap.size ≠ b5 := by omega
    go_wp2_with fail
    exact bodyPost_ret (results_cell_row rfl _ _ w.heap.size 54 #[.int .i64 t, .int .i64 k, .string d] (0, 0) _ rfl (ent_fill k4 t k d) Try.underlying54 rfl (by kernel_rfl)) rfl ⟨⟨t, k, d, rfl, hd⟩, dw_ent D hgl (Nat.le_refl _) hws t k d⟩
  | false =>
    cases o1 with
    | true =>
      go_wp2_with fail
      refine calls_at (fun W => EntAt w0 w g b5 W ∧ Blk 3 W4.heap.size (([0, 4, 1, 2] : List Int).map (Value.int .i64)).toArray W) ⟨hV.alloc hgl h5 _, Blk.new _ _ W4⟩ ?_
      rintro W5 ⟨hU, kl⟩
      refine (pickInt_C _ 4 [0, 4, 1, 2] (by decide) hU.1.1 (blk_ints _ (by decide) kl) (by decide) (by rintro ad ⟨⟩; show W4.heap.size ≠ g; have := hV.1.size; omega)).mono ?_
      rintro e W6 ⟨r6, rfl, -, hc6, hk6⟩
      have hX := hU.step hgl h5 hc6 hk6
      clear hU kl hc6 hk6
      obtain ⟨D, k4, t, k, d, hd, k5⟩ := id hX
      have c1 := k5.cell 1 rfl
      have f1 := k5.free 1
      have l5 := k5.lt
      go_upto_region 9 with fail
      refine wp_at (EntAt w0 w g b5) (hX.set1 hgl h5 hws r6) ?_
      rintro Wz ⟨D, k4, t, k, d, hd, k5⟩
      have c0 := k5.cell 0 rfl
      have c1 := k5.cell 1 rfl
      have c2 := k5.cell 2 rfl
      have l5 := k5.lt
      have l4 := k4.lt
      have x0 := k4.cell 0 rfl
      have x1 := k4.cell 1 rfl
      have x2 := k4.cell 2 rfl
      have y0 := k4.free 0
      have y1 := k4.free 1
      have y2 := k4.free 2
      have n45 : w.heap.size ≠ b5 := by omega
      go_wp2_with fail
      exact bodyPost_ret (results_cell_row rfl _ _ w.heap.size 54 #[.int .i64 t, .int .i64 k, .string d] (0, 0) _ rfl (ent_fill k4 t k d) Try.underlying54 rfl (by kernel_rfl)) rfl ⟨⟨t, k, d, rfl, hd⟩, dw_ent D hgl (Nat.le_refl _) hws t k d⟩
    | false =>
      cases o2 with
      | true =>
        go_wp2_with fail
        refine (below_C 2 hV.1.1).mono ?_
        rintro e W5 ⟨r5, rfl, hr5, hc5, hk5⟩
        have hX := hV.step hgl h5 hc5 hk5
        clear hV hc5 hk5
        go_wp2_with fail
        refine (long_C _ 65 W5 (by omega) (by omega)).mono ?_
        rintro e W6 ⟨d6, rfl, hd6, hb6⟩
        have hY := hX.below hgl h5 hb6
        clear hX hb6
        obtain ⟨D, k4, t, k, d, hd, k5⟩ := id hY
        have c0 := k5.cell 0 rfl
        have f0 := k5.free 0
        have c1 := k5.cell 1 rfl
        have f1 := k5.free 1
        have c2 := k5.cell 2 rfl
        have f2 := k5.free 2
        have l5 := k5.lt
        go_upto_region 9 with fail
        refine wp_at (EntAt w0 w g b5) (((hY.set0 hgl h5 hws 0).set1 hgl h5 hws 3).set2 hgl h5 hws d6 (by omega)) ?_
        rintro Wz ⟨D, k4, t, k, d, hd, k5⟩
        have c0 := k5.cell 0 rfl
        have c1 := k5.cell 1 rfl
        have c2 := k5.cell 2 rfl
        have l5 := k5.lt
        have l4 := k4.lt
        have x0 := k4.cell 0 rfl
        have x1 := k4.cell 1 rfl
        have x2 := k4.cell 2 rfl
        have y0 := k4.free 0
        have y1 := k4.free 1
        have y2 := k4.free 2
        have n45 : w.heap.size ≠ b5 := by omega
        go_wp2_with fail
        exact bodyPost_ret (results_cell_row rfl _ _ w.heap.size 54 #[.int .i64 t, .int .i64 k, .string d] (0, 0) _ rfl (ent_fill k4 t k d) Try.underlying54 rfl (by kernel_rfl)) rfl ⟨⟨t, k, d, rfl, hd⟩, dw_ent D hgl (Nat.le_refl _) hws t k d⟩
      | false =>
        go_upto_region 9 with fail
        refine wp_at (EntAt w0 w g b5) (hV) ?_
        rintro Wz ⟨D, k4, t, k, d, hd, k5⟩
        have c0 := k5.cell 0 rfl
        have c1 := k5.cell 1 rfl
        have c2 := k5.cell 2 rfl
        have l5 := k5.lt
        have l4 := k4.lt
        have x0 := k4.cell 0 rfl
        have x1 := k4.cell 1 rfl
        have x2 := k4.cell 2 rfl
        have y0 := k4.free 0
        have y1 := k4.free 1
        have y2 := k4.free 2
        have n45 : w.heap.size ≠ b5 := by omega
        go_wp2_with fail
        exact bodyPost_ret (results_cell_row rfl _ _ w.heap.size 54 #[.int .i64 t, .int .i64 k, .string d] (0, 0) _ rfl (ent_fill k4 t k d) Try.underlying54 rfl (by kernel_rfl)) rfl ⟨⟨t, k, d, rfl, hd⟩, dw_ent D hgl (Nat.le_refl _) hws t k d⟩
end Go.Proofs.Ytdjikjmjajlgcaa.PFnPuts
end

/-! ### YtdjikjmjajlgcaaFlowT -/
section
namespace Go.Proofs.Ytdjikjmjajlgcaa
open Go.RowKit
set_option linter.unusedVariables false
set_option linter.unusedSimpArgs false

/-! The flow rule with a tail: the first operations in any order (one of them may write a row that the others leave alone: number j0), those behind them one by one, in their order. (own) -/
section
variable {P : Program} {L M : World → World → Prop} {J J1 : World → Prop} {j0 : Nat}
def seqUpon (P : Program) (Q : Act → World → Prop) : List Oper → Act → World → Prop
  | [], A, w => Q A w
  | o :: r, A, w => lastUpon P (seqUpon P Q r) o A ((execOp A.eval o).run P w)
structure SeqUpon (P : Program) (Q : Act → World → Prop) (l : List Oper) (A : Act) (w : World) : Prop where
  out : seqUpon P Q l A w
theorem flowUponL_imp {P : Program} {L : World → World → Prop} {R R' : VPred} {w : World} {r : Result Next} (h : flowUponL P L R w r) (hi : ∀ W u, R W u → R' W u) : flowUponL P L R' w r := by
  cases r with
  | ok n w' =>
    cases n <;> simp only [flowUponL] at h ⊢
    case value u => exact ⟨h.1, hi _ _ h.2⟩
    case skip => exact ⟨h.1, hi _ _ h.2⟩
    case enter f args =>
      refine h.mono ?_
      rintro e w2 ⟨v, rfl, hb, hr⟩
      exact ⟨v, rfl, hb, hi _ _ hr⟩
  | halt x w' => simp only [flowUponL] at h
def FlowT (P : Program) (L M : World → World → Prop) (J J1 : World → Prop) (j0 : Nat) (w : World) (a : Act) (bs : List Nat) (Q : Exit → Act → World → Prop) (l0 : List Oper) (n0 : Nat) : Nat → List Oper → Nat → FTab → Prop
  | 0, rest, _, T => ∀ x w', L w w' → allT x w' T → (j0 < n0 → J1 w') → SeqUpon P (Q .normal) rest (frameOf x (l0.take n0) 0 a) w'
  | _ + 1, [], _, _ => False
  | m + 1, o :: rest, i, T => ∃ R : VPred, (if i = j0 then VMonoL M R else VMonoL L R) ∧
      (∀ A w', L w w' → (i = j0 → J w') → baseF A a bs → deps T A w' o.after.toList → flowUponL P (if i = j0 then L else M) (fun W u => R W u ∧ (i = j0 → J1 W)) w' ((execOp A.eval o).run P w')) ∧ FlowT P L M J J1 j0 w a bs Q l0 n0 m rest (i + 1) (addT o i R T)

theorem flow_tableT {w : World} {a : Act} {bs : List Nat} {Q : Exit → Act → World → Prop} {l0 : List Oper} {n0 : Nat} : ∀ (m : Nat) (rest : List Oper) (i : Nat) (T : FTab), (∀ k d R, (k, d, R) ∈ T → k < i) → FlowT P L M J J1 j0 w a bs Q l0 n0 m rest i T →
    ∃ (T' : FTab), m ≤ rest.length ∧ (∀ x ∈ T, x ∈ T') ∧ (∀ k d R, (k, d, R) ∈ T' → k < i → (k, d, R) ∈ T) ∧ (∀ k d R, (k, d, R) ∈ T' → k < i + m) ∧
      (∀ (j : Nat) (o : Oper), rest[j]? = some o → j < m → ∃ R, (if i + j = j0 then VMonoL M R else VMonoL L R) ∧ (∀ d' R', (i + j, d', R') ∈ T' → o.dst = some d' ∧ R' = R) ∧
        (∀ A w', L w w' → (i + j = j0 → J w') → baseF A a bs → (∀ e ∈ o.after.toList, Region.binds .any e = true → ∀ d R, (e.on, d, R) ∈ T' → R w' (A.eval (.tmp d))) → flowUponL P (if i + j = j0 then L else M) (fun W u => R W u ∧ (i + j = j0 → J1 W)) w' ((execOp A.eval o).run P w'))) ∧
      (∀ x w', L w w' → allT x w' T' → (j0 < n0 → J1 w') → SeqUpon P (Q .normal) (rest.drop m) (frameOf x (l0.take n0) 0 a) w')
  | 0, rest, i, T, hT, h => ⟨T, by simp, fun _ h => h, fun _ _ _ h _ => h, fun k d R hm => by simpa using hT k d R hm, fun j o hj hl => by omega, by rw [List.drop_zero]; exact h⟩
  | m + 1, [], i, T, hT, h => h.elim
  | m + 1, o :: rest, i, T, hT, h => by
    obtain ⟨R, hmono, hobl, hrest⟩ := h
    have hT1 : ∀ k d R', (k, d, R') ∈ addT o i R T → k < i + 1 := fun k d R' hm => by
      unfold addT at hm
      split at hm
      · rcases List.mem_cons.1 hm with hm | hm
        · simp only [Prod.mk.injEq] at hm; omega
        · have := hT k d R' hm; omega
      · have := hT k d R' hm; omega
    have hsub : ∀ y ∈ T, y ∈ addT o i R T := fun y hy => by
      unfold addT
      split
      · exact .tail _ hy
      · exact hy
    obtain ⟨T', hlen, h1, h2, h3, h4, h5⟩ := flow_tableT m rest (i + 1) (addT o i R T) hT1 hrest
    refine ⟨T', by simp only [List.length_cons]; omega, fun y hy => h1 y (hsub y hy), fun k d R' hm hk => ?_, fun k d R' hm => ?_, fun j o' hj hjl => ?_, by simpa using h5⟩
    · have := h2 k d R' hm (by omega)
      unfold addT at this
      split at this
      · rcases List.mem_cons.1 this with hm | hm
        · simp only [Prod.mk.injEq] at hm; omega
        · exact hm
      · exact this
    · have := h3 k d R' hm
      omega
    · cases j with
      | zero =>
        simp only [List.getElem?_cons_zero, Option.some.injEq] at hj
        subst hj
        refine ⟨R, hmono, fun d' R' hm => ?_, fun A w' hb hj hbase hd => hobl A w' hb hj hbase (deps_of fun e he hbn d R' hm => hd e he hbn d R' (h1 _ (hsub _ hm)))⟩
        have := h2 _ d' R' hm (by omega)
        unfold addT at this
        split at this
        · rename_i dd hdd
          rcases List.mem_cons.1 this with hm | hm
          · simp only [Prod.mk.injEq] at hm
            exact ⟨by rw [hdd, hm.2.1], hm.2.2⟩
          · have := hT _ d' R' hm; omega
        · have := hT _ d' R' this; omega
      | succ j =>
        simp only [List.getElem?_cons_succ] at hj
        obtain ⟨R2, a1, a2, a3⟩ := h4 j o' hj (by omega)
        rw [show i + 1 + j = i + (j + 1) from by omega] at a1 a2 a3
        exact ⟨R2, a1, a2, a3⟩

/-- What an operation waits for, all the way. -/
def edgesOf (l : List Oper) (j : Nat) : List Nat := match l[j]? with
  | some o => (o.after.toList.filter (fun e => Region.binds .any e)).map (·.on)
  | none => []
def ancF (l : List Oper) : Nat → List Nat → List Nat
  | 0, S => S
  | j + 1, S => ancF l j (if S.contains j then S ++ edgesOf l j else S)
def tailB (l : List Oper) (n0 : Nat) : Bool := (List.range l.length).all fun d => decide (d < n0) || (List.range d).all fun i => (ancF l d (edgesOf l d)).contains i
theorem edges_listed {l : List Oper} {listed : Array Bool} (hcl : ∀ (j : Nat) (o : Oper), l[j]? = some o → listed.getD j false = true → ∀ e ∈ o.after.toList, Region.binds .any e = true → listed.getD e.on false = true) (j : Nat) (hj : listed.getD j false = true) :
    ∀ i ∈ edgesOf l j, listed.getD i false = true := by
  intro i hi
  unfold edgesOf at hi
  split at hi
  · rename_i o ho
    obtain ⟨e, he, rfl⟩ := List.mem_map.1 hi
    obtain ⟨he1, he2⟩ := List.mem_filter.1 he
    exact hcl j o ho hj e he1 he2
  · cases hi
theorem anc_listed {l : List Oper} {listed : Array Bool} (hcl : ∀ (j : Nat) (o : Oper), l[j]? = some o → listed.getD j false = true → ∀ e ∈ o.after.toList, Region.binds .any e = true → listed.getD e.on false = true) :
    ∀ (n : Nat) (S : List Nat), (∀ i ∈ S, listed.getD i false = true) → ∀ i ∈ ancF l n S, listed.getD i false = true
  | 0, S, h => h
  | n + 1, S, h => by
    unfold ancF
    refine anc_listed hcl n _ ?_
    split
    · rename_i hc
      intro i hi
      rcases List.mem_append.1 hi with hi | hi
      · exact h i hi
      · exact edges_listed hcl n (h n (by simpa using hc)) i hi
    · exact h
theorem tail_listed {l : List Oper} {n0 d : Nat} {listed : Array Bool} {o : Oper} (hT : tailB l n0 = true) (hd : n0 ≤ d) (ho : l[d]? = some o)
    (hcl : ∀ (j : Nat) (o : Oper), l[j]? = some o → listed.getD j false = true → ∀ e ∈ o.after.toList, Region.binds .any e = true → listed.getD e.on false = true)
    (haft : ∀ e ∈ o.after.toList, Region.binds .any e = true → listed.getD e.on false = true) (i : Nat) (hi : i < d) : listed.getD i false = true := by
  have hdl : d < l.length := (List.getElem?_eq_some_iff.1 ho).1
  have h1 := List.all_eq_true.1 hT d (List.mem_range.2 hdl)
  simp only [Bool.or_eq_true, decide_eq_true_eq] at h1
  have h2 := List.all_eq_true.1 (h1.resolve_left (by omega)) i (List.mem_range.2 hi)
  refine anc_listed hcl d (edgesOf l d) ?_ i (by simpa using h2)
  intro k hk
  unfold edgesOf at hk
  rw [ho] at hk
  obtain ⟨e, he, rfl⟩ := List.mem_map.1 hk
  obtain ⟨he1, he2⟩ := List.mem_filter.1 he
  exact haft e he1 he2

theorem wp_region_flowT {id : Nat} {Q : Exit → Act → World → Prop} {a : Act} {w : World} {l : List Oper} (j0 : Nat) (hJ0 : J w.drew) (hJM : ∀ a b, J a → M a b → J b) (hJ1M : ∀ a b, J1 a → M a b → J1 b) (hML : ∀ a b, M a b → L a b) (hdr : ∀ w : World, L w w.drew) (htr : ∀ a b c, L a b → L b c → L a c) (bs : List Nat) (n n0 : Nat) (hm : P.follows .mixedOrders = true) (hn : a.tmps.size = n)
    (hB : flowB n l = true) (hO : flowO l 0 = true) (hT : tailB l n0 = true) (hbs : bs.all (fun t => (l.take n0).all (fun o => o.dst != some t)) = true) (h : FlowT P L M J J1 j0 w a bs Q l n0 n0 l 0 []) : (Code.region id l.toArray true).wp P Q a w := by
  obtain ⟨T, hn0, -, -, hlen, hobl, hfin⟩ := flow_tableT n0 l 0 [] (by simp) h
  subst hn
  have htake : ∀ i, i < n0 → (l.take n0)[i]? = l[i]? := fun i hi => by rw [List.getElem?_take, if_pos hi]
  -- what the frame is when all the first ones are done
  have hframe : ∀ (A : Act) (w' : World) (listed : Array Bool), (∀ k, k < n0 → listed.getD k false = true) → (∀ k, n0 ≤ k → k < l.length → listed.getD k false = false) → L w w' → A.defers = a.defers → A.tmps.size = a.tmps.size →
      (∀ t, a.tmps[t]? ≠ A.tmps[t]? → ∃ (i : Nat) (o : Oper), l[i]? = some o ∧ o.dst = some t ∧ listed.getD i false = true) → (∀ i d R, (i, d, R) ∈ T → listed.getD i false = true → R w' (A.eval (.tmp d))) → (listed.getD j0 false = true → J1 w') → seqUpon P (Q .normal) (l.drop n0) A w' := by
    intro A w' listed hdone hno hbel hdef hts hdiff hall hJ1
    have hx : frameOf (fun i => match (l[i]?).bind (·.dst) with | some d => A.eval (.tmp d) | none => undef) (l.take n0) 0 a = A := by
      refine frame_eq _ A (l.take n0) 0 a hdef hts (fun i o d hi hd hlt => ?_) (fun t ht => ?_)
      · have hi1 : i < n0 := by have := (List.getElem?_eq_some_iff.1 hi).1; simp at this; omega
        rw [htake i hi1] at hi
        simp only [Nat.zero_add, hi, Option.bind_some, hd, Act.eval, Array.getD_eq_getD_getElem?]
        have : d < A.tmps.size := by rw [hts]; exact hlt
        simp [this]
      · obtain ⟨j, oj, hj, hdj, hlj⟩ := hdiff t ht
        have hjl : j < l.length := (List.getElem?_eq_some_iff.1 hj).1
        have hj1 : j < n0 := by
          by_cases hjj : j < n0
          · exact hjj
          · rw [hno j (by omega) hjl] at hlj; cases hlj
        exact ⟨j, oj, (htake j hj1).trans hj, hdj⟩
    have hq := hfin (fun i => match (l[i]?).bind (·.dst) with | some d => A.eval (.tmp d) | none => undef) w' hbel (allT_of fun k d R hmem => by
      have hk1 : k < n0 := by simpa using hlen k d R hmem
      have hkl : k < l.length := by omega
      have hko : l[k]? = some l[k] := by simp [hkl]
      obtain ⟨R2, -, huniq2, -⟩ := hobl k l[k] hko hk1
      simp only [Nat.zero_add] at huniq2
      obtain ⟨hod, -⟩ := huniq2 d R hmem
      simp only [hko, Option.bind_some, hod]
      exact hall k d R hmem (hdone k hk1)) (fun h => hJ1 (hdone j0 h))
    rw [hx] at hq
    exact hq.out
  refine wp_region_any hm ?_
  refine wpAny_inv (fun listed A w' => listed.size = l.length ∧ (∀ (j : Nat) (o : Oper), l[j]? = some o → listed.getD j false = true → ∀ e ∈ o.after.toList, Region.binds .any e = true → listed.getD e.on false = true) ∧
      (((∀ k, n0 ≤ k → k < l.length → listed.getD k false = false) ∧ L w w' ∧ A.defers = a.defers ∧ A.tmps.size = a.tmps.size ∧ (∀ t, a.tmps[t]? ≠ A.tmps[t]? → ∃ (i : Nat) (o : Oper), l[i]? = some o ∧ o.dst = some t ∧ listed.getD i false = true) ∧
      (∀ i d R, (i, d, R) ∈ T → listed.getD i false = true → R w' (A.eval (.tmp d))) ∧ (listed.getD j0 false = false → J w') ∧ (listed.getD j0 false = true → J1 w')) ∨ (∃ k, n0 < k ∧ k ≤ l.length ∧ (∀ i, i < k → listed.getD i false = true) ∧ (∀ i, k ≤ i → i < l.length → listed.getD i false = false) ∧ seqUpon P (Q .normal) (l.drop k) A w'))) ?_ ?_ (fun listed => unl listed.toList) ?_ _ _ _ _ ?_ ?_
  · rintro listed A w' i ⟨hsz, hcl, hI⟩ hi
    obtain ⟨hun, o, ho, haft⟩ := mem_ready.1 hi
    have ho' : l[i]? = some o := by simpa using ho
    have hil : i < l.length := (List.getElem?_eq_some_iff.1 ho').1
    obtain ⟨hg, hd⟩ := flowB_spec hB i o ho'
    have haft' : ∀ e ∈ o.after.toList, Region.binds .any e = true → listed.getD e.on false = true := fun e he hb => haft e (by simpa using he) hb
    have hcl' : ∀ (j : Nat) (oj : Oper), l[j]? = some oj → (listed.setIfInBounds i true).getD j false = true → ∀ e ∈ oj.after.toList, Region.binds .any e = true → (listed.setIfInBounds i true).getD e.on false = true := by
      intro j oj hj hlj e he hb
      by_cases hij : i = j
      · subst hij
        obtain rfl : o = oj := by rw [ho'] at hj; exact Option.some.inj hj
        exact getD_set_mono (haft' e he hb)
      · rw [getD_set_ne false hij] at hlj
        exact getD_set_mono (hcl j oj hj hlj e he hb)
    have hself : (listed.setIfInBounds i true).getD i false = true := getD_set_self (by omega)
    have hunF : listed.getD i false = false := by
      rw [getD_ft (by omega)]; simpa using hun
    unfold wpOp
    rw [ho]
    simp only [Region.wanted, hg, if_true]
    -- a step of the tail
    have htailstep : ∀ k, n0 ≤ k → (∀ j, j < k → listed.getD j false = true) → (∀ j, k ≤ j → j < l.length → listed.getD j false = false) → k ≤ i → seqUpon P (Q .normal) (l.drop k) A w' → o.wp P A w' (fun a' w2 => (listed.setIfInBounds i true).size = l.length ∧ (∀ (j : Nat) (o : Oper), l[j]? = some o → (listed.setIfInBounds i true).getD j false = true → ∀ e ∈ o.after.toList, Region.binds .any e = true → (listed.setIfInBounds i true).getD e.on false = true) ∧
      (((∀ k, n0 ≤ k → k < l.length → (listed.setIfInBounds i true).getD k false = false) ∧ L w w2 ∧ a'.defers = a.defers ∧ a'.tmps.size = a.tmps.size ∧ (∀ t, a.tmps[t]? ≠ a'.tmps[t]? → ∃ (i_1 : Nat) (o : Oper), l[i_1]? = some o ∧ o.dst = some t ∧ (listed.setIfInBounds i true).getD i_1 false = true) ∧
      (∀ i_1 d R, (i_1, d, R) ∈ T → (listed.setIfInBounds i true).getD i_1 false = true → R w2 (a'.eval (.tmp d))) ∧ ((listed.setIfInBounds i true).getD j0 false = false → J w2) ∧ ((listed.setIfInBounds i true).getD j0 false = true → J1 w2)) ∨ (∃ k, n0 < k ∧ k ≤ l.length ∧ (∀ i_1, i_1 < k → (listed.setIfInBounds i true).getD i_1 false = true) ∧ (∀ i_1, k ≤ i_1 → i_1 < l.length → (listed.setIfInBounds i true).getD i_1 false = false) ∧ seqUpon P (Q .normal) (l.drop k) a' w2))) Q := by
      intro k hk hdone hno hki hseq
      obtain rfl : i = k := by
        rcases Nat.lt_or_ge k i with hlt | hge
        · have := tail_listed hT (by omega) ho' hcl haft' k hlt
          rw [hno k (Nat.le_refl _) (by omega)] at this
          cases this
        · omega
      have hdc : l.drop i = o :: l.drop (i + 1) := by
        rw [List.drop_eq_getElem_cons hil]
        congr 1
        have := List.getElem?_eq_getElem hil
        rw [ho'] at this
        exact (Option.some.inj this).symm
      rw [hdc] at hseq
      simp only [seqUpon] at hseq
      refine last_upon hseq fun v w2 hv => ⟨by simpa using hsz, hcl', .inr ⟨i + 1, by omega, by omega, fun j hj => ?_, fun j hj hjl => ?_, hv⟩⟩
      · by_cases hji : i = j
        · subst hji; exact hself
        · exact getD_set_mono (hdone j (by omega))
      · rw [getD_set_ne false (by omega)]; exact hno j (by omega) hjl
    rcases hI with ⟨hno, hbel, hdef, hts, hdiff, hall, hJ, hJ1⟩ | ⟨k, hk0, hkl, hdone, hno, hseq⟩
    · by_cases hil1 : i < n0
      · obtain ⟨R, hmono, huniq, hob⟩ := hobl i o ho' hil1
        simp only [Nat.zero_add] at huniq hmono hob
        have hstep : ∀ v w2, (L w' w2) → (∀ k d R', (k, d, R') ∈ T → i ≠ k → listed.getD k false = true → R' w2 (A.eval (.tmp d))) → R w2 v → ((listed.setIfInBounds i true).getD j0 false = false → J w2) → ((listed.setIfInBounds i true).getD j0 false = true → J1 w2) → (listed.setIfInBounds i true).size = l.length ∧ (∀ (j : Nat) (o : Oper), l[j]? = some o → (listed.setIfInBounds i true).getD j false = true → ∀ e ∈ o.after.toList, Region.binds .any e = true → (listed.setIfInBounds i true).getD e.on false = true) ∧
      (((∀ k, n0 ≤ k → k < l.length → (listed.setIfInBounds i true).getD k false = false) ∧ L w w2 ∧ (A.put o.dst v).defers = a.defers ∧ (A.put o.dst v).tmps.size = a.tmps.size ∧ (∀ t, a.tmps[t]? ≠ (A.put o.dst v).tmps[t]? → ∃ (i_1 : Nat) (o : Oper), l[i_1]? = some o ∧ o.dst = some t ∧ (listed.setIfInBounds i true).getD i_1 false = true) ∧
      (∀ i_1 d R, (i_1, d, R) ∈ T → (listed.setIfInBounds i true).getD i_1 false = true → R w2 ((A.put o.dst v).eval (.tmp d))) ∧ ((listed.setIfInBounds i true).getD j0 false = false → J w2) ∧ ((listed.setIfInBounds i true).getD j0 false = true → J1 w2)) ∨ (∃ k, n0 < k ∧ k ≤ l.length ∧ (∀ i_1, i_1 < k → (listed.setIfInBounds i true).getD i_1 false = true) ∧ (∀ i_1, k ≤ i_1 → i_1 < l.length → (listed.setIfInBounds i true).getD i_1 false = false) ∧ seqUpon P (Q .normal) (l.drop k) (A.put o.dst v) w2)) := by
          intro v w2 hb2 hkeep hR hJ2 hJ3
          refine ⟨by simpa using hsz, hcl', .inl ⟨fun k hk hkl => ?_, htr _ _ _ hbel hb2, ?_, ?_, ?_, ?_, hJ2, hJ3⟩⟩
          · rw [getD_set_ne false (by omega)]; exact hno k hk hkl
          · rw [← hdef]; unfold Act.put; split <;> rfl
          · rw [← hts]; unfold Act.put; split <;> simp
          · intro t ht
            by_cases hdt : o.dst = some t
            · exact ⟨i, o, ho', hdt, hself⟩
            · refine (hdiff t fun he => ht ?_).imp fun j => Exists.imp fun oj h => ⟨h.1, h.2.1, getD_set_mono h.2.2⟩
              rw [he]
              unfold Act.put
              split
              · rename_i t' ht'
                have : t' ≠ t := fun e => hdt (by rw [ht', e])
                rw [Array.getElem?_setIfInBounds_ne this]
              · rfl
          · intro k d R' hmem hk
            have hk1 : k < n0 := by simpa using hlen k d R' hmem
            by_cases hki : i = k
            · subst hki
              obtain ⟨hod, rfl⟩ := huniq d R' hmem
              rw [eval_put_eq hod (by rw [hts]; exact (hd d hod).1)]
              exact hR
            · have hk' : listed.getD k false = true := by rw [getD_set_ne false hki] at hk; exact hk
              have hkl : k < l.length := by omega
              have hko : l[k]? = some l[k] := by simp [hkl]
              obtain ⟨R2, hmono2, huniq2, -⟩ := hobl k l[k] hko hk1
              simp only [Nat.zero_add] at huniq2
              obtain ⟨hod, -⟩ := huniq2 d R' hmem
              have hne : o.dst ≠ some d := fun hd0 => by
                rcases Nat.lt_or_gt_of_ne hki with h | h
                · exact (hd d hd0).2 k l[k] hko h hod
                · exact ((flowB_spec hB k l[k] hko).2 d hod).2 i o ho' h hd0
              rw [eval_put_ne hne]
              exact hkeep k d R' hmem hki hk'
        have hbase : baseF A a bs := baseF_of fun t ht => by
          have h1 := List.all_eq_true.1 hbs t ht
          have h2 : ∀ o ∈ l.take n0, o.dst ≠ some t := fun o ho => by simpa using List.all_eq_true.1 h1 o ho
          have h3 : a.tmps[t]? = A.tmps[t]? := Classical.byContradiction fun hne => by
            obtain ⟨j, oj, hj, hdj, hlj⟩ := hdiff t hne
            have hjl : j < l.length := (List.getElem?_eq_some_iff.1 hj).1
            have hj1 : j < n0 := by
              by_cases hjj : j < n0
              · exact hjj
              · rw [hno j (by omega) hjl] at hlj; cases hlj
            exact h2 oj (List.mem_of_getElem? ((htake j hj1).trans hj)) hdj
          simp only [Act.eval, Array.getD_eq_getD_getElem?, h3]
        have hobA := hob A w' hbel (fun e => hJ (by rw [← e]; exact hunF)) hbase fun e he hb d R hmem => hall _ d R hmem (haft' e he hb)
        -- the facts of the others are kept
        have hkeepL : ∀ w2, L w' w2 → (∀ k d R', (k, d, R') ∈ T → i ≠ k → k ≠ j0 → listed.getD k false = true → R' w2 (A.eval (.tmp d))) := by
          intro w2 hb2 k d R' hmem hki hkj hk'
          have hk1 : k < n0 := by simpa using hlen k d R' hmem
          have hkl : k < l.length := by omega
          obtain ⟨R2, hmono2, huniq2, -⟩ := hobl k l[k] (by simp [hkl]) hk1
          simp only [Nat.zero_add] at huniq2 hmono2
          obtain ⟨-, rfl⟩ := huniq2 d R' hmem
          rw [if_neg hkj] at hmono2
          exact hmono2 _ _ _ (hall k d R' hmem hk') hb2
        by_cases hij : i = j0
        · rw [if_pos hij] at hobA
          exact .inl (flow_uponL hobA fun v w2 hb2 hR => hstep v w2 hb2 (fun k d R' hmem hki hk' => hkeepL w2 hb2 k d R' hmem hki (by omega) hk') hR.1 (fun h => by rw [← hij, hself] at h; cases h) (fun _ => hR.2 hij))
        · rw [if_neg hij] at hobA
          refine .inl (flow_uponL hobA fun v w2 hb2 hR => hstep v w2 (hML _ _ hb2) (fun k d R' hmem hki hk' => ?_) hR.1 (fun h => hJM _ _ (hJ (by rwa [getD_set_ne false hij] at h)) hb2) (fun h => hJ1M _ _ (hJ1 (by rwa [getD_set_ne false hij] at h)) hb2))
          by_cases hkj : k = j0
          · have hk1 : k < n0 := by simpa using hlen k d R' hmem
            have hkl : k < l.length := by omega
            obtain ⟨R2, hmono2, huniq2, -⟩ := hobl k l[k] (by simp [hkl]) hk1
            simp only [Nat.zero_add] at huniq2 hmono2
            obtain ⟨-, rfl⟩ := huniq2 d R' hmem
            rw [if_pos hkj] at hmono2
            exact hmono2 _ _ _ (hall k d R' hmem hk') hb2
          · exact hkeepL w2 (hML _ _ hb2) k d R' hmem hki hkj hk'
      · have hdone : ∀ j, j < n0 → listed.getD j false = true := fun j hj => tail_listed hT (by omega) ho' hcl haft' j (by omega)
        exact .inl (htailstep n0 (Nat.le_refl _) hdone hno (by omega) (hframe A w' listed hdone hno hbel hdef hts hdiff hall hJ1))
    · have hki : k ≤ i := by
        rcases Nat.lt_or_ge i k with hlt | hge
        · rw [hdone i hlt] at hunF; cases hunF
        · exact hge
      exact .inl (htailstep k (by omega) hdone hno hki hseq)
  · rintro listed A w' ⟨hsz, hcl, hI⟩ hno
    have hdone : ∀ k, k < l.length → listed.getD k false = true := by
      intro k
      induction k using Nat.strongRecOn with
      | _ k ih =>
        intro hk
        refine Classical.byContradiction fun hf => hno k (mem_ready.2 ⟨?_, l[k], by simp [hk], fun e he hb => ?_⟩)
        · have hks : k < listed.size := by omega
          simp only [Array.getD_eq_getD_getElem?, Array.getElem?_eq_getElem hks, Option.getD_some] at hf ⊢
          simpa using hf
        · have hlt := flowO_spec hO k l[k] (by simp [hk]) e (by simpa using he) hb
          exact ih e.on (by omega) (by omega)
    rcases hI with ⟨hnl, hbel, hdef, hts, hdiff, hall, -, hJ1⟩ | ⟨k, hk0, hkl, -, hnl, hseq⟩
    · have hnn : n0 = l.length := by
        rcases Nat.lt_or_ge n0 l.length with h | h
        · have := hnl n0 (Nat.le_refl _) h
          rw [hdone n0 h] at this; cases this
        · omega
      have := hframe A w' listed (fun k hk => hdone k (by omega)) hnl hbel hdef hts hdiff hall hJ1
      rw [hnn, List.drop_length] at this
      exact this
    · have hkk : k = l.length := by
        rcases Nat.lt_or_ge k l.length with h | h
        · have := hnl k (Nat.le_refl _) h
          rw [hdone k h] at this; cases this
        · omega
      rw [hkk, List.drop_length] at hseq
      exact hseq
  · rintro listed A w' i ⟨hsz, -⟩ hi
    obtain ⟨hun, o, ho, -⟩ := mem_ready.1 hi
    have hil : i < listed.size := by have := (Array.getElem?_eq_some_iff.1 ho).1; simp at this; omega
    simp only [Array.toList_setIfInBounds]
    refine unl_set _ _ ?_
    simp only [Array.getD_eq_getD_getElem?, Array.getElem?_eq_getElem hil, Option.getD_some] at hun
    simp [hil, hun]
  · simp [unl_rep]
  · refine ⟨by simp, fun j o _ hl => ?_, .inl ⟨fun k hk hkl => ?_, hdr w, rfl, rfl, fun t ht => absurd rfl ht, fun i d R _ hl => ?_, fun _ => hJ0, fun hl => ?_⟩⟩
    · simp [Array.getD_eq_getD_getElem?, Array.getElem?_replicate] at hl; split at hl <;> simp at hl
    · simp [Array.getD_eq_getD_getElem?, Array.getElem?_replicate]; split <;> simp
    · simp [Array.getD_eq_getD_getElem?, Array.getElem?_replicate] at hl; split at hl <;> simp at hl
    · simp [Array.getD_eq_getD_getElem?, Array.getElem?_replicate] at hl; split at hl <;> simp at hl

section
variable {w : World} {a : Act} {bs : List Nat} {Q : Exit → Act → World → Prop} {l0 rest : List Oper} {n0 m i : Nat} {T : FTab} {d : Tmp} {op : Op} {ty : TypeId} {pos : String} {es : Array Edge} {g : Option (Nat × Bool)}
theorem flowT_valE (hij : i ≠ j0)
    (h : ∃ e, (∀ A w', L w w' → baseF A a bs → deps T A w' es.toList → flowUponL P M (fun _ v => v = e) w' ((execOp A.eval ⟨some d, op, ty, pos, es, g⟩).run P w')) ∧
      FlowT P L M J J1 j0 w a bs Q l0 n0 m rest (i + 1) ((i, d, fun _ v => v = e) :: T)) : FlowT P L M J J1 j0 w a bs Q l0 n0 (m + 1) (⟨some d, op, ty, pos, es, g⟩ :: rest) i T := by
  obtain ⟨e, h, k⟩ := h
  exact ⟨_, by rw [if_neg hij]; exact fun _ _ _ h _ => h, by rw [if_neg hij]; exact fun A w' hl _ hb hd => flowUponL_imp (h A w' hl hb hd) (fun _ _ hr => ⟨hr, fun e => absurd e hij⟩), k⟩
theorem flowT_R (hij : i ≠ j0) (R : VPred) (hm : VMonoL L R)
    (h : ∀ A w', L w w' → baseF A a bs → deps T A w' es.toList → flowUponL P M R w' ((execOp A.eval ⟨some d, op, ty, pos, es, g⟩).run P w'))
    (k : FlowT P L M J J1 j0 w a bs Q l0 n0 m rest (i + 1) ((i, d, R) :: T)) : FlowT P L M J J1 j0 w a bs Q l0 n0 (m + 1) (⟨some d, op, ty, pos, es, g⟩ :: rest) i T := ⟨R, by rw [if_neg hij]; exact hm, by rw [if_neg hij]; exact fun A w' hl _ hb hd => flowUponL_imp (h A w' hl hb hd) (fun _ _ hr => ⟨hr, fun e => absurd e hij⟩), k⟩
theorem flowT_row (hij : i = j0) (R : VPred) (hm : VMonoL M R)
    (h : ∀ A w', L w w' → J w' → baseF A a bs → deps T A w' es.toList → flowUponL P L (fun W u => R W u ∧ J1 W) w' ((execOp A.eval ⟨some d, op, ty, pos, es, g⟩).run P w'))
    (k : FlowT P L M J J1 j0 w a bs Q l0 n0 m rest (i + 1) ((i, d, R) :: T)) : FlowT P L M J J1 j0 w a bs Q l0 n0 (m + 1) (⟨some d, op, ty, pos, es, g⟩ :: rest) i T := ⟨R, by rw [if_pos hij]; exact hm, by rw [if_pos hij]; exact fun A w' hl hj hb hd => flowUponL_imp (h A w' hl (hj hij) hb hd) (fun _ _ hr => ⟨hr.1, fun _ => hr.2⟩), k⟩
theorem flowT_store {ty : TypeId} (hij : i = j0)
    (h : ∀ A w', L w w' → J w' → baseF A a bs → deps T A w' es.toList → flowUponL P L (fun W _ => J1 W) w' ((execOp A.eval ⟨none, op, ty, pos, es, g⟩).run P w'))
    (k : FlowT P L M J J1 j0 w a bs Q l0 n0 m rest (i + 1) T) : FlowT P L M J J1 j0 w a bs Q l0 n0 (m + 1) (⟨none, op, ty, pos, es, g⟩ :: rest) i T := ⟨fun _ _ => True, by rw [if_pos hij]; exact fun _ _ _ _ _ => trivial, by rw [if_pos hij]; exact fun A w' hl hj hb hd => flowUponL_imp (h A w' hl (hj hij) hb hd) (fun _ _ hr => ⟨trivial, fun _ => hr⟩), k⟩
theorem flowT_tail
    (h : ∀ x w', L w w' → allT x w' T → (j0 < n0 → J1 w') → SeqUpon P (Q .normal) rest (frameOf x (l0.take n0) 0 a) w') : FlowT P L M J J1 j0 w a bs Q l0 n0 0 rest i T := h
end
end
end Go.Proofs.Ytdjikjmjajlgcaa
end

/-! ### YtdjikjmjajlgcaaAppend -/
section
namespace Go.Proofs.Ytdjikjmjajlgcaa.PFnPuts
open Go.RowKit Go.Proofs.YtdjikjmjajlgcaaW.PrintWords
set_option linter.unusedSimpArgs false
set_option linter.unusedVariables false

/-! append to a row of one's own, as an equation of runs. (own) -/
theorem run_append_R {P : Program} {α : Type} (d : Kd α) (W : World) (base t ty e : Nat) (z : Value) (bytes : Nat) (ht : P.underlying t = some (.slice e)) (hinfo : (P.info? e).map (fun i => (i.zero, i.size, i.bytes)) = some (some z, d.sz, bytes)) (hz : z.cells.size = d.sz) (hs0 : 0 < d.sz) (hb0 : 0 < bytes)
    (v : Value) (xs : List α) (p : α) (cs : List Value) (ok okp : Nat → Prop) (ad : Addr) (c : Nat) (hnews : ∀ j u, cs[j]? = some u → W.cell? (ad.add j) = some u) (hp : d.M W base okp p cs) (hokp : ∀ k, okp k → ok k ∧ some k ≠ v.ownBlock) (hfresh : ∀ k, W.heap.size ≤ k → ok k)
    (HO : d.R e W base ok v xs) (hbase : base ≤ W.heap.size) (hl : (xs.length + 1) * bytes ≤ 140737488355328) :
    ∃ v1 w1, (Builtin.append_ #[t, t] ty #[v, .slice (some ad) 1 c]).run P W = .ok v1 w1 ∧ d.R e w1 base ok v1 (xs ++ [p]) ∧ W.grownBy w1 v.ownBlock ∧ (v1.ownBlock = v.ownBlock ∨ ∃ b, v1.ownBlock = some b ∧ W.heap.size ≤ b) := by
  obtain ⟨h0, inner, hown, hr⟩ := HO
  cases hi : P.info? e with
  | none => rw [hi] at hinfo; simp at hinfo
  | some i =>
    rw [hi] at hinfo
    simp only [Option.map_some, Option.some.injEq, Prod.mk.injEq] at hinfo
    obtain ⟨i1, i2, i3⟩ := hinfo
    have hlen := d.K_len (d.K_of_M hp)
    have h63 : xs.length + 1 ≤ maxLen := by
      have : xs.length + 1 ≤ (xs.length + 1) * bytes := Nat.le_mul_of_pos_right _ hb0
      unfold maxLen; omega
    obtain ⟨v1, w1, hrun, hown1, hg, -, hat⟩ := run_append_own_at (P := P) (w := W) base t ty e i z d.sz bytes ht hi i1 i2 i3 hz hs0 v xs.length inner hown ad 1 c cs (by rw [hlen, Nat.one_mul]) hnews (d.K_one (d.K_of_M hp)) h63 hl hbase
    have hat' : v1.ownBlock = v.ownBlock ∨ ∃ b, v1.ownBlock = some b ∧ W.heap.size ≤ b := hat.imp id fun h => ⟨_, h, Nat.le_refl _⟩
    exact ⟨v1, w1, hrun, Kd.R_appended h0 hr hp hokp hfresh hown1 hg hat', hg, hat'⟩
theorem exec_append {P : Program} {A : Act} {W w1 : World} {s x : Operand} {t ty : TypeId} {v1 : Value} {dd : Option Tmp} {pos : String} {es : Array Edge} {g : Option (Nat × Bool)} (hr : (Builtin.append_ #[t, t] ty #[A.eval s, A.eval x]).run P W = .ok v1 w1) :
    (execOp A.eval ⟨dd, .call { callee := .builtin .append, args := #[s, x], argTypes := #[t, t] }, ty, pos, es, g⟩).run P W = .ok (.value v1) w1 := by
  unfold execOp
  simp only [resolve, invoke, builtin, Sem.run_bind, Sem.run_pure, Result.andThen_ok, List.map_toArray, List.map_cons, List.map_nil, hr]
end Go.Proofs.Ytdjikjmjajlgcaa.PFnPuts
end

/-! ### YtdjikjmjajlgcaaLogDraw -/
section
namespace Go.Proofs.Ytdjikjmjajlgcaa.PFnPuts
open Go.RowKit Go.Proofs.YtdjikjmjajlgcaaW.PrintWords
set_option linter.unusedSimpArgs false
set_option linter.unusedVariables false

/-! Drawn logs: every answer. (own) -/
/-- A log's entries: a row of one's own, short texts. -/
def Ents (w : World) (W : World) (v : Value) (xs : List S54) : Prop := Kd.R k54 54 W w.heap.size (fun k => w.heap.size ≤ k) v xs ∧ ∀ x ∈ xs, x.f2.size ≤ 200
theorem Ents.keep {w W W' : World} {v : Value} {xs : List S54} {g : Nat} (h : Ents w W v xs) (hk : KeepBut W W' g none) (hg : g < w.heap.size) : Ents w W' v xs :=
  ⟨Kd.R_keep h.1 hk (fun k hk => by omega), h.2⟩
theorem Ents.below {w W W' : World} {v : Value} {xs : List S54} (h : Ents w W v xs) (hb : Below W.heap.size W W') : Ents w W' v xs := ⟨Kd.R_below h.1 hb, h.2⟩
theorem Ents.far {w W : World} {v : Value} {xs : List S54} {T b : Nat} {cs : Array Value} (h : Ents w W v xs) (hk : Blk T b cs W) (ht : 54 ≠ T) (o : Nat) (u : Value) : Ents w (W.setCell ⟨b, o, none⟩ u) v xs :=
  ⟨Kd.R_set h.1 hk (fun q hq => by
    have hq' : q ∈ [54] := hq
    rw [List.mem_singleton] at hq'
    rw [hq']; exact ht) o u, h.2⟩
/-- A call that moves the cursor, makes memory, and may write a row of one's own. -/
def LR (w0 : World) (g : Nat) (row : Option Nat) (w w' : World) : Prop := (Cur w0 w g → Cur w0 w' g) ∧ KeepBut w w' g row
theorem LR.of (w0 : World) (g : Nat) (row : Option Nat) (a b : World) (h : LD w0 g a b) : LR w0 g row a b := ⟨h.1, h.2.1, fun i hi hg _ => h.2.2 i hi hg (by simp)⟩
theorem LR.trans (w0 : World) (g : Nat) (row : Option Nat) (a b c : World) (h : LR w0 g row a b) (k : LR w0 g row b c) : LR w0 g row a c := ⟨k.1 ∘ h.1, h.2.trans k.2 (.inl rfl)⟩
theorem LR.drew (w0 : World) (g : Nat) (row : Option Nat) (w : World) : LR w0 g row w w.drew := LR.of _ _ _ _ _ (LD.drew w0 g w)
theorem blk_keepR {T g b : Nat} {row : Option Nat} {cs : Array Value} {W W1 : World} (h : Blk T b cs W) (hk : KeepBut W W1 g row) (hne : b ≠ g) (hr : some b ≠ row) : Blk T b cs W1 := (hk.2 b h.lt hne hr).trans h
theorem Cur.grown {w0 W W1 : World} {g : Nat} {row : Option Nat} (h : Cur w0 W g) (hw : W.grownBy W1 row) (hne : some g ≠ row) (hrow : ∀ k, row = some k → w0.heap.size ≤ k) : Cur w0 W1 g := by
  obtain ⟨bs, i, s, h1, h2, h3, h4, h5⟩ := h
  refine ⟨bs, i, s, h1, h2, h3, h4.grown hw hne, ⟨hw.os.trans h5.os, hw.tape.trans h5.tape, hw.output.trans h5.output, Nat.le_trans h5.size hw.size, fun k hk => ?_⟩⟩
  exact (hw.block k (Nat.lt_of_lt_of_le hk h5.size) (fun e => by have := hrow k e.symm; omega)).trans (h5.block k hk)
theorem Dw.row {w0 w W W' : World} {g : Nat} {row : Option Nat} (h : Dw w0 w g W) (k : LR w0 g row W W') (hr : ∀ b, row = some b → w.heap.size ≤ b) : Dw w0 w g W' :=
  ⟨k.1 h.1, h.2.trans k.2 (by cases row with | none => exact .inl rfl | some b => exact .inr ⟨b, rfl, hr b rfl⟩)⟩

/-- A log that is being drawn: the cursor, the answer's cell, the log's own cell. -/
def LogAt (w0 w : World) (g b3 : Nat) (n : Nat) (W : World) : Prop := Dw w0 w g W ∧ Blk 67 w.heap.size #[.int .i64 0, .int .i64 0, .slice none 0 0] W ∧ ∃ (s t : Int) (v : Value) (xs : List S54), xs.length ≤ n ∧ Ents w W v xs ∧ Blk 67 b3 #[.int .i64 s, .int .i64 t, v] W
section
set_option linter.unusedSectionVars false
variable {w0 w : World} {g b3 n : Nat} {W : World} (hg : g < w.heap.size) (h3 : w.heap.size + 1 ≤ b3) (h0 : w0.heap.size ≤ w.heap.size)
include hg h3
theorem LogAt.step {W' : World} (h : LogAt w0 w g b3 n W) (hc : Cur w0 W' g) (hk : KeepBut W W' g none) : LogAt w0 w g b3 n W' := by
  obtain ⟨D, k2, s, t, v, xs, hn, he, k3⟩ := h
  exact ⟨D.step hc hk, blk_keep k2 hk (by omega), s, t, v, xs, hn, he.keep hk hg, blk_keep k3 hk (by omega)⟩
theorem LogAt.below {W' : World} (h : LogAt w0 w g b3 n W) (hb : Below W.heap.size W W') : LogAt w0 w g b3 n W' := by
  obtain ⟨D, k2, s, t, v, xs, hn, he, k3⟩ := h
  exact ⟨D.below hb, k2.below hb, s, t, v, xs, hn, he.below hb, k3.below hb⟩
end

theorem log_fill {w0 w W : World} {g b : Nat} {v : Value} {xs : List S54} (D : Dw w0 w g W) (hg : g < w.heap.size) (hb : w.heap.size ≤ b) (h0 : w0.heap.size ≤ w.heap.size) (h : Blk 67 b #[.int .i64 0, .int .i64 0, .slice none 0 0] W) (he : Ents w W v xs) (s t : Int) :
    Blk 67 b #[.int .i64 s, .int .i64 t, v] (((W.setCell ⟨b, 0, none⟩ (.int .i64 s)).setCell ⟨b, 1, none⟩ (.int .i64 t)).setCell ⟨b, 2, none⟩ v) ∧ Ents w (((W.setCell ⟨b, 0, none⟩ (.int .i64 s)).setCell ⟨b, 1, none⟩ (.int .i64 t)).setCell ⟨b, 2, none⟩ v) v xs ∧ Dw w0 w g (((W.setCell ⟨b, 0, none⟩ (.int .i64 s)).setCell ⟨b, 1, none⟩ (.int .i64 t)).setCell ⟨b, 2, none⟩ v) := by
  have z0 := h.set 0 (.int .i64 s) (cs' := #[.int .i64 s, .int .i64 0, .slice none 0 0]) rfl
  have z1 := z0.set 1 (.int .i64 t) (cs' := #[.int .i64 s, .int .i64 t, .slice none 0 0]) rfl
  have z2 := z1.set 2 v (cs' := #[.int .i64 s, .int .i64 t, v]) rfl
  have e0 := he.far h (by decide) 0 (.int .i64 s)
  have e1 := e0.far z0 (by decide) 1 (.int .i64 t)
  have e2 := e1.far z1 (by decide) 2 v
  have d0 := D.far hg (p := ⟨b, 0, none⟩) hb (.int .i64 s) h0
  have d1 := d0.far hg (p := ⟨b, 1, none⟩) hb (.int .i64 t) h0
  have d2 := d1.far hg (p := ⟨b, 2, none⟩) hb v h0
  exact ⟨z2, e2, d2⟩
set_option maxHeartbeats 2000000 in
set_option maxRecDepth 100000 in
theorem logRight_C {w0 w : World} {g : Nat} (hc : Cur w0 w g) :
    Calls Try.prog 111 #[.pointer (some ⟨g, 0, none⟩)] w fun e w' => (∃ (s t : Int) (v : Value) (xs : List S54), e = .returned (.agg #[.int .i64 s, .int .i64 t, v]) ∧ xs.length ≤ 8 ∧ Ents w w' v xs) ∧ Dw w0 w g w' := by
  have hgl := hc.lt
  have hws := hc.bl.size
  go_enter Try.func111, Try.ntmps111
  go_wp2_with fail
  refine calls_at (fun W => Dw w0 w g W ∧ Blk 67 w.heap.size #[.int .i64 0, .int .i64 0, .slice none 0 0] W) ⟨(Dw.start hc).alloc _, Blk.new _ _ w⟩ ?_
  rintro W1 ⟨D1, k2⟩
  refine (below_C 3 D1.1).mono ?_
  rintro e W2 ⟨r2, rfl, hr2, hc2, hk2⟩
  have D2 := D1.step hc2 hk2
  replace k2 := blk_keep k2 hk2 (by omega)
  clear D1 hk2 hc2 W1
  go_wp2_with fail
  refine (below_C 4 D2.1).mono ?_
  rintro e W3 ⟨r3, rfl, hr3, hc3, hk3⟩
  have D3 := D2.step hc3 hk3
  replace k2 := blk_keep k2 hk3 (by omega)
  clear D2 hk3 hc3 W2
  go_wp2_with fail
  refine (below_C 3 D3.1).mono ?_
  rintro e W4 ⟨r4, rfl, hr4, hc4, hk4⟩
  have D4 := D3.step hc4 hk4
  replace k2 := blk_keep k2 hk4 (by omega)
  clear D3 hk4 hc4 W3
  go_upto_region 2 with fail
  have h3 : w.heap.size + 1 ≤ W4.heap.size := by have := k2.lt; omega
  obtain ⟨b3, hb3⟩ : ∃ b3, b3 = W4.heap.size := ⟨_, rfl⟩
  refine wp_at (LogAt w0 w g b3 0) ⟨D4.alloc _, k2.alloc _, wrap64 (r2 * r3), r4, .slice none 0 0, [], by simp, ⟨Kd.R_nil _ _ _ _ _, by simp⟩, Blk.newE _ _ W4 hb3⟩ ?_
  rw [← hb3] at h3 ⊢
  clear D4 k2 hb3 W4 hr2 hr3 hr4
  intro W hW
  obtain ⟨D, k2, s, t, v, xs, hn, he, k3⟩ := id hW
  have c1 := k3.cell 1 rfl
  have l3 := k3.lt
  go_wp2_with fail
  clear c1 l3 k3 he hn k2 D v xs
  go_loopg [4, 5] 8 (fun kq v4 v5 w' => ∃ (i : Nat) (tm : Int), v4 = .int .i64 tm ∧ v5 = .int .i64 (i : Int) ∧ i + kq = 8 ∧ LogAt w0 w g b3 i w')
  case atStart => exact ⟨0, _, rfl, rfl, by omega, hW⟩
  case round =>
    obtain ⟨i, tm, rfl, rfl, hik, hR⟩ := hrel
    clear hW W
    go_wp2_with fail
    refine (below_C 8 hR.1.1).mono ?_
    rintro e W1 ⟨r, rfl, ⟨hr0, hr1, -⟩, hc1, hk1⟩
    have hV := hR.step hgl h3 hc1 hk1
    clear hR hc1 hk1
    have hr8 := hr1 (by decide)
    clear hr1
    by_cases hlt : (i : Int) < r
    · obtain ⟨n, rfl⟩ : ∃ n, gk = n + 1 := ⟨gk - 1, by omega⟩
      go_wp2_with fail
      refine (once_C 3 hV.1.1).mono ?_
      rintro e W2 ⟨q, rfl, hc2, hk2⟩
      have hU := hV.step hgl h3 hc2 hk2
      clear hV hc2 hk2
      go_upto_if 23 with fail
      go_cut [4] from 24 to 28 (fun v4 wx => ∃ tm : Int, v4 = .int .i64 tm ∧ LogAt w0 w g b3 i wx)
      case first =>
        cases q with
        | false =>
          go_wp2_with fail
          go_meet
          exact ⟨_, rfl, hU⟩
        | true =>
          go_wp2_with fail
          refine (below_C 2 hU.1.1).mono ?_
          rintro e W3 ⟨r3, rfl, -, hc3, hk3⟩
          have hX := hU.step hgl h3 hc3 hk3
          go_wp2_with fail
          go_meet
          exact ⟨_, rfl, hX⟩
      case rest =>
        obtain ⟨tm2, rfl, hY⟩ := hcut
        clear hU
        obtain ⟨D, k2, s, t, v, xs, hn, he, k3⟩ := hY
        have HE := Lib.hid he
        have hrow : ∀ k, v.ownBlock = some k → w.heap.size ≤ k := fun k hk => he.1.1 k hk
        have hrlt := Kd.R_lt he.1
        have n3v : some b3 ≠ v.ownBlock := Kd.R_ne he.1 k3 (by decide)
        have n2v : some w.heap.size ≠ v.ownBlock := Kd.R_ne he.1 k2 (by decide)
        have ngv : some g ≠ v.ownBlock := fun e => by have := hrow g e.symm; omega
        have hgc := D.1.lt
        have l3 := k3.lt
        clear he
        go_upto_region 8 with fail
        refine wp_region_flowT (L := LR w0 g v.ownBlock) (M := LD w0 g) (J := fun W => Ents w W v xs) (J1 := fun _ => True) 6 (HE.out.below (bl_drew (Below.refl _ _))) (fun a b h k => h.keep k.2 hgl) (fun _ _ _ _ => trivial) (LR.of w0 g _) (LR.drew w0 g _) (LR.trans w0 g _) [0, 3, 4] 38 8 (by kernel_rfl) (by rfl) (by kernel_rfl) (by kernel_rfl) (by kernel_rfl) (by kernel_rfl) ?_
        (refine flowT_valE (by decide) ?_; apply Exists.intro; refine ⟨fun A wq hLq hbq hdq => ?_, ?_⟩; focus ((try simp [go_sem, baseF, deps, dep1, Region.binds] at hbq); (try simp [go_sem, baseF, deps, dep1, Region.binds] at hdq); go_simp; first | exact ⟨LD.refl _ _ _, rfl⟩ | (fail)))
        refine flowT_valE (by decide) ⟨v, fun A wq hLq hbq hdq => ?_, ?_⟩
        · have q3 := blk_keepR k3 hLq.2 (by omega) n3v
          have qc := q3.cell 2 rfl
          have ql := q3.lt
          (try simp [go_sem, baseF, deps, dep1, Region.binds] at hbq)
          (try simp [go_sem, baseF, deps, dep1, Region.binds] at hdq)
          go_simp
          exact ⟨LD.refl _ _ _, rfl⟩
        iterate 2 (refine flowT_valE (by decide) ?_; apply Exists.intro; refine ⟨fun A wq hLq hbq hdq => ?_, ?_⟩; focus ((try simp [go_sem, baseF, deps, dep1, Region.binds] at hbq); (try simp [go_sem, baseF, deps, dep1, Region.binds] at hdq); go_simp; first | exact ⟨LD.refl _ _ _, rfl⟩ | (fail)))
        refine flowT_R (by decide) (fun W u => ∃ x : S54, u = .agg #[.int .i64 x.f0, .int .i64 x.f1, .string x.f2] ∧ x.f2.size ≤ 200) (fun _ _ _ h _ => h) (fun A wq hLq hbq hdq => ?_) ?_
        · (try simp [go_sem, baseF, deps, dep1, Region.binds] at hbq)
          (try simp [go_sem, baseF, deps, dep1, Region.binds] at hdq)
          go_simp
          refine (ent_C (hLq.1 D.1) _).mono ?_
          rintro e w5 ⟨⟨t5, k5, d5, rfl, hd5⟩, DD⟩
          exact ⟨_, rfl, ⟨fun _ => DD.1, DD.2⟩, ⟨t5, k5, d5⟩, rfl, hd5⟩
        refine flowT_R (by decide) (fun W u => ∃ (b : Nat) (x : S54), u = .slice (some ⟨b, 0, none⟩) 1 1 ∧ wc.heap.size ≤ b ∧ Blk 54 b #[.int .i64 x.f0, .int .i64 x.f1, .string x.f2] W ∧ x.f2.size ≤ 200) (fun W W' u ⟨b, x, e, hb, hk, hx⟩ hL => ⟨b, x, e, hb, blk_keepR hk hL.2 (by omega) (fun e => by have := hrlt b e.symm; omega), hx⟩) (fun A wq hLq hbq hdq => ?_) ?_
        · (try simp [go_sem, baseF, deps, dep1, Region.binds] at hbq)
          (try simp [go_sem, baseF, deps, dep1, Region.binds] at hdq)
          obtain ⟨x, hx, hxs⟩ := hdq
          go_simp
          first
            | exact ⟨LD.below (bl_alloc (Below.refl _ _) _), wq.heap.size, x, rfl, hLq.2.1, Blk.new _ _ wq, hxs⟩
            | exact ⟨LD.below (bl_alloc (Below.refl _ _) _), wq.heap.size, rfl, hLq.2.1, x, Blk.new _ _ wq, hxs⟩
            | exact ⟨LD.below (bl_alloc (Below.refl _ _) _), x, hLq.2.1, Blk.new _ _ wq, hxs⟩
           
        refine flowT_row rfl (fun W u => ∃ x : S54, x.f2.size ≤ 200 ∧ Kd.R k54 54 W w.heap.size (fun k => w.heap.size ≤ k) u (xs ++ [x])) (fun W W' u ⟨x, hx, hR⟩ hL => ⟨x, hx, Kd.R_keep hR hL.2 (fun k hk => by omega)⟩) (fun A wq hLq hJ hbq hdq => ?_) ?_
        · (try simp [go_sem, baseF, deps, dep1, Region.binds] at hbq)
          (try simp [go_sem, baseF, deps, dep1, Region.binds] at hdq)
          obtain ⟨h30, ⟨b, h34, hb, x, hk, hx⟩, -⟩ := hdq
          obtain ⟨v1, w1, hrun, hR1, hg1, hat1⟩ := run_append_R (P := Try.prog) k54 wq w.heap.size 29 29 54 (.agg #[.int .i64 0, .int .i64 0, .string ⟨#[]⟩]) 32 Try.underlying29 (by kernel_rfl) rfl (by decide) (by decide) v xs x [.int .i64 x.f0, .int .i64 x.f1, .string x.f2] _ (fun _ => False) ⟨b, 0, none⟩ 1 (by simpa using World.news_of_block (cs := #[.int .i64 x.f0, .int .i64 x.f1, .string x.f2]) (t := 54) (fr := (0, 0)) hk) (k54_mkM wq _ _ x) (fun k h => h.elim) (fun k hk => by have := hLq.2.1; have := D.size; omega) hJ.1 (by have := hLq.2.1; have := D.size; omega) (by omega)
          have h30' : A.eval (.tmp 30) = v := by simpa [Act.eval, Array.getD_eq_getD_getElem?] using h30
          have h34' : A.eval (.tmp 34) = .slice (some ⟨b, 0, none⟩) 1 1 := by simpa [Act.eval, Array.getD_eq_getD_getElem?] using h34
          rw [exec_append (by rw [h30', h34']; exact hrun)]
          exact ⟨⟨fun c => c.grown hg1 ngv (fun k hk => Nat.le_trans hws (hrow k hk)), KeepBut.of_grown hg1 g⟩, ⟨x, hx, hR1⟩, trivial⟩
        (refine flowT_valE (by decide) ?_; apply Exists.intro; refine ⟨fun A wq hLq hbq hdq => ?_, ?_⟩; focus ((try simp [go_sem, baseF, deps, dep1, Region.binds] at hbq); (try simp [go_sem, baseF, deps, dep1, Region.binds] at hdq); go_simp; first | exact ⟨LD.refl _ _ _, rfl⟩ | (fail)))
        with_reducible refine flowT_tail ?_
        intro x wq hLq hall _
        simp only [allT] at hall
        obtain ⟨h7, ⟨y, hy, hR1⟩, -, -, hall⟩ := hall
        obtain ⟨A6, c6, h6, hcap6, -⟩ := Kd.R_reads hR1
        rw [h6] at hR1
        have HR1 := Lib.hid hR1
        clear hR1
        have q3 := blk_keepR k3 hLq.2 (by omega) n3v
        have q2 := blk_keepR k2 hLq.2 (by omega) n2v
        have DQ := D.row hLq hrow
        have c2 := q3.cell 2 rfl
        have f2 := q3.free 2
        have ql := q3.lt
        refine ⟨?_⟩
        simp [seqUpon, lastUpon, frameOf, Act.put, List.take, h7, h6, hall]
        clear hall h6 h7
        go_simp
        have E1 := Lib.hid (show wrap64 ((i : Int) + 1) = ((i + 1 : Nat) : Int) from by unfold wrap64; omega)
        have hfin : LogAt w0 w g b3 (i + 1) (wq.setCell ⟨b3, 2, none⟩ (.slice A6 (xs.length + 1) c6)) := by
          refine ⟨DQ.far hgl (p := ⟨b3, 2, none⟩) (by show w.heap.size ≤ b3; omega) _ hws, q2.far (by show w.heap.size ≠ b3; omega) _, s, t, .slice A6 (xs.length + 1) c6, xs ++ [y], by simp; omega, ?_, q3.set 2 _ rfl⟩
          have h9 : Ents w wq (.slice A6 (xs.length + 1) c6) (xs ++ [y]) := ⟨by simpa using HR1.out, fun z hz => by
            rcases List.mem_append.1 hz with h | h
            · exact HE.out.2 z h
            · rw [List.mem_singleton] at h; rw [h]; exact hy⟩
          exact h9.far q3 (by decide) 2 _
        clear DQ q2 q3 c2 f2 ql HR1
        go_wp2_with fail
        go_roundg n
        case measure => omega
        case rel => exact ⟨i + 1, _, rfl, by first | rfl | (rw [E1.out]), by omega, hfin⟩
    · obtain ⟨D, k2, s, t, v, xs, hn, he, k3⟩ := hV
      obtain ⟨A, c, rfl, hcap, hC⟩ := Kd.R_reads he.1
      have HC := Lib.hid hC
      have HE := Lib.hid he
      clear hC he
      have c0 := k3.cell 0 rfl
      have c1 := k3.cell 1 rfl
      have c2 := k3.cell 2 rfl
      have l3 := k3.lt
      have l2 := k2.lt
      have x0 := k2.cell 0 rfl
      have x1 := k2.cell 1 rfl
      have x2 := k2.cell 2 rfl
      have y0 := k2.free 0
      have y1 := k2.free 1
      have y2 := k2.free 2
      have n23 : w.heap.size ≠ b3 := by omega
      go_wp2_with fail
      obtain ⟨z1, z2, z3⟩ := log_fill D hgl (Nat.le_refl _) hws k2 HE.out s t
      exact bodyPost_ret (results_cell_row rfl _ _ w.heap.size 67 #[.int .i64 s, .int .i64 t, .slice A xs.length c] (0, 0) _ rfl z1 Try.underlying67 rfl (by kernel_rfl)) rfl ⟨⟨s, t, _, xs, rfl, by omega, z2⟩, z3⟩
end Go.Proofs.Ytdjikjmjajlgcaa.PFnPuts
end

/-! ### YtdjikjmjajlgcaaLogAny -/
section
namespace Go.Proofs.Ytdjikjmjajlgcaa.PFnPuts
open Go.RowKit Go.Proofs.YtdjikjmjajlgcaaW.PrintWords
set_option linter.unusedSimpArgs false
set_option linter.unusedVariables false

theorem Ents.lower {w w1 W : World} {v : Value} {xs : List S54} (h : Ents w1 W v xs) (hle : w.heap.size ≤ w1.heap.size) : Ents w W v xs :=
  ⟨Kd.R_mono (Kd.R_lower h.1 hle) (fun k hk => Nat.le_trans hle hk), h.2⟩
theorem ents_empty {w W : World} (hle : w.heap.size ≤ W.heap.size) : Ents w (W.alloc (.cells #[] 54)) (.slice (some ⟨W.heap.size, 0, none⟩) 0 0) [] := by
  refine ⟨⟨fun k hk => ?_, [], ?_, Reps.none _ _⟩, by simp⟩
  · have : W.heap.size = k := by simpa [Value.ownBlock] using hk
    omega
  · exact World.ownsRow_lit (base := w.heap.size) (e := 54) (size := 3) W #[] 0 hle (by simp [maxLen]) (by simp)
section
set_option linter.unusedSectionVars false
variable {w0 w : World} {g b3 n : Nat} {W : World} (hg : g < w.heap.size) (h3 : w.heap.size + 1 ≤ b3) (h0 : w0.heap.size ≤ w.heap.size)
include hg h3 h0
theorem LogAt.set0 (h : LogAt w0 w g b3 n W) (u : Int) : LogAt w0 w g b3 n (W.setCell ⟨b3, 0, none⟩ (.int .i64 u)) := by
  obtain ⟨D, k2, s, t, v, xs, hn, he, k3⟩ := h
  exact ⟨D.far hg (p := ⟨b3, 0, none⟩) (by show w.heap.size ≤ b3; omega) _ h0, k2.far (by show w.heap.size ≠ b3; omega) _, u, t, v, xs, hn, he.far k3 (by decide) _ _, k3.set 0 _ rfl⟩
theorem LogAt.set1 (h : LogAt w0 w g b3 n W) (u : Int) : LogAt w0 w g b3 n (W.setCell ⟨b3, 1, none⟩ (.int .i64 u)) := by
  obtain ⟨D, k2, s, t, v, xs, hn, he, k3⟩ := h
  exact ⟨D.far hg (p := ⟨b3, 1, none⟩) (by show w.heap.size ≤ b3; omega) _ h0, k2.far (by show w.heap.size ≠ b3; omega) _, s, u, v, xs, hn, he.far k3 (by decide) _ _, k3.set 1 _ rfl⟩
omit hg h3 h0 in
theorem LogAt.more {m : Nat} (h : LogAt w0 w g b3 n W) (hm : n ≤ m) : LogAt w0 w g b3 m W := by
  obtain ⟨D, k2, s, t, v, xs, hn, he, k3⟩ := h
  exact ⟨D, k2, s, t, v, xs, by omega, he, k3⟩
end

/-- .. and the entries' row is not block b6. -/
def LogAtN (w0 w : World) (g b3 : Nat) (n b6 : Nat) (W : World) : Prop := Dw w0 w g W ∧ Blk 67 w.heap.size #[.int .i64 0, .int .i64 0, .slice none 0 0] W ∧ ∃ (s t : Int) (v : Value) (xs : List S54), xs.length ≤ n ∧ Ents w W v xs ∧ Blk 67 b3 #[.int .i64 s, .int .i64 t, v] W ∧ some b6 ≠ v.ownBlock
section
set_option linter.unusedSectionVars false
variable {w0 w : World} {g b3 n b6 : Nat} {W : World} (hg : g < w.heap.size) (h3 : w.heap.size + 1 ≤ b3) (h6 : b3 < b6) (h0 : w0.heap.size ≤ w.heap.size)
include hg h3 h6
theorem LogAtN.keep {W' : World} (h : LogAtN w0 w g b3 n b6 W) (hL : LD w0 g W W') : LogAtN w0 w g b3 n b6 W' := by
  obtain ⟨D, k2, s, t, v, xs, hn, he, k3, hne⟩ := h
  exact ⟨D.step (hL.1 D.1) hL.2, blk_keep k2 hL.2 (by omega), s, t, v, xs, hn, he.keep hL.2 hg, blk_keep k3 hL.2 (by omega), hne⟩
include h0
theorem LogAtN.far6 (h : LogAtN w0 w g b3 n b6 W) (o : Nat) (u : Value) : LogAtN w0 w g b3 n b6 (W.setCell ⟨b6, o, none⟩ u) := by
  obtain ⟨D, k2, s, t, v, xs, hn, he, k3, hne⟩ := h
  refine ⟨D.far hg (p := ⟨b6, o, none⟩) (by show w.heap.size ≤ b6; omega) _ h0, k2.far (a := ⟨b6, o, none⟩) (by show w.heap.size ≠ b6; omega) _, s, t, v, xs, hn, ⟨?_, he.2⟩, k3.far (a := ⟨b6, o, none⟩) (by show b3 ≠ b6; omega) _, hne⟩
  have h1 := Kd.R_far1 he.1 rfl hne
  exact Kd.R_mono (Kd.R_far h1 (p := ⟨b6, o, none⟩) (fun k hk => hk.2) u) (fun k hk => hk.1)
end

set_option maxHeartbeats 4000000 in
set_option maxRecDepth 100000 in
theorem logAny_C {w0 w : World} {g : Nat} (hc : Cur w0 w g) :
    Calls Try.prog 102 #[.pointer (some ⟨g, 0, none⟩)] w fun e w' => (∃ (s t : Int) (v : Value) (xs : List S54), e = .returned (.agg #[.int .i64 s, .int .i64 t, v]) ∧ xs.length ≤ 100 ∧ Ents w w' v xs) ∧ Dw w0 w g w' := by
  have hgl := hc.lt
  have hws := hc.bl.size
  go_enter Try.func102, Try.ntmps102
  go_wp2_with fail
  refine calls_at (fun W => Dw w0 w g W ∧ Blk 67 w.heap.size #[.int .i64 0, .int .i64 0, .slice none 0 0] W) ⟨(Dw.start hc).alloc _, Blk.new _ _ w⟩ ?_
  rintro W1 ⟨D1, k2⟩
  refine (logRight_C D1.1).mono ?_
  rintro e W2 ⟨⟨s2, t2, v2, xs2, rfl, hn2, he2⟩, DD⟩
  have D2 := D1.step DD.1 DD.2
  replace k2 := blk_keep k2 DD.2 (by omega)
  replace he2 := he2.lower D1.size
  clear D1 DD W1
  obtain ⟨A2, c2, rfl, -, -⟩ := Kd.R_reads he2.1
  have HE2 := Lib.hid he2
  clear he2
  go_upto_region 2 with fail
  have h3 : w.heap.size + 1 ≤ W2.heap.size := by have := k2.lt; omega
  obtain ⟨b3, hb3⟩ : ∃ b3, b3 = W2.heap.size := ⟨_, rfl⟩
  refine wp_at (LogAt w0 w g b3 8) ⟨D2.alloc _, k2.alloc _, s2, t2, .slice A2 xs2.length c2, xs2, hn2, HE2.out.below (bl_alloc (Below.refl _ _) _), Blk.newE _ _ W2 hb3⟩ ?_
  rw [← hb3] at h3 ⊢
  clear D2 k2 hb3 HE2 W2
  intro W hW
  go_wp2_with fail
  refine (below_C 40 hW.1.1).mono ?_
  rintro e W4 ⟨r, rfl, -, hc4, hk4⟩
  have hU := hW.step hgl h3 hc4 hk4
  clear hW hc4 hk4 W
  obtain ⟨o0, ho0⟩ : ∃ q, (r == 0) = q := ⟨_, rfl⟩
  obtain ⟨o1, ho1⟩ : ∃ q, (r == 1) = q := ⟨_, rfl⟩
  obtain ⟨o2, ho2⟩ : ∃ q, (r == 2) = q := ⟨_, rfl⟩
  obtain ⟨o3, ho3⟩ : ∃ q, (r == 3) = q := ⟨_, rfl⟩
  cases o0 with
  | true =>
    go_wp2_with fail
    refine calls_at (fun W => LogAt w0 w g b3 8 W ∧ Blk 3 W4.heap.size (([-1, 1000000, 1000001, 999998] : List Int).map (Value.int .i64)).toArray W) ⟨hU.below hgl h3 (bl_alloc (Below.refl _ _) _), Blk.new _ _ W4⟩ ?_
    rintro W5 ⟨hV, kl⟩
    refine (pickInt_C _ 4 [-1, 1000000, 1000001, 999998] (by decide) hV.1.1 (blk_ints _ (by decide) kl) (by decide) (by rintro ad ⟨⟩; show W4.heap.size ≠ g; have := hU.1.size; omega)).mono ?_
    rintro e W6 ⟨r6, rfl, -, hc6, hk6⟩
    have hX := hV.step hgl h3 hc6 hk6
    clear hV kl hc6 hk6
    obtain ⟨D, k2, s, t, v, xs, hn, he, k3⟩ := id hX
    have c0 := k3.cell 0 rfl
    have f0 := k3.free 0
    have l3 := k3.lt
    clear he
    go_upto_region 19 with fail
    refine wp_at (LogAt w0 w g b3 100) ((hX.set0 hgl h3 hws r6).more (by omega)) ?_
    rintro Wz ⟨D, k2, s, t, v, xs, hn, he, k3⟩
    obtain ⟨A, c, rfl, hcap, hC⟩ := Kd.R_reads he.1
    have HE := Lib.hid he
    clear hC he
    have c0 := k3.cell 0 rfl
    have c1 := k3.cell 1 rfl
    have c2 := k3.cell 2 rfl
    have l3 := k3.lt
    have l2 := k2.lt
    have x0 := k2.cell 0 rfl
    have x1 := k2.cell 1 rfl
    have x2 := k2.cell 2 rfl
    have y0 := k2.free 0
    have y1 := k2.free 1
    have y2 := k2.free 2
    have n23 : w.heap.size ≠ b3 := by omega
    go_wp2_with fail
    obtain ⟨z1, z2, z3⟩ := log_fill D hgl (Nat.le_refl _) hws k2 HE.out s t
    exact bodyPost_ret (results_cell_row rfl _ _ w.heap.size 67 #[.int .i64 s, .int .i64 t, .slice A xs.length c] (0, 0) _ rfl z1 Try.underlying67 rfl (by kernel_rfl)) rfl ⟨⟨s, t, _, xs, rfl, by omega, z2⟩, z3⟩
  | false =>
    cases o1 with
    | true =>
      go_wp2_with fail
      refine calls_at (fun W => LogAt w0 w g b3 8 W ∧ Blk 3 W4.heap.size (([-1, 9, 100001] : List Int).map (Value.int .i64)).toArray W) ⟨hU.below hgl h3 (bl_alloc (Below.refl _ _) _), Blk.new _ _ W4⟩ ?_
      rintro W5 ⟨hV, kl⟩
      refine (pickInt_C _ 3 [-1, 9, 100001] (by decide) hV.1.1 (blk_ints _ (by decide) kl) (by decide) (by rintro ad ⟨⟩; show W4.heap.size ≠ g; have := hU.1.size; omega)).mono ?_
      rintro e W6 ⟨r6, rfl, -, hc6, hk6⟩
      have hX := hV.step hgl h3 hc6 hk6
      clear hV kl hc6 hk6
      obtain ⟨D, k2, s, t, v, xs, hn, he, k3⟩ := id hX
      have c1 := k3.cell 1 rfl
      have f1 := k3.free 1
      have l3 := k3.lt
      clear he
      go_upto_region 19 with fail
      refine wp_at (LogAt w0 w g b3 100) ((hX.set1 hgl h3 hws r6).more (by omega)) ?_
      rintro Wz ⟨D, k2, s, t, v, xs, hn, he, k3⟩
      obtain ⟨A, c, rfl, hcap, hC⟩ := Kd.R_reads he.1
      have HE := Lib.hid he
      clear hC he
      have c0 := k3.cell 0 rfl
      have c1 := k3.cell 1 rfl
      have c2 := k3.cell 2 rfl
      have l3 := k3.lt
      have l2 := k2.lt
      have x0 := k2.cell 0 rfl
      have x1 := k2.cell 1 rfl
      have x2 := k2.cell 2 rfl
      have y0 := k2.free 0
      have y1 := k2.free 1
      have y2 := k2.free 2
      have n23 : w.heap.size ≠ b3 := by omega
      go_wp2_with fail
      obtain ⟨z1, z2, z3⟩ := log_fill D hgl (Nat.le_refl _) hws k2 HE.out s t
      exact bodyPost_ret (results_cell_row rfl _ _ w.heap.size 67 #[.int .i64 s, .int .i64 t, .slice A xs.length c] (0, 0) _ rfl z1 Try.underlying67 rfl (by kernel_rfl)) rfl ⟨⟨s, t, _, xs, rfl, by omega, z2⟩, z3⟩
    | false =>
      cases o2 with
      | true =>
        obtain ⟨D, k2, s, t, v, xs, hn, he, k3⟩ := hU
        have HE := Lib.hid he
        have hrow : ∀ k, v.ownBlock = some k → w.heap.size ≤ k := fun k hk => he.1.1 k hk
        have hrlt := Kd.R_lt he.1
        have n3v : some b3 ≠ v.ownBlock := Kd.R_ne he.1 k3 (by decide)
        have n2v : some w.heap.size ≠ v.ownBlock := Kd.R_ne he.1 k2 (by decide)
        have ngv : some g ≠ v.ownBlock := fun e => by have := hrow g e.symm; omega
        have hgc := D.1.lt
        have l3 := k3.lt
        clear he
        go_upto_region 8 with fail
        refine wp_region_flowT (L := LR w0 g v.ownBlock) (M := LD w0 g) (J := fun W => Ents w W v xs) (J1 := fun _ => True) 5 (HE.out.below (bl_drew (Below.refl _ _))) (fun a b h k => h.keep k.2 hgl) (fun _ _ _ _ => trivial) (LR.of w0 g _) (LR.drew w0 g _) (LR.trans w0 g _) [0, 3] 60 7 (by kernel_rfl) (by rfl) (by kernel_rfl) (by kernel_rfl) (by kernel_rfl) (by kernel_rfl) ?_
        (refine flowT_valE (by decide) ?_; apply Exists.intro; refine ⟨fun A wq hLq hbq hdq => ?_, ?_⟩; focus ((try simp [go_sem, baseF, deps, dep1, Region.binds] at hbq); (try simp [go_sem, baseF, deps, dep1, Region.binds] at hdq); go_simp; first | exact ⟨LD.refl _ _ _, rfl⟩ | (fail)))
        refine flowT_valE (by decide) ⟨v, fun A wq hLq hbq hdq => ?_, ?_⟩
        · have q3 := blk_keepR k3 hLq.2 (by omega) n3v
          have qc := q3.cell 2 rfl
          have ql := q3.lt
          (try simp [go_sem, baseF, deps, dep1, Region.binds] at hbq)
          (try simp [go_sem, baseF, deps, dep1, Region.binds] at hdq)
          go_simp
          exact ⟨LD.refl _ _ _, rfl⟩
        (refine flowT_valE (by decide) ?_; apply Exists.intro; refine ⟨fun A wq hLq hbq hdq => ?_, ?_⟩; focus ((try simp [go_sem, baseF, deps, dep1, Region.binds] at hbq); (try simp [go_sem, baseF, deps, dep1, Region.binds] at hdq); go_simp; first | exact ⟨LD.refl _ _ _, rfl⟩ | (fail)))
        refine flowT_R (by decide) (fun W u => ∃ x : S54, u = .agg #[.int .i64 x.f0, .int .i64 x.f1, .string x.f2] ∧ x.f2.size ≤ 200) (fun _ _ _ h _ => h) (fun A wq hLq hbq hdq => ?_) ?_
        · (try simp [go_sem, baseF, deps, dep1, Region.binds] at hbq)
          (try simp [go_sem, baseF, deps, dep1, Region.binds] at hdq)
          go_simp
          refine (any_C (hLq.1 D.1)).mono ?_
          rintro e w5 ⟨⟨t5, k5, d5, rfl, hd5⟩, DD⟩
          exact ⟨_, rfl, ⟨fun _ => DD.1, DD.2⟩, ⟨t5, k5, d5⟩, rfl, hd5⟩
        refine flowT_R (by decide) (fun W u => ∃ (b : Nat) (x : S54), u = .slice (some ⟨b, 0, none⟩) 1 1 ∧ W4.heap.size ≤ b ∧ Blk 54 b #[.int .i64 x.f0, .int .i64 x.f1, .string x.f2] W ∧ x.f2.size ≤ 200) (fun W W' u ⟨b, x, e, hb, hk, hx⟩ hL => ⟨b, x, e, hb, blk_keepR hk hL.2 (by omega) (fun e => by have := hrlt b e.symm; omega), hx⟩) (fun A wq hLq hbq hdq => ?_) ?_
        · (try simp [go_sem, baseF, deps, dep1, Region.binds] at hbq)
          (try simp [go_sem, baseF, deps, dep1, Region.binds] at hdq)
          obtain ⟨x, hx, hxs⟩ := hdq
          go_simp
          first
            | exact ⟨LD.below (bl_alloc (Below.refl _ _) _), wq.heap.size, x, rfl, hLq.2.1, Blk.new _ _ wq, hxs⟩
            | exact ⟨LD.below (bl_alloc (Below.refl _ _) _), wq.heap.size, rfl, hLq.2.1, x, Blk.new _ _ wq, hxs⟩
            | exact ⟨LD.below (bl_alloc (Below.refl _ _) _), x, hLq.2.1, Blk.new _ _ wq, hxs⟩
           
        refine flowT_row rfl (fun W u => ∃ x : S54, x.f2.size ≤ 200 ∧ Kd.R k54 54 W w.heap.size (fun k => w.heap.size ≤ k) u (xs ++ [x])) (fun W W' u ⟨x, hx, hR⟩ hL => ⟨x, hx, Kd.R_keep hR hL.2 (fun k hk => by omega)⟩) (fun A wq hLq hJ hbq hdq => ?_) ?_
        · (try simp [go_sem, baseF, deps, dep1, Region.binds] at hbq)
          (try simp [go_sem, baseF, deps, dep1, Region.binds] at hdq)
          obtain ⟨h26, ⟨b, h29, hb, x, hk, hx⟩, -⟩ := hdq
          obtain ⟨v1, w1, hrun, hR1, hg1, hat1⟩ := run_append_R (P := Try.prog) k54 wq w.heap.size 29 29 54 (.agg #[.int .i64 0, .int .i64 0, .string ⟨#[]⟩]) 32 Try.underlying29 (by kernel_rfl) rfl (by decide) (by decide) v xs x [.int .i64 x.f0, .int .i64 x.f1, .string x.f2] _ (fun _ => False) ⟨b, 0, none⟩ 1 (by simpa using World.news_of_block (cs := #[.int .i64 x.f0, .int .i64 x.f1, .string x.f2]) (t := 54) (fr := (0, 0)) hk) (k54_mkM wq _ _ x) (fun k h => h.elim) (fun k hk => by have := hLq.2.1; have := D.size; omega) hJ.1 (by have := hLq.2.1; have := D.size; omega) (by omega)
          have h26' : A.eval (.tmp 26) = v := by simpa [Act.eval, Array.getD_eq_getD_getElem?] using h26
          have h29' : A.eval (.tmp 29) = .slice (some ⟨b, 0, none⟩) 1 1 := by simpa [Act.eval, Array.getD_eq_getD_getElem?] using h29
          rw [exec_append (by rw [h26', h29']; exact hrun)]
          exact ⟨⟨fun c => c.grown hg1 ngv (fun k hk => Nat.le_trans hws (hrow k hk)), KeepBut.of_grown hg1 g⟩, ⟨x, hx, hR1⟩, trivial⟩
        (refine flowT_valE (by decide) ?_; apply Exists.intro; refine ⟨fun A wq hLq hbq hdq => ?_, ?_⟩; focus ((try simp [go_sem, baseF, deps, dep1, Region.binds] at hbq); (try simp [go_sem, baseF, deps, dep1, Region.binds] at hdq); go_simp; first | exact ⟨LD.refl _ _ _, rfl⟩ | (fail)))
        with_reducible refine flowT_tail ?_
        intro x wq hLq hall _
        simp only [allT] at hall
        obtain ⟨h7, ⟨y, hy, hR1⟩, -, -, hall⟩ := hall
        obtain ⟨A6, c6, h6, hcap6, -⟩ := Kd.R_reads hR1
        rw [h6] at hR1
        have HR1 := Lib.hid hR1
        clear hR1
        have q3 := blk_keepR k3 hLq.2 (by omega) n3v
        have q2 := blk_keepR k2 hLq.2 (by omega) n2v
        have DQ := D.row hLq hrow
        have c2 := q3.cell 2 rfl
        have f2 := q3.free 2
        have ql := q3.lt
        refine ⟨?_⟩
        simp [seqUpon, lastUpon, frameOf, Act.put, List.take, h7, h6, hall]
        clear hall h6 h7
        go_simp
        have hfin : LogAt w0 w g b3 100 (wq.setCell ⟨b3, 2, none⟩ (.slice A6 (xs.length + 1) c6)) := by
          refine ⟨DQ.far hgl (p := ⟨b3, 2, none⟩) (by show w.heap.size ≤ b3; omega) _ hws, q2.far (by show w.heap.size ≠ b3; omega) _, s, t, .slice A6 (xs.length + 1) c6, xs ++ [y], by simp; omega, ?_, q3.set 2 _ rfl⟩
          have h9 : Ents w wq (.slice A6 (xs.length + 1) c6) (xs ++ [y]) := ⟨by simpa using HR1.out, fun z hz => by
            rcases List.mem_append.1 hz with h | h
            · exact HE.out.2 z h
            · rw [List.mem_singleton] at h; rw [h]; exact hy⟩
          exact h9.far q3 (by decide) 2 _
        clear DQ q2 q3 c2 f2 ql HR1
        go_upto_region 19 with fail
        refine wp_at (LogAt w0 w g b3 100) (hfin) ?_
        rintro Wz ⟨D, k2, s, t, v, xs, hn, he, k3⟩
        obtain ⟨A, c, rfl, hcap, hC⟩ := Kd.R_reads he.1
        have HE := Lib.hid he
        clear hC he
        have c0 := k3.cell 0 rfl
        have c1 := k3.cell 1 rfl
        have c2 := k3.cell 2 rfl
        have l3 := k3.lt
        have l2 := k2.lt
        have x0 := k2.cell 0 rfl
        have x1 := k2.cell 1 rfl
        have x2 := k2.cell 2 rfl
        have y0 := k2.free 0
        have y1 := k2.free 1
        have y2 := k2.free 2
        have n23 : w.heap.size ≠ b3 := by omega
        go_wp2_with fail
        obtain ⟨z1, z2, z3⟩ := log_fill D hgl (Nat.le_refl _) hws k2 HE.out s t
        exact bodyPost_ret (results_cell_row rfl _ _ w.heap.size 67 #[.int .i64 s, .int .i64 t, .slice A xs.length c] (0, 0) _ rfl z1 Try.underlying67 rfl (by kernel_rfl)) rfl ⟨⟨s, t, _, xs, rfl, by omega, z2⟩, z3⟩
      | false =>
        cases o3 with
        | true =>
          obtain ⟨D, k2, s, t, v, xs, hn, he, k3⟩ := hU
          have c2 := k3.cell 2 rfl
          have f2 := k3.free 2
          have l3 := k3.lt
          have z4 := D.size
          clear he
          go_wp2_with fail
          have hE0 : Ents w ((W4.setCell ⟨b3, 2, none⟩ (.slice (some ⟨W4.heap.size, 0, none⟩) 0 0)).alloc (.cells #[] 54)) (.slice (some ⟨W4.heap.size, 0, none⟩) 0 0) [] := by
            have h := ents_empty (w := w) (W := W4.setCell ⟨b3, 2, none⟩ (.slice (some ⟨W4.heap.size, 0, none⟩) 0 0)) (by simpa using z4)
            rwa [show (W4.setCell ⟨b3, 2, none⟩ (.slice (some ⟨W4.heap.size, 0, none⟩) 0 0)).heap.size = W4.heap.size from by simp] at h
          refine calls_at (LogAt w0 w g b3 0) ⟨(D.far hgl (p := ⟨b3, 2, none⟩) (by show w.heap.size ≤ b3; omega) _ hws).alloc _, (k2.far (a := ⟨b3, 2, none⟩) (by show w.heap.size ≠ b3; omega) _).alloc _, s, t, _, [], by simp, hE0, (k3.set 2 _ rfl).alloc _⟩ ?_
          clear c2 f2 l3 z4 D k2 k3 hn hE0
          intro W5 hV
          refine (once_C 2 hV.1.1).mono ?_
          rintro e W6 ⟨q, rfl, hc6, hk6⟩
          have hX := hV.step hgl h3 hc6 hk6
          clear hV hc6 hk6 W5
          go_wp2_with fail
          go_loopg [5] 62 (fun kq v5 w' => ∃ i : Nat, v5 = .int .i64 (i : Int) ∧ i + kq = 62 ∧ LogAt w0 w g b3 i w')
          case atStart => exact ⟨0, rfl, by omega, hX⟩
          case round =>
            obtain ⟨i, rfl, hik, hR⟩ := hrel
            clear hX W6
            go_wp2_with fail
            refine (below_C 2 hR.1.1).mono ?_
            rintro e W7 ⟨r7, rfl, ⟨hr0, hr1, -⟩, hc7, hk7⟩
            have hS := hR.step hgl h3 hc7 hk7
            clear hR hc7 hk7
            have hr2 := hr1 (by decide)
            clear hr1
            by_cases hlt : (i : Int) < 60 + r7
            · obtain ⟨n, rfl⟩ : ∃ n, gk = n + 1 := ⟨gk - 1, by omega⟩
              obtain ⟨D, k2, s, t, v, xs, hn, he, k3⟩ := id hS
              have c1 := k3.cell 1 rfl
              have l3 := k3.lt
              have hrlt := Kd.R_lt he.1
              have HE := Lib.hid he
              clear he
              go_upto_if 48 with fail
              obtain ⟨b6, hb6⟩ : ∃ b6, b6 = W7.heap.size := ⟨_, rfl⟩
              have h6 : b3 < b6 := by omega
              refine wp_at (fun X => LogAtN w0 w g b3 i b6 X ∧ Blk 54 b6 #[.int .i64 t, .int .i64 1, .string ⟨#[]⟩] X) ⟨⟨D.alloc _, k2.alloc _, s, t, v, xs, hn, HE.out.below (bl_alloc (Below.refl _ _) _), k3.alloc _, fun e => by have := hrlt b6 e.symm; omega⟩, Blk.newE _ _ W7 hb6⟩ ?_
              rw [← hb6]
              clear hb6 hrlt HE c1 l3 D k2 k3 hn hS xs v s
              rintro W8 ⟨hT, k6⟩
              go_cut [] from 49 to 52 (fun wx => LogAtN w0 w g b3 i b6 wx ∧ ∃ (t k : Int) (d : ByteArray), d.size ≤ 200 ∧ Blk 54 b6 #[.int .i64 t, .int .i64 k, .string d] wx)
              case first =>
                cases q with
                | false =>
                  go_wp2_with fail
                  go_meet
                  exact ⟨hT, t, 1, ⟨#[]⟩, by decide, k6⟩
                | true =>
                  go_upto_region 17 with fail
                  obtain ⟨D, k2, s2, t2, v, xs, hn, he, k3, hne⟩ := id hT
                  have c1 := k3.cell 1 rfl
                  have l3 := k3.lt
                  have n3g : b3 ≠ g := by omega
                  clear he
                  refine wp_region_flowL (L := LD w0 g) (LD.drew w0 g) (LD.trans w0 g) [3, 6] 60 (by kernel_rfl) (by rfl) (by kernel_rfl) (by kernel_rfl) (by kernel_rfl) (by kernel_rfl) ?_
                  iterate 2 (refine flowL_valE ?_; apply Exists.intro; refine ⟨fun A wq hLq hbq hdq => ?_, ?_⟩; focus (obtain ⟨hkc, hkf⟩ := kcell hLq.2; have hkz := hLq.2.1; (try simp [go_sem, baseF, deps, dep1, Region.binds] at hbq); (try simp [go_sem, baseF, deps, dep1, Region.binds] at hdq); go_simp; first | exact ⟨LD.refl _ _ _, rfl⟩ | (fail)))
                  refine flowL_R (fun W u => ∃ d : ByteArray, u = .string d ∧ d.size ≤ 200) (fun _ _ _ h _ => h) (fun A wq hLq hbq hdq => ?_) ?_
                  · go_simp
                    refine (long_C 120 66 wq (by omega) (by omega)).mono ?_
                    rintro e w5 ⟨d, rfl, hd, hb⟩
                    first | exact ⟨_, rfl, LD.below hb, d, rfl, by omega⟩ | exact ⟨LD.below hb, d, rfl, by omega⟩
                  refine flowL_R (fun W u => ∃ d : ByteArray, u = .agg #[.int .i64 t2, .int .i64 3, .string d] ∧ d.size ≤ 200) (fun _ _ _ h _ => h) (fun A wq hLq hbq hdq => ?_) ?_
                  · (try simp [go_sem, baseF, deps, dep1, Region.binds] at hdq)
                    obtain ⟨h50, d, h51, hd⟩ := hdq
                    go_simp
                    first | exact ⟨LD.refl _ _ _, d, rfl, hd⟩ | exact ⟨LD.refl _ _ _, hd⟩
                  with_reducible refine flowL_last ?_
                  intro x wq hLq hall
                  simp only [allT] at hall
                  obtain ⟨⟨d, h52, hd⟩, -, hall⟩ := hall
                  have hT2 := hT.keep hgl h3 h6 hLq
                  have k6q := blk_keep k6 hLq.2 (by omega)
                  have c60 := k6q.cell 0 rfl
                  have c61 := k6q.cell 1 rfl
                  have c62 := k6q.cell 2 rfl
                  have f60 := k6q.free 0
                  have f61 := k6q.free 1
                  have f62 := k6q.free 2
                  have l6 := k6q.lt
                  refine ⟨?_⟩
                  simp [lastUpon, frameOf, Act.put, List.dropLast, h52, hall]
                  clear hall h52
                  go_simp
                  go_wp2_with fail
                  go_meet
                  exact ⟨((hT2.far6 hgl h3 h6 hws 0 _).far6 hgl h3 h6 hws 1 _).far6 hgl h3 h6 hws 2 _, t2, 3, d, hd, ((k6q.set 0 _ rfl).set 1 _ rfl).set 2 _ rfl⟩
              case rest =>
                obtain ⟨⟨D, k2, s9, t9, v, xs, hn, he, k3, hne⟩, te, ke, de, hde, k6'⟩ := hcut
                clear hT k6
                have HE := Lib.hid he
                have hrow : ∀ k, v.ownBlock = some k → w.heap.size ≤ k := fun k hk => he.1.1 k hk
                have n3v : some b3 ≠ v.ownBlock := Kd.R_ne he.1 k3 (by decide)
                have n2v : some w.heap.size ≠ v.ownBlock := Kd.R_ne he.1 k2 (by decide)
                have ngv : some g ≠ v.ownBlock := fun e => by have := hrow g e.symm; omega
                have hz := D.size
                clear he
                have c2 := k3.cell 2 rfl
                have l3 := k3.lt
                have c60 := k6'.cell 0 rfl
                have c61 := k6'.cell 1 rfl
                have c62 := k6'.cell 2 rfl
                have l6 := k6'.lt
                go_wp2_with (first | (refine Kd.R_append (w0 := wc) k54 w.heap.size rfl (.tmp 54) (.tmp 56) 29 54 (.agg #[.int .i64 0, .int .i64 0, .string ⟨#[]⟩]) 32 rfl Try.underlying29 (by kernel_rfl) rfl (by decide) (by decide) v xs ⟨te, ke, de⟩ [.int .i64 te, .int .i64 ke, .string de] (fun k => w.heap.size ≤ k) (fun _ => False) rfl rfl (k54_mkM wc _ _ ⟨te, ke, de⟩) (fun k h => h.elim) (fun k hk => by omega) HE.out.1 (Below.refl _ _) hz (by omega) ?_; intro v1 w1 hR1 hB1 hg1 hat1; obtain ⟨A9, c9, rfl, -, -⟩ := Kd.R_reads hR1; have q3 : Blk 67 b3 _ w1 := (hg1.block b3 l3 n3v).trans k3; have d2 := q3.cell 2 rfl; have df := q3.free 2; have dl := q3.lt; have HR1 := Lib.hid hR1; clear hR1 c2 l3 c60 c61 c62 l6 hat1))
                have hfin : LogAt w0 w g b3 (i + 1) (w1.setCell ⟨b3, 2, none⟩ (.slice A9 (xs.length + 1) c9)) := by
                  have hLR : LR w0 g v.ownBlock wc w1 := ⟨fun c => c.grown hg1 ngv (fun k hk => Nat.le_trans hws (hrow k hk)), KeepBut.of_grown hg1 g⟩
                  have DQ := D.row hLR hrow
                  have q2 := blk_keepR k2 hLR.2 (by omega) n2v
                  refine ⟨DQ.far hgl (p := ⟨b3, 2, none⟩) (by show w.heap.size ≤ b3; omega) _ hws, q2.far (a := ⟨b3, 2, none⟩) (by show w.heap.size ≠ b3; omega) _, s9, t9, .slice A9 (xs.length + 1) c9, xs ++ [⟨te, ke, de⟩], by simp; omega, ?_, q3.set 2 _ rfl⟩
                  have h9 : Ents w w1 (.slice A9 (xs.length + 1) c9) (xs ++ [⟨te, ke, de⟩]) := ⟨by simpa using HR1.out, fun z hz => by
                    rcases List.mem_append.1 hz with h | h
                    · exact HE.out.2 z h
                    · rw [List.mem_singleton] at h; rw [h]; exact hde⟩
                  exact h9.far q3 (by decide) 2 _
                go_roundg n
                case measure => omega
                case rel => exact ⟨i + 1, by first | rfl | simp, by omega, hfin⟩
            · go_upto_region 19 with fail
              refine wp_at (LogAt w0 w g b3 100) (hS.more (by omega)) ?_
              rintro Wz ⟨D, k2, s, t, v, xs, hn, he, k3⟩
              obtain ⟨A, c, rfl, hcap, hC⟩ := Kd.R_reads he.1
              have HE := Lib.hid he
              clear hC he
              have c0 := k3.cell 0 rfl
              have c1 := k3.cell 1 rfl
              have c2 := k3.cell 2 rfl
              have l3 := k3.lt
              have l2 := k2.lt
              have x0 := k2.cell 0 rfl
              have x1 := k2.cell 1 rfl
              have x2 := k2.cell 2 rfl
              have y0 := k2.free 0
              have y1 := k2.free 1
              have y2 := k2.free 2
              have n23 : w.heap.size ≠ b3 := by omega
              go_wp2_with fail
              obtain ⟨z1, z2, z3⟩ := log_fill D hgl (Nat.le_refl _) hws k2 HE.out s t
              exact bodyPost_ret (results_cell_row rfl _ _ w.heap.size 67 #[.int .i64 s, .int .i64 t, .slice A xs.length c] (0, 0) _ rfl z1 Try.underlying67 rfl (by kernel_rfl)) rfl ⟨⟨s, t, _, xs, rfl, by omega, z2⟩, z3⟩
        | false =>
          go_upto_region 19 with fail
          refine wp_at (LogAt w0 w g b3 100) (hU.more (by omega)) ?_
          rintro Wz ⟨D, k2, s, t, v, xs, hn, he, k3⟩
          obtain ⟨A, c, rfl, hcap, hC⟩ := Kd.R_reads he.1
          have HE := Lib.hid he
          clear hC he
          have c0 := k3.cell 0 rfl
          have c1 := k3.cell 1 rfl
          have c2 := k3.cell 2 rfl
          have l3 := k3.lt
          have l2 := k2.lt
          have x0 := k2.cell 0 rfl
          have x1 := k2.cell 1 rfl
          have x2 := k2.cell 2 rfl
          have y0 := k2.free 0
          have y1 := k2.free 1
          have y2 := k2.free 2
          have n23 : w.heap.size ≠ b3 := by omega
          go_wp2_with fail
          obtain ⟨z1, z2, z3⟩ := log_fill D hgl (Nat.le_refl _) hws k2 HE.out s t
          exact bodyPost_ret (results_cell_row rfl _ _ w.heap.size 67 #[.int .i64 s, .int .i64 t, .slice A xs.length c] (0, 0) _ rfl z1 Try.underlying67 rfl (by kernel_rfl)) rfl ⟨⟨s, t, _, xs, rfl, by omega, z2⟩, z3⟩
end Go.Proofs.Ytdjikjmjajlgcaa.PFnPuts
end
