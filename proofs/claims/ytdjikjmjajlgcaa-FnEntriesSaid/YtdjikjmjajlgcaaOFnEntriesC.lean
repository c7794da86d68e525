import Derived.Test.YtdjikjmjajlgcaaPFnEntriesA
import Derived.Test.YtdjikjmjajlgcaaOFnEntriesA
import Derived.Test.YtdjikjmjajlgcaaOFnEntriesB
import Derived.Test.YtdjikjmjajlgcaaPFnEntriesB

/-! ### YtdjikjmjajlgcaaQFnEntriesx13 -/
section
namespace Go.Proofs.Ytdjikjmjajlgcaa.PFnEntries
open Go.RowKit Go.Proofs.YtdjikjmjajlgcaaW.PrintWords Go.Proofs.YtdjikjmjajlgcaaW.PrintLast Go.Proofs.YtdjikjmjajlgcaaW.PrintMore
attribute [local go_sem] max2_int min2_int max_two min_two max_three min_three max_four min_four   -- for this text's walks alone
set_option linter.unusedVariables false
set_option linter.unusedSimpArgs false

/-! ### spec_l05Conf: function 147 -/
def spec_l05Conf.l0 : Nat → List Int → Int → List Int → Int → Int → Option (List Int × Int × Int)
  | 0, _, _, _, _, _ => none
  | k + 1, x3, x4, x1000, x1001, x1002 => if x4 ≤ 4 then ((spec_l01Once.f x1000 x1001 x1002 2).bind fun bt156 => (if bt156.1 = true then (if x3.length < 17592186044416 then (spec_l05Conf.l0 k (x3 ++ [x4]) (wrap64 (x4 + 1)) x1000 bt156.2.1 bt156.2.2) else (none)) else (spec_l05Conf.l0 k x3 (wrap64 (x4 + 1)) x1000 bt156.2.1 bt156.2.2))) else (if (x3.length : Int) = 0 then (if x3.length < 17592186044416 then (some ((x3 ++ [1]), x1001, x1002)) else (none)) else (some (x3, x1001, x1002)))
def spec_l05Conf.f (k : Nat) (s0_0 : List Int) (s0_1 : Int) (s0_2 : Int) : Option (List Int × Int × Int) := spec_l05Conf.l0 k (([] : List Int)) 1 s0_0 s0_1 s0_2
theorem spec_l05Conf.mono_l : ∀ k, (∀ y0 y1 y2 y3 y4, LeO (spec_l05Conf.l0 k y0 y1 y2 y3 y4) (spec_l05Conf.l0 (k + 1) y0 y1 y2 y3 y4))
  | 0 => fun _ _ _ _ _ r h => by simp [spec_l05Conf.l0] at h
  | k + 1 => by
    have ih0 := spec_l05Conf.mono_l k
    · intro y0 y1 y2 y3 y4
      unfold spec_l05Conf.l0
      repeat' first
      | (with_reducible exact ih0 _ _ _ _ _)
      | (with_reducible exact LeO.refl _)
      | (with_reducible exact LeO.none _)
      | (with_reducible refine LeO.ite ?_ ?_)
      | (with_reducible refine LeO.bind ?_ (fun _ => ?_))
      | exact ih0 _ _ _ _ _
      | exact LeO.none _
      | refine LeO.ite ?_ ?_
      | refine LeO.bind ?_ (fun _ => ?_)
theorem spec_l05Conf.mono : ∀ a0 a1 a2 k, LeO (spec_l05Conf.f k a0 a1 a2) (spec_l05Conf.f (k + 1) a0 a1 a2) := by
  intro a0 a1 a2 k
  have ih0 := spec_l05Conf.mono_l k
  unfold spec_l05Conf.f
  repeat' first
      | (with_reducible exact ih0 _ _ _ _ _)
      | (with_reducible exact LeO.refl _)
      | (with_reducible exact LeO.none _)
      | (with_reducible refine LeO.ite ?_ ?_)
      | (with_reducible refine LeO.bind ?_ (fun _ => ?_))
      | exact ih0 _ _ _ _ _
      | exact LeO.none _
      | refine LeO.ite ?_ ?_
      | refine LeO.bind ?_ (fun _ => ?_)
set_option maxHeartbeats 8000000 in
set_option maxRecDepth 100000 in
theorem spec_l05Conf.calls (k : Nat) (g : Nat) (s0_0 : List Int) (s0_1 : Int) (s0_2 : Int) (r1 : List Int) (r2 : Int) (r3 : Int) (w0 w : World) (hI : IsS186 w0 w g s0_0 s0_1 s0_2) (hB : Below w0.heap.size w0 w) (h : spec_l05Conf.f k s0_0 s0_1 s0_2 = some (r1, r2, r3)) :
    Calls Try.prog 147 #[.pointer (some ⟨g, 0, none⟩)] w fun e w' => ∃ v0_ : Value, e = .returned (v0_) ∧ Kd.R (Kd.int .i64) 3 w' w.heap.size (fun _ => True) v0_ r1 ∧ IsS186 w0 w' g s0_0 r2 r3 ∧ Below w0.heap.size w0 w' ∧ KeepBut w w' g none := by
  have HI0 := Aside0.mk hI
  have HK := Aside0.mk (KeepBut.refl w g none)
  have HL := Aside0.mk hB.size
  clear hI
  have HW0 := Aside0.mk hB.size
  have HB := Aside0.mk hB
  clear hB
  have H : (spec_l05Conf.l0 k (([] : List Int)) 1 s0_0 s0_1 s0_2) = some (r1, r2, r3) := h
  clear h
  obtain ⟨y153, hy153⟩ : ∃ y_ : List Int, y_ = (([] : List Int)) := ⟨_, rfl⟩
  replace H : (spec_l05Conf.l0 k y153 1 s0_0 s0_1 s0_2) = some (r1, r2, r3) := by first | (rw [hy153]; with_reducible exact H) | (have H2_ := (Option.bind_some _ _).symm.trans H; rw [hy153]; with_reducible exact H2_) | (have H2_ := (Option.bind_some _ _).symm.trans H; with_reducible exact H2_) | with_reducible exact H | (rw [hy153]; exact H) | exact H
  have Ny153 := Aside0.mk hy153
  clear hy153
  have H' := Aside0.mk H
  clear H
  go_enter Try.func147, Try.ntmps147
  go_wp2_with (first | ((with_reducible refine gate_dst (N := 5) rfl ?_); refine Kd.R_lit (Kd.int .i64) _ 3 ?hg (N := 5) ?hd (xs := ([] : List Int)) (inner := []) (ok := fun _ => True) (okp := fun _ => True) ?hr ?hp (fun _ hk => hk) trivial (Below.refl _ _) (Nat.le_refl _) (by simp) ?_; (case hd => rfl); (case hg => rfl); (case hr => first | (go_simp; done) | (go_simp; rfl)); (case hp => exact (Reps.none _ _)); intro v154 w2 ho3 hb hg_ hnew_; clear hg_ hnew_; (first | rw [← Ny153.out] at ho3 | (simp only [Int.reduceToNat] at ho3; rw [← Ny153.out] at ho3)); have n0_ := Aside0.mk (Kd.R_lower ho3 (keep_size (w := w) (g := g) (row := none) (by repeat (first | (with_reducible first | exact HK.out | apply KeepBut.set_ | apply keep_drewN | apply keep_drew | apply keep_alloc) | exact HK.out)))); have n1_ := Aside0.mk (IsS186.below (by repeat (first | (with_reducible first | exact HI0.out | apply IsS186.alloc | apply IsS186.drewN | apply IsS186.drew | apply IsS186.set_1 | apply IsS186.set_2) | exact HI0.out)) hb); have n2_ := Aside0.mk (KeepBut.trans (by repeat (first | (with_reducible first | exact HK.out | apply KeepBut.set_ | apply keep_drewN | apply keep_drew | apply keep_alloc) | exact HK.out)) (KeepBut.of_below hb g none) (.inl rfl)); have n3_ := Aside0.mk (below_step (by repeat (first | (with_reducible first | exact HB.out | apply below_alloc | apply pw_below_drewN | apply below_drew1 | refine below_set ?_ (IsS186.ge HI0.out)) | exact HB.out)) hb); clear HI0; clear HK; clear HB; have HO155 := n0_; have HI0 := n1_; have HK := n2_; have HB := n3_; clear n0_ n1_ n2_ n3_; clear hb ho3))
  go_loopg [3, 4] k (fun kq v3 v4 w' => ∃ (x3_1 : List Int) (x4_1 : Int) (x1001_1 : Int) (x1002_1 : Int), v4 = .int .i64 x4_1 ∧ Aside0 (spec_l05Conf.l0 kq x3_1 x4_1 s0_0 x1001_1 x1002_1 = some (r1, r2, r3)) ∧ Aside0 (kq ≤ k) ∧ Aside0 (Kd.R (Kd.int .i64) 3 w' w.heap.size (fun _ => True) v3 x3_1) ∧ Aside0 (IsS186 w0 w' g s0_0 x1001_1 x1002_1) ∧ Aside0 (KeepBut w w' g none) ∧ Aside0 (Below w0.heap.size w0 w'))
  case atStart => exact ⟨(y153), (1), (s0_1), (s0_2), (by first | rfl | (simp; done) | (simp [*]; done)), H', ⟨Nat.le_refl _⟩, ⟨by (with_reducible repeat (first | apply Kd.R_alloc | apply Kd.R_drewN | apply Kd.R_drew)); exact HO155.out⟩, ⟨by repeat (first | (with_reducible first | exact HI0.out | apply IsS186.alloc | apply IsS186.drewN | apply IsS186.drew | apply IsS186.set_1 | apply IsS186.set_2) | exact HI0.out)⟩, ⟨by repeat (first | (with_reducible first | exact HK.out | apply KeepBut.set_ | apply keep_drewN | apply keep_drew | apply keep_alloc) | exact HK.out)⟩, ⟨by repeat (first | (with_reducible first | exact HB.out | apply below_alloc | apply pw_below_drewN | apply below_drew1 | refine below_set ?_ (IsS186.ge HI0.out)) | exact HB.out)⟩⟩
  case round =>
    clear H'
    try clear c1
    try clear p2
    obtain ⟨x3_1, x4_1, x1001_1, x1002_1, rfl, HA, HK1, HO_3, HI0, HK, HB⟩ := hrel
    cases gk with
    | zero => exact absurd HA.out (by simp [spec_l05Conf.l0])
    | succ k1 =>
      have H := HA.out
      clear HA
      simp only [spec_l05Conf.l0] at H
      by_cases c4 : x4_1 ≤ 4
      · rw [if_pos c4] at H
        have c4b0 : decide (x4_1 ≤ 4) = true := decide_eq_true c4
        clear c4
        replace H := Option.bind_eq_some_iff.mp H
        obtain ⟨⟨t156, t157, t158⟩, A50, H⟩ := H
        replace H : (if t156 = true then (if x3_1.length < 17592186044416 then (spec_l05Conf.l0 k1 (x3_1 ++ [x4_1]) (wrap64 (x4_1 + 1)) s0_0 t157 t158) else (none)) else (spec_l05Conf.l0 k1 x3_1 (wrap64 (x4_1 + 1)) s0_0 t157 t158)) = some (r1, r2, r3) := H
        have A5 := Aside0.mk A50
        clear A50
        by_cases c6 : t156 = true
        · subst c6
          have H1 : (if x3_1.length < 17592186044416 then (spec_l05Conf.l0 k1 (x3_1 ++ [x4_1]) (wrap64 (x4_1 + 1)) s0_0 t157 t158) else (none)) = some (r1, r2, r3) := by rw [if_pos rfl] at H; exact H
          clear H
          have H := H1
          clear H1
          by_cases c7 : x3_1.length < 17592186044416
          · rw [if_pos c7] at H
            have LMc7 := Aside0.mk c7
            clear c7
            obtain ⟨y159, hy159⟩ : ∃ y_ : List Int, y_ = (x3_1 ++ [x4_1]) := ⟨_, rfl⟩
            replace H : (spec_l05Conf.l0 k1 y159 (wrap64 (x4_1 + 1)) s0_0 t157 t158) = some (r1, r2, r3) := by first | (rw [hy159]; with_reducible exact H) | (have H2_ := (Option.bind_some _ _).symm.trans H; rw [hy159]; with_reducible exact H2_) | (have H2_ := (Option.bind_some _ _).symm.trans H; with_reducible exact H2_) | with_reducible exact H | (rw [hy159]; exact H) | exact H
            have Ny159 := Aside0.mk hy159
            clear hy159
            have H' := Aside0.mk H
            clear H
            go_wp2_with (first | ((with_reducible refine gate_callee (f := 106) rfl ?_); refine goesL_ (some 11) rfl rfl Try.func106 (by kernel_rfl) rfl #[.pointer (some ⟨g, 0, none⟩), .int .i64 2] rfl (by (try simp only [List.map_toArray, List.map_cons, List.map_nil]); first | done | rfl | (simp only [List.length_drop, List.length_take]; rfl)) ?_; (with_reducible refine (spec_l01Once.calls g s0_0 x1001_1 x1002_1 2 true t157 t158 w0 _ ?side1 ?side2 A5.out).mono ?_); (case side1 => repeat (first | (with_reducible first | exact HI0.out | apply IsS186.alloc | apply IsS186.drewN | apply IsS186.drew | apply IsS186.set_1 | apply IsS186.set_2) | exact HI0.out)); (case side2 => repeat (first | (with_reducible first | exact HB.out | apply below_alloc | apply pw_below_drewN | apply below_drew1 | refine below_set ?_ (IsS186.ge HI0.out)) | exact HB.out)); rintro e w8 ⟨rfl, hi, hb, hk⟩; refine ⟨_, rfl, ?_⟩; have n0_ := Aside0.mk (Kd.R_mono (Kd.R_keep (IsS186.apart (show IsS186 w0 _ g s0_0 x1001_1 x1002_1 from by repeat (first | (with_reducible first | exact HI0.out | apply IsS186.alloc | apply IsS186.drewN | apply IsS186.drew | apply IsS186.set_1 | apply IsS186.set_2) | exact HI0.out)) (by (with_reducible repeat (first | apply Kd.R_alloc | apply Kd.R_drewN | apply Kd.R_drew)); exact HO_3.out) (by decide)) hk (fun _ h => h.2)) (fun _ h => h.1)); have n1_ := Aside0.mk (KeepBut.trans (by repeat (first | (with_reducible first | exact HK.out | apply KeepBut.set_ | apply keep_drewN | apply keep_drew | apply keep_alloc) | exact HK.out)) hk (.inl rfl)); have n2_ := Aside0.mk (hb); have n3_ := Aside0.mk (hi); clear HO_3; clear HK; clear HB; clear HI0; have HO_3 := n0_; have HK := n1_; have HB := n2_; have HI0 := n3_; clear n0_ n1_ n2_ n3_; (try clear hb); (try clear hb2); (try clear hk); (try clear hi)) | ((with_reducible refine gate_builtin (b := .append) (xs := #[.tmp 12, .tmp 14]) rfl ?_); at_builtin; refine Kd.R_append (Kd.int .i64) w.heap.size rfl (.tmp 12) (.tmp 14) 23 3 (.int .i64 0) 8 rfl Try.underlying23 info3 rfl (by decide) (by omega) u3 x3_1 x4_1 [.int .i64 x4_1] (fun _ => True) (fun _ => False) rfl rfl ?aP (fun _ hk => hk.elim) ?aF ?aO (Below.refl _ _) ?aS ?aL ?_; (case aP => exact rfl); (case aF => exact (fun _ _ => trivial)); (case aO => exact (by (with_reducible repeat (first | apply Kd.R_alloc | apply Kd.R_drewN | apply Kd.R_drew)); exact HO_3.out)); (case aS => exact (keep_size (w := w) (g := g) (row := none) (by repeat (first | (with_reducible first | exact HK.out | apply KeepBut.set_ | apply keep_drewN | apply keep_drew | apply keep_alloc) | exact HK.out)))); (case aL => have := LMc7.out; omega); intro v160 w9 ho hb hg hat; rw [← Ny159.out] at ho; have n0_ := Aside0.mk (IsS186.grown (by repeat (first | (with_reducible first | exact HI0.out | apply IsS186.alloc | apply IsS186.drewN | apply IsS186.drew | apply IsS186.set_1 | apply IsS186.set_2) | exact HI0.out)) hg (IsS186.own_ne HI0.out HO_3.out (by decide))); have n1_ := Aside0.mk (below_weaken (by repeat (first | (with_reducible first | exact HB.out | apply below_alloc | apply pw_below_drewN | apply below_drew1 | refine below_set ?_ (IsS186.ge HI0.out)) | exact HB.out)) HL.out hb); have n2_ := Aside0.mk (KeepBut.trans (by repeat (first | (with_reducible first | exact HK.out | apply KeepBut.set_ | apply keep_drewN | apply keep_drew | apply keep_alloc) | exact HK.out)) (KeepBut.of_grown hg g) (Kd.R_base2 HO_3.out)); have n3_ := Aside0.mk (ho); clear HI0; clear HB; clear HK; clear HO_3; have HI0 := n0_; have HB := n1_; have HK := n2_; have HO161 := n3_; clear n0_ n1_ n2_ n3_; clear ho hb hg hat))
            go_roundg k1
            case measure => have := HK1.out; omega
            case rel => exact ⟨(y159), (wrap64 (x4_1 + 1)), (t157), (t158), (by first | rfl | (simp; done) | (simp [*]; done)), H', ⟨by have := HK1.out; omega⟩, ⟨by (with_reducible repeat (first | apply Kd.R_alloc | apply Kd.R_drewN | apply Kd.R_drew)); exact HO161.out⟩, ⟨by repeat (first | (with_reducible first | exact HI0.out | apply IsS186.alloc | apply IsS186.drewN | apply IsS186.drew | apply IsS186.set_1 | apply IsS186.set_2) | exact HI0.out)⟩, ⟨by repeat (first | (with_reducible first | exact HK.out | apply KeepBut.set_ | apply keep_drewN | apply keep_drew | apply keep_alloc) | exact HK.out)⟩, ⟨by repeat (first | (with_reducible first | exact HB.out | apply below_alloc | apply pw_below_drewN | apply below_drew1 | refine below_set ?_ (IsS186.ge HI0.out)) | exact HB.out)⟩⟩
          · rw [if_neg c7] at H
            exact absurd H (by simp)
        · replace c6 := Bool.eq_false_iff.mpr c6
          subst c6
          have H1 : (spec_l05Conf.l0 k1 x3_1 (wrap64 (x4_1 + 1)) s0_0 t157 t158) = some (r1, r2, r3) := by rw [if_neg (show ¬ (false = true) by decide)] at H; exact H
          clear H
          have H := H1
          clear H1
          have H' := Aside0.mk H
          clear H
          go_wp2_with (first | ((with_reducible refine gate_callee (f := 106) rfl ?_); refine goesL_ (some 11) rfl rfl Try.func106 (by kernel_rfl) rfl #[.pointer (some ⟨g, 0, none⟩), .int .i64 2] rfl (by (try simp only [List.map_toArray, List.map_cons, List.map_nil]); first | done | rfl | (simp only [List.length_drop, List.length_take]; rfl)) ?_; (with_reducible refine (spec_l01Once.calls g s0_0 x1001_1 x1002_1 2 false t157 t158 w0 _ ?side1 ?side2 A5.out).mono ?_); (case side1 => repeat (first | (with_reducible first | exact HI0.out | apply IsS186.alloc | apply IsS186.drewN | apply IsS186.drew | apply IsS186.set_1 | apply IsS186.set_2) | exact HI0.out)); (case side2 => repeat (first | (with_reducible first | exact HB.out | apply below_alloc | apply pw_below_drewN | apply below_drew1 | refine below_set ?_ (IsS186.ge HI0.out)) | exact HB.out)); rintro e w10 ⟨rfl, hi, hb, hk⟩; refine ⟨_, rfl, ?_⟩; have n0_ := Aside0.mk (Kd.R_mono (Kd.R_keep (IsS186.apart (show IsS186 w0 _ g s0_0 x1001_1 x1002_1 from by repeat (first | (with_reducible first | exact HI0.out | apply IsS186.alloc | apply IsS186.drewN | apply IsS186.drew | apply IsS186.set_1 | apply IsS186.set_2) | exact HI0.out)) (by (with_reducible repeat (first | apply Kd.R_alloc | apply Kd.R_drewN | apply Kd.R_drew)); exact HO_3.out) (by decide)) hk (fun _ h => h.2)) (fun _ h => h.1)); have n1_ := Aside0.mk (KeepBut.trans (by repeat (first | (with_reducible first | exact HK.out | apply KeepBut.set_ | apply keep_drewN | apply keep_drew | apply keep_alloc) | exact HK.out)) hk (.inl rfl)); have n2_ := Aside0.mk (hb); have n3_ := Aside0.mk (hi); clear HO_3; clear HK; clear HB; clear HI0; have HO_3 := n0_; have HK := n1_; have HB := n2_; have HI0 := n3_; clear n0_ n1_ n2_ n3_; (try clear hb); (try clear hb2); (try clear hk); (try clear hi)))
          go_roundg k1
          case measure => have := HK1.out; omega
          case rel => exact ⟨(x3_1), (wrap64 (x4_1 + 1)), (t157), (t158), (by first | rfl | (simp; done) | (simp [*]; done)), H', ⟨by have := HK1.out; omega⟩, ⟨by (with_reducible repeat (first | apply Kd.R_alloc | apply Kd.R_drewN | apply Kd.R_drew)); exact HO_3.out⟩, ⟨by repeat (first | (with_reducible first | exact HI0.out | apply IsS186.alloc | apply IsS186.drewN | apply IsS186.drew | apply IsS186.set_1 | apply IsS186.set_2) | exact HI0.out)⟩, ⟨by repeat (first | (with_reducible first | exact HK.out | apply KeepBut.set_ | apply keep_drewN | apply keep_drew | apply keep_alloc) | exact HK.out)⟩, ⟨by repeat (first | (with_reducible first | exact HB.out | apply below_alloc | apply pw_below_drewN | apply below_drew1 | refine below_set ?_ (IsS186.ge HI0.out)) | exact HB.out)⟩⟩
      · rw [if_neg c4] at H
        have c4b0 : decide (x4_1 ≤ 4) = false := decide_eq_false c4
        clear c4
        by_cases c11 : (x3_1.length : Int) = 0
        · rw [if_pos c11] at H
          have c11b0 : ((x3_1.length : Int) == 0) = true := beq_iff_eq.mpr c11
          have c11b1 : ((x3_1.length : Int) != 0) = false := bne_eq_false_iff_eq.mpr c11
          clear c11
          by_cases c12 : x3_1.length < 17592186044416
          · rw [if_pos c12] at H
            have LMc12 := Aside0.mk c12
            clear c12
            obtain ⟨y162, hy162⟩ : ∃ y_ : List Int, y_ = (x3_1 ++ [1]) := ⟨_, rfl⟩
            replace H : (some (y162, x1001_1, x1002_1)) = some (r1, r2, r3) := by first | (rw [hy162]; with_reducible exact H) | (have H2_ := (Option.bind_some _ _).symm.trans H; rw [hy162]; with_reducible exact H2_) | (have H2_ := (Option.bind_some _ _).symm.trans H; with_reducible exact H2_) | with_reducible exact H | (rw [hy162]; exact H) | exact H
            have Ny162 := Aside0.mk hy162
            clear hy162
            simp only [Option.some.injEq, Prod.mk.injEq] at H
            obtain ⟨rfl, rfl, rfl⟩ := H
            obtain ⟨Ao13, co13, eo13⟩ := Kd.R_slice HO_3.out
            subst eo13
            go_wp2_with (first | ((with_reducible refine gate_builtin (b := .append) (xs := #[.tmp 19, .tmp 20]) rfl ?_); at_builtin; refine Kd.R_append (Kd.int .i64) w.heap.size rfl (.tmp 19) (.tmp 20) 23 3 (.int .i64 0) 8 rfl Try.underlying23 info3 rfl (by decide) (by omega) (.slice Ao13 x3_1.length co13) x3_1 1 [.int .i64 1] (fun _ => True) (fun _ => False) rfl rfl ?aP (fun _ hk => hk.elim) ?aF ?aO (Below.refl _ _) ?aS ?aL ?_; (case aP => exact rfl); (case aF => exact (fun _ _ => trivial)); (case aO => exact (by (with_reducible repeat (first | apply Kd.R_alloc | apply Kd.R_drewN | apply Kd.R_drew)); exact HO_3.out)); (case aS => exact (keep_size (w := w) (g := g) (row := none) (by repeat (first | (with_reducible first | exact HK.out | apply KeepBut.set_ | apply keep_drewN | apply keep_drew | apply keep_alloc) | exact HK.out)))); (case aL => have := LMc12.out; omega); intro v163 w14 ho hb hg hat; rw [← Ny162.out] at ho; have n0_ := Aside0.mk (IsS186.grown (by repeat (first | (with_reducible first | exact HI0.out | apply IsS186.alloc | apply IsS186.drewN | apply IsS186.drew | apply IsS186.set_1 | apply IsS186.set_2) | exact HI0.out)) hg (IsS186.own_ne HI0.out HO_3.out (by decide))); have n1_ := Aside0.mk (below_weaken (by repeat (first | (with_reducible first | exact HB.out | apply below_alloc | apply pw_below_drewN | apply below_drew1 | refine below_set ?_ (IsS186.ge HI0.out)) | exact HB.out)) HL.out hb); have n2_ := Aside0.mk (KeepBut.trans (by repeat (first | (with_reducible first | exact HK.out | apply KeepBut.set_ | apply keep_drewN | apply keep_drew | apply keep_alloc) | exact HK.out)) (KeepBut.of_grown hg g) (Kd.R_base2 HO_3.out)); have n3_ := Aside0.mk (ho); clear HI0; clear HB; clear HK; clear HO_3; have HI0 := n0_; have HB := n1_; have HK := n2_; have HO164 := n3_; clear n0_ n1_ n2_ n3_; clear ho hb hg hat))
            go_ret
            exact ⟨_, by first | rfl | (simp [errW_none, errW_some] <;> rfl) | (simp [*, errW_none, errW_some] <;> rfl), by (with_reducible repeat (first | apply Kd.R_alloc | apply Kd.R_drewN | apply Kd.R_drew)); exact HO164.out, by repeat (first | (with_reducible first | exact HI0.out | apply IsS186.alloc | apply IsS186.drewN | apply IsS186.drew | apply IsS186.set_1 | apply IsS186.set_2) | exact HI0.out), by repeat (first | (with_reducible first | exact HB.out | apply below_alloc | apply pw_below_drewN | apply below_drew1 | refine below_set ?_ (IsS186.ge HI0.out)) | exact HB.out), by repeat (first | (with_reducible first | exact HK.out | apply KeepBut.set_ | apply keep_drewN | apply keep_drew | apply keep_alloc) | exact HK.out)⟩
          · rw [if_neg c12] at H
            exact absurd H (by simp)
        · rw [if_neg c11] at H
          have c11b0 : ((x3_1.length : Int) == 0) = false := beq_eq_false_iff_ne.mpr c11
          have c11b1 : ((x3_1.length : Int) != 0) = true := bne_iff_ne.mpr c11
          have c11b2 : ¬ (x3_1 = []) := fun h_ => c11 (by rw [h_]; rfl)
          simp only [Option.some.injEq, Prod.mk.injEq] at H
          obtain ⟨rfl, rfl, rfl⟩ := H
          obtain ⟨Ao15, co15, eo15⟩ := Kd.R_slice HO_3.out
          subst eo15
          go_wp2
          go_ret
          exact ⟨_, by first | rfl | (simp [errW_none, errW_some] <;> rfl) | (simp [*, errW_none, errW_some] <;> rfl), by (with_reducible repeat (first | apply Kd.R_alloc | apply Kd.R_drewN | apply Kd.R_drew)); exact HO_3.out, by repeat (first | (with_reducible first | exact HI0.out | apply IsS186.alloc | apply IsS186.drewN | apply IsS186.drew | apply IsS186.set_1 | apply IsS186.set_2) | exact HI0.out), by repeat (first | (with_reducible first | exact HB.out | apply below_alloc | apply pw_below_drewN | apply below_drew1 | refine below_set ?_ (IsS186.ge HI0.out)) | exact HB.out), by repeat (first | (with_reducible first | exact HK.out | apply KeepBut.set_ | apply keep_drewN | apply keep_drew | apply keep_alloc) | exact HK.out)⟩

end Go.Proofs.Ytdjikjmjajlgcaa.PFnEntries
end

/-! ### YtdjikjmjajlgcaaQFnEntriesx8 -/
section
namespace Go.Proofs.Ytdjikjmjajlgcaa.PFnEntries
open Go.RowKit Go.Proofs.YtdjikjmjajlgcaaW.PrintWords Go.Proofs.YtdjikjmjajlgcaaW.PrintLast Go.Proofs.YtdjikjmjajlgcaaW.PrintMore
attribute [local go_sem] max2_int min2_int max_two min_two max_three min_three max_four min_four   -- for this text's walks alone
set_option linter.unusedVariables false
set_option linter.unusedSimpArgs false

/-! ### spec_l05Index: function 90 -/
def spec_l05Index.f (s0_0 : List Int) (s0_1 : Int) (s0_2 : Int) : Option (Int × Int × Int) := (spec_l01Once.f s0_0 s0_1 s0_2 12).bind fun bt127 => (if bt127.1 = true then ((spec_l01PickInt.f s0_0 bt127.2.1 bt127.2.2 (([0, (-1), 1000000, 1000001] : List Int))).bind fun bt133 => (some (bt133.1, bt133.2.1, bt133.2.2))) else ((spec_l01Below.f s0_0 bt127.2.1 bt127.2.2 200).bind fun bt136 => (some (wrap64 (1 + bt136.1), bt136.2.1, bt136.2.2))))
set_option maxHeartbeats 8000000 in
set_option maxRecDepth 100000 in
theorem spec_l05Index.calls (g : Nat) (s0_0 : List Int) (s0_1 : Int) (s0_2 : Int) (r1 : Int) (r2 : Int) (r3 : Int) (w0 w : World) (hI : IsS186 w0 w g s0_0 s0_1 s0_2) (hB : Below w0.heap.size w0 w) (h : spec_l05Index.f s0_0 s0_1 s0_2 = some (r1, r2, r3)) :
    Calls Try.prog 90 #[.pointer (some ⟨g, 0, none⟩)] w fun e w' => e = .returned (.int .i64 r1) ∧ IsS186 w0 w' g s0_0 r2 r3 ∧ Below w0.heap.size w0 w' ∧ KeepBut w w' g none := by
  have HI0 := Aside0.mk hI
  have HK := Aside0.mk (KeepBut.refl w g none)
  have HL := Aside0.mk hB.size
  clear hI
  have HW0 := Aside0.mk hB.size
  have HB := Aside0.mk hB
  clear hB
  have H : ((spec_l01Once.f s0_0 s0_1 s0_2 12).bind fun bt127 => (if bt127.1 = true then ((spec_l01PickInt.f s0_0 bt127.2.1 bt127.2.2 (([0, (-1), 1000000, 1000001] : List Int))).bind fun bt133 => (some (bt133.1, bt133.2.1, bt133.2.2))) else ((spec_l01Below.f s0_0 bt127.2.1 bt127.2.2 200).bind fun bt136 => (some (wrap64 (1 + bt136.1), bt136.2.1, bt136.2.2))))) = some (r1, r2, r3) := h
  clear h
  replace H := Option.bind_eq_some_iff.mp H
  obtain ⟨⟨t127, t128, t129⟩, A20, H⟩ := H
  replace H : (if t127 = true then ((spec_l01PickInt.f s0_0 t128 t129 (([0, (-1), 1000000, 1000001] : List Int))).bind fun bt133 => (some (bt133.1, bt133.2.1, bt133.2.2))) else ((spec_l01Below.f s0_0 t128 t129 200).bind fun bt136 => (some (wrap64 (1 + bt136.1), bt136.2.1, bt136.2.2)))) = some (r1, r2, r3) := H
  have A2 := Aside0.mk A20
  clear A20
  by_cases c3 : t127 = true
  · subst c3
    have H1 : ((spec_l01PickInt.f s0_0 t128 t129 (([0, (-1), 1000000, 1000001] : List Int))).bind fun bt133 => (some (bt133.1, bt133.2.1, bt133.2.2))) = some (r1, r2, r3) := by rw [if_pos rfl] at H; exact H
    clear H
    have H := H1
    clear H1
    obtain ⟨y130, hy130⟩ : ∃ y_ : List Int, y_ = (([0, (-1), 1000000, 1000001] : List Int)) := ⟨_, rfl⟩
    replace H : ((spec_l01PickInt.f s0_0 t128 t129 y130).bind fun bt133 => (some (bt133.1, bt133.2.1, bt133.2.2))) = some (r1, r2, r3) := by first | (rw [hy130]; with_reducible exact H) | (have H2_ := (Option.bind_some _ _).symm.trans H; rw [hy130]; with_reducible exact H2_) | (have H2_ := (Option.bind_some _ _).symm.trans H; with_reducible exact H2_) | with_reducible exact H | (rw [hy130]; exact H) | exact H
    have Ny130 := Aside0.mk hy130
    clear hy130
    replace H := Option.bind_eq_some_iff.mp H
    obtain ⟨⟨t133, t134, t135⟩, A40, H⟩ := H
    replace H : (some (t133, t134, t135)) = some (r1, r2, r3) := H
    have A4 := Aside0.mk A40
    clear A40
    simp only [Option.some.injEq, Prod.mk.injEq] at H
    obtain ⟨rfl, rfl, rfl⟩ := H
    go_enter Try.func90, Try.ntmps90
    go_wp2_with (first | ((with_reducible refine gate_callee (f := 106) rfl ?_); refine goesL_ (some 4) rfl rfl Try.func106 (by kernel_rfl) rfl #[.pointer (some ⟨g, 0, none⟩), .int .i64 12] rfl (by (try simp only [List.map_toArray, List.map_cons, List.map_nil]); first | done | rfl | (simp only [List.length_drop, List.length_take]; rfl)) ?_; (with_reducible refine (spec_l01Once.calls g s0_0 s0_1 s0_2 12 true t128 t129 w0 _ ?side1 ?side2 A2.out).mono ?_); (case side1 => repeat (first | (with_reducible first | exact HI0.out | apply IsS186.alloc | apply IsS186.drewN | apply IsS186.drew | apply IsS186.set_1 | apply IsS186.set_2) | exact HI0.out)); (case side2 => repeat (first | (with_reducible first | exact HB.out | apply below_alloc | apply pw_below_drewN | apply below_drew1 | refine below_set ?_ (IsS186.ge HI0.out)) | exact HB.out)); rintro e w5 ⟨rfl, hi, hb, hk⟩; refine ⟨_, rfl, ?_⟩; have n0_ := Aside0.mk (KeepBut.trans (by repeat (first | (with_reducible first | exact HK.out | apply KeepBut.set_ | apply keep_drewN | apply keep_drew | apply keep_alloc) | exact HK.out)) hk (.inl rfl)); have n1_ := Aside0.mk (hb); have n2_ := Aside0.mk (hi); clear HK; clear HB; clear HI0; have HK := n0_; have HB := n1_; have HI0 := n2_; clear n0_ n1_ n2_; (try clear hb); (try clear hb2); (try clear hk); (try clear hi)) | ((with_reducible refine gate_dst (N := 6) rfl ?_); refine Kd.R_lit (Kd.int .i64) _ 3 ?hg (N := 6) ?hd (xs := ([0, (-1), 1000000, 1000001] : List Int)) (inner := [.int .i64 0, .int .i64 (-1), .int .i64 1000000, .int .i64 1000001]) (ok := fun _ => True) (okp := fun _ => True) ?hr ?hp (fun _ hk => hk) trivial (Below.refl _ _) (Nat.le_refl _) (by simp) ?_; (case hd => rfl); (case hg => rfl); (case hr => first | (go_simp; done) | (go_simp; rfl)); (case hp => exact (Reps.one (show Kd.M (Kd.int .i64) _ _ _ 0 [.int .i64 0] from rfl) (Reps.one (show Kd.M (Kd.int .i64) _ _ _ (-1) [.int .i64 (-1)] from rfl) (Reps.one (show Kd.M (Kd.int .i64) _ _ _ 1000000 [.int .i64 1000000] from rfl) (Reps.one (show Kd.M (Kd.int .i64) _ _ _ 1000001 [.int .i64 1000001] from rfl) (Reps.none _ _)))))); intro v131 w6 ho7 hb hg_ hnew_; clear hg_ hnew_; (first | rw [← Ny130.out] at ho7 | (simp only [Int.reduceToNat] at ho7; rw [← Ny130.out] at ho7)); have n0_ := Aside0.mk (Kd.R_lower ho7 (keep_size (w := w) (g := g) (row := none) (by repeat (first | (with_reducible first | exact HK.out | apply KeepBut.set_ | apply keep_drewN | apply keep_drew | apply keep_alloc) | exact HK.out)))); have n1_ := Aside0.mk (IsS186.below (by repeat (first | (with_reducible first | exact HI0.out | apply IsS186.alloc | apply IsS186.drewN | apply IsS186.drew | apply IsS186.set_1 | apply IsS186.set_2) | exact HI0.out)) hb); have n2_ := Aside0.mk (KeepBut.trans (by repeat (first | (with_reducible first | exact HK.out | apply KeepBut.set_ | apply keep_drewN | apply keep_drew | apply keep_alloc) | exact HK.out)) (KeepBut.of_below hb g none) (.inl rfl)); have n3_ := Aside0.mk (below_step (by repeat (first | (with_reducible first | exact HB.out | apply below_alloc | apply pw_below_drewN | apply below_drew1 | refine below_set ?_ (IsS186.ge HI0.out)) | exact HB.out)) hb); clear HI0; clear HK; clear HB; have HO132 := n0_; have HI0 := n1_; have HK := n2_; have HB := n3_; clear n0_ n1_ n2_ n3_; clear hb ho7; obtain ⟨Ao8, co8, eo8⟩ := Kd.R_slice HO132.out; subst eo8) | ((with_reducible refine gate_callee (f := 143) rfl ?_); refine goesL_ (some 7) rfl rfl Try.func143 (by kernel_rfl) rfl #[.pointer (some ⟨g, 0, none⟩), .slice Ao8 y130.length co8] rfl (by (try simp only [List.map_toArray, List.map_cons, List.map_nil]); first | done | rfl | (simp only [List.length_drop, List.length_take]; rfl)) ?_; (with_reducible refine (spec_l01PickInt.calls g s0_0 t128 t129 _ _ y130 t133 t134 t135 w0 _ ?side1 ?side2 ?side3 ?side4 ?side5 A4.out).mono ?_); (case side1 => repeat (first | (with_reducible first | exact HI0.out | apply IsS186.alloc | apply IsS186.drewN | apply IsS186.drew | apply IsS186.set_1 | apply IsS186.set_2) | exact HI0.out)); (case side2 => repeat (first | (with_reducible first | exact HB.out | apply below_alloc | apply pw_below_drewN | apply below_drew1 | refine below_set ?_ (IsS186.ge HI0.out)) | exact HB.out)); (case side3 => repeat (first | exact (Kd.R_reads' HO132.out).2.2 | (with_reducible refine Kd.C_alloc ?_ _) | (with_reducible refine Kd.C_drewN ?_ _) | (with_reducible refine Kd.C_drew ?_))); (case side4 => exact (Kd.R_reads' HO132.out).2.1); (case side5 => exact far_slice (IsS186.own_ne HI0.out HO132.out (by decide))); rintro e w9 ⟨rfl, hi, hb, hk⟩; refine ⟨_, rfl, ?_⟩; have n0_ := Aside0.mk (Kd.R_mono (Kd.R_keep (IsS186.apart (show IsS186 w0 _ g s0_0 t128 t129 from by repeat (first | (with_reducible first | exact HI0.out | apply IsS186.alloc | apply IsS186.drewN | apply IsS186.drew | apply IsS186.set_1 | apply IsS186.set_2) | exact HI0.out)) (by (with_reducible repeat (first | apply Kd.R_alloc | apply Kd.R_drewN | apply Kd.R_drew)); exact HO132.out) (by decide)) hk (fun _ h => h.2)) (fun _ h => h.1)); have n1_ := Aside0.mk (KeepBut.trans (by repeat (first | (with_reducible first | exact HK.out | apply KeepBut.set_ | apply keep_drewN | apply keep_drew | apply keep_alloc) | exact HK.out)) hk (.inl rfl)); have n2_ := Aside0.mk (hb); have n3_ := Aside0.mk (hi); clear HO132; clear HK; clear HB; clear HI0; have HO132 := n0_; have HK := n1_; have HB := n2_; have HI0 := n3_; clear n0_ n1_ n2_ n3_; (try clear hb); (try clear hb2); (try clear hk); (try clear hi)))
    go_ret
    exact ⟨by first | rfl | (simp [errW_none, errW_some] <;> rfl) | (simp [*, errW_none, errW_some] <;> rfl), by repeat (first | (with_reducible first | exact HI0.out | apply IsS186.alloc | apply IsS186.drewN | apply IsS186.drew | apply IsS186.set_1 | apply IsS186.set_2) | exact HI0.out), by repeat (first | (with_reducible first | exact HB.out | apply below_alloc | apply pw_below_drewN | apply below_drew1 | refine below_set ?_ (IsS186.ge HI0.out)) | exact HB.out), by repeat (first | (with_reducible first | exact HK.out | apply KeepBut.set_ | apply keep_drewN | apply keep_drew | apply keep_alloc) | exact HK.out)⟩
  · replace c3 := Bool.eq_false_iff.mpr c3
    subst c3
    have H1 : ((spec_l01Below.f s0_0 t128 t129 200).bind fun bt136 => (some (wrap64 (1 + bt136.1), bt136.2.1, bt136.2.2))) = some (r1, r2, r3) := by rw [if_neg (show ¬ (false = true) by decide)] at H; exact H
    clear H
    have H := H1
    clear H1
    replace H := Option.bind_eq_some_iff.mp H
    obtain ⟨⟨t136, t137, t138⟩, A100, H⟩ := H
    replace H : (some (wrap64 (1 + t136), t137, t138)) = some (r1, r2, r3) := H
    have A10 := Aside0.mk A100
    clear A100
    simp only [Option.some.injEq, Prod.mk.injEq] at H
    obtain ⟨rfl, rfl, rfl⟩ := H
    go_enter Try.func90, Try.ntmps90
    go_wp2_with (first | ((with_reducible refine gate_callee (f := 106) rfl ?_); refine goesL_ (some 4) rfl rfl Try.func106 (by kernel_rfl) rfl #[.pointer (some ⟨g, 0, none⟩), .int .i64 12] rfl (by (try simp only [List.map_toArray, List.map_cons, List.map_nil]); first | done | rfl | (simp only [List.length_drop, List.length_take]; rfl)) ?_; (with_reducible refine (spec_l01Once.calls g s0_0 s0_1 s0_2 12 false t128 t129 w0 _ ?side1 ?side2 A2.out).mono ?_); (case side1 => repeat (first | (with_reducible first | exact HI0.out | apply IsS186.alloc | apply IsS186.drewN | apply IsS186.drew | apply IsS186.set_1 | apply IsS186.set_2) | exact HI0.out)); (case side2 => repeat (first | (with_reducible first | exact HB.out | apply below_alloc | apply pw_below_drewN | apply below_drew1 | refine below_set ?_ (IsS186.ge HI0.out)) | exact HB.out)); rintro e w11 ⟨rfl, hi, hb, hk⟩; refine ⟨_, rfl, ?_⟩; have n0_ := Aside0.mk (KeepBut.trans (by repeat (first | (with_reducible first | exact HK.out | apply KeepBut.set_ | apply keep_drewN | apply keep_drew | apply keep_alloc) | exact HK.out)) hk (.inl rfl)); have n1_ := Aside0.mk (hb); have n2_ := Aside0.mk (hi); clear HK; clear HB; clear HI0; have HK := n0_; have HB := n1_; have HI0 := n2_; clear n0_ n1_ n2_; (try clear hb); (try clear hb2); (try clear hk); (try clear hi)) | ((with_reducible refine gate_callee (f := 105) rfl ?_); refine goesL_ (some 9) rfl rfl Try.func105 (by kernel_rfl) rfl #[.pointer (some ⟨g, 0, none⟩), .int .i64 200] rfl (by (try simp only [List.map_toArray, List.map_cons, List.map_nil]); first | done | rfl | (simp only [List.length_drop, List.length_take]; rfl)) ?_; (with_reducible refine (spec_l01Below.calls g s0_0 t128 t129 200 t136 t137 t138 w0 _ ?side1 ?side2 A10.out).mono ?_); (case side1 => repeat (first | (with_reducible first | exact HI0.out | apply IsS186.alloc | apply IsS186.drewN | apply IsS186.drew | apply IsS186.set_1 | apply IsS186.set_2) | exact HI0.out)); (case side2 => repeat (first | (with_reducible first | exact HB.out | apply below_alloc | apply pw_below_drewN | apply below_drew1 | refine below_set ?_ (IsS186.ge HI0.out)) | exact HB.out)); rintro e w12 ⟨rfl, hi, hb, hk⟩; refine ⟨_, rfl, ?_⟩; have n0_ := Aside0.mk (KeepBut.trans (by repeat (first | (with_reducible first | exact HK.out | apply KeepBut.set_ | apply keep_drewN | apply keep_drew | apply keep_alloc) | exact HK.out)) hk (.inl rfl)); have n1_ := Aside0.mk (hb); have n2_ := Aside0.mk (hi); clear HK; clear HB; clear HI0; have HK := n0_; have HB := n1_; have HI0 := n2_; clear n0_ n1_ n2_; (try clear hb); (try clear hb2); (try clear hk); (try clear hi)))
    go_ret
    exact ⟨by first | rfl | (simp [errW_none, errW_some] <;> rfl) | (simp [*, errW_none, errW_some] <;> rfl), by repeat (first | (with_reducible first | exact HI0.out | apply IsS186.alloc | apply IsS186.drewN | apply IsS186.drew | apply IsS186.set_1 | apply IsS186.set_2) | exact HI0.out), by repeat (first | (with_reducible first | exact HB.out | apply below_alloc | apply pw_below_drewN | apply below_drew1 | refine below_set ?_ (IsS186.ge HI0.out)) | exact HB.out), by repeat (first | (with_reducible first | exact HK.out | apply KeepBut.set_ | apply keep_drewN | apply keep_drew | apply keep_alloc) | exact HK.out)⟩

end Go.Proofs.Ytdjikjmjajlgcaa.PFnEntries
end

/-! ### YtdjikjmjajlgcaaQFnEntriesx44 -/
section
namespace Go.Proofs.Ytdjikjmjajlgcaa.PFnEntries
open Go.RowKit Go.Proofs.YtdjikjmjajlgcaaW.PrintWords Go.Proofs.YtdjikjmjajlgcaaW.PrintLast Go.Proofs.YtdjikjmjajlgcaaW.PrintMore
attribute [local go_sem] max2_int min2_int max_two min_two max_three min_three max_four min_four   -- for this text's walks alone
set_option linter.unusedVariables false
set_option linter.unusedSimpArgs false

/-! ### spec_l05AnyConf: function 99 -/
def spec_l05AnyConf.f (k : Nat) (s0_0 : List Int) (s0_1 : Int) (s0_2 : Int) : Option (List Int × Int × Int) := (spec_l05Conf.f k s0_0 s0_1 s0_2).bind fun bt427 => ((spec_l01Below.f s0_0 bt427.2.1 bt427.2.2 12).bind fun bt432 => (if bt432.1 = 0 then ((spec_l01PickInt.f s0_0 bt432.2.1 bt432.2.2 (([0, 4, 5, 1] : List Int))).bind fun bt438 => (if bt427.1.length < 17592186044416 then (some ((bt427.1 ++ [bt438.1]), bt438.2.1, bt438.2.2)) else (none))) else (if bt432.1 = 1 then (some ((([] : List Int)), bt432.2.1, bt432.2.2)) else (some (bt427.1, bt432.2.1, bt432.2.2)))))
theorem spec_l05AnyConf.mono : ∀ a0 a1 a2 k, LeO (spec_l05AnyConf.f k a0 a1 a2) (spec_l05AnyConf.f (k + 1) a0 a1 a2) := by
  intro a0 a1 a2 k
  unfold spec_l05AnyConf.f
  repeat' first
      | (with_reducible exact spec_l05Conf.mono _ _ _ _)
      | (with_reducible exact LeO.refl _)
      | (with_reducible exact LeO.none _)
      | (with_reducible refine LeO.ite ?_ ?_)
      | (with_reducible refine LeO.bind ?_ (fun _ => ?_))
      | exact spec_l05Conf.mono _ _ _ _
      | exact LeO.none _
      | refine LeO.ite ?_ ?_
      | refine LeO.bind ?_ (fun _ => ?_)
set_option maxHeartbeats 8000000 in
set_option maxRecDepth 100000 in
theorem spec_l05AnyConf.calls (k : Nat) (g : Nat) (s0_0 : List Int) (s0_1 : Int) (s0_2 : Int) (r1 : List Int) (r2 : Int) (r3 : Int) (w0 w : World) (hI : IsS186 w0 w g s0_0 s0_1 s0_2) (hB : Below w0.heap.size w0 w) (h : spec_l05AnyConf.f k s0_0 s0_1 s0_2 = some (r1, r2, r3)) :
    Calls Try.prog 99 #[.pointer (some ⟨g, 0, none⟩)] w fun e w' => ∃ v0_ : Value, e = .returned (v0_) ∧ Kd.R (Kd.int .i64) 3 w' w.heap.size (fun _ => True) v0_ r1 ∧ IsS186 w0 w' g s0_0 r2 r3 ∧ Below w0.heap.size w0 w' ∧ KeepBut w w' g none := by
  have HI0 := Aside0.mk hI
  have HK := Aside0.mk (KeepBut.refl w g none)
  have HL := Aside0.mk hB.size
  clear hI
  have HW0 := Aside0.mk hB.size
  have HB := Aside0.mk hB
  clear hB
  have H : ((spec_l05Conf.f k s0_0 s0_1 s0_2).bind fun bt427 => ((spec_l01Below.f s0_0 bt427.2.1 bt427.2.2 12).bind fun bt432 => (if bt432.1 = 0 then ((spec_l01PickInt.f s0_0 bt432.2.1 bt432.2.2 (([0, 4, 5, 1] : List Int))).bind fun bt438 => (if bt427.1.length < 17592186044416 then (some ((bt427.1 ++ [bt438.1]), bt438.2.1, bt438.2.2)) else (none))) else (if bt432.1 = 1 then (some ((([] : List Int)), bt432.2.1, bt432.2.2)) else (some (bt427.1, bt432.2.1, bt432.2.2)))))) = some (r1, r2, r3) := h
  clear h
  replace H := Option.bind_eq_some_iff.mp H
  obtain ⟨⟨t427, t430, t431⟩, A20, H⟩ := H
  replace H : ((spec_l01Below.f s0_0 t430 t431 12).bind fun bt432 => (if bt432.1 = 0 then ((spec_l01PickInt.f s0_0 bt432.2.1 bt432.2.2 (([0, 4, 5, 1] : List Int))).bind fun bt438 => (if t427.length < 17592186044416 then (some ((t427 ++ [bt438.1]), bt438.2.1, bt438.2.2)) else (none))) else (if bt432.1 = 1 then (some ((([] : List Int)), bt432.2.1, bt432.2.2)) else (some (t427, bt432.2.1, bt432.2.2))))) = some (r1, r2, r3) := H
  have A2 := Aside0.mk A20
  clear A20
  replace H := Option.bind_eq_some_iff.mp H
  obtain ⟨⟨t432, t433, t434⟩, A30, H⟩ := H
  replace H : (if t432 = 0 then ((spec_l01PickInt.f s0_0 t433 t434 (([0, 4, 5, 1] : List Int))).bind fun bt438 => (if t427.length < 17592186044416 then (some ((t427 ++ [bt438.1]), bt438.2.1, bt438.2.2)) else (none))) else (if t432 = 1 then (some ((([] : List Int)), t433, t434)) else (some (t427, t433, t434)))) = some (r1, r2, r3) := H
  have A3 := Aside0.mk A30
  clear A30
  by_cases c4 : t432 = 0
  · rw [if_pos c4] at H
    have c4b0 : (t432 == 0) = true := beq_iff_eq.mpr c4
    have c4b1 : (t432 != 0) = false := bne_eq_false_iff_eq.mpr c4
    clear c4
    obtain ⟨y435, hy435⟩ : ∃ y_ : List Int, y_ = (([0, 4, 5, 1] : List Int)) := ⟨_, rfl⟩
    replace H : ((spec_l01PickInt.f s0_0 t433 t434 y435).bind fun bt438 => (if t427.length < 17592186044416 then (some ((t427 ++ [bt438.1]), bt438.2.1, bt438.2.2)) else (none))) = some (r1, r2, r3) := by first | (rw [hy435]; with_reducible exact H) | (have H2_ := (Option.bind_some _ _).symm.trans H; rw [hy435]; with_reducible exact H2_) | (have H2_ := (Option.bind_some _ _).symm.trans H; with_reducible exact H2_) | with_reducible exact H | (rw [hy435]; exact H) | exact H
    have Ny435 := Aside0.mk hy435
    clear hy435
    replace H := Option.bind_eq_some_iff.mp H
    obtain ⟨⟨t438, t439, t440⟩, A50, H⟩ := H
    replace H : (if t427.length < 17592186044416 then (some ((t427 ++ [t438]), t439, t440)) else (none)) = some (r1, r2, r3) := H
    have A5 := Aside0.mk A50
    clear A50
    by_cases c6 : t427.length < 17592186044416
    · rw [if_pos c6] at H
      have LMc6 := Aside0.mk c6
      clear c6
      obtain ⟨y441, hy441⟩ : ∃ y_ : List Int, y_ = (t427 ++ [t438]) := ⟨_, rfl⟩
      replace H : (some (y441, t439, t440)) = some (r1, r2, r3) := by first | (rw [hy441]; with_reducible exact H) | (have H2_ := (Option.bind_some _ _).symm.trans H; rw [hy441]; with_reducible exact H2_) | (have H2_ := (Option.bind_some _ _).symm.trans H; with_reducible exact H2_) | with_reducible exact H | (rw [hy441]; exact H) | exact H
      have Ny441 := Aside0.mk hy441
      clear hy441
      simp only [Option.some.injEq, Prod.mk.injEq] at H
      obtain ⟨rfl, rfl, rfl⟩ := H
      go_enter Try.func99, Try.ntmps99
      go_wp2_with (first | ((with_reducible refine gate_callee (f := 147) rfl ?_); refine goesL_ (some 5) rfl rfl Try.func147 (by kernel_rfl) rfl #[.pointer (some ⟨g, 0, none⟩)] rfl (by (try simp only [List.map_toArray, List.map_cons, List.map_nil]); first | done | rfl | (simp only [List.length_drop, List.length_take]; rfl)) ?_; (with_reducible refine (spec_l05Conf.calls k g s0_0 s0_1 s0_2 t427 t430 t431 w0 _ ?side1 ?side2 A2.out).mono ?_); (case side1 => repeat (first | (with_reducible first | exact HI0.out | apply IsS186.alloc | apply IsS186.drewN | apply IsS186.drew | apply IsS186.set_1 | apply IsS186.set_2) | exact HI0.out)); (case side2 => repeat (first | (with_reducible first | exact HB.out | apply below_alloc | apply pw_below_drewN | apply below_drew1 | refine below_set ?_ (IsS186.ge HI0.out)) | exact HB.out)); rintro e w7 ⟨v428, rfl, ho0, hi, hb, hk⟩; refine ⟨_, rfl, ?_⟩; have n0_ := Aside0.mk (Kd.R_lower ho0 (keep_size (w := w) (g := g) (row := none) (by repeat (first | (with_reducible first | exact HK.out | apply KeepBut.set_ | apply keep_drewN | apply keep_drew | apply keep_alloc) | exact HK.out)))); have n1_ := Aside0.mk (KeepBut.trans (by repeat (first | (with_reducible first | exact HK.out | apply KeepBut.set_ | apply keep_drewN | apply keep_drew | apply keep_alloc) | exact HK.out)) hk (.inl rfl)); have n2_ := Aside0.mk (hb); have n3_ := Aside0.mk (hi); clear HK; clear HB; clear HI0; have HO429 := n0_; have HK := n1_; have HB := n2_; have HI0 := n3_; clear n0_ n1_ n2_ n3_; (try clear hb); (try clear hb2); (try clear hk); (try clear hi); (try clear ho0)) | ((with_reducible refine gate_callee (f := 105) rfl ?_); refine goesL_ (some 7) rfl rfl Try.func105 (by kernel_rfl) rfl #[.pointer (some ⟨g, 0, none⟩), .int .i64 12] rfl (by (try simp only [List.map_toArray, List.map_cons, List.map_nil]); first | done | rfl | (simp only [List.length_drop, List.length_take]; rfl)) ?_; (with_reducible refine (spec_l01Below.calls g s0_0 t430 t431 12 t432 t433 t434 w0 _ ?side1 ?side2 A3.out).mono ?_); (case side1 => repeat (first | (with_reducible first | exact HI0.out | apply IsS186.alloc | apply IsS186.drewN | apply IsS186.drew | apply IsS186.set_1 | apply IsS186.set_2) | exact HI0.out)); (case side2 => repeat (first | (with_reducible first | exact HB.out | apply below_alloc | apply pw_below_drewN | apply below_drew1 | refine below_set ?_ (IsS186.ge HI0.out)) | exact HB.out)); rintro e w8 ⟨rfl, hi, hb, hk⟩; refine ⟨_, rfl, ?_⟩; have n0_ := Aside0.mk (Kd.R_mono (Kd.R_keep (IsS186.apart (show IsS186 w0 _ g s0_0 t430 t431 from by repeat (first | (with_reducible first | exact HI0.out | apply IsS186.alloc | apply IsS186.drewN | apply IsS186.drew | apply IsS186.set_1 | apply IsS186.set_2) | exact HI0.out)) (by (with_reducible repeat (first | apply Kd.R_alloc | apply Kd.R_drewN | apply Kd.R_drew)); exact HO429.out) (by decide)) hk (fun _ h => h.2)) (fun _ h => h.1)); have n1_ := Aside0.mk (KeepBut.trans (by repeat (first | (with_reducible first | exact HK.out | apply KeepBut.set_ | apply keep_drewN | apply keep_drew | apply keep_alloc) | exact HK.out)) hk (.inl rfl)); have n2_ := Aside0.mk (hb); have n3_ := Aside0.mk (hi); clear HO429; clear HK; clear HB; clear HI0; have HO429 := n0_; have HK := n1_; have HB := n2_; have HI0 := n3_; clear n0_ n1_ n2_ n3_; (try clear hb); (try clear hb2); (try clear hk); (try clear hi)) | ((with_reducible refine gate_dst (N := 12) rfl ?_); refine Kd.R_lit (Kd.int .i64) _ 3 ?hg (N := 12) ?hd (xs := ([0, 4, 5, 1] : List Int)) (inner := [.int .i64 0, .int .i64 4, .int .i64 5, .int .i64 1]) (ok := fun _ => True) (okp := fun _ => True) ?hr ?hp (fun _ hk => hk) trivial (Below.refl _ _) (Nat.le_refl _) (by simp) ?_; (case hd => rfl); (case hg => rfl); (case hr => first | (go_simp; done) | (go_simp; rfl)); (case hp => exact (Reps.one (show Kd.M (Kd.int .i64) _ _ _ 0 [.int .i64 0] from rfl) (Reps.one (show Kd.M (Kd.int .i64) _ _ _ 4 [.int .i64 4] from rfl) (Reps.one (show Kd.M (Kd.int .i64) _ _ _ 5 [.int .i64 5] from rfl) (Reps.one (show Kd.M (Kd.int .i64) _ _ _ 1 [.int .i64 1] from rfl) (Reps.none _ _)))))); intro v436 w9 ho10 hb hg_ hnew_; clear hg_ hnew_; (first | rw [← Ny435.out] at ho10 | (simp only [Int.reduceToNat] at ho10; rw [← Ny435.out] at ho10)); have n0_ := Aside0.mk (Kd.R_elder' (by (with_reducible repeat (first | apply Kd.R_alloc | apply Kd.R_drewN | apply Kd.R_drew)); exact HO429.out) (Kd.R_base ho10) hb); have n1_ := Aside0.mk (Kd.R_lower (Kd.R_new' ho10 (Kd.R_lt (by (with_reducible repeat (first | apply Kd.R_alloc | apply Kd.R_drewN | apply Kd.R_drew)); exact HO429.out))) (keep_size (w := w) (g := g) (row := none) (by repeat (first | (with_reducible first | exact HK.out | apply KeepBut.set_ | apply keep_drewN | apply keep_drew | apply keep_alloc) | exact HK.out)))); have n2_ := Aside0.mk (IsS186.below (by repeat (first | (with_reducible first | exact HI0.out | apply IsS186.alloc | apply IsS186.drewN | apply IsS186.drew | apply IsS186.set_1 | apply IsS186.set_2) | exact HI0.out)) hb); have n3_ := Aside0.mk (KeepBut.trans (by repeat (first | (with_reducible first | exact HK.out | apply KeepBut.set_ | apply keep_drewN | apply keep_drew | apply keep_alloc) | exact HK.out)) (KeepBut.of_below hb g none) (.inl rfl)); have n4_ := Aside0.mk (below_step (by repeat (first | (with_reducible first | exact HB.out | apply below_alloc | apply pw_below_drewN | apply below_drew1 | refine below_set ?_ (IsS186.ge HI0.out)) | exact HB.out)) hb); clear HO429; clear HI0; clear HK; clear HB; have HO429 := n0_; have HO437 := n1_; have HI0 := n2_; have HK := n3_; have HB := n4_; clear n0_ n1_ n2_ n3_ n4_; clear hb ho10; obtain ⟨Ao11, co11, eo11⟩ := Kd.R_slice HO437.out; subst eo11) | ((with_reducible refine gate_callee (f := 143) rfl ?_); refine goesL_ (some 13) rfl rfl Try.func143 (by kernel_rfl) rfl #[.pointer (some ⟨g, 0, none⟩), .slice Ao11 y435.length co11] rfl (by (try simp only [List.map_toArray, List.map_cons, List.map_nil]); first | done | rfl | (simp only [List.length_drop, List.length_take]; rfl)) ?_; (with_reducible refine (spec_l01PickInt.calls g s0_0 t433 t434 _ _ y435 t438 t439 t440 w0 _ ?side1 ?side2 ?side3 ?side4 ?side5 A5.out).mono ?_); (case side1 => repeat (first | (with_reducible first | exact HI0.out | apply IsS186.alloc | apply IsS186.drewN | apply IsS186.drew | apply IsS186.set_1 | apply IsS186.set_2) | exact HI0.out)); (case side2 => repeat (first | (with_reducible first | exact HB.out | apply below_alloc | apply pw_below_drewN | apply below_drew1 | refine below_set ?_ (IsS186.ge HI0.out)) | exact HB.out)); (case side3 => repeat (first | exact (Kd.R_reads' HO437.out).2.2 | (with_reducible refine Kd.C_alloc ?_ _) | (with_reducible refine Kd.C_drewN ?_ _) | (with_reducible refine Kd.C_drew ?_))); (case side4 => exact (Kd.R_reads' HO437.out).2.1); (case side5 => exact far_slice (IsS186.own_ne HI0.out HO437.out (by decide))); rintro e w12 ⟨rfl, hi, hb, hk⟩; refine ⟨_, rfl, ?_⟩; have n0_ := Aside0.mk (Kd.R_mono (Kd.R_keep (IsS186.apart (show IsS186 w0 _ g s0_0 t433 t434 from by repeat (first | (with_reducible first | exact HI0.out | apply IsS186.alloc | apply IsS186.drewN | apply IsS186.drew | apply IsS186.set_1 | apply IsS186.set_2) | exact HI0.out)) (by (with_reducible repeat (first | apply Kd.R_alloc | apply Kd.R_drewN | apply Kd.R_drew)); exact HO429.out) (by decide)) hk (fun _ h => h.2)) (fun _ h => h.1)); have n1_ := Aside0.mk (Kd.R_mono (Kd.R_keep (IsS186.apart (show IsS186 w0 _ g s0_0 t433 t434 from by repeat (first | (with_reducible first | exact HI0.out | apply IsS186.alloc | apply IsS186.drewN | apply IsS186.drew | apply IsS186.set_1 | apply IsS186.set_2) | exact HI0.out)) (by (with_reducible repeat (first | apply Kd.R_alloc | apply Kd.R_drewN | apply Kd.R_drew)); exact HO437.out) (by decide)) hk (fun _ h => h.2)) (fun _ h => h.1)); have n2_ := Aside0.mk (KeepBut.trans (by repeat (first | (with_reducible first | exact HK.out | apply KeepBut.set_ | apply keep_drewN | apply keep_drew | apply keep_alloc) | exact HK.out)) hk (.inl rfl)); have n3_ := Aside0.mk (hb); have n4_ := Aside0.mk (hi); clear HO429; clear HO437; clear HK; clear HB; clear HI0; have HO429 := n0_; have HO437 := n1_; have HK := n2_; have HB := n3_; have HI0 := n4_; clear n0_ n1_ n2_ n3_ n4_; (try clear hb); (try clear hb2); (try clear hk); (try clear hi)) | ((with_reducible refine gate_builtin (b := .append) (xs := #[.tmp 10, .tmp 14]) rfl ?_); at_builtin; refine Kd.R_append (Kd.int .i64) w.heap.size rfl (.tmp 10) (.tmp 14) 23 3 (.int .i64 0) 8 rfl Try.underlying23 info3 rfl (by decide) (by omega) v428 t427 t438 [.int .i64 t438] (fun k_ => some k_ ≠ (.slice Ao11 y435.length co11 : Value).ownBlock) (fun _ => False) rfl rfl ?aP (fun _ hk => hk.elim) ?aF ?aO (Below.refl _ _) ?aS ?aL ?_; (case aP => exact rfl); (case aF => exact (fun k_ hk => Kd.fresh' (Kd.R_lt (by (with_reducible repeat (first | apply Kd.R_alloc | apply Kd.R_drewN | apply Kd.R_drew)); exact HO437.out)) k_ hk)); (case aO => exact (by (with_reducible repeat (first | apply Kd.R_alloc | apply Kd.R_drewN | apply Kd.R_drew)); exact Kd.R_mono HO429.out (fun _ hk => hk.2))); (case aS => exact (keep_size (w := w) (g := g) (row := none) (by repeat (first | (with_reducible first | exact HK.out | apply KeepBut.set_ | apply keep_drewN | apply keep_drew | apply keep_alloc) | exact HK.out)))); (case aL => have := LMc6.out; omega); intro v442 w13 ho hb hg hat; rw [← Ny441.out] at ho; have n0_ := Aside0.mk (IsS186.grown (by repeat (first | (with_reducible first | exact HI0.out | apply IsS186.alloc | apply IsS186.drewN | apply IsS186.drew | apply IsS186.set_1 | apply IsS186.set_2) | exact HI0.out)) hg (IsS186.own_ne HI0.out HO429.out (by decide))); have n1_ := Aside0.mk (Kd.R_after (ok := (fun _ => True)) (by (with_reducible repeat (first | apply Kd.R_alloc | apply Kd.R_drewN | apply Kd.R_drew)); exact HO437.out) hg hat); have n2_ := Aside0.mk (below_weaken (by repeat (first | (with_reducible first | exact HB.out | apply below_alloc | apply pw_below_drewN | apply below_drew1 | refine below_set ?_ (IsS186.ge HI0.out)) | exact HB.out)) HL.out hb); have n3_ := Aside0.mk (KeepBut.trans (by repeat (first | (with_reducible first | exact HK.out | apply KeepBut.set_ | apply keep_drewN | apply keep_drew | apply keep_alloc) | exact HK.out)) (KeepBut.of_grown hg g) (Kd.R_base2 HO429.out)); have n4_ := Aside0.mk (ho); clear HI0; clear HO437; clear HB; clear HK; clear HO429; have HI0 := n0_; have HO437 := n1_; have HB := n2_; have HK := n3_; have HO443 := n4_; clear n0_ n1_ n2_ n3_ n4_; clear ho hb hg hat))
      go_ret
      exact ⟨_, by first | rfl | (simp [errW_none, errW_some] <;> rfl) | (simp [*, errW_none, errW_some] <;> rfl), by (with_reducible repeat (first | apply Kd.R_alloc | apply Kd.R_drewN | apply Kd.R_drew)); exact Kd.R_mono HO443.out (fun _ hk => trivial), by repeat (first | (with_reducible first | exact HI0.out | apply IsS186.alloc | apply IsS186.drewN | apply IsS186.drew | apply IsS186.set_1 | apply IsS186.set_2) | exact HI0.out), by repeat (first | (with_reducible first | exact HB.out | apply below_alloc | apply pw_below_drewN | apply below_drew1 | refine below_set ?_ (IsS186.ge HI0.out)) | exact HB.out), by repeat (first | (with_reducible first | exact HK.out | apply KeepBut.set_ | apply keep_drewN | apply keep_drew | apply keep_alloc) | exact HK.out)⟩
    · rw [if_neg c6] at H
      exact absurd H (by simp)
  · rw [if_neg c4] at H
    have c4b0 : (t432 == 0) = false := beq_eq_false_iff_ne.mpr c4
    have c4b1 : (t432 != 0) = true := bne_iff_ne.mpr c4
    by_cases c14 : t432 = 1
    · rw [if_pos c14] at H
      have c14b0 : (t432 == 1) = true := beq_iff_eq.mpr c14
      have c14b1 : (t432 != 1) = false := bne_eq_false_iff_eq.mpr c14
      clear c14
      obtain ⟨y444, hy444⟩ : ∃ y_ : List Int, y_ = (([] : List Int)) := ⟨_, rfl⟩
      replace H : (some (y444, t433, t434)) = some (r1, r2, r3) := by first | (rw [hy444]; with_reducible exact H) | (have H2_ := (Option.bind_some _ _).symm.trans H; rw [hy444]; with_reducible exact H2_) | (have H2_ := (Option.bind_some _ _).symm.trans H; with_reducible exact H2_) | with_reducible exact H | (rw [hy444]; exact H) | exact H
      have Ny444 := Aside0.mk hy444
      clear hy444
      simp only [Option.some.injEq, Prod.mk.injEq] at H
      obtain ⟨rfl, rfl, rfl⟩ := H
      go_enter Try.func99, Try.ntmps99
      go_wp2_with (first | ((with_reducible refine gate_callee (f := 147) rfl ?_); refine goesL_ (some 5) rfl rfl Try.func147 (by kernel_rfl) rfl #[.pointer (some ⟨g, 0, none⟩)] rfl (by (try simp only [List.map_toArray, List.map_cons, List.map_nil]); first | done | rfl | (simp only [List.length_drop, List.length_take]; rfl)) ?_; (with_reducible refine (spec_l05Conf.calls k g s0_0 s0_1 s0_2 t427 t430 t431 w0 _ ?side1 ?side2 A2.out).mono ?_); (case side1 => repeat (first | (with_reducible first | exact HI0.out | apply IsS186.alloc | apply IsS186.drewN | apply IsS186.drew | apply IsS186.set_1 | apply IsS186.set_2) | exact HI0.out)); (case side2 => repeat (first | (with_reducible first | exact HB.out | apply below_alloc | apply pw_below_drewN | apply below_drew1 | refine below_set ?_ (IsS186.ge HI0.out)) | exact HB.out)); rintro e w15 ⟨v428, rfl, ho0, hi, hb, hk⟩; refine ⟨_, rfl, ?_⟩; have n0_ := Aside0.mk (Kd.R_lower ho0 (keep_size (w := w) (g := g) (row := none) (by repeat (first | (with_reducible first | exact HK.out | apply KeepBut.set_ | apply keep_drewN | apply keep_drew | apply keep_alloc) | exact HK.out)))); have n1_ := Aside0.mk (KeepBut.trans (by repeat (first | (with_reducible first | exact HK.out | apply KeepBut.set_ | apply keep_drewN | apply keep_drew | apply keep_alloc) | exact HK.out)) hk (.inl rfl)); have n2_ := Aside0.mk (hb); have n3_ := Aside0.mk (hi); clear HK; clear HB; clear HI0; have HO429 := n0_; have HK := n1_; have HB := n2_; have HI0 := n3_; clear n0_ n1_ n2_ n3_; (try clear hb); (try clear hb2); (try clear hk); (try clear hi); (try clear ho0)) | ((with_reducible refine gate_callee (f := 105) rfl ?_); refine goesL_ (some 7) rfl rfl Try.func105 (by kernel_rfl) rfl #[.pointer (some ⟨g, 0, none⟩), .int .i64 12] rfl (by (try simp only [List.map_toArray, List.map_cons, List.map_nil]); first | done | rfl | (simp only [List.length_drop, List.length_take]; rfl)) ?_; (with_reducible refine (spec_l01Below.calls g s0_0 t430 t431 12 t432 t433 t434 w0 _ ?side1 ?side2 A3.out).mono ?_); (case side1 => repeat (first | (with_reducible first | exact HI0.out | apply IsS186.alloc | apply IsS186.drewN | apply IsS186.drew | apply IsS186.set_1 | apply IsS186.set_2) | exact HI0.out)); (case side2 => repeat (first | (with_reducible first | exact HB.out | apply below_alloc | apply pw_below_drewN | apply below_drew1 | refine below_set ?_ (IsS186.ge HI0.out)) | exact HB.out)); rintro e w16 ⟨rfl, hi, hb, hk⟩; refine ⟨_, rfl, ?_⟩; have n0_ := Aside0.mk (Kd.R_mono (Kd.R_keep (IsS186.apart (show IsS186 w0 _ g s0_0 t430 t431 from by repeat (first | (with_reducible first | exact HI0.out | apply IsS186.alloc | apply IsS186.drewN | apply IsS186.drew | apply IsS186.set_1 | apply IsS186.set_2) | exact HI0.out)) (by (with_reducible repeat (first | apply Kd.R_alloc | apply Kd.R_drewN | apply Kd.R_drew)); exact HO429.out) (by decide)) hk (fun _ h => h.2)) (fun _ h => h.1)); have n1_ := Aside0.mk (KeepBut.trans (by repeat (first | (with_reducible first | exact HK.out | apply KeepBut.set_ | apply keep_drewN | apply keep_drew | apply keep_alloc) | exact HK.out)) hk (.inl rfl)); have n2_ := Aside0.mk (hb); have n3_ := Aside0.mk (hi); clear HO429; clear HK; clear HB; clear HI0; have HO429 := n0_; have HK := n1_; have HB := n2_; have HI0 := n3_; clear n0_ n1_ n2_ n3_; (try clear hb); (try clear hb2); (try clear hk); (try clear hi)) | ((with_reducible refine gate_dst (N := 18) rfl ?_); refine Kd.R_lit (Kd.int .i64) _ 3 ?hg (N := 18) ?hd (xs := ([] : List Int)) (inner := []) (ok := fun _ => True) (okp := fun _ => True) ?hr ?hp (fun _ hk => hk) trivial (Below.refl _ _) (Nat.le_refl _) (by simp) ?_; (case hd => rfl); (case hg => rfl); (case hr => first | (go_simp; done) | (go_simp; rfl)); (case hp => exact (Reps.none _ _)); intro v445 w17 ho18 hb hg_ hnew_; clear hg_ hnew_; (first | rw [← Ny444.out] at ho18 | (simp only [Int.reduceToNat] at ho18; rw [← Ny444.out] at ho18)); have n0_ := Aside0.mk (Kd.R_elder' (by (with_reducible repeat (first | apply Kd.R_alloc | apply Kd.R_drewN | apply Kd.R_drew)); exact HO429.out) (Kd.R_base ho18) hb); have n1_ := Aside0.mk (Kd.R_lower (Kd.R_new' ho18 (Kd.R_lt (by (with_reducible repeat (first | apply Kd.R_alloc | apply Kd.R_drewN | apply Kd.R_drew)); exact HO429.out))) (keep_size (w := w) (g := g) (row := none) (by repeat (first | (with_reducible first | exact HK.out | apply KeepBut.set_ | apply keep_drewN | apply keep_drew | apply keep_alloc) | exact HK.out)))); have n2_ := Aside0.mk (IsS186.below (by repeat (first | (with_reducible first | exact HI0.out | apply IsS186.alloc | apply IsS186.drewN | apply IsS186.drew | apply IsS186.set_1 | apply IsS186.set_2) | exact HI0.out)) hb); have n3_ := Aside0.mk (KeepBut.trans (by repeat (first | (with_reducible first | exact HK.out | apply KeepBut.set_ | apply keep_drewN | apply keep_drew | apply keep_alloc) | exact HK.out)) (KeepBut.of_below hb g none) (.inl rfl)); have n4_ := Aside0.mk (below_step (by repeat (first | (with_reducible first | exact HB.out | apply below_alloc | apply pw_below_drewN | apply below_drew1 | refine below_set ?_ (IsS186.ge HI0.out)) | exact HB.out)) hb); clear HO429; clear HI0; clear HK; clear HB; have HO429 := n0_; have HO446 := n1_; have HI0 := n2_; have HK := n3_; have HB := n4_; clear n0_ n1_ n2_ n3_ n4_; clear hb ho18))
      go_ret
      exact ⟨_, by first | rfl | (simp [errW_none, errW_some] <;> rfl) | (simp [*, errW_none, errW_some] <;> rfl), by (with_reducible repeat (first | apply Kd.R_alloc | apply Kd.R_drewN | apply Kd.R_drew)); exact Kd.R_mono HO446.out (fun _ hk => trivial), by repeat (first | (with_reducible first | exact HI0.out | apply IsS186.alloc | apply IsS186.drewN | apply IsS186.drew | apply IsS186.set_1 | apply IsS186.set_2) | exact HI0.out), by repeat (first | (with_reducible first | exact HB.out | apply below_alloc | apply pw_below_drewN | apply below_drew1 | refine below_set ?_ (IsS186.ge HI0.out)) | exact HB.out), by repeat (first | (with_reducible first | exact HK.out | apply KeepBut.set_ | apply keep_drewN | apply keep_drew | apply keep_alloc) | exact HK.out)⟩
    · rw [if_neg c14] at H
      have c14b0 : (t432 == 1) = false := beq_eq_false_iff_ne.mpr c14
      have c14b1 : (t432 != 1) = true := bne_iff_ne.mpr c14
      simp only [Option.some.injEq, Prod.mk.injEq] at H
      obtain ⟨rfl, rfl, rfl⟩ := H
      go_enter Try.func99, Try.ntmps99
      go_wp2_with (first | ((with_reducible refine gate_callee (f := 147) rfl ?_); refine goesL_ (some 5) rfl rfl Try.func147 (by kernel_rfl) rfl #[.pointer (some ⟨g, 0, none⟩)] rfl (by (try simp only [List.map_toArray, List.map_cons, List.map_nil]); first | done | rfl | (simp only [List.length_drop, List.length_take]; rfl)) ?_; (with_reducible refine (spec_l05Conf.calls k g s0_0 s0_1 s0_2 t427 t430 t431 w0 _ ?side1 ?side2 A2.out).mono ?_); (case side1 => repeat (first | (with_reducible first | exact HI0.out | apply IsS186.alloc | apply IsS186.drewN | apply IsS186.drew | apply IsS186.set_1 | apply IsS186.set_2) | exact HI0.out)); (case side2 => repeat (first | (with_reducible first | exact HB.out | apply below_alloc | apply pw_below_drewN | apply below_drew1 | refine below_set ?_ (IsS186.ge HI0.out)) | exact HB.out)); rintro e w19 ⟨v428, rfl, ho0, hi, hb, hk⟩; refine ⟨_, rfl, ?_⟩; have n0_ := Aside0.mk (Kd.R_lower ho0 (keep_size (w := w) (g := g) (row := none) (by repeat (first | (with_reducible first | exact HK.out | apply KeepBut.set_ | apply keep_drewN | apply keep_drew | apply keep_alloc) | exact HK.out)))); have n1_ := Aside0.mk (KeepBut.trans (by repeat (first | (with_reducible first | exact HK.out | apply KeepBut.set_ | apply keep_drewN | apply keep_drew | apply keep_alloc) | exact HK.out)) hk (.inl rfl)); have n2_ := Aside0.mk (hb); have n3_ := Aside0.mk (hi); clear HK; clear HB; clear HI0; have HO429 := n0_; have HK := n1_; have HB := n2_; have HI0 := n3_; clear n0_ n1_ n2_ n3_; (try clear hb); (try clear hb2); (try clear hk); (try clear hi); (try clear ho0)) | ((with_reducible refine gate_callee (f := 105) rfl ?_); refine goesL_ (some 7) rfl rfl Try.func105 (by kernel_rfl) rfl #[.pointer (some ⟨g, 0, none⟩), .int .i64 12] rfl (by (try simp only [List.map_toArray, List.map_cons, List.map_nil]); first | done | rfl | (simp only [List.length_drop, List.length_take]; rfl)) ?_; (with_reducible refine (spec_l01Below.calls g s0_0 t430 t431 12 t432 t433 t434 w0 _ ?side1 ?side2 A3.out).mono ?_); (case side1 => repeat (first | (with_reducible first | exact HI0.out | apply IsS186.alloc | apply IsS186.drewN | apply IsS186.drew | apply IsS186.set_1 | apply IsS186.set_2) | exact HI0.out)); (case side2 => repeat (first | (with_reducible first | exact HB.out | apply below_alloc | apply pw_below_drewN | apply below_drew1 | refine below_set ?_ (IsS186.ge HI0.out)) | exact HB.out)); rintro e w20 ⟨rfl, hi, hb, hk⟩; refine ⟨_, rfl, ?_⟩; have n0_ := Aside0.mk (Kd.R_mono (Kd.R_keep (IsS186.apart (show IsS186 w0 _ g s0_0 t430 t431 from by repeat (first | (with_reducible first | exact HI0.out | apply IsS186.alloc | apply IsS186.drewN | apply IsS186.drew | apply IsS186.set_1 | apply IsS186.set_2) | exact HI0.out)) (by (with_reducible repeat (first | apply Kd.R_alloc | apply Kd.R_drewN | apply Kd.R_drew)); exact HO429.out) (by decide)) hk (fun _ h => h.2)) (fun _ h => h.1)); have n1_ := Aside0.mk (KeepBut.trans (by repeat (first | (with_reducible first | exact HK.out | apply KeepBut.set_ | apply keep_drewN | apply keep_drew | apply keep_alloc) | exact HK.out)) hk (.inl rfl)); have n2_ := Aside0.mk (hb); have n3_ := Aside0.mk (hi); clear HO429; clear HK; clear HB; clear HI0; have HO429 := n0_; have HK := n1_; have HB := n2_; have HI0 := n3_; clear n0_ n1_ n2_ n3_; (try clear hb); (try clear hb2); (try clear hk); (try clear hi)))
      go_ret
      exact ⟨_, by first | rfl | (simp [errW_none, errW_some] <;> rfl) | (simp [*, errW_none, errW_some] <;> rfl), by (with_reducible repeat (first | apply Kd.R_alloc | apply Kd.R_drewN | apply Kd.R_drew)); exact HO429.out, by repeat (first | (with_reducible first | exact HI0.out | apply IsS186.alloc | apply IsS186.drewN | apply IsS186.drew | apply IsS186.set_1 | apply IsS186.set_2) | exact HI0.out), by repeat (first | (with_reducible first | exact HB.out | apply below_alloc | apply pw_below_drewN | apply below_drew1 | refine below_set ?_ (IsS186.ge HI0.out)) | exact HB.out), by repeat (first | (with_reducible first | exact HK.out | apply KeepBut.set_ | apply keep_drewN | apply keep_drew | apply keep_alloc) | exact HK.out)⟩

end Go.Proofs.Ytdjikjmjajlgcaa.PFnEntries
end

/-! ### YtdjikjmjajlgcaaDrawEntFnEntries -/
section
namespace Go.Proofs.Ytdjikjmjajlgcaa.PFnEntries
open Go.RowKit Go.Proofs.YtdjikjmjajlgcaaW.PrintWords
set_option linter.unusedSimpArgs false
set_option linter.unusedVariables false

/-! Drawn entries: every answer. (own) -/
theorem cmdText_C (op tok seq topic dev edge ep up : Int) (tx : ByteArray) (htx : tx.size ≤ 8) (w : World) :
    Calls Try.prog 149 #[.agg #[.int .i64 op, .int .i64 tok, .int .i64 seq, .int .i64 topic, .int .i64 dev, .int .i64 edge, .int .i64 ep, .int .i64 up, .string tx]] w fun e w' =>
      (∃ (d : ByteArray) (b : Bool), e = .returned (.tuple #[.string d, .bool b]) ∧ d.size ≤ 60) ∧ Below w.heap.size w w' := by
  refine (spec_CommandText op tok seq topic dev edge ep up tx w).mono ?_
  rintro e w' ⟨rfl, hb⟩
  refine ⟨⟨_, _, rfl, ?_⟩, hb⟩
  split
  · rename_i hk
    have hr := cmdOk_range hk
    have s0 := byteS_size op
    have s1 := varS_size tok (by omega) (by omega)
    have s2 := varS_size seq (by omega) (by omega)
    have s6 := varS_size ep (by omega) (by omega)
    have s7 := varS_size up (by omega) (by omega)
    have s8 := varS_size tx.size (by omega) (by omega)
    unfold cmdS shortS
    simp only [ByteArray.size_append, strOfNums_size, List.length_cons, List.length_nil]
    omega
  · show (0 : Nat) ≤ 60; omega
theorem conf_l (bs : List Int) (hb : bs.length ≤ 1048576) : ∀ (n k : Nat) (out : List Int) (x i h : Int), 5 - x ≤ n → n < k → 1 ≤ x → x ≤ 5 → (out.length : Int) + 1 ≤ x → (∀ y ∈ out, 1 ≤ y ∧ y ≤ 4) → 0 ≤ i → i ≤ (bs.length : Int) →
    ∃ r i' h', spec_l05Conf.l0 k out x bs i h = some (r, i', h') ∧ r.length ≤ 4 ∧ 0 ≤ i' ∧ i' ≤ (bs.length : Int)
  | n, 0, _, _, _, _, _, hk, _, _, _, _, _, _ => by omega
  | n, k + 1, out, x, i, h, hn, hk, hx, hx5, hl, hm, h0, h1 => by
    unfold spec_l05Conf.l0
    by_cases h4 : x ≤ 4
    · rw [if_pos h4]
      obtain ⟨r, i1, s1, e1, h2, h3⟩ := once_t bs i h 2 h0 h1 hb
      rw [e1, Option.bind_some]
      have e : wrap64 (x + 1) = x + 1 := by unfold wrap64; omega
      obtain ⟨n, rfl⟩ : ∃ m, n = m + 1 := ⟨n - 1, by omega⟩
      rw [e]
      cases r with
      | true =>
        simp only [if_true]
        rw [if_pos (by omega)]
        exact conf_l bs hb n k (out ++ [x]) (x + 1) i1 s1 (by omega) (by omega) (by omega) (by omega) (by simp; omega) (by intro y hy; rcases List.mem_append.1 hy with h | h; exact hm y h; simp at h; omega) h2 h3
      | false =>
        simp only [Bool.false_eq_true, if_false]
        exact conf_l bs hb n k out (x + 1) i1 s1 (by omega) (by omega) (by omega) (by omega) (by omega) hm h2 h3
    · rw [if_neg h4]
      by_cases hz : (out.length : Int) = 0
      · rw [if_pos hz, if_pos (by omega)]
        exact ⟨_, _, _, rfl, by simp; omega, h0, h1⟩
      · rw [if_neg hz]
        exact ⟨_, _, _, rfl, by omega, h0, h1⟩
theorem conf_C {w0 w : World} {g : Nat} (hc : Cur w0 w g) :
    Calls Try.prog 147 #[.pointer (some ⟨g, 0, none⟩)] w fun e w' => ∃ (A : Option Addr) (c : Nat) (xs : List Int), e = .returned (.slice A xs.length c) ∧ xs.length ≤ c ∧ xs.length ≤ 4 ∧ Kd.C (Kd.int .i64) w' A xs.length xs ∧ Dw w0 w g w' := by
  obtain ⟨bs, i, s, h1, h2, h3, h4, h5⟩ := hc
  obtain ⟨r, i', s', e, hm, h6, h7⟩ := conf_l bs h1 4 5 [] 1 i s (by omega) (by omega) (by omega) (by omega) (by simp) (by simp) h2 h3
  refine (spec_l05Conf.calls 5 g bs i s r i' s' w0 w h4 h5 e).mono ?_
  rintro e w' ⟨v, rfl, hR, k1, k2, k3⟩
  obtain ⟨A, c, rfl, hcap, hC⟩ := Kd.R_reads hR
  exact ⟨A, c, r, rfl, hcap, hm, hC, ⟨bs, i', s', h1, h6, h7, k1, k2⟩, k3⟩
theorem confText_C (A : Option Addr) (c : Nat) (xs : List Int) (w : World) (hr : Kd.C (Kd.int .i64) w A xs.length xs) (hc : xs.length ≤ c) (hl : xs.length ≤ 4) :
    Calls Try.prog 47 #[.slice A xs.length c] w fun e w' => (∃ (d : ByteArray) (b : Bool), e = .returned (.tuple #[.string d, .bool b]) ∧ d.size ≤ 60) ∧ Below w.heap.size w w' := by
  have hf := sctext_f xs (xs.length + 1) (by omega) (by omega)
  cases hk : confOk xs with
  | true =>
    rw [hk, if_pos rfl] at hf
    refine (spec_ConfText.calls (xs.length + 1) A c xs _ _ w hr hc hf).mono ?_
    rintro e w' h
    have hz : (strOfNums (confBs xs)).size ≤ 60 := by rw [strOfNums_size]; simp [confBs]; omega
    first | (obtain ⟨rfl, hb⟩ := h; exact ⟨⟨_, _, rfl, hz⟩, hb⟩) | (obtain ⟨rfl, ⟨n, rfl⟩⟩ := h; exact ⟨⟨_, _, rfl, hz⟩, bl_drewN (Below.refl _ _) n⟩)
  | false =>
    rw [hk, if_neg (by simp)] at hf
    refine (spec_ConfText.calls (xs.length + 1) A c xs _ _ w hr hc hf).mono ?_
    rintro e w' h
    have hz : (⟨#[]⟩ : ByteArray).size ≤ 60 := by decide
    first | (obtain ⟨rfl, hb⟩ := h; exact ⟨⟨_, _, rfl, hz⟩, hb⟩) | (obtain ⟨rfl, ⟨n, rfl⟩⟩ := h; exact ⟨⟨_, _, rfl, hz⟩, bl_drewN (Below.refl _ _) n⟩)

set_option maxHeartbeats 2000000 in
set_option maxRecDepth 100000 in
theorem right_C {w0 w : World} {g : Nat} (hc : Cur w0 w g) :
    Calls Try.prog 150 #[.pointer (some ⟨g, 0, none⟩)] w fun e w' => (∃ (a0 a1 a2 a3 a4 a5 a6 a7 : Int) (s : ByteArray), e = .returned (.agg #[.int .i64 a0, .int .i64 a1, .int .i64 a2, .int .i64 a3, .int .i64 a4, .int .i64 a5, .int .i64 a6, .int .i64 a7, .string s]) ∧ s.size ≤ 8) ∧ Dw w0 w g w' := by
  have hgl := hc.lt
  have hws := hc.bl.size
  go_enter Try.func150, Try.ntmps150
  go_wp2_with fail
  refine calls_at (fun W => Dw w0 w g W ∧ Blk 193 w.heap.size #[.int .i64 0, .int .i64 0, .int .i64 0, .int .i64 0, .int .i64 0, .int .i64 0, .int .i64 0, .int .i64 0, .string ⟨#[]⟩] W) ⟨(Dw.start hc).alloc _, Blk.new _ _ w⟩ ?_
  rintro W1 ⟨D1, k4⟩
  refine (below_C 5 D1.1).mono ?_
  rintro e W2 ⟨r2, rfl, hr2, hc2, hk2⟩
  have D2 := D1.step hc2 hk2
  replace k4 := blk_keep k4 hk2 (by omega)
  clear D1 hc2 hk2
  go_wp2_with fail
  refine (below_C 4 D2.1).mono ?_
  rintro e W3 ⟨r3, rfl, hr3, hc3, hk3⟩
  have D3 := D2.step hc3 hk3
  replace k4 := blk_keep k4 hk3 (by omega)
  clear D2 hc3 hk3
  have z3 := D3.size
  go_wp2_with fail
  refine calls_at (fun W => Dw w0 w g W ∧ Blk 193 w.heap.size #[.int .i64 0, .int .i64 0, .int .i64 0, .int .i64 0, .int .i64 0, .int .i64 0, .int .i64 0, .int .i64 0, .string ⟨#[]⟩] W ∧ Blk 120 W3.heap.size #[.int .i64 (1 + r2), .int .i64 r3, .slice none 0 0] W) ⟨(D3.alloc _).alloc _, (k4.alloc _).alloc _, (Blk.new _ _ W3).alloc _⟩ ?_
  rintro W4 ⟨D4, k4', kS⟩
  refine (cmd_C D4.1 _ r3 (by omega) kS (by omega)).mono ?_
  rintro e W5 ⟨⟨a0, a1, a2, a3, a4, a5, a6, a7, s, rfl, hs⟩, D5⟩
  have D6 := D4.step D5.1 D5.2
  have k6 := blk_keep k4' D5.2 (by omega)
  have l6 := k6.lt
  have c0 := k6.cell 0 rfl
  have c1 := k6.cell 1 rfl
  have c2 := k6.cell 2 rfl
  have c3 := k6.cell 3 rfl
  have c4 := k6.cell 4 rfl
  have c5 := k6.cell 5 rfl
  have c6 := k6.cell 6 rfl
  have c7 := k6.cell 7 rfl
  have c8 := k6.cell 8 rfl
  have f0 := k6.free 0
  have f1 := k6.free 1
  have f2 := k6.free 2
  have f3 := k6.free 3
  have f4 := k6.free 4
  have f5 := k6.free 5
  have f6 := k6.free 6
  have f7 := k6.free 7
  have f8 := k6.free 8
  go_wp2_with fail
  exact bodyPost_ret (results_cell_row rfl _ _ w.heap.size 193 #[.int .i64 a0, .int .i64 a1, .int .i64 a2, .int .i64 a3, .int .i64 a4, .int .i64 a5, .int .i64 a6, .int .i64 a7, .string s] (0, 0) _ rfl (cmd_fill k6 a0 a1 a2 a3 a4 a5 a6 a7 s) Try.underlying193 rfl (by kernel_rfl)) rfl ⟨⟨a0, a1, a2, a3, a4, a5, a6, a7, s, rfl, hs⟩, dw_fill D6 hgl (Nat.le_refl _) hws a0 a1 a2 a3 a4 a5 a6 a7 s⟩

/-- An entry that is being drawn. -/
def EntAt (w0 w : World) (g b5 : Nat) (W : World) : Prop := Dw w0 w g W ∧ Blk 54 w.heap.size #[.int .i64 0, .int .i64 0, .string ⟨#[]⟩] W ∧ ∃ (t k : Int) (d : ByteArray), d.size ≤ 200 ∧ Blk 54 b5 #[.int .i64 t, .int .i64 k, .string d] W
section
set_option linter.unusedSectionVars false
variable {w0 w : World} {g b5 : Nat} {W : World} (hg : g < w.heap.size) (h5 : w.heap.size + 1 ≤ b5) (h0 : w0.heap.size ≤ w.heap.size)
include hg h5
theorem EntAt.step {W' : World} (h : EntAt w0 w g b5 W) (hc : Cur w0 W' g) (hk : KeepBut W W' g none) : EntAt w0 w g b5 W' := by
  obtain ⟨D, k4, t, k, d, hd, k5⟩ := h
  exact ⟨D.step hc hk, blk_keep k4 hk (by omega), t, k, d, hd, blk_keep k5 hk (by omega)⟩
theorem EntAt.below {W' : World} (h : EntAt w0 w g b5 W) (hb : Below W.heap.size W W') : EntAt w0 w g b5 W' := by
  obtain ⟨D, k4, t, k, d, hd, k5⟩ := h
  exact ⟨D.below hb, k4.below hb, t, k, d, hd, k5.below hb⟩
theorem EntAt.alloc (h : EntAt w0 w g b5 W) (o : Obj) : EntAt w0 w g b5 (W.alloc o) := h.below hg h5 (bl_alloc (Below.refl _ _) o)
include h0
theorem EntAt.set0 (h : EntAt w0 w g b5 W) (v : Int) : EntAt w0 w g b5 (W.setCell ⟨b5, 0, none⟩ (.int .i64 v)) := by
  obtain ⟨D, k4, t, k, d, hd, k5⟩ := h
  exact ⟨D.far hg (p := ⟨b5, 0, none⟩) (by show w.heap.size ≤ b5; omega) _ h0, k4.far (by show w.heap.size ≠ b5; omega) _, v, k, d, hd, k5.set 0 _ rfl⟩
theorem EntAt.set1 (h : EntAt w0 w g b5 W) (v : Int) : EntAt w0 w g b5 (W.setCell ⟨b5, 1, none⟩ (.int .i64 v)) := by
  obtain ⟨D, k4, t, k, d, hd, k5⟩ := h
  exact ⟨D.far hg (p := ⟨b5, 1, none⟩) (by show w.heap.size ≤ b5; omega) _ h0, k4.far (by show w.heap.size ≠ b5; omega) _, t, v, d, hd, k5.set 1 _ rfl⟩
theorem EntAt.set2 (h : EntAt w0 w g b5 W) (v : ByteArray) (hv : v.size ≤ 200) : EntAt w0 w g b5 (W.setCell ⟨b5, 2, none⟩ (.string v)) := by
  obtain ⟨D, k4, t, k, d, hd, k5⟩ := h
  exact ⟨D.far hg (p := ⟨b5, 2, none⟩) (by show w.heap.size ≤ b5; omega) _ h0, k4.far (by show w.heap.size ≠ b5; omega) _, t, k, v, hv, k5.set 2 _ rfl⟩
end
theorem ent_fill {T b : Nat} {W : World} (h : Blk T b #[.int .i64 0, .int .i64 0, .string ⟨#[]⟩] W) (t k : Int) (d : ByteArray) : Blk T b #[.int .i64 t, .int .i64 k, .string d] (((W.setCell ⟨b, 0, none⟩ (.int .i64 t)).setCell ⟨b, 1, none⟩ (.int .i64 k)).setCell ⟨b, 2, none⟩ (.string d)) := by
  have z0 := h.set 0 (.int .i64 t) (cs' := #[.int .i64 t, .int .i64 0, .string ⟨#[]⟩]) rfl
  have z1 := z0.set 1 (.int .i64 k) (cs' := #[.int .i64 t, .int .i64 k, .string ⟨#[]⟩]) rfl
  exact z1.set 2 (.string d) (cs' := #[.int .i64 t, .int .i64 k, .string d]) rfl
theorem dw_ent {w0 w W : World} {g b : Nat} (D : Dw w0 w g W) (hg : g < w.heap.size) (hb : w.heap.size ≤ b) (h0 : w0.heap.size ≤ w.heap.size) (t k : Int) (d : ByteArray) :
    Dw w0 w g (((W.setCell ⟨b, 0, none⟩ (.int .i64 t)).setCell ⟨b, 1, none⟩ (.int .i64 k)).setCell ⟨b, 2, none⟩ (.string d)) := by
  have z0 := D.far hg (p := ⟨b, 0, none⟩) hb (.int .i64 t) h0
  have z1 := z0.far hg (p := ⟨b, 1, none⟩) hb (.int .i64 k) h0
  exact z1.far hg (p := ⟨b, 2, none⟩) hb (.string d) h0
def EntV (e : Ending) : Prop := ∃ (t k : Int) (d : ByteArray), e = .returned (.agg #[.int .i64 t, .int .i64 k, .string d]) ∧ d.size ≤ 200

set_option maxHeartbeats 2000000 in
set_option maxRecDepth 100000 in
theorem ent_C {w0 w : World} {g : Nat} (hc : Cur w0 w g) (term : Int) :
    Calls Try.prog 104 #[.pointer (some ⟨g, 0, none⟩), .int .i64 term] w fun e w' => EntV e ∧ Dw w0 w g w' := by
  have hgl := hc.lt
  have hws := hc.bl.size
  go_enter Try.func104, Try.ntmps104
  go_wp2_with fail
  refine calls_at (fun W => Dw w0 w g W ∧ Blk 54 w.heap.size #[.int .i64 0, .int .i64 0, .string ⟨#[]⟩] W ∧ Blk 3 (w.heap.size + 1) (([1, 2, 3, 3, 3] : List Int).map (Value.int .i64)).toArray W) ⟨((Dw.start hc).alloc _).alloc _, (Blk.new _ _ w).alloc _, Blk.newE _ _ (w.alloc _) (by simp)⟩ ?_
  rintro W1 ⟨D1, k4, kl⟩
  refine (pickInt_C _ 5 [1, 2, 3, 3, 3] (by decide) D1.1 (blk_ints _ (by decide) kl) (by decide) (by rintro ad ⟨⟩; show w.heap.size + 1 ≠ g; omega)).mono ?_
  rintro e W2 ⟨r, rfl, -, hc2, hk2⟩
  have D2 := D1.step hc2 hk2
  replace k4 := blk_keep k4 hk2 (by omega)
  clear D1 hk2 kl hc2 W1
  go_upto_region 2 with fail
  have h5 : w.heap.size + 1 ≤ W2.heap.size := by have := k4.lt; omega
  obtain ⟨b5, hb5⟩ : ∃ b5, b5 = W2.heap.size := ⟨_, rfl⟩
  refine wp_at (EntAt w0 w g b5) ⟨D2.alloc _, k4.alloc _, term, r, ⟨#[]⟩, by decide, Blk.newE _ _ W2 hb5⟩ ?_
  rw [← hb5] at h5 ⊢
  clear D2 k4 hb5 W2
  intro W hW
  obtain ⟨D, k4, t, k, d, hd, k5⟩ := id hW
  have c1 := k5.cell 1 rfl
  have c2 := k5.cell 2 rfl
  have l5 := k5.lt
  obtain ⟨o2, ho2⟩ : ∃ q, (k == 2) = q := ⟨_, rfl⟩
  obtain ⟨o3, ho3⟩ : ∃ q, (k == 3) = q := ⟨_, rfl⟩
  cases o2 with
  | true =>
    go_wp2_with fail
    clear c1 c2 l5 k4 k5 hd t ho3
    refine (conf_C D.1).mono ?_
    rintro e W3 ⟨A, c, xs, rfl, hcap, hxs, hC, D3⟩
    have hV := hW.step hgl h5 D3.1 D3.2
    clear hW D
    go_wp2_with fail
    refine (confText_C A c xs _ hC hcap hxs).mono ?_
    rintro e W4 ⟨⟨d4, b4, rfl, hd4⟩, hb4⟩
    have hU := hV.below hgl h5 hb4
    clear hV D3 hC hb4
    obtain ⟨D, k4, t, k', d, hd, k5⟩ := id hU
    have c2 := k5.cell 2 rfl
    have f2 := k5.free 2
    have l5 := k5.lt
    go_upto_region 7 with fail
    refine wp_at (EntAt w0 w g b5) ((hU.set2 hgl h5 hws d4 (by omega))) ?_
    rintro Wz ⟨D, k4, t, k, d, hd, k5⟩
    have c0 := k5.cell 0 rfl
    have c1 := k5.cell 1 rfl
    have c2 := k5.cell 2 rfl
    have l5 := k5.lt
    have l4 := k4.lt
    have x0 := k4.cell 0 rfl
    have x1 := k4.cell 1 rfl
    have x2 := k4.cell 2 rfl
    have y0 := k4.free 0
    have y1 := k4.free 1
    have y2 := k4.free 2
    have n45 : w.heap.size ≠ b5 := by omega
    go_wp2_with fail
    exact bodyPost_ret (results_cell_row rfl _ _ w.heap.size 54 #[.int .i64 t, .int .i64 k, .string d] (0, 0) _ rfl (ent_fill k4 t k d) Try.underlying54 rfl (by kernel_rfl)) rfl ⟨⟨t, k, d, rfl, hd⟩, dw_ent D hgl (Nat.le_refl _) hws t k d⟩
  | false =>
    cases o3 with
    | true =>
      go_wp2_with fail
      clear c1 c2 l5 k4 k5 hd t
      refine (right_C D.1).mono ?_
      rintro e W3 ⟨⟨a0, a1, a2, a3, a4, a5, a6, a7, s, rfl, hs⟩, D3⟩
      have hV := hW.step hgl h5 D3.1 D3.2
      clear hW D
      go_wp2_with fail
      refine (cmdText_C _ _ _ _ _ _ _ _ s hs _).mono ?_
      rintro e W4 ⟨⟨d4, b4, rfl, hd4⟩, hb4⟩
      have hU := hV.below hgl h5 hb4
      clear hV D3 hb4
      obtain ⟨D, k4, t, k', d, hd, k5⟩ := id hU
      have c2 := k5.cell 2 rfl
      have f2 := k5.free 2
      have l5 := k5.lt
      go_upto_region 7 with fail
      refine wp_at (EntAt w0 w g b5) ((hU.set2 hgl h5 hws d4 (by omega))) ?_
      rintro Wz ⟨D, k4, t, k, d, hd, k5⟩
      have c0 := k5.cell 0 rfl
      have c1 := k5.cell 1 rfl
      have c2 := k5.cell 2 rfl
      have l5 := k5.lt
      have l4 := k4.lt
      have x0 := k4.cell 0 rfl
      have x1 := k4.cell 1 rfl
      have x2 := k4.cell 2 rfl
      have y0 := k4.free 0
      have y1 := k4.free 1
      have y2 := k4.free 2
      have n45 : w.heap.size ≠ b5 := by omega
      go_wp2_with fail
      exact bodyPost_ret (results_cell_row rfl _ _ w.heap.size 54 #[.int .i64 t, .int .i64 k, .string d] (0, 0) _ rfl (ent_fill k4 t k d) Try.underlying54 rfl (by kernel_rfl)) rfl ⟨⟨t, k, d, rfl, hd⟩, dw_ent D hgl (Nat.le_refl _) hws t k d⟩
    | false =>
      go_upto_region 7 with fail
      refine wp_at (EntAt w0 w g b5) (hW) ?_
      rintro Wz ⟨D, k4, t, k, d, hd, k5⟩
      have c0 := k5.cell 0 rfl
      have c1 := k5.cell 1 rfl
      have c2 := k5.cell 2 rfl
      have l5 := k5.lt
      have l4 := k4.lt
      have x0 := k4.cell 0 rfl
      have x1 := k4.cell 1 rfl
      have x2 := k4.cell 2 rfl
      have y0 := k4.free 0
      have y1 := k4.free 1
      have y2 := k4.free 2
      have n45 : w.heap.size ≠ b5 := by omega
      go_wp2_with fail
      exact bodyPost_ret (results_cell_row rfl _ _ w.heap.size 54 #[.int .i64 t, .int .i64 k, .string d] (0, 0) _ rfl (ent_fill k4 t k d) Try.underlying54 rfl (by kernel_rfl)) rfl ⟨⟨t, k, d, rfl, hd⟩, dw_ent D hgl (Nat.le_refl _) hws t k d⟩

set_option maxHeartbeats 2000000 in
set_option maxRecDepth 100000 in
theorem any_C {w0 w : World} {g : Nat} (hc : Cur w0 w g) :
    Calls Try.prog 91 #[.pointer (some ⟨g, 0, none⟩)] w fun e w' => EntV e ∧ Dw w0 w g w' := by
  have hgl := hc.lt
  have hws := hc.bl.size
  go_enter Try.func91, Try.ntmps91
  go_wp2_with fail
  refine calls_at (fun W => Dw w0 w g W ∧ Blk 54 w.heap.size #[.int .i64 0, .int .i64 0, .string ⟨#[]⟩] W) ⟨(Dw.start hc).alloc _, Blk.new _ _ w⟩ ?_
  rintro W1 ⟨D1, k4⟩
  refine (below_C 9 D1.1).mono ?_
  rintro e W2 ⟨r2, rfl, -, hc2, hk2⟩
  have D2 := D1.step hc2 hk2
  replace k4 := blk_keep k4 hk2 (by omega)
  clear D1 hk2 hc2 W1
  go_wp2_with fail
  refine (ent_C D2.1 r2).mono ?_
  rintro e W3 ⟨⟨t, k, d, rfl, hd⟩, D3⟩
  have D4 := D2.step D3.1 D3.2
  replace k4 := blk_keep k4 D3.2 (by omega)
  clear D2 D3 W2
  go_upto_region 2 with fail
  have h5 : w.heap.size + 1 ≤ W3.heap.size := by have := k4.lt; omega
  obtain ⟨b5, hb5⟩ : ∃ b5, b5 = W3.heap.size := ⟨_, rfl⟩
  refine wp_at (EntAt w0 w g b5) ⟨D4.alloc _, k4.alloc _, t, k, d, hd, Blk.newE _ _ W3 hb5⟩ ?_
  rw [← hb5] at h5 ⊢
  clear D4 k4 hb5 W3
  intro W hW
  go_wp2_with fail
  refine (below_C 30 hW.1.1).mono ?_
  rintro e W4 ⟨r4, rfl, -, hc4, hk4⟩
  have hV := hW.step hgl h5 hc4 hk4
  clear hW hc4 hk4 W
  obtain ⟨o0, ho0⟩ : ∃ q, (r4 == 0) = q := ⟨_, rfl⟩
  obtain ⟨o1, ho1⟩ : ∃ q, (r4 == 1) = q := ⟨_, rfl⟩
  obtain ⟨o2, ho2⟩ : ∃ q, (r4 == 2) = q := ⟨_, rfl⟩
  cases o0 with
  | true =>
    go_wp2_with fail
    refine calls_at (fun W => EntAt w0 w g b5 W ∧ Blk 3 W4.heap.size (([-1, 100000, 100001] : List Int).map (Value.int .i64)).toArray W) ⟨hV.alloc hgl h5 _, Blk.new _ _ W4⟩ ?_
    rintro W5 ⟨hU, kl⟩
    refine (pickInt_C _ 3 [-1, 100000, 100001] (by decide) hU.1.1 (blk_ints _ (by decide) kl) (by decide) (by rintro ad ⟨⟩; show W4.heap.size ≠ g; have := hV.1.size; omega)).mono ?_
    rintro e W6 ⟨r6, rfl, -, hc6, hk6⟩
    have hX := hU.step hgl h5 hc6 hk6
    clear hU kl hc6 hk6
    obtain ⟨D, k4, t, k, d, hd, k5⟩ := id hX
    have c0 := k5.cell 0 rfl
    have f0 := k5.free 0
    have l5 := k5.lt
    go_upto_region 9 with fail
    refine wp_at (EntAt w0 w g b5) (hX.set0 hgl h5 hws r6) ?_
    rintro Wz ⟨D, k4, t, k, d, hd, k5⟩
    have c0 := k5.cell 0 rfl
    have c1 := k5.cell 1 rfl
    have c2 := k5.cell 2 rfl
    have l5 := k5.lt
    have l4 := k4.lt
    have x0 := k4.cell 0 rfl
    have x1 := k4.cell 1 rfl
    have x2 := k4.cell 2 rfl
    have y0 := k4.free 0
    have y1 := k4.free 1
    have y2 := k4.free 2
    have n45 : w.heap.size ≠ b5 := by omega
    go_wp2_with fail
    exact bodyPost_ret (results_cell_row rfl _ _ w.heap.size 54 #[.int .i64 t, .int .i64 k, .string d] (0, 0) _ rfl (ent_fill k4 t k d) Try.underlying54 rfl (by kernel_rfl)) rfl ⟨⟨t, k, d, rfl, hd⟩, dw_ent D hgl (Nat.le_refl _) hws t k d⟩
  | false =>
    cases o1 with
    | true =>
      go_wp2_with fail
      refine calls_at (fun W => EntAt w0 w g b5 W ∧ Blk 3 W4.heap.size (([0, 4, 1, 2] : List Int).map (Value.int .i64)).toArray W) ⟨hV.alloc hgl h5 _, Blk.new _ _ W4⟩ ?_
      rintro W5 ⟨hU, kl⟩
      refine (pickInt_C _ 4 [0, 4, 1, 2] (by decide) hU.1.1 (blk_ints _ (by decide) kl) (by decide) (by rintro ad ⟨⟩; show W4.heap.size ≠ g; have := hV.1.size; omega)).mono ?_
      rintro e W6 ⟨r6, rfl, -, hc6, hk6⟩
      have hX := hU.step hgl h5 hc6 hk6
      clear hU kl hc6 hk6
      obtain ⟨D, k4, t, k, d, hd, k5⟩ := id hX
      have c1 := k5.cell 1 rfl
      have f1 := k5.free 1
      have l5 := k5.lt
      go_upto_region 9 with fail
      refine wp_at (EntAt w0 w g b5) (hX.set1 hgl h5 hws r6) ?_
      rintro Wz ⟨D, k4, t, k, d, hd, k5⟩
      have c0 := k5.cell 0 rfl
      have c1 := k5.cell 1 rfl
      have c2 := k5.cell 2 rfl
      have l5 := k5.lt
      have l4 := k4.lt
      have x0 := k4.cell 0 rfl
      have x1 := k4.cell 1 rfl
      have x2 := k4.cell 2 rfl
      have y0 := k4.free 0
      have y1 := k4.free 1
      have y2 := k4.free 2
      have n45 : w.heap.size ≠ b5 := by omega
      go_wp2_with fail
      exact bodyPost_ret (results_cell_row rfl _ _ w.heap.size 54 #[.int .i64 t, .int .i64 k, .string d] (0, 0) _ rfl (ent_fill k4 t k d) Try.underlying54 rfl (by kernel_rfl)) rfl ⟨⟨t, k, d, rfl, hd⟩, dw_ent D hgl (Nat.le_refl _) hws t k d⟩
    | false =>
      cases o2 with
      | true =>
        go_wp2_with fail
        refine (below_C 2 hV.1.1).mono ?_
        rintro e W5 ⟨r5, rfl, hr5, hc5, hk5⟩
        have hX := hV.step hgl h5 hc5 hk5
        clear hV hc5 hk5
        go_wp2_with fail
        refine (long_C _ 65 W5 (by omega) (by omega)).mono ?_
        rintro e W6 ⟨d6, rfl, hd6, hb6⟩
        have hY := hX.below hgl h5 hb6
        clear hX hb6
        obtain ⟨D, k4, t, k, d, hd, k5⟩ := id hY
        have c0 := k5.cell 0 rfl
        have f0 := k5.free 0
        have c1 := k5.cell 1 rfl
        have f1 := k5.free 1
        have c2 := k5.cell 2 rfl
        have f2 := k5.free 2
        have l5 := k5.lt
        go_upto_region 9 with fail
        refine wp_at (EntAt w0 w g b5) (((hY.set0 hgl h5 hws 0).set1 hgl h5 hws 3).set2 hgl h5 hws d6 (by omega)) ?_
        rintro Wz ⟨D, k4, t, k, d, hd, k5⟩
        have c0 := k5.cell 0 rfl
        have c1 := k5.cell 1 rfl
        have c2 := k5.cell 2 rfl
        have l5 := k5.lt
        have l4 := k4.lt
        have x0 := k4.cell 0 rfl
        have x1 := k4.cell 1 rfl
        have x2 := k4.cell 2 rfl
        have y0 := k4.free 0
        have y1 := k4.free 1
        have y2 := k4.free 2
        have n45 : w.heap.size ≠ b5 := by omega
        go_wp2_with fail
        exact bodyPost_ret (results_cell_row rfl _ _ w.heap.size 54 #[.int .i64 t, .int .i64 k, .string d] (0, 0) _ rfl (ent_fill k4 t k d) Try.underlying54 rfl (by kernel_rfl)) rfl ⟨⟨t, k, d, rfl, hd⟩, dw_ent D hgl (Nat.le_refl _) hws t k d⟩
      | false =>
        go_upto_region 9 with fail
        refine wp_at (EntAt w0 w g b5) (hV) ?_
        rintro Wz ⟨D, k4, t, k, d, hd, k5⟩
        have c0 := k5.cell 0 rfl
        have c1 := k5.cell 1 rfl
        have c2 := k5.cell 2 rfl
        have l5 := k5.lt
        have l4 := k4.lt
        have x0 := k4.cell 0 rfl
        have x1 := k4.cell 1 rfl
        have x2 := k4.cell 2 rfl
        have y0 := k4.free 0
        have y1 := k4.free 1
        have y2 := k4.free 2
        have n45 : w.heap.size ≠ b5 := by omega
        go_wp2_with fail
        exact bodyPost_ret (results_cell_row rfl _ _ w.heap.size 54 #[.int .i64 t, .int .i64 k, .string d] (0, 0) _ rfl (ent_fill k4 t k d) Try.underlying54 rfl (by kernel_rfl)) rfl ⟨⟨t, k, d, rfl, hd⟩, dw_ent D hgl (Nat.le_refl _) hws t k d⟩
theorem index_C {w0 w : World} {g : Nat} (hc : Cur w0 w g) :
    Calls Try.prog 90 #[.pointer (some ⟨g, 0, none⟩)] w fun e w' => ∃ r : Int, e = .returned (.int .i64 r) ∧ Dw w0 w g w' := by
  obtain ⟨bs, i, s, h1, h2, h3, h4, h5⟩ := hc
  obtain ⟨q, i1, s1, e1, g2, g3⟩ := once_t bs i s 12 h2 h3 h1
  have hf : ∃ r i' h', spec_l05Index.f bs i s = some (r, i', h') ∧ 0 ≤ i' ∧ i' ≤ (bs.length : Int) := by
    unfold spec_l05Index.f
    rw [e1, Option.bind_some]
    cases q with
    | true =>
      obtain ⟨r2, i2, s2, e2, -, g4, g5⟩ := pickInt_t bs i1 s1 [0, -1, 1000000, 1000001] (by decide) g2 g3 h1
      simp only [if_true]
      rw [e2, Option.bind_some]
      exact ⟨_, _, _, rfl, g4, g5⟩
    | false =>
      obtain ⟨r2, i2, s2, e2, -, g4, g5⟩ := below_t bs i1 s1 200 g2 g3 h1
      simp only [Bool.false_eq_true, if_false]
      rw [e2, Option.bind_some]
      exact ⟨_, _, _, rfl, g4, g5⟩
  obtain ⟨r, i', s', e, h6, h7⟩ := hf
  refine (spec_l05Index.calls g bs i s r i' s' w0 w h4 h5 e).mono ?_
  rintro e w' ⟨rfl, k1, k2, k3⟩
  exact ⟨r, rfl, ⟨bs, i', s', h1, h6, h7, k1, k2⟩, k3⟩
set_option maxHeartbeats 2000000 in
set_option maxRecDepth 100000 in
theorem drawEntryText_C (A : Option Addr) (c : Nat) (bs : List Int) (w : World) (hb : bs.length ≤ 1048576) (hr : Kd.C (Kd.int .u8) w A bs.length bs) (hc : bs.length ≤ c) :
    Calls Try.prog 20 #[.slice A bs.length c] w fun e w' => (∃ (i t k : Int) (d : ByteArray), e = .returned (.tuple #[.int .i64 i, .agg #[.int .i64 t, .int .i64 k, .string d]]) ∧ d.size ≤ 200) ∧ Below w.heap.size w w' := by
  go_enter Try.func20, Try.ntmps20
  go_wp2_with fail
  obtain ⟨E, hE⟩ : ∃ E, E = w.alloc (.cells #[.int .i64 0, .int .i64 0, .string ⟨#[]⟩] 54) := ⟨_, rfl⟩
  have k3 : Blk 54 w.heap.size #[.int .i64 0, .int .i64 0, .string ⟨#[]⟩] E := by rw [hE]; exact Blk.new _ _ w
  have HE : Below w.heap.size w E := by rw [hE]; exact (by repeat (first | exact Below.refl _ _ | apply bl_alloc | apply bl_drewN | apply bl_drew | refine bl_set ?_ (by simp) | refine bl_then ?_ (by assumption)))
  rw [← hE]
  clear hE
  refine (new_C A c bs E hb (Kd.C_below hr HE) hc).mono ?_
  rintro e W1 ⟨g, rfl, hC1⟩
  have l3 := k3.lt
  have hge := hC1.ge
  clear hr
  go_wp2_with fail
  refine (index_C hC1).mono ?_
  rintro e W2 ⟨i, rfl, D2⟩
  go_wp2_with fail
  refine (any_C D2.1).mono ?_
  rintro e W3 ⟨⟨t, k, d, rfl, hd⟩, D3⟩
  have HB := D3.1.bl
  have k3' := k3.below HB
  clear k3 D2 D3 hC1
  have c0 := k3'.cell 0 rfl
  have c1 := k3'.cell 1 rfl
  have c2 := k3'.cell 2 rfl
  have f0 := k3'.free 0
  have f1 := k3'.free 1
  have f2 := k3'.free 2
  have l3' := k3'.lt
  go_wp2_with fail
  refine bodyPost_ret (v := .tuple #[.int .i64 i, .agg #[.int .i64 t, .int .i64 k, .string d]]) ?_ rfl ⟨⟨i, t, k, d, rfl, hd⟩, ?_⟩
  · simp only [results, Try.results20]
    go_simp
  · exact bl_set (bl_set (bl_set (bl_then HE HB) (Nat.le_refl _)) (Nat.le_refl _)) (Nat.le_refl _)
theorem anyConf_C {w0 w : World} {g : Nat} (hc : Cur w0 w g) :
    Calls Try.prog 99 #[.pointer (some ⟨g, 0, none⟩)] w fun e w' => ∃ (A : Option Addr) (c : Nat) (xs : List Int), e = .returned (.slice A xs.length c) ∧ xs.length ≤ c ∧ xs.length ≤ 5 ∧ Kd.C (Kd.int .i64) w' A xs.length xs ∧ Dw w0 w g w' := by
  obtain ⟨bs, i, s, h1, h2, h3, h4, h5⟩ := hc
  obtain ⟨r, i1, s1, e1, hm, g2, g3⟩ := conf_l bs h1 4 5 [] 1 i s (by omega) (by omega) (by omega) (by omega) (by simp) (by simp) h2 h3
  obtain ⟨q, i2, s2, e2, -, g4, g5⟩ := below_t bs i1 s1 12 g2 g3 h1
  have hf : ∃ r i' h', spec_l05AnyConf.f 5 bs i s = some (r, i', h') ∧ r.length ≤ 5 ∧ 0 ≤ i' ∧ i' ≤ (bs.length : Int) := by
    unfold spec_l05AnyConf.f spec_l05Conf.f
    rw [e1, Option.bind_some, e2, Option.bind_some]
    by_cases q0 : q = 0
    · rw [if_pos q0]
      obtain ⟨r3, i3, s3, e3, -, g6, g7⟩ := pickInt_t bs i2 s2 [0, 4, 5, 1] (by decide) g4 g5 h1
      rw [e3, Option.bind_some, if_pos (by show r.length < 17592186044416; omega)]
      exact ⟨_, _, _, rfl, by show (r ++ [r3]).length ≤ 5; simp; omega, g6, g7⟩
    · rw [if_neg q0]
      by_cases q1 : q = 1
      · rw [if_pos q1]
        exact ⟨_, _, _, rfl, by simp, g4, g5⟩
      · rw [if_neg q1]
        exact ⟨_, _, _, rfl, by show r.length ≤ 5; omega, g4, g5⟩
  obtain ⟨r, i', s', e, hm, h6, h7⟩ := hf
  refine (spec_l05AnyConf.calls 5 g bs i s r i' s' w0 w h4 h5 e).mono ?_
  rintro e w' ⟨v, rfl, hR, k1, k2, k3⟩
  obtain ⟨A, c, rfl, hcap, hC⟩ := Kd.R_reads hR
  exact ⟨A, c, r, rfl, hcap, hm, hC, ⟨bs, i', s', h1, h6, h7, k1, k2⟩, k3⟩
set_option maxHeartbeats 2000000 in
set_option maxRecDepth 100000 in
theorem drawConfText_C (A : Option Addr) (c : Nat) (bs : List Int) (w : World) (hb : bs.length ≤ 1048576) (hr : Kd.C (Kd.int .u8) w A bs.length bs) (hc : bs.length ≤ c) :
    Calls Try.prog 24 #[.slice A bs.length c] w fun e w' => ∃ (A : Option Addr) (c : Nat) (xs : List Int), e = .returned (.slice A xs.length c) ∧ xs.length ≤ c ∧ xs.length ≤ 5 ∧ Kd.C (Kd.int .i64) w' A xs.length xs ∧ Below w.heap.size w w' := by
  go_enter Try.func24, Try.ntmps24
  go_wp2_with fail
  refine (new_C A c bs w hb hr hc).mono ?_
  rintro e W1 ⟨g, rfl, hC1⟩
  clear hr
  go_wp2_with fail
  refine (anyConf_C hC1).mono ?_
  rintro e W2 ⟨A2, c2, xs, rfl, h1, h2, h3, D2⟩
  have HB := D2.1.bl
  clear D2 hC1
  go_wp2_with fail
  go_ret
  exact ⟨A2, c2, xs, rfl, h1, h2, h3, HB⟩
end Go.Proofs.Ytdjikjmjajlgcaa.PFnEntries
end

/-! ### YtdjikjmjajlgcaaConfFnExactEncode -/
section
namespace Go.Proofs.Ytdjikjmjajlgcaa.PFnExactEncode
open Go.RowKit Go.Proofs.YtdjikjmjajlgcaaW.PrintWords
set_option linter.unusedSimpArgs false
set_option linter.unusedVariables false

theorem in_f (a b c : Int) : impl_in.f a b c = some (decide (b ≤ a ∧ a ≤ c)) := by
  unfold impl_in.f
  by_cases h : a ≥ b
  · rw [if_pos h]; simp [show b ≤ a from h]
  · rw [if_neg h]; simp [show ¬ b ≤ a from h]
theorem l01In_f (a b c : Int) : spec_l01In.f a b c = some (decide (b ≤ a ∧ a ≤ c)) := by
  unfold spec_l01In.f
  by_cases h : a ≥ b
  · rw [if_pos h]; simp [show b ≤ a from h]
  · rw [if_neg h]; simp [show ¬ b ≤ a from h]

theorem rise_l0 (xs : List Int) : ∀ (n k i : Nat), n + i = xs.length → n < k → xs.length < 4611686018427387904 → spec_l05Rise.l0 k xs 1 4 i = some (rises xs i n)
  | 0, 0, _, _, hk, _ => by omega
  | 0, k + 1, i, h, _, _ => by
    unfold spec_l05Rise.l0
    rw [if_neg (by omega)]
    rfl
  | n + 1, 0, _, _, hk, _ => by omega
  | n + 1, k + 1, i, h, hk, hl => by
    have e1 : wrap64 ((i : Int) + 1) = ((i + 1 : Nat) : Int) := by unfold wrap64; omega
    have e2 : 0 < (i : Int) → wrap64 ((i : Int) - 1) = (i : Int) - 1 := fun _ => by unfold wrap64; omega
    have ih := rise_l0 xs n k (i + 1) (by omega) (by omega) hl
    unfold spec_l05Rise.l0
    rw [if_pos (by omega), if_pos (by omega), l01In_f, Option.bind_some, e1]
    clear e1
    rw [ih]
    by_cases hin : 1 ≤ rd xs i ∧ rd xs i ≤ 4
    · rw [if_pos (by simpa using hin)]
      by_cases hi : (i : Int) > 0
      · rw [if_pos hi, e2 hi]
        clear e2
        rw [if_pos (by omega), if_pos (by omega)]
        by_cases hge : rd xs ((i : Int) - 1) ≥ rd xs i
        · rw [if_pos hge]
          have : ¬ i = 0 := by omega
          simp [rises, this, show ¬ rd xs ((i : Int) - 1) < rd xs i from by omega]
        · rw [if_neg hge]
          simp [rises, hin, show rd xs ((i : Int) - 1) < rd xs i from by omega]
      · rw [if_neg hi]
        have : i = 0 := by omega
        subst this
        simp only [rises]
        simp at hin
        simp [hin]
    · rw [if_neg (by simpa using hin)]
      simp only [rises]
      simp only [hin]
      simp
theorem iconf_l0 (xs : List Int) : ∀ (n k i : Nat), n + i = xs.length → n < k → xs.length < 4611686018427387904 → impl_ConfOk.l0 k xs xs xs.length i = some (rises xs i n && decide (1 ≤ xs.length))
  | 0, 0, _, _, hk, _ => by omega
  | 0, k + 1, i, h, _, _ => by
    unfold impl_ConfOk.l0
    rw [if_neg (by omega)]
    simp [rises]
    omega
  | n + 1, 0, _, _, hk, _ => by omega
  | n + 1, k + 1, i, h, hk, hl => by
    have e1 : wrap64 ((i : Int) + 1) = ((i + 1 : Nat) : Int) := by unfold wrap64; omega
    have e2 : 0 < (i : Int) → wrap64 ((i : Int) - 1) = (i : Int) - 1 := fun _ => by unfold wrap64; omega
    have ih := iconf_l0 xs n k (i + 1) (by omega) (by omega) hl
    unfold impl_ConfOk.l0
    rw [if_pos (by omega), if_pos (by omega), if_pos (by omega), in_f, Option.bind_some, e1]
    clear e1
    rw [ih]
    by_cases hin : 1 ≤ rd xs i ∧ rd xs i ≤ 4
    · rw [if_pos (by simpa using hin)]
      by_cases hi : (i : Int) > 0
      · rw [if_pos hi, e2 hi]
        clear e2
        rw [if_pos (by omega), if_pos (by omega)]
        by_cases hge : rd xs ((i : Int) - 1) ≥ rd xs i
        · rw [if_pos hge]
          have : ¬ i = 0 := by omega
          simp [rises, this, show ¬ rd xs ((i : Int) - 1) < rd xs i from by omega]
        · rw [if_neg hge]
          simp [rises, hin, show rd xs ((i : Int) - 1) < rd xs i from by omega]
      · rw [if_neg hi]
        have : i = 0 := by omega
        subst this
        simp only [rises]
        simp at hin
        simp [hin]
    · rw [if_neg (by simpa using hin)]
      simp only [rises]
      simp only [hin]
      simp
theorem iconf_f (xs : List Int) (k : Nat) (hk : xs.length < k) (hl : xs.length < 4611686018427387904) : impl_ConfOk.f k xs = some (confOk xs) := iconf_l0 xs xs.length k 0 (by omega) hk hl
theorem sconf_f (xs : List Int) (k : Nat) (hk : xs.length < k) (hl : xs.length < 4611686018427387904) : spec_ConfOk.f k xs = some (confOk xs) := by
  unfold spec_ConfOk.f spec_l05Rise.f
  rw [l01In_f, Option.bind_some]
  have h0 : spec_l05Rise.l0 k xs 1 4 0 = some (rises xs 0 xs.length) := rise_l0 xs xs.length k 0 (by omega) hk hl
  rw [h0]
  by_cases h : (1 : Int) ≤ (xs.length : Int) ∧ (xs.length : Int) ≤ 4
  · rw [if_pos (by simpa using h)]
    have : 1 ≤ xs.length := by omega
    simp [confOk, this]
  · rw [if_neg (by simpa using h)]
    cases hc : confOk xs with
    | false => rfl
    | true => have := confOk_short hc; omega

theorem iread_l0 (s : ByteArray) : ∀ (n k i : Nat) (acc : List Int), n + i = s.size → acc.length = i → n + s.size + 1 < k → s.size < 17592186044416 →
    impl_ReadConf.l0 k s acc s.size i = some (if confOk (acc ++ bytesFrom s i n) then (acc ++ bytesFrom s i n, true) else ([], false))
  | 0, 0, _, _, _, _, hk, _ => by omega
  | 0, k + 1, i, acc, h, ha, hk, hs => by
    unfold impl_ReadConf.l0
    rw [if_neg (by omega), iconf_f acc k (by omega) (by omega)]
    simp only [bytesFrom, List.append_nil, Option.bind_some]
    split <;> rfl
  | n + 1, 0, _, _, _, _, hk, _ => by omega
  | n + 1, k + 1, i, acc, h, ha, hk, hs => by
    have e1 : wrap64 ((i : Int) + 1) = ((i + 1 : Nat) : Int) := by unfold wrap64; omega
    have hb := bt_range s (i : Int)
    have e2 : wrap64 (bt s (i : Int)) = bt s (i : Int) := by unfold wrap64; omega
    unfold impl_ReadConf.l0
    rw [if_pos (by omega), if_pos (by omega), if_pos (by omega), if_pos (by omega), e1, e2]
    clear e1 e2
    rw [iread_l0 s n k (i + 1) (acc ++ [bt s (i : Int)]) (by omega) (by simp [ha]) (by omega) hs]
    simp only [bytesFrom, List.append_assoc, List.cons_append, List.nil_append]
    rfl
theorem iread_f (s : ByteArray) (k : Nat) (hk : s.size + s.size + 1 < k) (hs : s.size < 17592186044416) : impl_ReadConf.f k s = some (readConf s) := by
  have := iread_l0 s s.size k 0 [] (by omega) rfl hk hs
  simpa [impl_ReadConf.f, readConf] using this
theorem sread_l0 (s : ByteArray) : ∀ (n k i : Nat) (acc : List Int), n + i = s.size → acc = bytesFrom s 0 i → i ≤ 5 → n + s.size + 1 < k → s.size < 17592186044416 →
    spec_ReadConf.l0 k s acc i = some (readConf s)
  | n, 0, _, _, _, _, _, hk, _ => by omega
  | n, k + 1, i, acc, h, ha, h5, hk, hs => by
    have hlen : acc.length = i := by rw [ha, bytesFrom_length]
    have e1 : wrap64 ((i : Int) + 1) = ((i + 1 : Nat) : Int) := by unfold wrap64; omega
    have hb := bt_range s (i : Int)
    have e2 : wrap64 (bt s (i : Int)) = bt s (i : Int) := by unfold wrap64; omega
    have hfin : ∀ (hd : n = 0 ∨ i = 5), (if (acc.length : Int) = (s.size : Int) then ((spec_ConfOk.f k acc).bind fun t => (if t = true then (some (acc, true)) else (some ((([] : List Int)), false)))) else (some ((([] : List Int)), false))) = some (readConf s) := by
      intro hd
      by_cases he : acc.length = s.size
      · rw [if_pos (by omega), sconf_f acc k (by omega) (by omega), Option.bind_some]
        have hi : i = s.size := by omega
        subst ha
        unfold readConf
        rw [← hi]
        split <;> rfl
      · rw [if_neg (by omega)]
        unfold readConf
        have hn : ¬ confOk (bytesFrom s 0 s.size) = true := fun hc => by
          have := confOk_short hc
          rw [bytesFrom_length] at this
          rcases hd with h0 | h0 <;> omega
        rw [if_neg hn]
    unfold spec_ReadConf.l0
    by_cases h1 : (i : Int) < (s.size : Int)
    · rw [if_pos h1]
      by_cases h4 : (i : Int) ≤ 4
      · rw [if_pos h4, if_pos (by omega), if_pos (by omega), e1, e2]
        clear e1 e2
        obtain ⟨m, rfl⟩ : ∃ m, n = m + 1 := ⟨n - 1, by omega⟩
        refine sread_l0 s m k (i + 1) _ (by omega) ?_ (by omega) (by omega) hs
        rw [ha, bytesFrom_snoc s i 0]
        simp
      · rw [if_neg h4]
        exact hfin (.inr (by omega))
    · rw [if_neg h1]
      exact hfin (.inl (by omega))
theorem sread_f (s : ByteArray) (k : Nat) (hk : s.size + s.size + 1 < k) (hs : s.size < 17592186044416) : spec_ReadConf.f k s = some (readConf s) := sread_l0 s s.size k 0 [] (by omega) rfl (by omega) hk hs

theorem ientry_f (t n : Int) (d : ByteArray) (k : Nat) (hk : d.size + d.size + 1 < k) (hs : d.size < 17592186044416) : impl_EntryOk.f k t n d = some (entryOk t n d) := by
  unfold impl_EntryOk.f entryOk
  rw [in_f, iread_f d k hk hs]
  by_cases h : 0 ≤ t ∧ t ≤ 100000
  · simp only [h, Option.bind_some, and_self, decide_true, if_true, Bool.true_and]
    split
    · rfl
    · split
      · rfl
      · split <;> rfl
  · simp only [h, Option.bind_some, decide_false, Bool.false_and]
    rfl
theorem sentry_f (t n : Int) (d : ByteArray) (k : Nat) (hk : d.size + d.size + 1 < k) (hs : d.size < 17592186044416) : spec_EntryOk.f k t n d = some (entryOk t n d) := by
  unfold spec_EntryOk.f entryOk
  rw [l01In_f, sread_f d k hk hs]
  by_cases h : 0 ≤ t ∧ t ≤ 100000
  · simp only [h, Option.bind_some, and_self, decide_true, if_true, Bool.true_and]
    split
    · rfl
    · split
      · rfl
      · split <;> rfl
  · simp only [h, Option.bind_some, decide_false, Bool.false_and]
    rfl

/-- A conf in bytes. -/
def confBs (xs : List Int) : List Int := xs.map (fun x => x % 256)
theorem take_confBs (xs : List Int) (i : Nat) (h : i < xs.length) : (confBs xs).take (i + 1) = (confBs xs).take i ++ [rd xs (i : Int) % 256] := by
  have hl : i < (confBs xs).length := by simpa [confBs] using h
  rw [List.take_succ_eq_append_getElem hl]
  simp [confBs, rd, h]
theorem sctext_l0 (xs : List Int) (hl : xs.length ≤ 1099511627776) : ∀ (n k i : Nat), n + i = xs.length → n < k → spec_ConfText.l0 k xs ((confBs xs).take i) i = some (strOfNums (confBs xs), true)
  | _, 0, _, _, hk => by omega
  | 0, k + 1, i, h, hk => by
    unfold spec_ConfText.l0
    rw [if_neg (by omega), List.take_of_length_le (by simp [confBs]; omega)]
  | n + 1, k + 1, i, h, hk => by
    have e1 : wrap64 ((i : Int) + 1) = ((i + 1 : Nat) : Int) := by unfold wrap64; omega
    unfold spec_ConfText.l0
    rw [if_pos (by omega), if_pos (by omega), if_pos (by simp [confBs]; omega), e1, ← take_confBs xs i (by omega)]
    clear e1
    exact sctext_l0 xs hl n k (i + 1) (by omega) (by omega)
theorem sctext_f (xs : List Int) (k : Nat) (hk : xs.length < k) (hl : xs.length ≤ 1099511627776) : spec_ConfText.f k xs = some (if confOk xs then (strOfNums (confBs xs), true) else (⟨#[]⟩, false)) := by
  unfold spec_ConfText.f
  rw [sconf_f xs k hk (by omega), Option.bind_some]
  have := sctext_l0 xs hl xs.length k 0 (by omega) hk
  cases hc : confOk xs with
  | false => rw [if_neg (by simp)]; rfl
  | true => rw [if_pos rfl]; exact this
end Go.Proofs.Ytdjikjmjajlgcaa.PFnExactEncode
end

/-! ### YtdjikjmjajlgcaaEntry -/
section
namespace Go.Proofs.Ytdjikjmjajlgcaa
open Go.RowKit Go.Proofs.YtdjikjmjajlgcaaW.PrintWords
set_option linter.unusedSimpArgs false
set_option linter.unusedVariables false

/-! The text of an entry. (own) -/
def entryOkI (i t k : Int) (d : ByteArray) : Bool := entryOk t k d && inB i 1 1000000
def entryS (i t k : Int) (d : ByteArray) : ByteArray := (⟨#[69]⟩ : ByteArray) ++ varS i ++ varS t ++ byteS k ++ d
def entryT (i t k : Int) (d : ByteArray) : ByteArray := if entryOkI i t k d then entryS i t k d else ⟨#[]⟩

theorem impl_EntryOkH (t k : Int) (d : ByteArray) (b : Bool) (w : World) (h : Hid (entryOk t k d = b)) (hd : d.size ≤ 1099511627776) :
    Calls Try.prog 92 #[.agg #[.int .i64 t, .int .i64 k, .string d]] w fun e w' => e = .returned (.bool b) ∧ Below w.heap.size w w' := by
  have hf := PFnExactEncode.ientry_f t k d (d.size + d.size + 2) (by omega) (by omega)
  rw [h.out] at hf
  exact PFnExactEncode.impl_EntryOk.calls _ t k d b w hf
theorem spec_EntryOkH (t k : Int) (d : ByteArray) (b : Bool) (w : World) (h : Hid (entryOk t k d = b)) (hd : d.size ≤ 1099511627776) :
    Calls Try.prog 94 #[.agg #[.int .i64 t, .int .i64 k, .string d]] w fun e w' => e = .returned (.bool b) ∧ Below w.heap.size w w' := by
  have hf := PFnExactEncode.sentry_f t k d (d.size + d.size + 2) (by omega) (by omega)
  rw [h.out] at hf
  exact PFnExactEncode.spec_EntryOk.calls _ t k d b w hf
theorem impl_inH' (n lo hi : Int) (b : Bool) (w : World) (h : Hid (inB n lo hi = b)) :
    Calls Try.prog 93 #[.int .i64 n, .int .i64 lo, .int .i64 hi] w fun e w' => e = .returned (.bool b) ∧ w = w' := by
  have := impl_in n lo hi w
  rw [h.out] at this
  exact this
theorem spec_l01InH' (n lo hi : Int) (b : Bool) (w : World) (h : Hid (inB n lo hi = b)) :
    Calls Try.prog 95 #[.int .i64 n, .int .i64 lo, .int .i64 hi] w fun e w' => e = .returned (.bool b) ∧ w = w' := by
  have := spec_l01In n lo hi w
  rw [h.out] at this
  exact this
theorem entryOk_parts {t k : Int} {d : ByteArray} (h : entryOk t k d = true) : 0 ≤ t ∧ t ≤ 100000 ∧ 1 ≤ k ∧ k ≤ 3 ∧ d.size ≤ 120 := by
  unfold entryOk at h
  simp only [Bool.and_eq_true, decide_eq_true_eq] at h
  obtain ⟨⟨h1, h2⟩, h3⟩ := h
  refine ⟨h1, h2, ?_⟩
  by_cases c1 : k = 1
  · rw [if_pos c1] at h3
    have hz : d.toList = [] := by simpa using h3
    have : d.size = 0 := by
      rw [ByteArray.toList_eq] at hz
      have : d.data.size = 0 := by rw [← Array.length_toList, hz]; rfl
      exact this
    omega
  rw [if_neg c1] at h3
  by_cases c2 : k = 2
  · rw [if_pos c2] at h3
    unfold readConf at h3
    split at h3
    · rename_i hc
      have := (confOk_short hc).2
      rw [bytesFrom_length] at this
      omega
    · simp at h3
  rw [if_neg c2] at h3
  by_cases c3 : k = 3
  · rw [if_pos c3] at h3; simp at h3; omega
  rw [if_neg c3] at h3
  cases h3

/-- A byte made from a new block of one. -/
theorem conv_new1 {P : Program} {src e dst T : TypeId} (hs : P.underlying src = some (.slice e)) (he : P.underlying e = some (.int .u8)) (hd : P.underlying dst = some .string) {w : World} {b : Nat} {x : Int}
    (h : w.heap[b]? = some (.cells #[.int .u8 x] T (0, 0))) : (convert src dst (.slice (some ⟨b, 0, none⟩) 1 1)).run P w = .ok (.string (strOfNums [x])) w := by
  refine run_convert_bytes_arg w src e hs he b 0 1 1 [x] rfl (fun i hi => ?_) dst hd
  obtain rfl : i = 0 := by omega
  simp [World.cell?, h]

attribute [local go_sem] flowUpon ByteArray.size_append
set_option maxHeartbeats 1000000 in
set_option maxRecDepth 100000 in
theorem impl_EntryText_yes (i t k : Int) (d : ByteArray) (w : World) (H1 : Hid (entryOk t k d = true)) (H2 : Hid (inB i 1 1000000 = true)) (hd : d.size ≤ 1099511627776) :
    Calls Try.prog 21 #[.int .i64 i, .agg #[.int .i64 t, .int .i64 k, .string d]] w fun e w' => e = .returned (.tuple #[.string ((⟨#[69]⟩ : ByteArray) ++ varS i ++ varS t ++ byteS k ++ d), .bool true]) ∧ Below w.heap.size w w' := by
  obtain ⟨ht0, ht1, hk0, hk1, hdz⟩ := entryOk_parts H1.out
  obtain ⟨hi0, hi1⟩ := inB_iff.1 H2.out
  have s1 := varS_size i (by omega) (by omega)
  have s2 := varS_size t (by omega) (by omega)
  have s3 : (strOfNums [k % 256]).size ≤ 1 := byteS_size k
  have s4 : (⟨#[69]⟩ : ByteArray).size = 1 := rfl
  go_enter Try.func21, Try.ntmps21
  go_wp2_with (first
    | (go_at_call 92; refine (impl_EntryOkH _ _ _ true _ H1 hd).mono ?_; rintro e w' ⟨rfl, hb⟩; obtain ⟨hc, hf⟩ := bcell hb; have hz : w.heap.size < w'.heap.size := (by have := hb.size; simp at this ⊢; omega))
    | (go_at_call 93; (with_reducible refine (impl_inH' _ _ _ true _ H2).mono ?_); rintro e w' ⟨rfl, rfl⟩))
  refine wp_region_flow [0, 3] 29 (by kernel_rfl) (by rfl) (by kernel_rfl) (by kernel_rfl) (by kernel_rfl) ?_
  iterate 9 (refine flow_valE ?_; apply Exists.intro; refine ⟨fun A wq hBq hbq hdq => ?_, ?_⟩; focus (obtain ⟨hcq, hfq⟩ := bcell hBq; (try simp [go_sem, baseF, deps, dep1, Region.binds] at hbq); (try simp [go_sem, baseF, deps, dep1, Region.binds, NewSl] at hdq); go_simp; first | exact ⟨Below.refl _ _, rfl⟩ | (rw [if_neg]; (focus (exact ⟨Below.refl _ _, rfl⟩)); (focus ((try simp only [ByteArray.size_append]); omega))) | (first | (go_at_call 62; exact (impl_varOf _ _ (by omega) (by omega))))))
  (refine flow_newSlE ?_; apply Exists.intro; apply Exists.intro; apply Exists.intro; refine ⟨fun A wq hBq hbq hdq => ?_, ?_⟩; focus (obtain ⟨hcq, hfq⟩ := bcell hBq; (try simp [go_sem, baseF, deps, dep1, Region.binds] at hbq); (try simp [go_sem, baseF, deps, dep1, Region.binds, NewSl] at hdq); go_simp; exact ⟨rfl, rfl⟩))
  (refine flow_valE ?_; apply Exists.intro; refine ⟨fun A wq hBq hbq hdq => ?_, ?_⟩; focus (obtain ⟨hcq, hfq⟩ := bcell hBq; (try simp [go_sem, baseF, deps, dep1, Region.binds] at hbq); (try simp [go_sem, baseF, deps, dep1, Region.binds, NewSl] at hdq); go_simp; first | exact ⟨Below.refl _ _, rfl⟩ | (rw [if_neg]; (focus (exact ⟨Below.refl _ _, rfl⟩)); (focus ((try simp only [ByteArray.size_append]); omega))) | ((go_at_call 61; obtain ⟨⟨g, h1, h2, h3⟩, -⟩ := hdq; rw [h1]; exact impl_oneByte1 g k _ (by simp [World.cell?, h3])))))
  iterate 6 (refine flow_valE ?_; apply Exists.intro; refine ⟨fun A wq hBq hbq hdq => ?_, ?_⟩; focus (obtain ⟨hcq, hfq⟩ := bcell hBq; (try simp [go_sem, baseF, deps, dep1, Region.binds] at hbq); (try simp [go_sem, baseF, deps, dep1, Region.binds, NewSl] at hdq); go_simp; first | exact ⟨Below.refl _ _, rfl⟩ | (rw [if_neg]; (focus (exact ⟨Below.refl _ _, rfl⟩)); (focus ((try simp only [ByteArray.size_append]); omega))) | (fail)))
  refine fun x wq hBq hall => ?_
  obtain ⟨hcq, hfq⟩ := bcell hBq
  simp only [allT] at hall
  simp [frameOf, Act.put, hall]
  clear hall
  go_wp2
  go_ret2
  exact ⟨rfl, (by repeat (first | exact Below.refl _ _ | apply bl_alloc | apply bl_drewN | apply bl_drew | refine bl_set ?_ (by simp) | refine bl_then ?_ (by assumption)))⟩
set_option maxHeartbeats 1000000 in
set_option maxRecDepth 100000 in
theorem spec_EntryText_yes (i t k : Int) (d : ByteArray) (w : World) (H1 : Hid (entryOk t k d = true)) (H2 : Hid (inB i 1 1000000 = true)) (hd : d.size ≤ 1099511627776) :
    Calls Try.prog 22 #[.int .i64 i, .agg #[.int .i64 t, .int .i64 k, .string d]] w fun e w' => e = .returned (.tuple #[.string ((⟨#[69]⟩ : ByteArray) ++ varS i ++ varS t ++ byteS k ++ d), .bool true]) ∧ Below w.heap.size w w' := by
  obtain ⟨ht0, ht1, hk0, hk1, hdz⟩ := entryOk_parts H1.out
  obtain ⟨hi0, hi1⟩ := inB_iff.1 H2.out
  have s1 := varS_size i (by omega) (by omega)
  have s2 := varS_size t (by omega) (by omega)
  have s3 : (strOfNums [k % 256]).size ≤ 1 := byteS_size k
  have s5 := byteS_size k
  have s4 : (⟨#[69]⟩ : ByteArray).size = 1 := rfl
  go_enter Try.func22, Try.ntmps22
  go_wp2_with (first
    | (go_at_call 94; refine (spec_EntryOkH _ _ _ true _ H1 hd).mono ?_; rintro e w' ⟨rfl, hb⟩; obtain ⟨hc, hf⟩ := bcell hb; have hz : w.heap.size < w'.heap.size := (by have := hb.size; simp at this ⊢; omega))
    | (go_at_call 95; (with_reducible refine (spec_l01InH' _ _ _ true _ H2).mono ?_); rintro e w' ⟨rfl, rfl⟩))
  refine wp_region_flow [0, 3] 30 (by kernel_rfl) (by rfl) (by kernel_rfl) (by kernel_rfl) (by kernel_rfl) ?_
  iterate 10 (refine flow_valE ?_; apply Exists.intro; refine ⟨fun A wq hBq hbq hdq => ?_, ?_⟩; focus (obtain ⟨hcq, hfq⟩ := bcell hBq; (try simp [go_sem, baseF, deps, dep1, Region.binds] at hbq); (try simp [go_sem, baseF, deps, dep1, Region.binds, NewSl] at hdq); go_simp; first | exact ⟨Below.refl _ _, rfl⟩ | (rw [if_neg]; (focus (exact ⟨Below.refl _ _, rfl⟩)); (focus ((try simp only [ByteArray.size_append]); omega))) | (first | (go_at_call 55; exact (spec_l01Var _ _ (by omega) (by omega))))))
  (refine flow_newSlE ?_; apply Exists.intro; apply Exists.intro; apply Exists.intro; refine ⟨fun A wq hBq hbq hdq => ?_, ?_⟩; focus (obtain ⟨hcq, hfq⟩ := bcell hBq; (try simp [go_sem, baseF, deps, dep1, Region.binds] at hbq); (try simp [go_sem, baseF, deps, dep1, Region.binds, NewSl] at hdq); go_simp; exact ⟨rfl, rfl⟩))
  refine flow_val (.string (byteS k)) (fun A wq hBq hbq hdq => ?_) ?_
  · (try simp [go_sem, baseF, deps, dep1, Region.binds] at hbq)
    (try simp [go_sem, baseF, deps, dep1, Region.binds, NewSl] at hdq)
    go_simp
    obtain ⟨g, h1, h2, h3⟩ := hdq
    rw [h1, conv_new1 Try.underlying51 Try.underlying5 Try.underlying9 h3]
    exact ⟨Below.refl _ _, by rw [IntKind.wrap_u8]; rfl⟩
  iterate 6 (refine flow_valE ?_; apply Exists.intro; refine ⟨fun A wq hBq hbq hdq => ?_, ?_⟩; focus (obtain ⟨hcq, hfq⟩ := bcell hBq; (try simp [go_sem, baseF, deps, dep1, Region.binds] at hbq); (try simp [go_sem, baseF, deps, dep1, Region.binds, NewSl] at hdq); go_simp; first | exact ⟨Below.refl _ _, rfl⟩ | (rw [if_neg]; (focus (exact ⟨Below.refl _ _, rfl⟩)); (focus ((try simp only [ByteArray.size_append]); omega))) | (fail)))
  refine fun x wq hBq hall => ?_
  obtain ⟨hcq, hfq⟩ := bcell hBq
  simp only [allT] at hall
  simp [frameOf, Act.put, hall]
  clear hall
  go_wp2
  go_ret2
  exact ⟨rfl, (by repeat (first | exact Below.refl _ _ | apply bl_alloc | apply bl_drewN | apply bl_drew | refine bl_set ?_ (by simp) | refine bl_then ?_ (by assumption)))⟩

set_option maxHeartbeats 1000000 in
set_option maxRecDepth 100000 in
theorem impl_EntryText_no (i t k : Int) (d : ByteArray) (b1 b2 : Bool) (w : World) (H1 : Hid (entryOk t k d = b1)) (H2 : Hid (inB i 1 1000000 = b2)) (hno : (b1 && b2) = false) (hd : d.size ≤ 1099511627776) :
    Calls Try.prog 21 #[.int .i64 i, .agg #[.int .i64 t, .int .i64 k, .string d]] w fun e w' => e = .returned (.tuple #[.string ⟨#[]⟩, .bool false]) ∧ Below w.heap.size w w' := by
  rcases b1 with _ | _
  · clear hno
    go_enter Try.func21, Try.ntmps21
    go_wp2_with (first | (go_at_call 92; refine (impl_EntryOkH _ _ _ false _ H1 hd).mono ?_; rintro e w' ⟨rfl, hb⟩; obtain ⟨hc, hf⟩ := bcell hb; have hz : w.heap.size < w'.heap.size := (by have := hb.size; simp at this ⊢; omega)))
    go_ret2
    exact ⟨rfl, (by repeat (first | exact Below.refl _ _ | apply bl_alloc | apply bl_drewN | apply bl_drew | refine bl_set ?_ (by simp) | refine bl_then ?_ (by assumption)))⟩
  · simp only [Bool.true_and] at hno
    subst hno
    go_enter Try.func21, Try.ntmps21
    go_wp2_with (first | (go_at_call 92; refine (impl_EntryOkH _ _ _ true _ H1 hd).mono ?_; rintro e w' ⟨rfl, hb⟩; obtain ⟨hc, hf⟩ := bcell hb; have hz : w.heap.size < w'.heap.size := (by have := hb.size; simp at this ⊢; omega)) | (go_at_call 93; (with_reducible refine (impl_inH' _ _ _ false _ H2).mono ?_); rintro e w' ⟨rfl, rfl⟩))
    go_ret2
    exact ⟨rfl, (by repeat (first | exact Below.refl _ _ | apply bl_alloc | apply bl_drewN | apply bl_drew | refine bl_set ?_ (by simp) | refine bl_then ?_ (by assumption)))⟩
set_option maxHeartbeats 1000000 in
set_option maxRecDepth 100000 in
theorem spec_EntryText_no (i t k : Int) (d : ByteArray) (b1 b2 : Bool) (w : World) (H1 : Hid (entryOk t k d = b1)) (H2 : Hid (inB i 1 1000000 = b2)) (hno : (b1 && b2) = false) (hd : d.size ≤ 1099511627776) :
    Calls Try.prog 22 #[.int .i64 i, .agg #[.int .i64 t, .int .i64 k, .string d]] w fun e w' => e = .returned (.tuple #[.string ⟨#[]⟩, .bool false]) ∧ Below w.heap.size w w' := by
  rcases b1 with _ | _
  · clear hno
    go_enter Try.func22, Try.ntmps22
    go_wp2_with (first | (go_at_call 94; refine (spec_EntryOkH _ _ _ false _ H1 hd).mono ?_; rintro e w' ⟨rfl, hb⟩; obtain ⟨hc, hf⟩ := bcell hb; have hz : w.heap.size < w'.heap.size := (by have := hb.size; simp at this ⊢; omega)))
    go_ret2
    exact ⟨rfl, (by repeat (first | exact Below.refl _ _ | apply bl_alloc | apply bl_drewN | apply bl_drew | refine bl_set ?_ (by simp) | refine bl_then ?_ (by assumption)))⟩
  · simp only [Bool.true_and] at hno
    subst hno
    go_enter Try.func22, Try.ntmps22
    go_wp2_with (first | (go_at_call 94; refine (spec_EntryOkH _ _ _ true _ H1 hd).mono ?_; rintro e w' ⟨rfl, hb⟩; obtain ⟨hc, hf⟩ := bcell hb; have hz : w.heap.size < w'.heap.size := (by have := hb.size; simp at this ⊢; omega)) | (go_at_call 95; (with_reducible refine (spec_l01InH' _ _ _ false _ H2).mono ?_); rintro e w' ⟨rfl, rfl⟩))
    go_ret2
    exact ⟨rfl, (by repeat (first | exact Below.refl _ _ | apply bl_alloc | apply bl_drewN | apply bl_drew | refine bl_set ?_ (by simp) | refine bl_then ?_ (by assumption)))⟩
theorem impl_EntryText (i t k : Int) (d : ByteArray) (w : World) (hd : d.size ≤ 1099511627776) :
    Calls Try.prog 21 #[.int .i64 i, .agg #[.int .i64 t, .int .i64 k, .string d]] w fun e w' => e = .returned (.tuple #[.string (entryT i t k d), .bool (entryOkI i t k d)]) ∧ Below w.heap.size w w' := by
  unfold entryT entryOkI
  cases h1 : entryOk t k d with
  | false => exact impl_EntryText_no i t k d false _ w (Lib.hid h1) (Lib.hid rfl) rfl hd
  | true =>
    cases h2 : inB i 1 1000000 with
    | false => exact impl_EntryText_no i t k d true false w (Lib.hid h1) (Lib.hid h2) rfl hd
    | true => exact impl_EntryText_yes i t k d w (Lib.hid h1) (Lib.hid h2) hd
theorem spec_EntryText (i t k : Int) (d : ByteArray) (w : World) (hd : d.size ≤ 1099511627776) :
    Calls Try.prog 22 #[.int .i64 i, .agg #[.int .i64 t, .int .i64 k, .string d]] w fun e w' => e = .returned (.tuple #[.string (entryT i t k d), .bool (entryOkI i t k d)]) ∧ Below w.heap.size w w' := by
  unfold entryT entryOkI
  cases h1 : entryOk t k d with
  | false => exact spec_EntryText_no i t k d false _ w (Lib.hid h1) (Lib.hid rfl) rfl hd
  | true =>
    cases h2 : inB i 1 1000000 with
    | false => exact spec_EntryText_no i t k d true false w (Lib.hid h1) (Lib.hid h2) rfl hd
    | true => exact spec_EntryText_yes i t k d w (Lib.hid h1) (Lib.hid h2) hd
end Go.Proofs.Ytdjikjmjajlgcaa
end
