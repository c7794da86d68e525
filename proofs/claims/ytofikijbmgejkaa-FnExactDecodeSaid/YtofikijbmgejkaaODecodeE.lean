/-
  FnExactDecode: whatever the arguments (any values of the parameters' types that can be read), the law returns true and each argument reads afterwards as it read before. Conditions: none.
-/
import Derived.Test.YtofikijbmgejkaaODecodeD
import Derived.Test.YtofikijbmgejkaaODecodeA
import Derived.Test.YtofikijbmgejkaaRows
import Derived.WalkKit
import Derived.ProofKit
import Derived.OpenShut
import Derived.ShutString
import Derived.ChangeOld
import Derived.Below
import Derived.SizedLaws
import Derived.Carry
import Derived.KernelRfl

/-! ### YtofikijbmgejkaaDecFin -/
section
namespace Go.Proofs.Ytofikijbmgejkaa
open Go.RowKit Go.Proofs.YtofikijbmgejkaaW.PrintWords PFnExactDecode
set_option linter.unusedSimpArgs false
set_option linter.unusedVariables false

theorem R_same {α : Type} {d : Kd α} {e base c n : Nat} {ok : Nat → Prop} {w : World} {A : Option Addr} {xs : List α} (h : d.R e w base ok (.slice A n c) xs) : d.C w A xs.length xs ∧ xs.length ≤ c ∧ n = xs.length := by
  obtain ⟨h1, h2, h3⟩ := Kd.R_reads' h
  exact ⟨h3, by omega, h1⟩
set_option maxHeartbeats 4000000 in
set_option maxRecDepth 100000 in
theorem FnExactDecode_walk (v : Value) (W : World) (h : ArgOf Try.prog W 9 v) :
    Calls Try.prog 6 #[v] W fun e w' => e = .returned (.bool true) ∧ Below W.heap.size W w' := by
  obtain ⟨s, rfl, hsm⟩ := arg_string Try.underlying9 h
  clear h
  unfold maxLen at hsm
  by_cases hs : s.size ≤ 1048576
  · obtain ⟨a0, a1, a2, a3, a4, a5, a6, a7, es, cf, d, ls, ok, hel, hcl, hS, hI⟩ := decode_both s hs
    have HS := Lib.hid hS
    have HI := Lib.hid hI
    clear hS hI
    go_enter Try.func6, Try.ntmps6
    go_wp2_with fail
    refine (HS.out _).mono ?_
    rintro e w1 ⟨v1, u1, rfl, V1, U1, hb1⟩
    obtain ⟨A1, c1, rfl, hc1, C1⟩ := Kd.R_reads V1
    obtain ⟨B1, d1, rfl, hd1, D1⟩ := Kd.R_reads U1
    have HB1 : Below W.heap.size W w1 := (by repeat (first | exact Below.refl _ _ | apply bl_alloc | apply bl_drewN | apply bl_drew | refine bl_set ?_ (by simp) | refine bl_then ?_ (by assumption)))
    have C1 := Lib.hid C1
    have D1 := Lib.hid D1
    clear V1 U1 hb1
    go_wp2_with fail
    refine (HI.out _).mono ?_
    rintro e w2 ⟨v2, u2, rfl, V2, U2, hb2⟩
    obtain ⟨X, hX⟩ : ∃ X, w1.alloc (.cells #[.int .i64 a0, .int .i64 a1, .int .i64 a2, .int .i64 a3, .int .i64 a4, .int .i64 a5, .int .i64 a6, .bool a7, .slice A1 es.length c1, .slice B1 cf.length d1, .string d, .bool ls] 57) = X := ⟨_, rfl⟩
    have KX : Blk 57 w1.heap.size #[.int .i64 a0, .int .i64 a1, .int .i64 a2, .int .i64 a3, .int .i64 a4, .int .i64 a5, .int .i64 a6, .bool a7, .slice A1 es.length c1, .slice B1 cf.length d1, .string d, .bool ls] X := by rw [← hX]; exact Blk.new _ _ w1
    have HX : Below W.heap.size W X := by rw [← hX]; exact bl_alloc HB1 _
    have CX := Lib.hid (show Kd.C k105 X A1 es.length es from by rw [← hX]; exact Kd.C_below C1.out (bl_alloc (Below.refl _ _) _))
    have DX := Lib.hid (show Kd.C (Kd.int .i64) X B1 cf.length cf from by rw [← hX]; exact Kd.C_below D1.out (bl_alloc (Below.refl _ _) _))
    rw [hX] at V2 U2 hb2
    clear hX HB1 C1 D1
    obtain ⟨A2, c2, rfl, hc2, -⟩ := Kd.R_reads V2
    obtain ⟨B2, d2, rfl, hd2, -⟩ := Kd.R_reads U2
    have E2 : Hid (Kd.R k105 105 w2 X.heap.size (fun k => k < w2.heap.size) (.slice A2 es.length c2) es) := Lib.hid (Kd.R_mono (Kd.R_bound V2) fun k hk => hk.2.2.1)
    have F2 : Hid (Kd.R (Kd.int .i64) 3 w2 X.heap.size (fun k => k < w2.heap.size) (.slice B2 cf.length d2) cf) := Lib.hid (Kd.R_mono (Kd.R_bound U2) fun k hk => hk.2.2.1)
    have hX2 : X.heap.size ≤ w2.heap.size := hb2.size
    have K2 := KX.below hb2
    have HB2 : Below X.heap.size X w2 := hb2
    have hz2 := K2.lt
    clear V2 U2 hb2
    have k0 := K2.cell 0 rfl
    have k1 := K2.cell 1 rfl
    have k2 := K2.cell 2 rfl
    have k3 := K2.cell 3 rfl
    have k4 := K2.cell 4 rfl
    have k5 := K2.cell 5 rfl
    have k6 := K2.cell 6 rfl
    have k7 := K2.cell 7 rfl
    have k8 := K2.cell 8 rfl
    have k9 := K2.cell 9 rfl
    have k10 := K2.cell 10 rfl
    have k11 := K2.cell 11 rfl
    go_wp2_with fail
    obtain ⟨hCE, -, -⟩ := R_same E2.out
    obtain ⟨hCF, -, -⟩ := R_same F2.out
    with_reducible refine (laws_eqMC es a0 a1 a2 a3 a4 a5 a6 a7 cf d ls (by omega) (by omega) _ _ _ _ _ _ _ _ _ hc2 hd2 (Kd.C_below hCE (bl_alloc (Below.refl _ _) _)) (Kd.C_below hCF (bl_alloc (Below.refl _ _) _)) hc1 hd1 (Kd.C_below CX.out (bl_alloc HB2 _)) (Kd.C_below DX.out (bl_alloc HB2 _))).mono ?_
    rintro e w3 ⟨rfl, hb3⟩
    have K3 := (K2.alloc _).below hb3
    have G3 : Blk 57 w2.heap.size #[.int .i64 a0, .int .i64 a1, .int .i64 a2, .int .i64 a3, .int .i64 a4, .int .i64 a5, .int .i64 a6, .bool a7, .slice A2 es.length c2, .slice B2 cf.length d2, .string d, .bool ls] w3 := (Blk.new _ _ w2).below hb3
    have E3 := Lib.hid (Kd.R_below (Kd.R_below E2.out (bl_alloc (Below.refl _ _) _)) hb3)
    have F3 := Lib.hid (Kd.R_below (Kd.R_below F2.out (bl_alloc (Below.refl _ _) _)) hb3)
    have HB3 : Below X.heap.size X w3 := bl_then (bl_alloc HB2 _) hb3
    have hz3 := G3.lt
    clear K2 E2 F2 HB2 hb3 k0 k1 k2 k3 k4 k5 k6 k7 k8 k9 k10 k11 hCE hCF
    have g0 := G3.cell 0 rfl
    have g1 := G3.cell 1 rfl
    have g2 := G3.cell 2 rfl
    have g3 := G3.cell 3 rfl
    have g4 := G3.cell 4 rfl
    have g5 := G3.cell 5 rfl
    have g6 := G3.cell 6 rfl
    have g7 := G3.cell 7 rfl
    have g8 := G3.cell 8 rfl
    have g9 := G3.cell 9 rfl
    have g10 := G3.cell 10 rfl
    have g11 := G3.cell 11 rfl
    go_wp2_with fail
    with_reducible refine (laws_markMC es a0 a1 a2 a3 a4 a5 a6 a7 cf d ls hel hcl _ _ _ _ X w3 HB3 E3.out F3.out).mono ?_
    rintro e w4 ⟨rfl, E4, F4, HB4, hk4⟩
    have G4 : Blk 57 w2.heap.size #[.int .i64 a0, .int .i64 a1, .int .i64 a2, .int .i64 a3, .int .i64 a4, .int .i64 a5, .int .i64 a6, .bool a7, .slice A2 es.length c2, .slice B2 cf.length d2, .string d, .bool ls] w4 := (hk4.2 _ G3.lt (by omega)).trans G3
    have K4 := KX.below HB4
    have hz4 := G4.lt
    have E4 := Lib.hid E4
    have F4 := Lib.hid F4
    clear hk4 G3 K3 E3 F3 HB3 g0 g1 g2 g3 g4 g5 g6 g7 g8 g9 g10 g11
    have g0 := G4.cell 0 rfl
    have g1 := G4.cell 1 rfl
    have g2 := G4.cell 2 rfl
    have g3 := G4.cell 3 rfl
    have g4 := G4.cell 4 rfl
    have g5 := G4.cell 5 rfl
    have g6 := G4.cell 6 rfl
    have g7 := G4.cell 7 rfl
    have g8 := G4.cell 8 rfl
    have g9 := G4.cell 9 rfl
    have g10 := G4.cell 10 rfl
    have g11 := G4.cell 11 rfl
    obtain ⟨hCE, hcE, hnE⟩ := R_same E4.out
    obtain ⟨hCF, hcF, hnF⟩ := R_same F4.out
    rw [← hnE] at hCE
    rw [← hnF] at hCF
    have HCE := Lib.hid hCE
    have HCF := Lib.hid hCF
    clear hCE hCF hcE hcF hnE hnF
    go_wp2_with fail
    with_reducible refine (laws_heldMC es.length cf.length a0 a1 a2 a3 a4 a5 a6 a7 d ls hel hcl _ _ _ _ _ hc2 hd2 HCE.out HCF.out).mono ?_
    rintro e w5 ⟨rfl, hb5⟩
    have K5 := K4.below hb5
    have G5 := G4.below hb5
    have E5 := Lib.hid (Kd.R_below E4.out hb5)
    have F5 := Lib.hid (Kd.R_below F4.out hb5)
    have HB5 : Below X.heap.size X w5 := bl_then HB4 hb5
    have hz5 := G5.lt
    clear K4 G4 E4 F4 HB4 hb5 g0 g1 g2 g3 g4 g5 g6 g7 g8 g9 g10 g11 HCE HCF hz4
    have n1 : ¬ (1 + 3 * (es.length : Int) + (cf.length : Int) < 0) := by omega
    go_wp2_with fail
    refine (HI.out _).mono ?_
    rintro e w6 ⟨v6, u6, rfl, V6, U6, hb6⟩
    obtain ⟨A6, c6, rfl, hc6, C6⟩ := Kd.R_reads V6
    obtain ⟨B6, d6, rfl, hd6, D6⟩ := Kd.R_reads U6
    have K6 := K5.below hb6
    have G6 := G5.below hb6
    have E6 := Lib.hid (Kd.R_below E5.out hb6)
    have F6 := Lib.hid (Kd.R_below F5.out hb6)
    have HB6 : Below X.heap.size X w6 := bl_then HB5 hb6
    have C6 := Lib.hid C6
    have D6 := Lib.hid D6
    have hz6 := G6.lt
    clear K5 G5 E5 F5 HB5 hb6 V6 U6 hz5
    have k0 := K6.cell 0 rfl
    have k1 := K6.cell 1 rfl
    have k2 := K6.cell 2 rfl
    have k3 := K6.cell 3 rfl
    have k4 := K6.cell 4 rfl
    have k5 := K6.cell 5 rfl
    have k6 := K6.cell 6 rfl
    have k7 := K6.cell 7 rfl
    have k8 := K6.cell 8 rfl
    have k9 := K6.cell 9 rfl
    have k10 := K6.cell 10 rfl
    have k11 := K6.cell 11 rfl
    have hz6k := K6.lt
    go_wp2_with fail
    with_reducible refine (laws_eqMC es a0 a1 a2 a3 a4 a5 a6 a7 cf d ls (by omega) (by omega) _ _ _ _ _ _ _ _ _ hc6 hd6 (Kd.C_below C6.out (by repeat (first | exact Below.refl _ _ | apply bl_alloc | apply bl_drewN | apply bl_drew | refine bl_set ?_ (by simp) | refine bl_then ?_ (by assumption)))) (Kd.C_below D6.out (by repeat (first | exact Below.refl _ _ | apply bl_alloc | apply bl_drewN | apply bl_drew | refine bl_set ?_ (by simp) | refine bl_then ?_ (by assumption)))) hc1 hd1 (Kd.C_below CX.out (bl_then HB6 (by repeat (first | exact Below.refl _ _ | apply bl_alloc | apply bl_drewN | apply bl_drew | refine bl_set ?_ (by simp) | refine bl_then ?_ (by assumption))))) (Kd.C_below DX.out (bl_then HB6 (by repeat (first | exact Below.refl _ _ | apply bl_alloc | apply bl_drewN | apply bl_drew | refine bl_set ?_ (by simp) | refine bl_then ?_ (by assumption)))))).mono ?_
    rintro e w7 ⟨rfl, hb7⟩
    have G7 := (G6.alloc _).below hb7
    have E7 := Lib.hid (Kd.R_below (Kd.R_below E6.out (bl_alloc (Below.refl _ _) _)) hb7)
    have F7 := Lib.hid (Kd.R_below (Kd.R_below F6.out (bl_alloc (Below.refl _ _) _)) hb7)
    have HB7 : Below X.heap.size X w7 := bl_then (bl_alloc HB6 _) hb7
    clear K6 G6 E6 F6 HB6 hb7 k0 k1 k2 k3 k4 k5 k6 k7 k8 k9 k10 k11 hz6 hz6k
    have g0 := G7.cell 0 rfl
    have g1 := G7.cell 1 rfl
    have g2 := G7.cell 2 rfl
    have g3 := G7.cell 3 rfl
    have g4 := G7.cell 4 rfl
    have g5 := G7.cell 5 rfl
    have g6 := G7.cell 6 rfl
    have g7 := G7.cell 7 rfl
    have g8 := G7.cell 8 rfl
    have g9 := G7.cell 9 rfl
    have g10 := G7.cell 10 rfl
    have g11 := G7.cell 11 rfl
    obtain ⟨hCE, hcE, hnE⟩ := R_same E7.out
    obtain ⟨hCF, hcF, hnF⟩ := R_same F7.out
    rw [← hnE] at hCE
    rw [← hnF] at hCF
    have HCE := Lib.hid hCE
    have HCF := Lib.hid hCF
    clear hCE hCF hcE hcF hnE hnF
    go_wp2_with fail
    with_reducible refine (laws_heldMC es.length cf.length a0 a1 a2 a3 a4 a5 a6 a7 d ls hel hcl _ _ _ _ _ hc2 hd2 HCE.out HCF.out).mono ?_
    rintro e w8 ⟨rfl, hb8⟩
    have HB8 : Below W.heap.size W w8 := bl_then HX ⟨(bl_then HB7 hb8).os, (bl_then HB7 hb8).tape, (bl_then HB7 hb8).output, (bl_then HB7 hb8).size, (bl_then HB7 hb8).block⟩
    clear g0 g1 g2 g3 g4 g5 g6 g7 g8 g9 g10 g11 HCE HCF G7 E7 F7 HB7 hb8
    go_wp2
    go_ret
    exact ⟨rfl, HB8⟩
  · go_enter Try.func6, Try.ntmps6
    go_wp2
    go_ret
    exact ⟨rfl, (by repeat (first | exact Below.refl _ _ | apply bl_alloc | apply bl_drewN | apply bl_drew | refine bl_set ?_ (by simp) | refine bl_then ?_ (by assumption)))⟩
end Go.Proofs.Ytofikijbmgejkaa
end

/-! ### YtofikijbmgejkaaRowFnExactDecode -/
section
namespace Go.Proofs.Ytofikijbmgejkaa.fnExactDecode
open Go.ChangeShapes Go.WideShapes Go.ChangeAt Go.RowKit
theorem own : ownKnob Try.prog.godebug = none := by kernel_rfl
theorem laidOut : laidOutB Try.prog = true := by kernel_rfl
set_option maxRecDepth 100000 in
theorem lifted (os : Os) (started : os.Started) (H : Type) (enc : TypeId × Value → H) :
    ReturnsInHanded {} Try.checked os 6 .any (Rows.fnExactDecodeSpec.pre6 enc Try.prog Try.f6 Rows.fnExactDecodeRow.domain false) (Rows.fnExactDecodeSpec.post enc Try.prog Try.f6 false true false false) := by
  refine returnsInHanded_of_change_sized (C := Try.checked) own started (by kernel_rfl) Try.func6
    (ChangeSpec.witness6 (enc := enc) (C := Try.checked) false ⟨#[], #[.string ByteArray.empty], []⟩ 20 (by kernel_rfl) (by kernel_rfl) (by kernel_rfl) (by kernel_rfl)) ?_
  intro W base args ds gs before hval0 hW hcnd hsz0 _
  have hval : ∀ (j : Nat) t v, Try.f6.params[j]? = some t → args[j]? = some v → Value.okWide Try.prog W .any base t v := hval0
  have hW' := hW
  obtain ⟨p, q, hA0, hV, rfl, hfz, hnd⟩ := hW
  have hA : DataW.TrodAll enc Try.prog W 0 (fun _ => true) true Try.f6.params.toList args.toList ds p := hA0
  rw [Try.params6] at hA hval
  obtain ⟨v0, vs0, d0, ds0, p0, q0, hargs, rfl, rfl, h0, r0⟩ := trodAll_cons hA
  obtain ⟨rfl, rfl, rfl⟩ := trodAll_nil r0
  obtain rfl : args = #[v0] := by cases args; simp_all
  obtain ⟨rfl, rfl⟩ := trodVars_none hV
  have k0 := h0
  have lt0 : ∀ x ∈ p0, x.block < W.heap.size := by obtain ⟨m, hm⟩ := k0; exact DataW.trod_lt m _ _ _ hm
  have a0 : ArgOf Try.prog W 9 v0 := ⟨⟨base, hval 0 9 v0 rfl rfl⟩, by obtain ⟨m, hm⟩ := k0; exact ⟨H, enc, m, _, hm⟩⟩
  clear hA0 hval0 hsz0
  refine (FnExactDecode_walk v0 W a0).mono fun e W' ⟨he, bel⟩ => ?_
  subst he
  exact ⟨_, rfl, _, _, _, [], _, [], hW', trodAll_mk1 (shut_bool Try.underlying4 _), (trodAll_cons_mk (Below.trod laidOut (by kernel_rfl) (of_decide_eq_true (by kernel_rfl)) k0 bel lt0) trodAll_mk0), rfl, bel.frame _, fun h => by cases h⟩
theorem over : Rows.fnExactDecodeRow.holds Try.pinned (OpenSpec.ofChange Rows.fnExactDecodeSpec) :=
  OpenClaim.holds_of_wide 6 Try.f6 rfl rfl rfl rfl rfl rfl rfl ⟨rfl, rfl, rfl, rfl, rfl⟩ rfl rfl rfl rfl rfl (by kernel_rfl) Try.func6 (by kernel_rfl)
    (of_decide_eq_true (by kernel_rfl)) (by unfold Func.isWrapper; first | (rw [if_pos (by decide +kernel)]; kernel_rfl) | (rw [if_neg (by decide +kernel)]; exact ⟨rfl, rfl⟩))
    (fun os started H enc _ => lifted os started H enc)
theorem proved : Rows.FnExactDecodeSaid := over
#print axioms proved
end Go.Proofs.Ytofikijbmgejkaa.fnExactDecode
namespace Go.Proofs.Ytofikijbmgejkaa
/-- The row, under a short name, for the claim. -/
theorem fnExactDecode_holds : Rows.FnExactDecodeSaid := fnExactDecode.proved
end Go.Proofs.Ytofikijbmgejkaa
end
