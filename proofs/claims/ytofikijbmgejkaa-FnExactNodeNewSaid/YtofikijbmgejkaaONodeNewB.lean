/-
  FnExactNodeNew: whatever the arguments (any values of the parameters' types that can be read), the law returns true and each argument reads afterwards as it read before. Conditions: none.
-/
import Derived.Test.YtofikijbmgejkaaONodeNewA
import Derived.Test.YtofikijbmgejkaaRows
import Derived.WalkKit
import Derived.ProofKit
import Derived.OpenShut
import Derived.ShutString
import Derived.ChangeOld
import Derived.Below
import Derived.SizedLaws
import Derived.Carry
import Derived.KernelRfl

/-! ### YtofikijbmgejkaaNodeFin -/
section
namespace Go.Proofs.Ytofikijbmgejkaa
open Go.RowKit Go.Proofs.YtofikijbmgejkaaW.PrintWords PFnExactNodeNew
set_option linter.unusedSimpArgs false
set_option linter.unusedVariables false

set_option maxHeartbeats 2000000 in
set_option maxRecDepth 100000 in
theorem spec_NodeNew_nil (i : Int) (bi : Bool) (w : World) (Hi : Hid (inB i 1 4 = bi)) : Calls Try.prog 39 #[.int .i64 i, .slice none 0 0] w fun e w' => NB w w' e false i [] := by
  go_enter Try.func39, Try.ntmps39
  go_wp2_with fail
  refine calls_atN (fun X => Blk 75 w.heap.size #[.int .i64 0, .int .i64 0, .int .i64 0, .int .i64 0, .int .i64 0, .slice none 0 0, .int .i64 0, .int .i64 0, .slice none 0 0, .int .i64 0, .int .i64 0, .int .i64 0, .slice none 0 0, .slice none 0 0] X ∧ Below w.heap.size w X) ⟨((Blk.new _ _ w).alloc _).alloc _, (by repeat (first | exact Below.refl _ _ | apply bl_alloc | apply bl_drewN | apply bl_drew | refine bl_set ?_ (by simp) | refine bl_then ?_ (by assumption)))⟩ ?_
  rintro X ⟨k4, B⟩
  refine (spec_NodeOkN i (some ⟨w.heap.size + 1, 0, none⟩) 0 [] bi false X Hi (Lib.hid rfl) ⟨rfl, by simp, fun h => by simp at h⟩ (by simp) (by simp)).mono ?_
  rintro e Y ⟨rfl, hb⟩
  rw [Bool.and_false]
  replace k4 := k4.below hb
  replace B := bl_then B hb
  clear hb X
  have y0 := k4.cell 0 rfl
  have y1 := k4.cell 1 rfl
  have y2 := k4.cell 2 rfl
  have y3 := k4.cell 3 rfl
  have y4 := k4.cell 4 rfl
  have y5 := k4.cell 5 rfl
  have y6 := k4.cell 6 rfl
  have y7 := k4.cell 7 rfl
  have y8 := k4.cell 8 rfl
  have y9 := k4.cell 9 rfl
  have y10 := k4.cell 10 rfl
  have y11 := k4.cell 11 rfl
  have y12 := k4.cell 12 rfl
  have y13 := k4.cell 13 rfl
  have yf : ∀ o, _ := fun o => k4.free o
  have yl := k4.lt
  go_wp2_with fail
  refine bodyPost_ret (v := .tuple #[.agg #[.int .i64 0, .int .i64 0, .int .i64 0, .int .i64 0, .int .i64 0, .slice none 0 0, .int .i64 0, .int .i64 0, .slice none 0 0, .int .i64 0, .int .i64 0, .int .i64 0, .slice none 0 0, .slice none 0 0], .bool false]) ?_ rfl ⟨⟨.slice none 0 0, rfl, Kd.R_nil _ _ _ _ _⟩, ?_⟩
  · simp only [results, Try.results39]
    go_simp
  · iterate 14 refine bl_set ?_ (Nat.le_refl _)
    exact B
/-- What both hand back. -/
theorem new_both (i : Int) (cf : List Int) (hl : cf.length ≤ 1048576) : ∃ (I L : Int) (cg : List Int) (q : Bool), cg.length ≤ 1048576 ∧
    (∀ (A : Option Addr) (c : Nat) (w : World), Kd.C (Kd.int .i64) w A cf.length cf → cf.length ≤ c → (A = none → c = 0) → Calls Try.prog 39 #[.int .i64 i, .slice A cf.length c] w fun e w' => ∃ v, e = .returned (.tuple #[.agg #[.int .i64 I, .int .i64 0, .int .i64 0, .int .i64 0, .int .i64 0, v, .int .i64 0, .int .i64 0, .slice none 0 0, .int .i64 0, .int .i64 0, .int .i64 L, .slice none 0 0, .slice none 0 0], .bool q]) ∧ Kd.R (Kd.int .i64) 3 w' w.heap.size (fun _ => True) v cg ∧ Below w.heap.size w w') ∧
    (∀ (A : Option Addr) (c : Nat) (w : World), Kd.C (Kd.int .i64) w A cf.length cf → cf.length ≤ c → (A = none → c = 0) → Calls Try.prog 40 #[.int .i64 i, .slice A cf.length c] w fun e w' => ∃ v, e = .returned (.tuple #[.agg #[.int .i64 I, .int .i64 0, .int .i64 0, .int .i64 0, .int .i64 0, v, .int .i64 0, .int .i64 0, .slice none 0 0, .int .i64 0, .int .i64 0, .int .i64 L, .slice none 0 0, .slice none 0 0], .bool q]) ∧ Kd.R (Kd.int .i64) 3 w' w.heap.size (fun _ => True) v cg ∧ Below w.heap.size w w') := by
  obtain ⟨bi, hbi⟩ : ∃ b, inB i 1 4 = b := ⟨_, rfl⟩
  obtain ⟨bc, hbc⟩ : ∃ b, confOk cf = b := ⟨_, rfl⟩
  refine ⟨if (bi && bc) = true then i else 0, if (bi && bc) = true then 20 else 0, if (bi && bc) = true then cf else [], bi && bc, ?_, fun A c w hr hc hn => ?_, fun A c w hr hc hn => ?_⟩
  · split
    · exact hl
    · simp
  · rcases A with _ | ad
    · have h0 := hn rfl
      subst h0
      obtain rfl : cf = [] := List.eq_nil_of_length_eq_zero (by omega)
      have hb : bc = false := by rw [← hbc]; rfl
      subst hb
      rw [Bool.and_false]
      refine (spec_NodeNew_nil i bi w (Lib.hid hbi)).mono ?_
      rintro e w' ⟨⟨v, h1, h2⟩, h3⟩
      exact ⟨v, h1, h2, h3⟩
    · refine (spec_NodeNew_some i (some ad) c cf bi bc w (Lib.hid hbi) (Lib.hid hbc) hr hc hl hn ⟨ad, rfl⟩).mono ?_
      rintro e w' ⟨⟨v, h1, h2⟩, h3⟩
      exact ⟨v, h1, h2, h3⟩
  · refine (impl_NodeNew_C i A c cf bi bc w (Lib.hid hbi) (Lib.hid hbc) hr hc hl hn).mono ?_
    rintro e w' ⟨⟨v, h1, h2⟩, h3⟩
    exact ⟨v, h1, h2, h3⟩
theorem R_sameI {e base c n : Nat} {ok : Nat → Prop} {w : World} {A : Option Addr} {xs : List Int} (h : Kd.R (Kd.int .i64) e w base ok (.slice A n c) xs) : Kd.C (Kd.int .i64) w A n xs ∧ n ≤ c ∧ n = xs.length := by
  obtain ⟨h1, h2, h3⟩ := Kd.R_reads' h
  exact ⟨by rw [h1]; exact h3, h2, h1⟩

set_option maxHeartbeats 4000000 in
set_option maxRecDepth 100000 in
theorem FnExactNodeNew_walk (v0 v1 : Value) (W : World) (h0 : ArgOf Try.prog W 3 v0) (h1 : ArgOf Try.prog W 49 v1) :
    Calls Try.prog 8 #[v0, v1] W fun e w' => e = .returned (.bool true) ∧ Below W.heap.size W w' := by
  obtain ⟨i, rfl, -⟩ := arg_int Try.underlying3 h0
  obtain ⟨A, cf, c, rfl, hcap, hC, hlen, -⟩ := arg_slice Try.underlying49 (by kernel_rfl) (opens_int Try.underlying3) h1
  clear h0 h1
  have HC := Lib.hid hC
  clear hC
  by_cases hbig : (cf.length : Int) > 1048576
  · go_enter Try.func8, Try.ntmps8
    go_wp2_with fail
    go_ret
    exact ⟨rfl, by first | exact Below.refl _ _ | exact (by repeat (first | exact Below.refl _ _ | apply bl_alloc | apply bl_drewN | apply bl_drew | refine bl_set ?_ (by simp) | refine bl_then ?_ (by assumption)))⟩
  · have hl : cf.length ≤ 1048576 := by omega
    obtain ⟨I, L, cg, q, hgl, hS, hI⟩ := new_both i cf hl
    have HS := Lib.hid hS
    have HI := Lib.hid hI
    clear hS hI
    go_enter Try.func8, Try.ntmps8
    go_wp2_with fail
    refine (toIntC A c cf _ (Kd.C_below HC.out (by repeat (first | exact Below.refl _ _ | apply bl_alloc | apply bl_drewN | apply bl_drew | refine bl_set ?_ (by simp) | refine bl_then ?_ (by assumption)))) hcap hl).mono ?_
    rintro e w1 ⟨v, rfl, V1, hb1⟩
    have B1 : Below W.heap.size W w1 := (by repeat (first | exact Below.refl _ _ | apply bl_alloc | apply bl_drewN | apply bl_drew | refine bl_set ?_ (by simp) | refine bl_then ?_ (by assumption)))
    obtain ⟨A1, c1, rfl, hc1, C1⟩ := Kd.R_reads V1
    have hn1 := R_nil_cap V1
    clear V1 hb1
    go_wp2_with fail
    refine (HS.out A1 c1 w1 C1 hc1 hn1).mono ?_
    rintro e w2 ⟨v, rfl, V2, hb2⟩
    obtain ⟨A2, c2, rfl, hc2, C2⟩ := Kd.R_reads V2
    have B2 := bl_then B1 hb2
    have HC2 := Lib.hid C2
    clear V2 hb2 C1 C2 hn1 B1 w1
    go_wp2_with fail
    obtain ⟨b5, hb5⟩ : ∃ b5, b5 = w2.heap.size := ⟨_, rfl⟩
    refine calls_atN (fun X => Below W.heap.size W X ∧ Blk 75 b5 #[.int .i64 I, .int .i64 0, .int .i64 0, .int .i64 0, .int .i64 0, .slice A2 cg.length c2, .int .i64 0, .int .i64 0, .slice none 0 0, .int .i64 0, .int .i64 0, .int .i64 L, .slice none 0 0, .slice none 0 0] X ∧ Kd.C (Kd.int .i64) X A2 cg.length cg) ⟨bl_alloc B2 _, Blk.newE _ _ w2 hb5, Kd.C_below HC2.out (bl_alloc (Below.refl _ _) _)⟩ ?_
    try rw [← hb5]
    clear hb5 B2 HC2 w2
    rintro Y ⟨BY, KY, CY0⟩
    have CY := Lib.hid CY0
    clear CY0
    refine (toIntC A c cf _ (Kd.C_below HC.out BY) hcap hl).mono ?_
    rintro e X ⟨v, rfl, V3, hbX⟩
    obtain ⟨A3, c3, rfl, hc3, C3⟩ := Kd.R_reads V3
    have hn3 := R_nil_cap V3
    have X3 := Lib.hid (Kd.R_mono (Kd.R_bound V3) (ok' := fun k => k < X.heap.size) fun k hk => hk.2.2.1)
    have hYX : Y.heap.size ≤ X.heap.size := hbX.size
    clear V3
    go_wp2_with fail
    refine (HI.out A3 c3 X C3 hc3 hn3).mono ?_
    rintro e w4 ⟨v, rfl, V4, hb4⟩
    obtain ⟨A4, c4, rfl, hc4, -⟩ := Kd.R_reads V4
    have hX4 : X.heap.size ≤ w4.heap.size := hb4.size
    have E4 := Lib.hid (Kd.R_mono (Kd.R_lower (Kd.R_bound V4) hYX) (ok' := fun k => X.heap.size ≤ k ∧ k < w4.heap.size) fun k hk => ⟨hk.2.1, hk.2.2.1⟩)
    have X4 := Lib.hid (Kd.R_below X3.out hb4)
    have D4 : Below Y.heap.size Y w4 := bl_then hbX hb4
    clear V4 hb4 hn3 C3 X3 hbX
    have KY4 := KY.below D4
    have k0 := KY4.cell 0 rfl
    have k1 := KY4.cell 1 rfl
    have k2 := KY4.cell 2 rfl
    have k3 := KY4.cell 3 rfl
    have k4 := KY4.cell 4 rfl
    have k5 := KY4.cell 5 rfl
    have k6 := KY4.cell 6 rfl
    have k7 := KY4.cell 7 rfl
    have k8 := KY4.cell 8 rfl
    have k9 := KY4.cell 9 rfl
    have k10 := KY4.cell 10 rfl
    have k11 := KY4.cell 11 rfl
    have k12 := KY4.cell 12 rfl
    have k13 := KY4.cell 13 rfl
    have kl := KY4.lt
    go_wp2_with fail
    obtain ⟨b8, hb8⟩ : ∃ b8, b8 = w4.heap.size := ⟨_, rfl⟩
    have hk5 : b5 < Y.heap.size := KY.lt
    refine calls_atN (fun Z => Below Y.heap.size Y Z ∧ Blk 75 b8 #[.int .i64 I, .int .i64 0, .int .i64 0, .int .i64 0, .int .i64 0, .slice A4 cg.length c4, .int .i64 0, .int .i64 0, .slice none 0 0, .int .i64 0, .int .i64 0, .int .i64 L, .slice none 0 0, .slice none 0 0] Z ∧ Kd.R (Kd.int .i64) 3 Z Y.heap.size (fun k => X.heap.size ≤ k ∧ k < b8) (.slice A4 cg.length c4) cg ∧ Kd.R (Kd.int .i64) 3 Z Y.heap.size (fun k => k < X.heap.size) (.slice A3 cf.length c3) cf) ⟨bl_alloc D4 _, Blk.newE _ _ w4 hb8, by rw [hb8]; exact Kd.R_below E4.out (bl_alloc (Below.refl _ _) _), Kd.R_below X4.out (bl_alloc (Below.refl _ _) _)⟩ ?_
    try rw [← hb8]
    have n8 : X.heap.size ≤ b8 := by omega
    clear k0 k1 k2 k3 k4 k5 k6 k7 k8 k9 k10 k11 k12 k13 kl KY4 D4 E4 X4 hb8 hX4 w4
    rintro w5 ⟨D5, G5, e5, x5⟩
    have E5 := Lib.hid e5
    have X5 := Lib.hid x5
    clear e5 x5
    obtain ⟨hC, -, -⟩ := R_sameI E5.out
    refine (eqNodeC I L A4 c4 A2 c2 cg w5 hgl hc4 hc2 hC (Kd.C_below CY.out D5)).mono ?_
    clear hC
    rintro e w6 ⟨rfl, hb⟩
    have D6 := bl_then D5 hb
    have G6 := G5.below hb
    have E6 := Lib.hid (Kd.R_below E5.out hb)
    have X6 := Lib.hid (Kd.R_below X5.out hb)
    clear hb D5 G5 E5 X5 w5
    go_wp2_with fail
    refine (toIntC A c cf w6 (Kd.C_below HC.out (bl_then BY ⟨D6.os, D6.tape, D6.output, D6.size, D6.block⟩)) hcap hl).mono ?_
    rintro e w7 ⟨v, rfl, V7, hb⟩
    obtain ⟨A7, c7, rfl, hc7, C7⟩ := Kd.R_reads V7
    have D7 := bl_then D6 hb
    have G7 := G6.below hb
    have E7 := Lib.hid (Kd.R_below E6.out hb)
    have X7 := Lib.hid (Kd.R_below X6.out hb)
    clear hb V7 D6 G6 E6 X6 w6
    go_wp2_with fail
    obtain ⟨hC, -, -⟩ := R_sameI X7.out
    refine (eqIntC A3 c3 A7 c7 cf w7 hl hc3 hc7 hC C7).mono ?_
    clear hC C7
    rintro e w8 ⟨rfl, hb⟩
    have D8 := bl_then D7 hb
    have G8 := G7.below hb
    have E8 := Lib.hid (Kd.R_below E7.out hb)
    have X8 := Lib.hid (Kd.R_below X7.out hb)
    clear hb D7 G7 E7 X7 w7
    go_wp2_with fail
    refine (markIntC (.slice A3 cf.length c3) cf (fun k => k < X.heap.size) Y w8 D8 hl X8.out).mono ?_
    rintro e w9 ⟨rfl, D9, hk⟩
    have G9 : Blk 75 b8 #[.int .i64 I, .int .i64 0, .int .i64 0, .int .i64 0, .int .i64 0, .slice A4 cg.length c4, .int .i64 0, .int .i64 0, .slice none 0 0, .int .i64 0, .int .i64 0, .int .i64 L, .slice none 0 0, .slice none 0 0] w9 := (hk.2 _ G8.lt (by omega)).trans G8
    have E9 := Lib.hid (Kd.R_step E8.out (fun k hk1 hk2 => hk.2 k hk2 (by have := hk1.1; omega)))
    clear hk D8 G8 E8 X8 w8
    have KY9 := KY.below D9
    have k0 := KY9.cell 0 rfl
    have k1 := KY9.cell 1 rfl
    have k2 := KY9.cell 2 rfl
    have k3 := KY9.cell 3 rfl
    have k4 := KY9.cell 4 rfl
    have k5 := KY9.cell 5 rfl
    have k6 := KY9.cell 6 rfl
    have k7 := KY9.cell 7 rfl
    have k8 := KY9.cell 8 rfl
    have k9 := KY9.cell 9 rfl
    have k10 := KY9.cell 10 rfl
    have k11 := KY9.cell 11 rfl
    have k12 := KY9.cell 12 rfl
    have k13 := KY9.cell 13 rfl
    have g0 := G9.cell 0 rfl
    have g1 := G9.cell 1 rfl
    have g2 := G9.cell 2 rfl
    have g3 := G9.cell 3 rfl
    have g4 := G9.cell 4 rfl
    have g5 := G9.cell 5 rfl
    have g6 := G9.cell 6 rfl
    have g7 := G9.cell 7 rfl
    have g8 := G9.cell 8 rfl
    have g9 := G9.cell 9 rfl
    have g10 := G9.cell 10 rfl
    have g11 := G9.cell 11 rfl
    have g12 := G9.cell 12 rfl
    have g13 := G9.cell 13 rfl
    have kl := KY9.lt
    have gl := G9.lt
    have n1 : ¬ (1 + (cf.length : Int) < 0) := by omega
    go_wp2_with fail
    obtain ⟨hC, -, -⟩ := R_sameI E9.out
    refine (eqNodeC I L A4 c4 A2 c2 cg w9 hgl hc4 hc2 hC (Kd.C_below CY.out D9)).mono ?_
    clear hC
    rintro e w10 ⟨rfl, hb⟩
    have D10 := bl_then D9 hb
    have G10 := G9.below hb
    have E10 := Lib.hid (Kd.R_below E9.out hb)
    clear hb k0 k1 k2 k3 k4 k5 k6 k7 k8 k9 k10 k11 k12 k13 g0 g1 g2 g3 g4 g5 g6 g7 g8 g9 g10 g11 g12 g13 kl gl KY9 D9 G9 E9 w9
    have g0 := G10.cell 0 rfl
    have g1 := G10.cell 1 rfl
    have g2 := G10.cell 2 rfl
    have g3 := G10.cell 3 rfl
    have g4 := G10.cell 4 rfl
    have g5 := G10.cell 5 rfl
    have g6 := G10.cell 6 rfl
    have g7 := G10.cell 7 rfl
    have g8 := G10.cell 8 rfl
    have g9 := G10.cell 9 rfl
    have g10 := G10.cell 10 rfl
    have g11 := G10.cell 11 rfl
    have g12 := G10.cell 12 rfl
    have g13 := G10.cell 13 rfl
    have gl := G10.lt
    go_wp2_with fail
    refine (markNodeC I L (.slice A4 cg.length c4) cg (fun k => X.heap.size ≤ k ∧ k < b8) Y w10 D10 hgl E10.out).mono ?_
    rintro e w11 ⟨rfl, e11, D11, hk⟩
    have G11 : Blk 75 b8 #[.int .i64 I, .int .i64 0, .int .i64 0, .int .i64 0, .int .i64 0, .slice A4 cg.length c4, .int .i64 0, .int .i64 0, .slice none 0 0, .int .i64 0, .int .i64 0, .int .i64 L, .slice none 0 0, .slice none 0 0] w11 := (hk.2 _ G10.lt (by omega)).trans G10
    have E11 := Lib.hid e11
    clear e11 hk D10 G10 E10 g0 g1 g2 g3 g4 g5 g6 g7 g8 g9 g10 g11 g12 g13 gl w10
    have g0 := G11.cell 0 rfl
    have g1 := G11.cell 1 rfl
    have g2 := G11.cell 2 rfl
    have g3 := G11.cell 3 rfl
    have g4 := G11.cell 4 rfl
    have g5 := G11.cell 5 rfl
    have g6 := G11.cell 6 rfl
    have g7 := G11.cell 7 rfl
    have g8 := G11.cell 8 rfl
    have g9 := G11.cell 9 rfl
    have g10 := G11.cell 10 rfl
    have g11 := G11.cell 11 rfl
    have g12 := G11.cell 12 rfl
    have g13 := G11.cell 13 rfl
    have gl := G11.lt
    obtain ⟨hC, -, -⟩ := R_sameI E11.out
    have HCm := Lib.hid hC
    clear hC
    go_wp2_with fail
    refine (heldNodeC I L cg.length A4 c4 w11 hgl hc4 HCm.out).mono ?_
    rintro e w12 ⟨rfl, hb⟩
    have D12 := bl_then D11 hb
    have G12 := G11.below hb
    have E12 := Lib.hid (Kd.R_below E11.out hb)
    clear hb HCm D11 G11 E11 g0 g1 g2 g3 g4 g5 g6 g7 g8 g9 g10 g11 g12 g13 gl w11
    have n2 : ¬ (1 + (cg.length : Int) < 0) := by omega
    go_wp2_with fail
    refine (toIntC A c cf w12 (Kd.C_below HC.out (bl_then BY ⟨D12.os, D12.tape, D12.output, D12.size, D12.block⟩)) hcap hl).mono ?_
    rintro e w13 ⟨v, rfl, V13, hb⟩
    obtain ⟨A13, c13, rfl, hc13, C13⟩ := Kd.R_reads V13
    have hn13 := R_nil_cap V13
    have D13 := bl_then D12 hb
    have G13 := G12.below hb
    have E13 := Lib.hid (Kd.R_below E12.out hb)
    clear hb V13 D12 G12 E12 w12
    go_wp2_with fail
    refine (HI.out A13 c13 w13 C13 hc13 hn13).mono ?_
    rintro e w14 ⟨v, rfl, V14, hb⟩
    obtain ⟨A14, c14, rfl, hc14, C14⟩ := Kd.R_reads V14
    have HC14 := Lib.hid C14
    have D14 := bl_then D13 hb
    have G14 := G13.below hb
    have E14 := Lib.hid (Kd.R_below E13.out hb)
    clear hb V14 C14 hn13 D13 G13 E13 C13 w13
    have KY14 := KY.below D14
    have k0 := KY14.cell 0 rfl
    have k1 := KY14.cell 1 rfl
    have k2 := KY14.cell 2 rfl
    have k3 := KY14.cell 3 rfl
    have k4 := KY14.cell 4 rfl
    have k5 := KY14.cell 5 rfl
    have k6 := KY14.cell 6 rfl
    have k7 := KY14.cell 7 rfl
    have k8 := KY14.cell 8 rfl
    have k9 := KY14.cell 9 rfl
    have k10 := KY14.cell 10 rfl
    have k11 := KY14.cell 11 rfl
    have k12 := KY14.cell 12 rfl
    have k13 := KY14.cell 13 rfl
    have kl := KY14.lt
    go_wp2_with fail
    refine (eqNodeC I L A14 c14 A2 c2 cg _ hgl hc14 hc2 (Kd.C_below HC14.out (by repeat (first | exact Below.refl _ _ | apply bl_alloc | apply bl_drewN | apply bl_drew | refine bl_set ?_ (by simp) | refine bl_then ?_ (by assumption)))) (Kd.C_below CY.out (bl_then D14 (by repeat (first | exact Below.refl _ _ | apply bl_alloc | apply bl_drewN | apply bl_drew | refine bl_set ?_ (by simp) | refine bl_then ?_ (by assumption)))))).mono ?_
    rintro e w15 ⟨rfl, hb⟩
    have D15 := bl_then (bl_alloc D14 _) hb
    have G15 := (G14.alloc _).below hb
    have E15 := Lib.hid (Kd.R_below (Kd.R_below E14.out (bl_alloc (Below.refl _ _) _)) hb)
    clear hb k0 k1 k2 k3 k4 k5 k6 k7 k8 k9 k10 k11 k12 k13 kl KY14 D14 G14 E14 HC14
    have g0 := G15.cell 0 rfl
    have g1 := G15.cell 1 rfl
    have g2 := G15.cell 2 rfl
    have g3 := G15.cell 3 rfl
    have g4 := G15.cell 4 rfl
    have g5 := G15.cell 5 rfl
    have g6 := G15.cell 6 rfl
    have g7 := G15.cell 7 rfl
    have g8 := G15.cell 8 rfl
    have g9 := G15.cell 9 rfl
    have g10 := G15.cell 10 rfl
    have g11 := G15.cell 11 rfl
    have g12 := G15.cell 12 rfl
    have g13 := G15.cell 13 rfl
    have gl := G15.lt
    obtain ⟨hC, -, -⟩ := R_sameI E15.out
    have HCm := Lib.hid hC
    clear hC
    go_wp2_with fail
    refine (heldNodeC I L cg.length A4 c4 w15 hgl hc4 HCm.out).mono ?_
    rintro e w16 ⟨rfl, hb⟩
    have D16 := bl_then D15 hb
    clear hb HCm g0 g1 g2 g3 g4 g5 g6 g7 g8 g9 g10 g11 g12 g13 gl
    go_wp2_with fail
    go_ret
    exact ⟨rfl, bl_then BY ⟨D16.os, D16.tape, D16.output, D16.size, D16.block⟩⟩
end Go.Proofs.Ytofikijbmgejkaa
end

/-! ### YtofikijbmgejkaaRowFnExactNodeNew -/
section
namespace Go.Proofs.Ytofikijbmgejkaa.fnExactNodeNew
open Go.ChangeShapes Go.WideShapes Go.ChangeAt Go.RowKit
theorem own : ownKnob Try.prog.godebug = none := by kernel_rfl
theorem laidOut : laidOutB Try.prog = true := by kernel_rfl
set_option maxRecDepth 100000 in
theorem lifted (os : Os) (started : os.Started) (H : Type) (enc : TypeId × Value → H) :
    ReturnsInHanded {} Try.checked os 8 .any (Rows.fnExactNodeNewSpec.pre6 enc Try.prog Try.f8 Rows.fnExactNodeNewRow.domain false) (Rows.fnExactNodeNewSpec.post enc Try.prog Try.f8 false true false false) := by
  refine returnsInHanded_of_change_sized (C := Try.checked) own started (by kernel_rfl) Try.func8
    (ChangeSpec.witness6 (enc := enc) (C := Try.checked) false ⟨#[], #[.int .i64 0, .slice none 0 0], []⟩ 20 (by kernel_rfl) (by kernel_rfl) (by kernel_rfl) (by kernel_rfl)) ?_
  intro W base args ds gs before hval0 hW hcnd hsz0 _
  have hval : ∀ (j : Nat) t v, Try.f8.params[j]? = some t → args[j]? = some v → Value.okWide Try.prog W .any base t v := hval0
  have hW' := hW
  obtain ⟨p, q, hA0, hV, rfl, hfz, hnd⟩ := hW
  have hA : DataW.TrodAll enc Try.prog W 0 (fun _ => true) true Try.f8.params.toList args.toList ds p := hA0
  rw [Try.params8] at hA hval
  obtain ⟨v0, vs0, d0, ds0, p0, q0, hargs, rfl, rfl, h0, r0⟩ := trodAll_cons hA
  obtain ⟨v1, vs1, d1, ds1, p1, q1, rfl, rfl, rfl, h1, r1⟩ := trodAll_cons r0
  obtain ⟨rfl, rfl, rfl⟩ := trodAll_nil r1
  obtain rfl : args = #[v0, v1] := by cases args; simp_all
  obtain ⟨rfl, rfl⟩ := trodVars_none hV
  have k0 := h0
  have lt0 : ∀ x ∈ p0, x.block < W.heap.size := by obtain ⟨m, hm⟩ := k0; exact DataW.trod_lt m _ _ _ hm
  have a0 : ArgOf Try.prog W 3 v0 := ⟨⟨base, hval 0 3 v0 rfl rfl⟩, by obtain ⟨m, hm⟩ := k0; exact ⟨H, enc, m, _, hm⟩⟩
  have k1 := h1
  have lt1 : ∀ x ∈ p1, x.block < W.heap.size := by obtain ⟨m, hm⟩ := k1; exact DataW.trod_lt m _ _ _ hm
  have a1 : ArgOf Try.prog W 49 v1 := ⟨⟨base, hval 1 49 v1 rfl rfl⟩, by obtain ⟨m, hm⟩ := k1; exact ⟨H, enc, m, _, hm⟩⟩
  clear hA0 hval0 hsz0
  refine (FnExactNodeNew_walk v0 v1 W a0 a1).mono fun e W' ⟨he, bel⟩ => ?_
  subst he
  exact ⟨_, rfl, _, _, _, [], _, [], hW', trodAll_mk1 (shut_bool Try.underlying4 _), (trodAll_cons_mk (Below.trod laidOut (by kernel_rfl) (of_decide_eq_true (by kernel_rfl)) k0 bel lt0) (trodAll_cons_mk (Below.trod laidOut (by kernel_rfl) (of_decide_eq_true (by kernel_rfl)) k1 bel lt1) trodAll_mk0)), rfl, bel.frame _, fun h => by cases h⟩
theorem over : Rows.fnExactNodeNewRow.holds Try.pinned (OpenSpec.ofChange Rows.fnExactNodeNewSpec) :=
  OpenClaim.holds_of_wide 8 Try.f8 rfl rfl rfl rfl rfl rfl rfl ⟨rfl, rfl, rfl, rfl, rfl⟩ rfl rfl rfl rfl rfl (by kernel_rfl) Try.func8 (by kernel_rfl)
    (of_decide_eq_true (by kernel_rfl)) (by unfold Func.isWrapper; first | (rw [if_pos (by decide +kernel)]; kernel_rfl) | (rw [if_neg (by decide +kernel)]; exact ⟨rfl, rfl⟩))
    (fun os started H enc _ => lifted os started H enc)
theorem proved : Rows.FnExactNodeNewSaid := over
#print axioms proved
end Go.Proofs.Ytofikijbmgejkaa.fnExactNodeNew
namespace Go.Proofs.Ytofikijbmgejkaa
/-- The row, under a short name, for the claim. -/
theorem fnExactNodeNew_holds : Rows.FnExactNodeNewSaid := fnExactNodeNew.proved
end Go.Proofs.Ytofikijbmgejkaa
end
