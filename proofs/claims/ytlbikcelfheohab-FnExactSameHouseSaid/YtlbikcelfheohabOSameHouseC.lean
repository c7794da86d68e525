/-
  FnExactSameHouse: whatever the arguments (any values of the parameters' types that can be read), the law returns true and each argument reads afterwards as it read before. Conditions: none.
-/
import Derived.Test.YtlbikcelfheohabOSameHouseB
import Derived.Test.YtlbikcelfheohabRows
import Derived.Test.YtlbikcelfheohabOSameHouseA
import Derived.WalkKit
import Derived.ProofKit
import Derived.OpenShut
import Derived.ShutString
import Derived.ChangeOld
import Derived.Below
import Derived.SizedLaws
import Derived.Carry
import Derived.KernelRfl

/-! ### YtlbikcelfheohabSame2 -/
section
namespace Go.Proofs.Ytlbikcelfheohab
open Go.RowKit Go.Proofs.YtlbikcelfheohabW.PrintWords PFnExactSameHouse
set_option linter.unusedSimpArgs false
set_option linter.unusedVariables false

theorem bne_not {a b : Int} {q : Bool} (h : (a == b) = q) : (a != b) = !q := by simp only [bne, h]

/-- Whether two houses are the same. -/
def sameH (x0 : List S120) (x1 : List S111) (x2 : List S127) (x3 : List S113) (y0 : List S120) (y1 : List S111) (y2 : List S127) (y3 : List S113) : Bool := sameBy (diffSession x0 y0) x0 y0 && sameBy (diffListen x1 y1) x1 y1 && sameBy (diffQueue x2 y2) x2 y2 && sameBy (diffLease x3 y3) x3 y3
set_option maxHeartbeats 2000000 in
set_option maxRecDepth 100000 in
theorem impl_SameHouse (x0 : List S120) (x1 : List S111) (x2 : List S127) (x3 : List S113) (A0 A1 A2 A3 : Option Addr) (A0' A1' A2' A3' : Nat) (y0 : List S120) (y1 : List S111) (y2 : List S127) (y3 : List S113) (B0 B1 B2 B3 : Option Addr) (B0' B1' B2' B3' : Nat) (w : World) (hx0 : Kd.C k120 w A0 x0.length x0) (hx0' : x0.length ≤ A0') (hx1 : Kd.C k111 w A1 x1.length x1) (hx1' : x1.length ≤ A1') (hx2 : Kd.C k127 w A2 x2.length x2) (hx2' : x2.length ≤ A2') (hx3 : Kd.C k113 w A3 x3.length x3) (hx3' : x3.length ≤ A3') (hy0 : Kd.C k120 w B0 y0.length y0) (hy0' : y0.length ≤ B0') (hy1 : Kd.C k111 w B1 y1.length y1) (hy1' : y1.length ≤ B1') (hy2 : Kd.C k127 w B2 y2.length y2) (hy2' : y2.length ≤ B2') (hy3 : Kd.C k113 w B3 y3.length y3) (hy3' : y3.length ≤ B3') (lx0 : x0.length ≤ 1048576) (lx1 : x1.length ≤ 1048576) (lx2 : x2.length ≤ 1048576) (lx3 : x3.length ≤ 1048576) (ly0 : y0.length ≤ 1048576) (ly1 : y1.length ≤ 1048576) (ly2 : y2.length ≤ 1048576) (ly3 : y3.length ≤ 1048576) (lxi : ∀ j : Nat, (rd_T120 x0 (j : Int)).f2.length ≤ 1048576) (lxk : ∀ j : Nat, (rd_T127 x2 (j : Int)).f2.length ≤ 1048576) (lyi : ∀ j : Nat, (rd_T120 y0 (j : Int)).f2.length ≤ 1048576) (lyk : ∀ j : Nat, (rd_T127 y2 (j : Int)).f2.length ≤ 1048576) :
    Calls Try.prog 17 #[.agg #[.slice A0 x0.length A0', .slice A1 x1.length A1', .slice A2 x2.length A2', .slice A3 x3.length A3'], .agg #[.slice B0 y0.length B0', .slice B1 y1.length B1', .slice B2 y2.length B2', .slice B3 y3.length B3']] w fun e w' => e = .returned (.bool (sameH x0 x1 x2 x3 y0 y1 y2 y3)) ∧ Below w.heap.size w w' := by
  obtain ⟨b0, e0⟩ : ∃ b, sameBy (diffSession x0 y0) x0 y0 = b := ⟨_, rfl⟩
  obtain ⟨b1, e1⟩ : ∃ b, sameBy (diffListen x1 y1) x1 y1 = b := ⟨_, rfl⟩
  obtain ⟨b2, e2⟩ : ∃ b, sameBy (diffQueue x2 y2) x2 y2 = b := ⟨_, rfl⟩
  obtain ⟨b3, e3⟩ : ∃ b, sameBy (diffLease x3 y3) x3 y3 = b := ⟨_, rfl⟩
  have hE0 := fun w2 h2 h3 => equalF_Session A0 A0' x0 B0 B0' y0 w2 h2 hx0' h3 hy0' lx0 ly0 lxi lyi
  rw [e0] at hE0
  have HE0 := Lib.hid hE0
  clear hE0
  have hE1 := fun w2 h2 h3 => equal_Listen A1 A1' x1 B1 B1' y1 w2 h2 hx1' h3 hy1' lx1 ly1
  rw [e1] at hE1
  have HE1 := Lib.hid hE1
  clear hE1
  have hE2 := fun w2 h2 h3 => equalF_Queue A2 A2' x2 B2 B2' y2 w2 h2 hx2' h3 hy2' lx2 ly2 lxk lyk
  rw [e2] at hE2
  have HE2 := Lib.hid hE2
  clear hE2
  have hE3 := fun w2 h2 h3 => equal_Lease A3 A3' x3 B3 B3' y3 w2 h2 hx3' h3 hy3' lx3 ly3
  rw [e3] at hE3
  have HE3 := Lib.hid hE3
  clear hE3
  unfold sameH
  rw [e0, e1, e2, e3]
  clear e0 e1 e2 e3
  have HX0 := Lib.hid hx0
  have HY0 := Lib.hid hy0
  have HX1 := Lib.hid hx1
  have HY1 := Lib.hid hy1
  have HX2 := Lib.hid hx2
  have HY2 := Lib.hid hy2
  have HX3 := Lib.hid hx3
  have HY3 := Lib.hid hy3
  clear hx0 hx1 hx2 hx3 hy0 hy1 hy2 hy3
  cases b0 with
  | false =>
    go_enter Try.func17, Try.ntmps17
    go_wp2_with (first | (go_at_call 81; refine (HE0.out _ (Kd.C_below HX0.out (by repeat (first | exact Below.refl _ _ | apply bl_alloc | apply bl_drewN | apply bl_drew | refine bl_set ?_ (by simp) | refine bl_then ?_ (by assumption)))) (Kd.C_below HY0.out (by repeat (first | exact Below.refl _ _ | apply bl_alloc | apply bl_drewN | apply bl_drew | refine bl_set ?_ (by simp) | refine bl_then ?_ (by assumption))))).mono ?_; rintro e w' ⟨rfl, hb⟩; obtain ⟨hc, hf⟩ := bcell hb; have hz : w.heap.size + 1 < w'.heap.size := (by have := hb.size; (try simp at this); omega); have hz2 : w.heap.size < w'.heap.size := (by omega)) | (go_at_call 82; refine (HE1.out _ (Kd.C_below HX1.out (by repeat (first | exact Below.refl _ _ | apply bl_alloc | apply bl_drewN | apply bl_drew | refine bl_set ?_ (by simp) | refine bl_then ?_ (by assumption)))) (Kd.C_below HY1.out (by repeat (first | exact Below.refl _ _ | apply bl_alloc | apply bl_drewN | apply bl_drew | refine bl_set ?_ (by simp) | refine bl_then ?_ (by assumption))))).mono ?_; rintro e w' ⟨rfl, hb⟩; obtain ⟨hc, hf⟩ := bcell hb; have hz : w.heap.size + 1 < w'.heap.size := (by have := hb.size; (try simp at this); omega); have hz2 : w.heap.size < w'.heap.size := (by omega)) | (go_at_call 83; refine (HE2.out _ (Kd.C_below HX2.out (by repeat (first | exact Below.refl _ _ | apply bl_alloc | apply bl_drewN | apply bl_drew | refine bl_set ?_ (by simp) | refine bl_then ?_ (by assumption)))) (Kd.C_below HY2.out (by repeat (first | exact Below.refl _ _ | apply bl_alloc | apply bl_drewN | apply bl_drew | refine bl_set ?_ (by simp) | refine bl_then ?_ (by assumption))))).mono ?_; rintro e w' ⟨rfl, hb⟩; obtain ⟨hc, hf⟩ := bcell hb; have hz : w.heap.size + 1 < w'.heap.size := (by have := hb.size; (try simp at this); omega); have hz2 : w.heap.size < w'.heap.size := (by omega)) | (go_at_call 84; refine (HE3.out _ (Kd.C_below HX3.out (by repeat (first | exact Below.refl _ _ | apply bl_alloc | apply bl_drewN | apply bl_drew | refine bl_set ?_ (by simp) | refine bl_then ?_ (by assumption)))) (Kd.C_below HY3.out (by repeat (first | exact Below.refl _ _ | apply bl_alloc | apply bl_drewN | apply bl_drew | refine bl_set ?_ (by simp) | refine bl_then ?_ (by assumption))))).mono ?_; rintro e w' ⟨rfl, hb⟩; obtain ⟨hc, hf⟩ := bcell hb; have hz : w.heap.size + 1 < w'.heap.size := (by have := hb.size; (try simp at this); omega); have hz2 : w.heap.size < w'.heap.size := (by omega)))
    go_ret
    exact ⟨rfl, (by repeat (first | exact Below.refl _ _ | apply bl_alloc | apply bl_drewN | apply bl_drew | refine bl_set ?_ (by simp) | refine bl_then ?_ (by assumption)))⟩
  | true =>
    cases b1 with
    | false =>
      go_enter Try.func17, Try.ntmps17
      go_wp2_with (first | (go_at_call 81; refine (HE0.out _ (Kd.C_below HX0.out (by repeat (first | exact Below.refl _ _ | apply bl_alloc | apply bl_drewN | apply bl_drew | refine bl_set ?_ (by simp) | refine bl_then ?_ (by assumption)))) (Kd.C_below HY0.out (by repeat (first | exact Below.refl _ _ | apply bl_alloc | apply bl_drewN | apply bl_drew | refine bl_set ?_ (by simp) | refine bl_then ?_ (by assumption))))).mono ?_; rintro e w' ⟨rfl, hb⟩; obtain ⟨hc, hf⟩ := bcell hb; have hz : w.heap.size + 1 < w'.heap.size := (by have := hb.size; (try simp at this); omega); have hz2 : w.heap.size < w'.heap.size := (by omega)) | (go_at_call 82; refine (HE1.out _ (Kd.C_below HX1.out (by repeat (first | exact Below.refl _ _ | apply bl_alloc | apply bl_drewN | apply bl_drew | refine bl_set ?_ (by simp) | refine bl_then ?_ (by assumption)))) (Kd.C_below HY1.out (by repeat (first | exact Below.refl _ _ | apply bl_alloc | apply bl_drewN | apply bl_drew | refine bl_set ?_ (by simp) | refine bl_then ?_ (by assumption))))).mono ?_; rintro e w' ⟨rfl, hb⟩; obtain ⟨hc, hf⟩ := bcell hb; have hz : w.heap.size + 1 < w'.heap.size := (by have := hb.size; (try simp at this); omega); have hz2 : w.heap.size < w'.heap.size := (by omega)) | (go_at_call 83; refine (HE2.out _ (Kd.C_below HX2.out (by repeat (first | exact Below.refl _ _ | apply bl_alloc | apply bl_drewN | apply bl_drew | refine bl_set ?_ (by simp) | refine bl_then ?_ (by assumption)))) (Kd.C_below HY2.out (by repeat (first | exact Below.refl _ _ | apply bl_alloc | apply bl_drewN | apply bl_drew | refine bl_set ?_ (by simp) | refine bl_then ?_ (by assumption))))).mono ?_; rintro e w' ⟨rfl, hb⟩; obtain ⟨hc, hf⟩ := bcell hb; have hz : w.heap.size + 1 < w'.heap.size := (by have := hb.size; (try simp at this); omega); have hz2 : w.heap.size < w'.heap.size := (by omega)) | (go_at_call 84; refine (HE3.out _ (Kd.C_below HX3.out (by repeat (first | exact Below.refl _ _ | apply bl_alloc | apply bl_drewN | apply bl_drew | refine bl_set ?_ (by simp) | refine bl_then ?_ (by assumption)))) (Kd.C_below HY3.out (by repeat (first | exact Below.refl _ _ | apply bl_alloc | apply bl_drewN | apply bl_drew | refine bl_set ?_ (by simp) | refine bl_then ?_ (by assumption))))).mono ?_; rintro e w' ⟨rfl, hb⟩; obtain ⟨hc, hf⟩ := bcell hb; have hz : w.heap.size + 1 < w'.heap.size := (by have := hb.size; (try simp at this); omega); have hz2 : w.heap.size < w'.heap.size := (by omega)))
      go_ret
      exact ⟨rfl, (by repeat (first | exact Below.refl _ _ | apply bl_alloc | apply bl_drewN | apply bl_drew | refine bl_set ?_ (by simp) | refine bl_then ?_ (by assumption)))⟩
    | true =>
      cases b2 with
      | false =>
        go_enter Try.func17, Try.ntmps17
        go_wp2_with (first | (go_at_call 81; refine (HE0.out _ (Kd.C_below HX0.out (by repeat (first | exact Below.refl _ _ | apply bl_alloc | apply bl_drewN | apply bl_drew | refine bl_set ?_ (by simp) | refine bl_then ?_ (by assumption)))) (Kd.C_below HY0.out (by repeat (first | exact Below.refl _ _ | apply bl_alloc | apply bl_drewN | apply bl_drew | refine bl_set ?_ (by simp) | refine bl_then ?_ (by assumption))))).mono ?_; rintro e w' ⟨rfl, hb⟩; obtain ⟨hc, hf⟩ := bcell hb; have hz : w.heap.size + 1 < w'.heap.size := (by have := hb.size; (try simp at this); omega); have hz2 : w.heap.size < w'.heap.size := (by omega)) | (go_at_call 82; refine (HE1.out _ (Kd.C_below HX1.out (by repeat (first | exact Below.refl _ _ | apply bl_alloc | apply bl_drewN | apply bl_drew | refine bl_set ?_ (by simp) | refine bl_then ?_ (by assumption)))) (Kd.C_below HY1.out (by repeat (first | exact Below.refl _ _ | apply bl_alloc | apply bl_drewN | apply bl_drew | refine bl_set ?_ (by simp) | refine bl_then ?_ (by assumption))))).mono ?_; rintro e w' ⟨rfl, hb⟩; obtain ⟨hc, hf⟩ := bcell hb; have hz : w.heap.size + 1 < w'.heap.size := (by have := hb.size; (try simp at this); omega); have hz2 : w.heap.size < w'.heap.size := (by omega)) | (go_at_call 83; refine (HE2.out _ (Kd.C_below HX2.out (by repeat (first | exact Below.refl _ _ | apply bl_alloc | apply bl_drewN | apply bl_drew | refine bl_set ?_ (by simp) | refine bl_then ?_ (by assumption)))) (Kd.C_below HY2.out (by repeat (first | exact Below.refl _ _ | apply bl_alloc | apply bl_drewN | apply bl_drew | refine bl_set ?_ (by simp) | refine bl_then ?_ (by assumption))))).mono ?_; rintro e w' ⟨rfl, hb⟩; obtain ⟨hc, hf⟩ := bcell hb; have hz : w.heap.size + 1 < w'.heap.size := (by have := hb.size; (try simp at this); omega); have hz2 : w.heap.size < w'.heap.size := (by omega)) | (go_at_call 84; refine (HE3.out _ (Kd.C_below HX3.out (by repeat (first | exact Below.refl _ _ | apply bl_alloc | apply bl_drewN | apply bl_drew | refine bl_set ?_ (by simp) | refine bl_then ?_ (by assumption)))) (Kd.C_below HY3.out (by repeat (first | exact Below.refl _ _ | apply bl_alloc | apply bl_drewN | apply bl_drew | refine bl_set ?_ (by simp) | refine bl_then ?_ (by assumption))))).mono ?_; rintro e w' ⟨rfl, hb⟩; obtain ⟨hc, hf⟩ := bcell hb; have hz : w.heap.size + 1 < w'.heap.size := (by have := hb.size; (try simp at this); omega); have hz2 : w.heap.size < w'.heap.size := (by omega)))
        go_ret
        exact ⟨rfl, (by repeat (first | exact Below.refl _ _ | apply bl_alloc | apply bl_drewN | apply bl_drew | refine bl_set ?_ (by simp) | refine bl_then ?_ (by assumption)))⟩
      | true =>
        cases b3 with
        | false =>
          go_enter Try.func17, Try.ntmps17
          go_wp2_with (first | (go_at_call 81; refine (HE0.out _ (Kd.C_below HX0.out (by repeat (first | exact Below.refl _ _ | apply bl_alloc | apply bl_drewN | apply bl_drew | refine bl_set ?_ (by simp) | refine bl_then ?_ (by assumption)))) (Kd.C_below HY0.out (by repeat (first | exact Below.refl _ _ | apply bl_alloc | apply bl_drewN | apply bl_drew | refine bl_set ?_ (by simp) | refine bl_then ?_ (by assumption))))).mono ?_; rintro e w' ⟨rfl, hb⟩; obtain ⟨hc, hf⟩ := bcell hb; have hz : w.heap.size + 1 < w'.heap.size := (by have := hb.size; (try simp at this); omega); have hz2 : w.heap.size < w'.heap.size := (by omega)) | (go_at_call 82; refine (HE1.out _ (Kd.C_below HX1.out (by repeat (first | exact Below.refl _ _ | apply bl_alloc | apply bl_drewN | apply bl_drew | refine bl_set ?_ (by simp) | refine bl_then ?_ (by assumption)))) (Kd.C_below HY1.out (by repeat (first | exact Below.refl _ _ | apply bl_alloc | apply bl_drewN | apply bl_drew | refine bl_set ?_ (by simp) | refine bl_then ?_ (by assumption))))).mono ?_; rintro e w' ⟨rfl, hb⟩; obtain ⟨hc, hf⟩ := bcell hb; have hz : w.heap.size + 1 < w'.heap.size := (by have := hb.size; (try simp at this); omega); have hz2 : w.heap.size < w'.heap.size := (by omega)) | (go_at_call 83; refine (HE2.out _ (Kd.C_below HX2.out (by repeat (first | exact Below.refl _ _ | apply bl_alloc | apply bl_drewN | apply bl_drew | refine bl_set ?_ (by simp) | refine bl_then ?_ (by assumption)))) (Kd.C_below HY2.out (by repeat (first | exact Below.refl _ _ | apply bl_alloc | apply bl_drewN | apply bl_drew | refine bl_set ?_ (by simp) | refine bl_then ?_ (by assumption))))).mono ?_; rintro e w' ⟨rfl, hb⟩; obtain ⟨hc, hf⟩ := bcell hb; have hz : w.heap.size + 1 < w'.heap.size := (by have := hb.size; (try simp at this); omega); have hz2 : w.heap.size < w'.heap.size := (by omega)) | (go_at_call 84; refine (HE3.out _ (Kd.C_below HX3.out (by repeat (first | exact Below.refl _ _ | apply bl_alloc | apply bl_drewN | apply bl_drew | refine bl_set ?_ (by simp) | refine bl_then ?_ (by assumption)))) (Kd.C_below HY3.out (by repeat (first | exact Below.refl _ _ | apply bl_alloc | apply bl_drewN | apply bl_drew | refine bl_set ?_ (by simp) | refine bl_then ?_ (by assumption))))).mono ?_; rintro e w' ⟨rfl, hb⟩; obtain ⟨hc, hf⟩ := bcell hb; have hz : w.heap.size + 1 < w'.heap.size := (by have := hb.size; (try simp at this); omega); have hz2 : w.heap.size < w'.heap.size := (by omega)))
          go_ret
          exact ⟨rfl, (by repeat (first | exact Below.refl _ _ | apply bl_alloc | apply bl_drewN | apply bl_drew | refine bl_set ?_ (by simp) | refine bl_then ?_ (by assumption)))⟩
        | true =>
          go_enter Try.func17, Try.ntmps17
          go_wp2_with (first | (go_at_call 81; refine (HE0.out _ (Kd.C_below HX0.out (by repeat (first | exact Below.refl _ _ | apply bl_alloc | apply bl_drewN | apply bl_drew | refine bl_set ?_ (by simp) | refine bl_then ?_ (by assumption)))) (Kd.C_below HY0.out (by repeat (first | exact Below.refl _ _ | apply bl_alloc | apply bl_drewN | apply bl_drew | refine bl_set ?_ (by simp) | refine bl_then ?_ (by assumption))))).mono ?_; rintro e w' ⟨rfl, hb⟩; obtain ⟨hc, hf⟩ := bcell hb; have hz : w.heap.size + 1 < w'.heap.size := (by have := hb.size; (try simp at this); omega); have hz2 : w.heap.size < w'.heap.size := (by omega)) | (go_at_call 82; refine (HE1.out _ (Kd.C_below HX1.out (by repeat (first | exact Below.refl _ _ | apply bl_alloc | apply bl_drewN | apply bl_drew | refine bl_set ?_ (by simp) | refine bl_then ?_ (by assumption)))) (Kd.C_below HY1.out (by repeat (first | exact Below.refl _ _ | apply bl_alloc | apply bl_drewN | apply bl_drew | refine bl_set ?_ (by simp) | refine bl_then ?_ (by assumption))))).mono ?_; rintro e w' ⟨rfl, hb⟩; obtain ⟨hc, hf⟩ := bcell hb; have hz : w.heap.size + 1 < w'.heap.size := (by have := hb.size; (try simp at this); omega); have hz2 : w.heap.size < w'.heap.size := (by omega)) | (go_at_call 83; refine (HE2.out _ (Kd.C_below HX2.out (by repeat (first | exact Below.refl _ _ | apply bl_alloc | apply bl_drewN | apply bl_drew | refine bl_set ?_ (by simp) | refine bl_then ?_ (by assumption)))) (Kd.C_below HY2.out (by repeat (first | exact Below.refl _ _ | apply bl_alloc | apply bl_drewN | apply bl_drew | refine bl_set ?_ (by simp) | refine bl_then ?_ (by assumption))))).mono ?_; rintro e w' ⟨rfl, hb⟩; obtain ⟨hc, hf⟩ := bcell hb; have hz : w.heap.size + 1 < w'.heap.size := (by have := hb.size; (try simp at this); omega); have hz2 : w.heap.size < w'.heap.size := (by omega)) | (go_at_call 84; refine (HE3.out _ (Kd.C_below HX3.out (by repeat (first | exact Below.refl _ _ | apply bl_alloc | apply bl_drewN | apply bl_drew | refine bl_set ?_ (by simp) | refine bl_then ?_ (by assumption)))) (Kd.C_below HY3.out (by repeat (first | exact Below.refl _ _ | apply bl_alloc | apply bl_drewN | apply bl_drew | refine bl_set ?_ (by simp) | refine bl_then ?_ (by assumption))))).mono ?_; rintro e w' ⟨rfl, hb⟩; obtain ⟨hc, hf⟩ := bcell hb; have hz : w.heap.size + 1 < w'.heap.size := (by have := hb.size; (try simp at this); omega); have hz2 : w.heap.size < w'.heap.size := (by omega)))
          go_ret
          exact ⟨rfl, (by repeat (first | exact Below.refl _ _ | apply bl_alloc | apply bl_drewN | apply bl_drew | refine bl_set ?_ (by simp) | refine bl_then ?_ (by assumption)))⟩

section
attribute [local go_sem high] eqSTold
set_option maxHeartbeats 4000000 in
set_option maxRecDepth 100000 in
theorem specSame_Session (A0 A1 A2 A3 B0 B1 B2 B3 : Option Addr) (A0' A1' A2' A3' B0' B1' B2' B3' m0 m1 m2 m3 n0 n1 n2 n3 : Nat) (xs ys : List S120) (w : World) (hr0 : Kd.C k120 w A0 xs.length xs) (hr1 : Kd.C k120 w B0 ys.length ys) (hl0 : xs.length ≤ 1048576) (hl1 : ys.length ≤ 1048576)
    (hs0 : ∀ j : Nat, (rd_T120 xs (j : Int)).f2.length ≤ 1048576) (hs1 : ∀ j : Nat, (rd_T120 ys (j : Int)).f2.length ≤ 1048576) :
    Calls Try.prog 71 #[.agg #[.slice A0 xs.length A0', .slice A1 m1 A1', .slice A2 m2 A2', .slice A3 m3 A3'], .agg #[.slice B0 ys.length B0', .slice B1 n1 B1', .slice B2 n2 B2', .slice B3 n3 B3']] w fun e w' => e = .returned (.bool (sameBy (diffSession xs ys) xs ys)) ∧ Below w.heap.size w w' := by
  have HR0 := Lib.hid hr0
  have HR1 := Lib.hid hr1
  clear hr0 hr1
  cases hn : xs.length == ys.length with
  | false =>
    rw [sameBy_ne hn]
    obtain ⟨e1, e2⟩ := lens false hn
    go_enter Try.func71, Try.ntmps71
    go_wp2
    go_ret
    exact ⟨rfl, (by repeat (first | exact Below.refl _ _ | apply bl_alloc | apply bl_drewN | apply bl_drew | refine bl_set ?_ (by simp) | refine bl_then ?_ (by assumption)))⟩
  | true =>
    rw [sameBy_eq hn]
    obtain ⟨e1, e2⟩ := lens true hn
    have hlen := beq_iff_eq.1 hn
    obtain ⟨r, hr⟩ : ∃ r, Hid (allFrom (diffSession xs ys) 0 xs.length = r) := ⟨_, Lib.hid rfl⟩
    rw [hr.out]
    have Hlen := Lib.hid hlen
    have HS0 := Lib.hid hs0
    have HS1 := Lib.hid hs1
    clear hlen hs0 hs1
    go_enter Try.func71, Try.ntmps71
    go_wp2
    clear e1 e2 hn
    obtain ⟨X, hX⟩ : ∃ X, X = (w.alloc (.cells #[.slice A0 xs.length A0', .slice A1 m1 A1', .slice A2 m2 A2', .slice A3 m3 A3'] 48)).alloc (.cells #[.slice B0 ys.length B0', .slice B1 n1 B1', .slice B2 n2 B2', .slice B3 n3 B3'] 48) := ⟨_, rfl⟩
    have KA : Blk 48 w.heap.size #[.slice A0 xs.length A0', .slice A1 m1 A1', .slice A2 m2 A2', .slice A3 m3 A3'] X := by rw [hX]; exact (Blk.new _ _ w).alloc _
    have KB : Blk 48 (w.heap.size + 1) #[.slice B0 ys.length B0', .slice B1 n1 B1', .slice B2 n2 B2', .slice B3 n3 B3'] X := by rw [hX]; exact Blk.newE _ _ _ (by simp)
    have HX : Below w.heap.size w X := by rw [hX]; exact (by repeat (first | exact Below.refl _ _ | apply bl_alloc | apply bl_drewN | apply bl_drew | refine bl_set ?_ (by simp) | refine bl_then ?_ (by assumption)))
    rw [← hX]
    clear hX
    go_loopg [5] xs.length (fun kq v5 w' => ∃ i : Nat, v5 = .int .i64 (i : Int) ∧ i + kq = xs.length ∧ Hid (allFrom (diffSession xs ys) i kq = r) ∧ Below X.heap.size X w')
    case atStart => exact ⟨0, rfl, by omega, hr, Below.refl _ _⟩
    case round =>
      obtain ⟨i, rfl, hik, hix, hb⟩ := hrel
      clear hr
      obtain ⟨wo, rfl⟩ : ∃ wo : World, wo = wr := ⟨_, rfl⟩
      have ka : wo.cell? ⟨w.heap.size, 0, none⟩ = some (.slice A0 xs.length A0') := (KA.below hb).cell 0 rfl
      have kb : wo.cell? ⟨w.heap.size + 1, 0, none⟩ = some (.slice B0 ys.length B0') := (KB.below hb).cell 0 rfl
      have la := (KA.below hb).lt
      have lb := (KB.below hb).lt
      cases gk with
      | zero =>
        have hlt : ¬ ((i : Int) < (xs.length : Int)) := by omega
        have hrv := hix.out
        simp only [allFrom] at hrv
        subst hrv
        clear hix
        go_wp2
        go_ret
        exact ⟨rfl, bl_then HX hb⟩
      | succ n =>
        have hlt : (i : Int) < (xs.length : Int) := by omega
        have hlt2 : (i : Int) < (ys.length : Int) := by have := Hlen.out; omega
        obtain ⟨ad, A2, c2, e1, x0, x1, x2, hx2, C2⟩ := at_T120 (Kd.C_below HR0.out (bl_then HX hb)) i (by omega) hlt
        obtain ⟨bd, B2, d2, e2, y0, y1, y2, hy2, D2⟩ := at_T120 (Kd.C_below HR1.out (bl_then HX hb)) i (by omega) hlt2
        subst e1
        subst e2
        simp only [Int.toNat_natCast] at x0 x1 x2 y0 y1 y2
        have lx : (ad.add (i * 3)).block < wo.heap.size := World.block_lt_of_cell? wo _ x0
        have ly : (bd.add (i * 3)).block < wo.heap.size := World.block_lt_of_cell? wo _ y0
        have HC2 := Lib.hid C2
        have HD2 := Lib.hid D2
        clear C2 D2
        have E1 := Lib.hid (show wrap64 ((i : Int) + 1) = ((i + 1 : Nat) : Int) from by unfold wrap64; omega)
        have hrv := hix.out
        simp only [allFrom, diffSession] at hrv
        clear hix
        cases h0 : (rd_T120 xs (i : Int)).f0 == (rd_T120 ys (i : Int)).f0 with
        | false =>
          rw [h0] at hrv
          simp only [Bool.not_false, Bool.true_or, Bool.not_true, Bool.false_and] at hrv
          subst hrv
          have h0' := bne_not h0
          simp only [Bool.not_false] at h0'
          go_wp2
          go_ret
          exact ⟨rfl, bl_then HX (bl_then hb (by repeat (first | exact Below.refl _ _ | apply bl_alloc | apply bl_drewN | apply bl_drew | refine bl_set ?_ (by simp) | refine bl_then ?_ (by assumption))))⟩
        | true =>
          rw [h0] at hrv
          have h0' := bne_not h0
          simp only [Bool.not_true] at h0'
          cases h1 : (rd_T120 xs (i : Int)).f1 == (rd_T120 ys (i : Int)).f1 with
          | false =>
            rw [h1] at hrv
            simp only [Bool.not_false, Bool.true_or, Bool.not_true, Bool.false_and, Bool.false_or] at hrv
            subst hrv
            have h1' := bne_not h1
            simp only [Bool.not_false] at h1'
            go_wp2
            go_ret
            exact ⟨rfl, bl_then HX (bl_then hb (by repeat (first | exact Below.refl _ _ | apply bl_alloc | apply bl_drewN | apply bl_drew | refine bl_set ?_ (by simp) | refine bl_then ?_ (by assumption))))⟩
          | true =>
            rw [h1] at hrv
            have h1' := bne_not h1
            simp only [Bool.not_true] at h1'
            cases h2 : (rd_T120 xs (i : Int)).f2.length == (rd_T120 ys (i : Int)).f2.length with
            | false =>
              rw [sameBy_ne h2] at hrv
              simp only [Bool.not_false, Bool.true_or, Bool.not_true, Bool.false_and, Bool.false_or] at hrv
              subst hrv
              obtain ⟨p1, p2⟩ := lens false h2
              simp only [Bool.not_false] at p2
              go_wp2
              go_ret
              exact ⟨rfl, bl_then HX (bl_then hb (by repeat (first | exact Below.refl _ _ | apply bl_alloc | apply bl_drewN | apply bl_drew | refine bl_set ?_ (by simp) | refine bl_then ?_ (by assumption))))⟩
            | true =>
              rw [sameBy_eq h2] at hrv
              simp only [Bool.not_true, Bool.false_or, Bool.not_not] at hrv
              obtain ⟨p1, p2⟩ := lens true h2
              simp only [Bool.not_true] at p2
              have HL2 := Lib.hid (beq_iff_eq.1 h2)
              obtain ⟨rr, hrr⟩ : ∃ rr, Hid (allFrom (diffTold (rd_T120 xs (i : Int)).f2 (rd_T120 ys (i : Int)).f2) 0 (rd_T120 xs (i : Int)).f2.length = rr) := ⟨_, Lib.hid rfl⟩
              rw [hrr.out] at hrv
              have hrvH := Lib.hid hrv
              clear hrv h2
              go_wp2
              clear h0 h0' h1 h1' p1 p2 x0 x1 x2 y0 y1 y2
              obtain ⟨Y, hY⟩ : ∃ Y, Y = (wo.alloc (.cells #[.int .i64 (rd_T120 xs (i : Int)).f0, .int .i64 (rd_T120 xs (i : Int)).f1, .slice A2 (rd_T120 xs (i : Int)).f2.length c2] 120)).alloc (.cells #[.int .i64 (rd_T120 ys (i : Int)).f0, .int .i64 (rd_T120 ys (i : Int)).f1, .slice B2 (rd_T120 ys (i : Int)).f2.length d2] 120) := ⟨_, rfl⟩
              have KX : Blk 120 wo.heap.size #[.int .i64 (rd_T120 xs (i : Int)).f0, .int .i64 (rd_T120 xs (i : Int)).f1, .slice A2 (rd_T120 xs (i : Int)).f2.length c2] Y := by rw [hY]; exact (Blk.new _ _ wo).alloc _
              have KY : Blk 120 (wo.heap.size + 1) #[.int .i64 (rd_T120 ys (i : Int)).f0, .int .i64 (rd_T120 ys (i : Int)).f1, .slice B2 (rd_T120 ys (i : Int)).f2.length d2] Y := by rw [hY]; exact Blk.newE _ _ _ (by simp)
              have HY : Below wo.heap.size wo Y := by rw [hY]; exact (by repeat (first | exact Below.refl _ _ | apply bl_alloc | apply bl_drewN | apply bl_drew | refine bl_set ?_ (by simp) | refine bl_then ?_ (by assumption)))
              rw [← hY]
              clear hY ka kb la lb
              go_loopg [8] (rd_T120 xs (i : Int)).f2.length (fun kq v8 w' => ∃ j : Nat, v8 = .int .i64 (j : Int) ∧ j + kq = (rd_T120 xs (i : Int)).f2.length ∧ Hid (allFrom (diffTold (rd_T120 xs (i : Int)).f2 (rd_T120 ys (i : Int)).f2) j kq = rr) ∧ Below Y.heap.size Y w')
              case atStart => exact ⟨0, rfl, by omega, hrr, Below.refl _ _⟩
              case round =>
                obtain ⟨j, rfl, hjk, hjx, hbi⟩ := hrel
                clear hrr
                have sx := HS0.out i
                have kx : wr.cell? ⟨wo.heap.size, 2, none⟩ = some (.slice A2 (rd_T120 xs (i : Int)).f2.length c2) := (KX.below hbi).cell 2 rfl
                have ky : wr.cell? ⟨wo.heap.size + 1, 2, none⟩ = some (.slice B2 (rd_T120 ys (i : Int)).f2.length d2) := (KY.below hbi).cell 2 rfl
                cases gk with
                | zero =>
                  have hlt3 : ¬ ((j : Int) < ((rd_T120 xs (i : Int)).f2.length : Int)) := by omega
                  have hrv := hjx.out
                  simp only [allFrom] at hrv
                  subst hrv
                  have hix2 := hrvH.out
                  simp only [Bool.true_and] at hix2
                  have hix3 := Lib.hid hix2
                  clear hix2 hjx hrvH
                  go_wp2
                  go_roundg n
                  case measure => omega
                  case rel => exact ⟨i + 1, by first | rfl | (rw [E1.out]), by omega, hix3, bl_then hb (bl_then HY (by repeat (first | exact Below.refl _ _ | apply bl_alloc | apply bl_drewN | apply bl_drew | refine bl_set ?_ (by simp) | refine bl_then ?_ (by assumption))))⟩
                | succ m =>
                  have hlt3 : (j : Int) < ((rd_T120 xs (i : Int)).f2.length : Int) := by omega
                  have hlt4 : (j : Int) < ((rd_T120 ys (i : Int)).f2.length : Int) := by have := HL2.out; omega
                  obtain ⟨ud, eu, u0, u1⟩ := at_T123 (Kd.C_below HC2.out (bl_then HY hbi)) j (by omega) hlt3
                  obtain ⟨vd, ev, v0, v1⟩ := at_T123 (Kd.C_below HD2.out (bl_then HY hbi)) j (by omega) hlt4
                  subst eu
                  subst ev
                  simp only [Int.toNat_natCast] at u0 u1 v0 v1
                  have E2 := Lib.hid (show wrap64 ((j : Int) + 1) = ((j + 1 : Nat) : Int) from by unfold wrap64; omega)
                  have hrv := hjx.out
                  simp only [allFrom] at hrv
                  cases hp : diffTold (rd_T120 xs (i : Int)).f2 (rd_T120 ys (i : Int)).f2 j with
                  | true =>
                    rw [hp] at hrv
                    simp only [Bool.not_true, Bool.false_and] at hrv
                    subst hrv
                    have hr2 := hrvH.out
                    simp only [Bool.false_and] at hr2
                    subst hr2
                    have hp' : (!((rd_T123 (rd_T120 xs (i : Int)).f2 (j : Int)).f0 == (rd_T123 (rd_T120 ys (i : Int)).f2 (j : Int)).f0) || (!((rd_T123 (rd_T120 xs (i : Int)).f2 (j : Int)).f1.toList == (rd_T123 (rd_T120 ys (i : Int)).f2 (j : Int)).f1.toList))) = true := hp
                    clear hjx hp hrvH
                    go_wp2
                    repeat (go_quiet (fail); try go_wp2)
                    go_ret
                    exact ⟨rfl, bl_then HX (bl_then hb (bl_then HY (bl_then hbi (by repeat (first | exact Below.refl _ _ | apply bl_alloc | apply bl_drewN | apply bl_drew | refine bl_set ?_ (by simp) | refine bl_then ?_ (by assumption))))))⟩
                  | false =>
                    rw [hp] at hrv
                    simp only [Bool.not_false, Bool.true_and] at hrv
                    have hp' : (!((rd_T123 (rd_T120 xs (i : Int)).f2 (j : Int)).f0 == (rd_T123 (rd_T120 ys (i : Int)).f2 (j : Int)).f0) || (!((rd_T123 (rd_T120 xs (i : Int)).f2 (j : Int)).f1.toList == (rd_T123 (rd_T120 ys (i : Int)).f2 (j : Int)).f1.toList))) = false := hp
                    have hjx2 := Lib.hid hrv
                    clear hjx hp hrv
                    go_wp2
                    repeat (go_quiet (fail); try go_wp2)
                    go_roundg m
                    case measure => omega
                    case rel => exact ⟨j + 1, by first | rfl | (rw [E2.out]), by omega, hjx2, bl_then hbi (by repeat (first | exact Below.refl _ _ | apply bl_alloc | apply bl_drewN | apply bl_drew | refine bl_set ?_ (by simp) | refine bl_then ?_ (by assumption)))⟩
end

section
set_option maxHeartbeats 4000000 in
set_option maxRecDepth 100000 in
theorem specSame_Queue (A0 A1 A2 A3 B0 B1 B2 B3 : Option Addr) (A0' A1' A2' A3' B0' B1' B2' B3' m0 m1 m2 m3 n0 n1 n2 n3 : Nat) (xs ys : List S127) (w : World) (hr0 : Kd.C k127 w A2 xs.length xs) (hr1 : Kd.C k127 w B2 ys.length ys) (hl0 : xs.length ≤ 1048576) (hl1 : ys.length ≤ 1048576)
    (hs0 : ∀ j : Nat, (rd_T127 xs (j : Int)).f2.length ≤ 1048576) (hs1 : ∀ j : Nat, (rd_T127 ys (j : Int)).f2.length ≤ 1048576) :
    Calls Try.prog 72 #[.agg #[.slice A0 m0 A0', .slice A1 m1 A1', .slice A2 xs.length A2', .slice A3 m3 A3'], .agg #[.slice B0 n0 B0', .slice B1 n1 B1', .slice B2 ys.length B2', .slice B3 n3 B3']] w fun e w' => e = .returned (.bool (sameBy (diffQueue xs ys) xs ys)) ∧ Below w.heap.size w w' := by
  have HR0 := Lib.hid hr0
  have HR1 := Lib.hid hr1
  clear hr0 hr1
  cases hn : xs.length == ys.length with
  | false =>
    rw [sameBy_ne hn]
    obtain ⟨e1, e2⟩ := lens false hn
    go_enter Try.func72, Try.ntmps72
    go_wp2
    go_ret
    exact ⟨rfl, (by repeat (first | exact Below.refl _ _ | apply bl_alloc | apply bl_drewN | apply bl_drew | refine bl_set ?_ (by simp) | refine bl_then ?_ (by assumption)))⟩
  | true =>
    rw [sameBy_eq hn]
    obtain ⟨e1, e2⟩ := lens true hn
    have hlen := beq_iff_eq.1 hn
    obtain ⟨r, hr⟩ : ∃ r, Hid (allFrom (diffQueue xs ys) 0 xs.length = r) := ⟨_, Lib.hid rfl⟩
    rw [hr.out]
    have Hlen := Lib.hid hlen
    have HS0 := Lib.hid hs0
    have HS1 := Lib.hid hs1
    clear hlen hs0 hs1
    go_enter Try.func72, Try.ntmps72
    go_wp2
    clear e1 e2 hn
    obtain ⟨X, hX⟩ : ∃ X, X = (w.alloc (.cells #[.slice A0 m0 A0', .slice A1 m1 A1', .slice A2 xs.length A2', .slice A3 m3 A3'] 48)).alloc (.cells #[.slice B0 n0 B0', .slice B1 n1 B1', .slice B2 ys.length B2', .slice B3 n3 B3'] 48) := ⟨_, rfl⟩
    have KA : Blk 48 w.heap.size #[.slice A0 m0 A0', .slice A1 m1 A1', .slice A2 xs.length A2', .slice A3 m3 A3'] X := by rw [hX]; exact (Blk.new _ _ w).alloc _
    have KB : Blk 48 (w.heap.size + 1) #[.slice B0 n0 B0', .slice B1 n1 B1', .slice B2 ys.length B2', .slice B3 n3 B3'] X := by rw [hX]; exact Blk.newE _ _ _ (by simp)
    have HX : Below w.heap.size w X := by rw [hX]; exact (by repeat (first | exact Below.refl _ _ | apply bl_alloc | apply bl_drewN | apply bl_drew | refine bl_set ?_ (by simp) | refine bl_then ?_ (by assumption)))
    rw [← hX]
    clear hX
    go_loopg [5] xs.length (fun kq v5 w' => ∃ i : Nat, v5 = .int .i64 (i : Int) ∧ i + kq = xs.length ∧ Hid (allFrom (diffQueue xs ys) i kq = r) ∧ Below X.heap.size X w')
    case atStart => exact ⟨0, rfl, by omega, hr, Below.refl _ _⟩
    case round =>
      obtain ⟨i, rfl, hik, hix, hb⟩ := hrel
      clear hr
      obtain ⟨wo, rfl⟩ : ∃ wo : World, wo = wr := ⟨_, rfl⟩
      have ka : wo.cell? ⟨w.heap.size, 2, none⟩ = some (.slice A2 xs.length A2') := (KA.below hb).cell 2 rfl
      have kb : wo.cell? ⟨w.heap.size + 1, 2, none⟩ = some (.slice B2 ys.length B2') := (KB.below hb).cell 2 rfl
      have la := (KA.below hb).lt
      have lb := (KB.below hb).lt
      cases gk with
      | zero =>
        have hlt : ¬ ((i : Int) < (xs.length : Int)) := by omega
        have hrv := hix.out
        simp only [allFrom] at hrv
        subst hrv
        clear hix
        go_wp2
        go_ret
        exact ⟨rfl, bl_then HX hb⟩
      | succ n =>
        have hlt : (i : Int) < (xs.length : Int) := by omega
        have hlt2 : (i : Int) < (ys.length : Int) := by have := Hlen.out; omega
        obtain ⟨ad, A2, c2, e1, x0, x1, x2, hx2, C2⟩ := at_T127 (Kd.C_below HR0.out (bl_then HX hb)) i (by omega) hlt
        obtain ⟨bd, B2, d2, e2, y0, y1, y2, hy2, D2⟩ := at_T127 (Kd.C_below HR1.out (bl_then HX hb)) i (by omega) hlt2
        subst e1
        subst e2
        simp only [Int.toNat_natCast] at x0 x1 x2 y0 y1 y2
        have lx : (ad.add (i * 3)).block < wo.heap.size := World.block_lt_of_cell? wo _ x0
        have ly : (bd.add (i * 3)).block < wo.heap.size := World.block_lt_of_cell? wo _ y0
        have HC2 := Lib.hid C2
        have HD2 := Lib.hid D2
        clear C2 D2
        have E1 := Lib.hid (show wrap64 ((i : Int) + 1) = ((i + 1 : Nat) : Int) from by unfold wrap64; omega)
        have hrv := hix.out
        simp only [allFrom, diffQueue] at hrv
        clear hix
        cases h0 : (rd_T127 xs (i : Int)).f0 == (rd_T127 ys (i : Int)).f0 with
        | false =>
          rw [h0] at hrv
          simp only [Bool.not_false, Bool.true_or, Bool.not_true, Bool.false_and] at hrv
          subst hrv
          have h0' := bne_not h0
          simp only [Bool.not_false] at h0'
          go_wp2
          go_ret
          exact ⟨rfl, bl_then HX (bl_then hb (by repeat (first | exact Below.refl _ _ | apply bl_alloc | apply bl_drewN | apply bl_drew | refine bl_set ?_ (by simp) | refine bl_then ?_ (by assumption))))⟩
        | true =>
          rw [h0] at hrv
          have h0' := bne_not h0
          simp only [Bool.not_true] at h0'
          cases h1 : (rd_T127 xs (i : Int)).f1 == (rd_T127 ys (i : Int)).f1 with
          | false =>
            rw [h1] at hrv
            simp only [Bool.not_false, Bool.true_or, Bool.not_true, Bool.false_and, Bool.false_or] at hrv
            subst hrv
            have h1' := bne_not h1
            simp only [Bool.not_false] at h1'
            go_wp2
            go_ret
            exact ⟨rfl, bl_then HX (bl_then hb (by repeat (first | exact Below.refl _ _ | apply bl_alloc | apply bl_drewN | apply bl_drew | refine bl_set ?_ (by simp) | refine bl_then ?_ (by assumption))))⟩
          | true =>
            rw [h1] at hrv
            have h1' := bne_not h1
            simp only [Bool.not_true] at h1'
            cases h2 : (rd_T127 xs (i : Int)).f2.length == (rd_T127 ys (i : Int)).f2.length with
            | false =>
              rw [sameBy_ne h2] at hrv
              simp only [Bool.not_false, Bool.true_or, Bool.not_true, Bool.false_and, Bool.false_or] at hrv
              subst hrv
              obtain ⟨p1, p2⟩ := lens false h2
              simp only [Bool.not_false] at p2
              go_wp2
              go_ret
              exact ⟨rfl, bl_then HX (bl_then hb (by repeat (first | exact Below.refl _ _ | apply bl_alloc | apply bl_drewN | apply bl_drew | refine bl_set ?_ (by simp) | refine bl_then ?_ (by assumption))))⟩
            | true =>
              rw [sameBy_eq h2] at hrv
              simp only [Bool.not_true, Bool.false_or, Bool.not_not] at hrv
              obtain ⟨p1, p2⟩ := lens true h2
              simp only [Bool.not_true] at p2
              have HL2 := Lib.hid (beq_iff_eq.1 h2)
              obtain ⟨rr, hrr⟩ : ∃ rr, Hid (allFrom (diffString (rd_T127 xs (i : Int)).f2 (rd_T127 ys (i : Int)).f2) 0 (rd_T127 xs (i : Int)).f2.length = rr) := ⟨_, Lib.hid rfl⟩
              rw [hrr.out] at hrv
              have hrvH := Lib.hid hrv
              clear hrv h2
              go_wp2
              clear h0 h0' h1 h1' p1 p2 x0 x1 x2 y0 y1 y2
              obtain ⟨Y, hY⟩ : ∃ Y, Y = (wo.alloc (.cells #[.int .i64 (rd_T127 xs (i : Int)).f0, .int .i64 (rd_T127 xs (i : Int)).f1, .slice A2 (rd_T127 xs (i : Int)).f2.length c2] 127)).alloc (.cells #[.int .i64 (rd_T127 ys (i : Int)).f0, .int .i64 (rd_T127 ys (i : Int)).f1, .slice B2 (rd_T127 ys (i : Int)).f2.length d2] 127) := ⟨_, rfl⟩
              have KX : Blk 127 wo.heap.size #[.int .i64 (rd_T127 xs (i : Int)).f0, .int .i64 (rd_T127 xs (i : Int)).f1, .slice A2 (rd_T127 xs (i : Int)).f2.length c2] Y := by rw [hY]; exact (Blk.new _ _ wo).alloc _
              have KY : Blk 127 (wo.heap.size + 1) #[.int .i64 (rd_T127 ys (i : Int)).f0, .int .i64 (rd_T127 ys (i : Int)).f1, .slice B2 (rd_T127 ys (i : Int)).f2.length d2] Y := by rw [hY]; exact Blk.newE _ _ _ (by simp)
              have HY : Below wo.heap.size wo Y := by rw [hY]; exact (by repeat (first | exact Below.refl _ _ | apply bl_alloc | apply bl_drewN | apply bl_drew | refine bl_set ?_ (by simp) | refine bl_then ?_ (by assumption)))
              rw [← hY]
              clear hY ka kb la lb
              go_loopg [8] (rd_T127 xs (i : Int)).f2.length (fun kq v8 w' => ∃ j : Nat, v8 = .int .i64 (j : Int) ∧ j + kq = (rd_T127 xs (i : Int)).f2.length ∧ Hid (allFrom (diffString (rd_T127 xs (i : Int)).f2 (rd_T127 ys (i : Int)).f2) j kq = rr) ∧ Below Y.heap.size Y w')
              case atStart => exact ⟨0, rfl, by omega, hrr, Below.refl _ _⟩
              case round =>
                obtain ⟨j, rfl, hjk, hjx, hbi⟩ := hrel
                clear hrr
                have sx := HS0.out i
                have kx : wr.cell? ⟨wo.heap.size, 2, none⟩ = some (.slice A2 (rd_T127 xs (i : Int)).f2.length c2) := (KX.below hbi).cell 2 rfl
                have ky : wr.cell? ⟨wo.heap.size + 1, 2, none⟩ = some (.slice B2 (rd_T127 ys (i : Int)).f2.length d2) := (KY.below hbi).cell 2 rfl
                cases gk with
                | zero =>
                  have hlt3 : ¬ ((j : Int) < ((rd_T127 xs (i : Int)).f2.length : Int)) := by omega
                  have hrv := hjx.out
                  simp only [allFrom] at hrv
                  subst hrv
                  have hix2 := hrvH.out
                  simp only [Bool.true_and] at hix2
                  have hix3 := Lib.hid hix2
                  clear hix2 hjx hrvH
                  go_wp2
                  go_roundg n
                  case measure => omega
                  case rel => exact ⟨i + 1, by first | rfl | (rw [E1.out]), by omega, hix3, bl_then hb (bl_then HY (by repeat (first | exact Below.refl _ _ | apply bl_alloc | apply bl_drewN | apply bl_drew | refine bl_set ?_ (by simp) | refine bl_then ?_ (by assumption))))⟩
                | succ m =>
                  have hlt3 : (j : Int) < ((rd_T127 xs (i : Int)).f2.length : Int) := by omega
                  have hlt4 : (j : Int) < ((rd_T127 ys (i : Int)).f2.length : Int) := by have := HL2.out; omega
                  obtain ⟨ud, eu, u0⟩ := Kd.at_string (Kd.C_below HC2.out (bl_then HY hbi)) j (by omega) hlt3
                  obtain ⟨vd, ev, v0⟩ := Kd.at_string (Kd.C_below HD2.out (bl_then HY hbi)) j (by omega) hlt4
                  subst eu
                  subst ev
                  simp only [Int.toNat_natCast] at u0 v0
                  have E2 := Lib.hid (show wrap64 ((j : Int) + 1) = ((j + 1 : Nat) : Int) from by unfold wrap64; omega)
                  have hrv := hjx.out
                  simp only [allFrom] at hrv
                  cases hp : diffString (rd_T127 xs (i : Int)).f2 (rd_T127 ys (i : Int)).f2 j with
                  | true =>
                    rw [hp] at hrv
                    simp only [Bool.not_true, Bool.false_and] at hrv
                    subst hrv
                    have hr2 := hrvH.out
                    simp only [Bool.false_and] at hr2
                    subst hr2
                    have hp' : (!((rdOf ByteArray.empty (rd_T127 xs (i : Int)).f2 (j : Int)).toList == (rdOf ByteArray.empty (rd_T127 ys (i : Int)).f2 (j : Int)).toList)) = true := hp
                    clear hjx hp hrvH
                    go_wp2
                    repeat (go_quiet (fail); try go_wp2)
                    go_ret
                    exact ⟨rfl, bl_then HX (bl_then hb (bl_then HY (bl_then hbi (by repeat (first | exact Below.refl _ _ | apply bl_alloc | apply bl_drewN | apply bl_drew | refine bl_set ?_ (by simp) | refine bl_then ?_ (by assumption))))))⟩
                  | false =>
                    rw [hp] at hrv
                    simp only [Bool.not_false, Bool.true_and] at hrv
                    have hp' : (!((rdOf ByteArray.empty (rd_T127 xs (i : Int)).f2 (j : Int)).toList == (rdOf ByteArray.empty (rd_T127 ys (i : Int)).f2 (j : Int)).toList)) = false := hp
                    have hjx2 := Lib.hid hrv
                    clear hjx hp hrv
                    go_wp2
                    repeat (go_quiet (fail); try go_wp2)
                    go_roundg m
                    case measure => omega
                    case rel => exact ⟨j + 1, by first | rfl | (rw [E2.out]), by omega, hjx2, bl_then hbi (by repeat (first | exact Below.refl _ _ | apply bl_alloc | apply bl_drewN | apply bl_drew | refine bl_set ?_ (by simp) | refine bl_then ?_ (by assumption)))⟩
end

section
attribute [local go_sem high] eqSListen eqSLease
set_option maxHeartbeats 4000000 in
set_option maxRecDepth 100000 in
theorem spec_SameHouse (x0 : List S120) (x1 : List S111) (x2 : List S127) (x3 : List S113) (A0 A1 A2 A3 : Option Addr) (A0' A1' A2' A3' : Nat) (y0 : List S120) (y1 : List S111) (y2 : List S127) (y3 : List S113) (B0 B1 B2 B3 : Option Addr) (B0' B1' B2' B3' : Nat) (w : World) (hx0 : Kd.C k120 w A0 x0.length x0) (hx0' : x0.length ≤ A0') (hx1 : Kd.C k111 w A1 x1.length x1) (hx1' : x1.length ≤ A1') (hx2 : Kd.C k127 w A2 x2.length x2) (hx2' : x2.length ≤ A2') (hx3 : Kd.C k113 w A3 x3.length x3) (hx3' : x3.length ≤ A3') (hy0 : Kd.C k120 w B0 y0.length y0) (hy0' : y0.length ≤ B0') (hy1 : Kd.C k111 w B1 y1.length y1) (hy1' : y1.length ≤ B1') (hy2 : Kd.C k127 w B2 y2.length y2) (hy2' : y2.length ≤ B2') (hy3 : Kd.C k113 w B3 y3.length y3) (hy3' : y3.length ≤ B3') (lx0 : x0.length ≤ 1048576) (lx1 : x1.length ≤ 1048576) (lx2 : x2.length ≤ 1048576) (lx3 : x3.length ≤ 1048576) (ly0 : y0.length ≤ 1048576) (ly1 : y1.length ≤ 1048576) (ly2 : y2.length ≤ 1048576) (ly3 : y3.length ≤ 1048576) (lxi : ∀ j : Nat, (rd_T120 x0 (j : Int)).f2.length ≤ 1048576) (lxk : ∀ j : Nat, (rd_T127 x2 (j : Int)).f2.length ≤ 1048576) (lyi : ∀ j : Nat, (rd_T120 y0 (j : Int)).f2.length ≤ 1048576) (lyk : ∀ j : Nat, (rd_T127 y2 (j : Int)).f2.length ≤ 1048576) :
    Calls Try.prog 15 #[.agg #[.slice A0 x0.length A0', .slice A1 x1.length A1', .slice A2 x2.length A2', .slice A3 x3.length A3'], .agg #[.slice B0 y0.length B0', .slice B1 y1.length B1', .slice B2 y2.length B2', .slice B3 y3.length B3']] w fun e w' => e = .returned (.bool (sameH x0 x1 x2 x3 y0 y1 y2 y3)) ∧ Below w.heap.size w w' := by
  obtain ⟨b0, e0⟩ : ∃ b, sameBy (diffSession x0 y0) x0 y0 = b := ⟨_, rfl⟩
  obtain ⟨b2, e2⟩ : ∃ b, sameBy (diffQueue x2 y2) x2 y2 = b := ⟨_, rfl⟩
  have hE0 := fun w2 h2 h3 => specSame_Session A0 A1 A2 A3 B0 B1 B2 B3 A0' A1' A2' A3' B0' B1' B2' B3' x0.length x1.length x2.length x3.length y0.length y1.length y2.length y3.length x0 y0 w2 h2 h3 lx0 ly0 lxi lyi
  rw [e0] at hE0
  have HE0 := Lib.hid hE0
  clear hE0
  have hE2 := fun w2 h2 h3 => specSame_Queue A0 A1 A2 A3 B0 B1 B2 B3 A0' A1' A2' A3' B0' B1' B2' B3' x0.length x1.length x2.length x3.length y0.length y1.length y2.length y3.length x2 y2 w2 h2 h3 lx2 ly2 lxk lyk
  rw [e2] at hE2
  have HE2 := Lib.hid hE2
  clear hE2
  unfold sameH
  rw [e0, e2]
  clear e0 e2
  have HX0 := Lib.hid hx0
  have HY0 := Lib.hid hy0
  have HX1 := Lib.hid hx1
  have HY1 := Lib.hid hy1
  have HX2 := Lib.hid hx2
  have HY2 := Lib.hid hy2
  have HX3 := Lib.hid hx3
  have HY3 := Lib.hid hy3
  clear hx0 hx1 hx2 hx3 hy0 hy1 hy2 hy3
  cases b0 with
  | false =>
    simp only [Bool.false_and]
    go_enter Try.func15, Try.ntmps15
    go_wp2_with (first | (go_at_call 71; refine (HE0.out _ (Kd.C_below HX0.out (by repeat (first | exact Below.refl _ _ | apply bl_alloc | apply bl_drewN | apply bl_drew | refine bl_set ?_ (by simp) | refine bl_then ?_ (by assumption)))) (Kd.C_below HY0.out (by repeat (first | exact Below.refl _ _ | apply bl_alloc | apply bl_drewN | apply bl_drew | refine bl_set ?_ (by simp) | refine bl_then ?_ (by assumption))))).mono ?_; rintro e w' ⟨rfl, hb⟩; obtain ⟨hc, hf⟩ := bcell hb; have hz : w.heap.size + 1 < w'.heap.size := (by have := hb.size; (try simp at this); omega); have hz2 : w.heap.size < w'.heap.size := (by omega)) | (go_at_call 72; refine (HE2.out _ (Kd.C_below HX2.out (by repeat (first | exact Below.refl _ _ | apply bl_alloc | apply bl_drewN | apply bl_drew | refine bl_set ?_ (by simp) | refine bl_then ?_ (by assumption)))) (Kd.C_below HY2.out (by repeat (first | exact Below.refl _ _ | apply bl_alloc | apply bl_drewN | apply bl_drew | refine bl_set ?_ (by simp) | refine bl_then ?_ (by assumption))))).mono ?_; rintro e w' ⟨rfl, hb⟩; obtain ⟨hc, hf⟩ := bcell hb; have hz : w.heap.size + 1 < w'.heap.size := (by have := hb.size; (try simp at this); omega); have hz2 : w.heap.size < w'.heap.size := (by omega)))
    go_ret
    exact ⟨rfl, (by repeat (first | exact Below.refl _ _ | apply bl_alloc | apply bl_drewN | apply bl_drew | refine bl_set ?_ (by simp) | refine bl_then ?_ (by assumption)))⟩
  | true =>
    cases b2 with
    | false =>
      simp only [Bool.and_false, Bool.false_and]
      go_enter Try.func15, Try.ntmps15
      go_wp2_with (first | (go_at_call 71; refine (HE0.out _ (Kd.C_below HX0.out (by repeat (first | exact Below.refl _ _ | apply bl_alloc | apply bl_drewN | apply bl_drew | refine bl_set ?_ (by simp) | refine bl_then ?_ (by assumption)))) (Kd.C_below HY0.out (by repeat (first | exact Below.refl _ _ | apply bl_alloc | apply bl_drewN | apply bl_drew | refine bl_set ?_ (by simp) | refine bl_then ?_ (by assumption))))).mono ?_; rintro e w' ⟨rfl, hb⟩; obtain ⟨hc, hf⟩ := bcell hb; have hz : w.heap.size + 1 < w'.heap.size := (by have := hb.size; (try simp at this); omega); have hz2 : w.heap.size < w'.heap.size := (by omega)) | (go_at_call 72; refine (HE2.out _ (Kd.C_below HX2.out (by repeat (first | exact Below.refl _ _ | apply bl_alloc | apply bl_drewN | apply bl_drew | refine bl_set ?_ (by simp) | refine bl_then ?_ (by assumption)))) (Kd.C_below HY2.out (by repeat (first | exact Below.refl _ _ | apply bl_alloc | apply bl_drewN | apply bl_drew | refine bl_set ?_ (by simp) | refine bl_then ?_ (by assumption))))).mono ?_; rintro e w' ⟨rfl, hb⟩; obtain ⟨hc, hf⟩ := bcell hb; have hz : w.heap.size + 1 < w'.heap.size := (by have := hb.size; (try simp at this); omega); have hz2 : w.heap.size < w'.heap.size := (by omega)))
      go_ret
      exact ⟨rfl, (by repeat (first | exact Below.refl _ _ | apply bl_alloc | apply bl_drewN | apply bl_drew | refine bl_set ?_ (by simp) | refine bl_then ?_ (by assumption)))⟩
    | true =>
      simp only [Bool.true_and, Bool.and_true]
      cases hn1 : x1.length == y1.length with
      | false =>
        rw [sameBy_ne hn1]
        obtain ⟨n1, n1'⟩ := lens false hn1
        simp only [Bool.false_and, Bool.not_false] at n1' ⊢
        go_enter Try.func15, Try.ntmps15
        go_wp2_with (first | (go_at_call 71; refine (HE0.out _ (Kd.C_below HX0.out (by repeat (first | exact Below.refl _ _ | apply bl_alloc | apply bl_drewN | apply bl_drew | refine bl_set ?_ (by simp) | refine bl_then ?_ (by assumption)))) (Kd.C_below HY0.out (by repeat (first | exact Below.refl _ _ | apply bl_alloc | apply bl_drewN | apply bl_drew | refine bl_set ?_ (by simp) | refine bl_then ?_ (by assumption))))).mono ?_; rintro e w' ⟨rfl, hb⟩; obtain ⟨hc, hf⟩ := bcell hb; have hz : w.heap.size + 1 < w'.heap.size := (by have := hb.size; (try simp at this); omega); have hz2 : w.heap.size < w'.heap.size := (by omega)) | (go_at_call 72; refine (HE2.out _ (Kd.C_below HX2.out (by repeat (first | exact Below.refl _ _ | apply bl_alloc | apply bl_drewN | apply bl_drew | refine bl_set ?_ (by simp) | refine bl_then ?_ (by assumption)))) (Kd.C_below HY2.out (by repeat (first | exact Below.refl _ _ | apply bl_alloc | apply bl_drewN | apply bl_drew | refine bl_set ?_ (by simp) | refine bl_then ?_ (by assumption))))).mono ?_; rintro e w' ⟨rfl, hb⟩; obtain ⟨hc, hf⟩ := bcell hb; have hz : w.heap.size + 1 < w'.heap.size := (by have := hb.size; (try simp at this); omega); have hz2 : w.heap.size < w'.heap.size := (by omega)))
        go_ret
        exact ⟨rfl, (by repeat (first | exact Below.refl _ _ | apply bl_alloc | apply bl_drewN | apply bl_drew | refine bl_set ?_ (by simp) | refine bl_then ?_ (by assumption)))⟩
      | true =>
       rw [sameBy_eq hn1]
       obtain ⟨n1, n1'⟩ := lens true hn1
       simp only [Bool.not_true] at n1'
       cases hn3 : x3.length == y3.length with
       | false =>
        rw [sameBy_ne hn3]
        obtain ⟨n3, n3'⟩ := lens false hn3
        simp only [Bool.and_false, Bool.not_false] at n3' ⊢
        go_enter Try.func15, Try.ntmps15
        go_wp2_with (first | (go_at_call 71; refine (HE0.out _ (Kd.C_below HX0.out (by repeat (first | exact Below.refl _ _ | apply bl_alloc | apply bl_drewN | apply bl_drew | refine bl_set ?_ (by simp) | refine bl_then ?_ (by assumption)))) (Kd.C_below HY0.out (by repeat (first | exact Below.refl _ _ | apply bl_alloc | apply bl_drewN | apply bl_drew | refine bl_set ?_ (by simp) | refine bl_then ?_ (by assumption))))).mono ?_; rintro e w' ⟨rfl, hb⟩; obtain ⟨hc, hf⟩ := bcell hb; have hz : w.heap.size + 1 < w'.heap.size := (by have := hb.size; (try simp at this); omega); have hz2 : w.heap.size < w'.heap.size := (by omega)) | (go_at_call 72; refine (HE2.out _ (Kd.C_below HX2.out (by repeat (first | exact Below.refl _ _ | apply bl_alloc | apply bl_drewN | apply bl_drew | refine bl_set ?_ (by simp) | refine bl_then ?_ (by assumption)))) (Kd.C_below HY2.out (by repeat (first | exact Below.refl _ _ | apply bl_alloc | apply bl_drewN | apply bl_drew | refine bl_set ?_ (by simp) | refine bl_then ?_ (by assumption))))).mono ?_; rintro e w' ⟨rfl, hb⟩; obtain ⟨hc, hf⟩ := bcell hb; have hz : w.heap.size + 1 < w'.heap.size := (by have := hb.size; (try simp at this); omega); have hz2 : w.heap.size < w'.heap.size := (by omega)))
        go_ret
        exact ⟨rfl, (by repeat (first | exact Below.refl _ _ | apply bl_alloc | apply bl_drewN | apply bl_drew | refine bl_set ?_ (by simp) | refine bl_then ?_ (by assumption)))⟩
       | true =>
        rw [sameBy_eq hn3]
        obtain ⟨n3, n3'⟩ := lens true hn3
        simp only [Bool.not_true] at n3'
        have HL1 := Lib.hid (beq_iff_eq.1 hn1)
        have HL3 := Lib.hid (beq_iff_eq.1 hn3)
        obtain ⟨r1, hr1⟩ : ∃ r, Hid (allFrom (diffListen x1 y1) 0 x1.length = r) := ⟨_, Lib.hid rfl⟩
        obtain ⟨r3, hr3⟩ : ∃ r, Hid (allFrom (diffLease x3 y3) 0 x3.length = r) := ⟨_, Lib.hid rfl⟩
        rw [hr1.out, hr3.out]
        clear hn1 hn3
        go_enter Try.func15, Try.ntmps15
        go_wp2_with (first | (go_at_call 71; refine (HE0.out _ (Kd.C_below HX0.out (by repeat (first | exact Below.refl _ _ | apply bl_alloc | apply bl_drewN | apply bl_drew | refine bl_set ?_ (by simp) | refine bl_then ?_ (by assumption)))) (Kd.C_below HY0.out (by repeat (first | exact Below.refl _ _ | apply bl_alloc | apply bl_drewN | apply bl_drew | refine bl_set ?_ (by simp) | refine bl_then ?_ (by assumption))))).mono ?_; rintro e w' ⟨rfl, hb⟩; obtain ⟨hc, hf⟩ := bcell hb; have hz : w.heap.size + 1 < w'.heap.size := (by have := hb.size; (try simp at this); omega); have hz2 : w.heap.size < w'.heap.size := (by omega)) | (go_at_call 72; refine (HE2.out _ (Kd.C_below HX2.out (by repeat (first | exact Below.refl _ _ | apply bl_alloc | apply bl_drewN | apply bl_drew | refine bl_set ?_ (by simp) | refine bl_then ?_ (by assumption)))) (Kd.C_below HY2.out (by repeat (first | exact Below.refl _ _ | apply bl_alloc | apply bl_drewN | apply bl_drew | refine bl_set ?_ (by simp) | refine bl_then ?_ (by assumption))))).mono ?_; rintro e w' ⟨rfl, hb⟩; obtain ⟨hc, hf⟩ := bcell hb; have hz : w.heap.size + 1 < w'.heap.size := (by have := hb.size; (try simp at this); omega); have hz2 : w.heap.size < w'.heap.size := (by omega)))
        clear n1 n1' n3 n3'
        obtain ⟨X, hX⟩ : ∃ X, X = w' := ⟨_, rfl⟩
        have HX : Below w.heap.size w X := by rw [hX]; exact (by repeat (first | exact Below.refl _ _ | apply bl_alloc | apply bl_drewN | apply bl_drew | refine bl_set ?_ (by simp) | refine bl_then ?_ (by assumption)))
        have KA : Blk 48 w.heap.size #[.slice A0 x0.length A0', .slice A1 x1.length A1', .slice A2 x2.length A2', .slice A3 x3.length A3'] X := by rw [hX]; exact Blk.below (Blk.below ((Blk.new _ _ w).alloc _) (by assumption)) (by assumption)
        have KB : Blk 48 (w.heap.size + 1) #[.slice B0 y0.length B0', .slice B1 y1.length B1', .slice B2 y2.length B2', .slice B3 y3.length B3'] X := by rw [hX]; exact Blk.below (Blk.below (Blk.newE _ _ (w.alloc _) (by simp)) (by assumption)) (by assumption)
        subst hX
        go_loopg [5] x1.length (fun kq v w' => ∃ i : Nat, v = .int .i64 (i : Int) ∧ i + kq = x1.length ∧ Hid (allFrom (diffListen x1 y1) i kq = r1) ∧ Below X.heap.size X w')
        case atStart => exact ⟨0, rfl, by omega, hr1, Below.refl _ _⟩
        case round =>
          obtain ⟨i, rfl, hik, hix, hbq⟩ := hrel
          clear hr1
          have ka : wr.cell? ⟨w.heap.size, 1, none⟩ = some (.slice A1 x1.length A1') := (KA.below hbq).cell 1 rfl
          have kb : wr.cell? ⟨w.heap.size + 1, 1, none⟩ = some (.slice B1 y1.length B1') := (KB.below hbq).cell 1 rfl
          have la := (KA.below hbq).lt
          have lb := (KB.below hbq).lt
          cases gk with
          | zero =>
            have hlt : ¬ ((i : Int) < (x1.length : Int)) := by omega
            have hrv := hix.out
            simp only [allFrom] at hrv
            subst hrv
            clear hix
            obtain ⟨wo, rfl⟩ : ∃ wo : World, wo = wr := ⟨_, rfl⟩
            have hbo := hbq
            go_wp2
            clear ka kb la lb hbq
            go_loopg [6] x3.length (fun kq v w' => ∃ i : Nat, v = .int .i64 (i : Int) ∧ i + kq = x3.length ∧ Hid (allFrom (diffLease x3 y3) i kq = r3) ∧ Below X.heap.size X w')
            case atStart => exact ⟨0, rfl, by omega, hr3, bl_then hbo (by repeat (first | exact Below.refl _ _ | apply bl_alloc | apply bl_drewN | apply bl_drew | refine bl_set ?_ (by simp) | refine bl_then ?_ (by assumption)))⟩
            case round =>
              obtain ⟨i, rfl, hik, hix, hbq⟩ := hrel
              clear hr3
              have ka : wr.cell? ⟨w.heap.size, 3, none⟩ = some (.slice A3 x3.length A3') := (KA.below hbq).cell 3 rfl
              have kb : wr.cell? ⟨w.heap.size + 1, 3, none⟩ = some (.slice B3 y3.length B3') := (KB.below hbq).cell 3 rfl
              have la := (KA.below hbq).lt
              have lb := (KB.below hbq).lt
              cases gk with
              | zero =>
                have hlt : ¬ ((i : Int) < (x3.length : Int)) := by omega
                have hrv := hix.out
                simp only [allFrom] at hrv
                subst hrv
                clear hix
                go_wp2
                go_ret
                exact ⟨by first | rfl | simp, bl_then HX (bl_then hbq (by repeat (first | exact Below.refl _ _ | apply bl_alloc | apply bl_drewN | apply bl_drew | refine bl_set ?_ (by simp) | refine bl_then ?_ (by assumption))))⟩
              | succ n =>
                have hlt : (i : Int) < (x3.length : Int) := by omega
                have hlt2 : (i : Int) < (y3.length : Int) := by have := HL3.out; omega
                obtain ⟨ad, e1, p0, p1, p2⟩ := at_T113 (Kd.C_below HX3.out (bl_then HX hbq)) i (by omega) hlt
                obtain ⟨bd, e2, q0, q1, q2⟩ := at_T113 (Kd.C_below HY3.out (bl_then HX hbq)) i (by omega) hlt2
                subst e1
                subst e2
                simp only [Int.toNat_natCast] at p0 q0 p1 q1 p2 q2
                have E1 := Lib.hid (show wrap64 ((i : Int) + 1) = ((i + 1 : Nat) : Int) from by unfold wrap64; omega)
                have hrv := hix.out
                simp only [allFrom] at hrv
                cases hp : diffLease x3 y3 i with
                | true =>
                  rw [hp] at hrv
                  simp only [Bool.not_true, Bool.false_and] at hrv
                  subst hrv
                  have hp' : (!((rd_T113 x3 (i : Int)).f0 == (rd_T113 y3 (i : Int)).f0) || (!((rd_T113 x3 (i : Int)).f1 == (rd_T113 y3 (i : Int)).f1) || (!((rd_T113 x3 (i : Int)).f2 == (rd_T113 y3 (i : Int)).f2)))) = true := hp
                  clear hix hp
                  go_wp2
                  repeat (go_quiet (fail); try go_wp2)
                  go_ret
                  exact ⟨by first | rfl | simp, bl_then HX (bl_then hbq (by repeat (first | exact Below.refl _ _ | apply bl_alloc | apply bl_drewN | apply bl_drew | refine bl_set ?_ (by simp) | refine bl_then ?_ (by assumption))))⟩
                | false =>
                  rw [hp] at hrv
                  simp only [Bool.not_false, Bool.true_and] at hrv
                  have hp' : (!((rd_T113 x3 (i : Int)).f0 == (rd_T113 y3 (i : Int)).f0) || (!((rd_T113 x3 (i : Int)).f1 == (rd_T113 y3 (i : Int)).f1) || (!((rd_T113 x3 (i : Int)).f2 == (rd_T113 y3 (i : Int)).f2)))) = false := hp
                  have hix2 := Lib.hid hrv
                  clear hix hp hrv
                  go_wp2
                  repeat (go_quiet (fail); try go_wp2)
                  go_roundg n
                  case measure => omega
                  case rel => exact ⟨i + 1, by first | rfl | (rw [E1.out]), by omega, hix2, bl_then hbq (by repeat (first | exact Below.refl _ _ | apply bl_alloc | apply bl_drewN | apply bl_drew | refine bl_set ?_ (by simp) | refine bl_then ?_ (by assumption)))⟩
          | succ n =>
            have hlt : (i : Int) < (x1.length : Int) := by omega
            have hlt2 : (i : Int) < (y1.length : Int) := by have := HL1.out; omega
            obtain ⟨ad, e1, p0, p1⟩ := at_T111 (Kd.C_below HX1.out (bl_then HX hbq)) i (by omega) hlt
            obtain ⟨bd, e2, q0, q1⟩ := at_T111 (Kd.C_below HY1.out (bl_then HX hbq)) i (by omega) hlt2
            subst e1
            subst e2
            simp only [Int.toNat_natCast] at p0 q0 p1 q1
            have E1 := Lib.hid (show wrap64 ((i : Int) + 1) = ((i + 1 : Nat) : Int) from by unfold wrap64; omega)
            have hrv := hix.out
            simp only [allFrom] at hrv
            cases hp : diffListen x1 y1 i with
            | true =>
              rw [hp] at hrv
              simp only [Bool.not_true, Bool.false_and] at hrv
              subst hrv
              have hp' : (!((rd_T111 x1 (i : Int)).f0 == (rd_T111 y1 (i : Int)).f0) || (!((rd_T111 x1 (i : Int)).f1 == (rd_T111 y1 (i : Int)).f1))) = true := hp
              clear hix hp
              go_wp2
              repeat (go_quiet (fail); try go_wp2)
              go_ret
              exact ⟨by first | rfl | simp, bl_then HX (bl_then hbq (by repeat (first | exact Below.refl _ _ | apply bl_alloc | apply bl_drewN | apply bl_drew | refine bl_set ?_ (by simp) | refine bl_then ?_ (by assumption))))⟩
            | false =>
              rw [hp] at hrv
              simp only [Bool.not_false, Bool.true_and] at hrv
              have hp' : (!((rd_T111 x1 (i : Int)).f0 == (rd_T111 y1 (i : Int)).f0) || (!((rd_T111 x1 (i : Int)).f1 == (rd_T111 y1 (i : Int)).f1))) = false := hp
              have hix2 := Lib.hid hrv
              clear hix hp hrv
              go_wp2
              repeat (go_quiet (fail); try go_wp2)
              go_roundg n
              case measure => omega
              case rel => exact ⟨i + 1, by first | rfl | (rw [E1.out]), by omega, hix2, bl_then hbq (by repeat (first | exact Below.refl _ _ | apply bl_alloc | apply bl_drewN | apply bl_drew | refine bl_set ?_ (by simp) | refine bl_then ?_ (by assumption)))⟩
end

end Go.Proofs.Ytlbikcelfheohab
end

/-! ### YtlbikcelfheohabSameFin -/
section
namespace Go.Proofs.Ytlbikcelfheohab
open Go.RowKit Go.Proofs.YtlbikcelfheohabW.PrintWords PFnExactSameHouse
set_option linter.unusedSimpArgs false
set_option linter.unusedVariables false

theorem rd_small_S (xs : List S120) (h : ∀ x ∈ xs, x.f2.length ≤ 1048576) (j : Nat) : (rd_T120 xs (j : Int)).f2.length ≤ 1048576 := by
  unfold rd_T120
  rw [Int.toNat_natCast, List.getD_eq_getElem?_getD]
  rcases Nat.lt_or_ge j xs.length with hj | hj
  · rw [List.getElem?_eq_getElem hj]; exact h _ (List.getElem_mem hj)
  · rw [List.getElem?_eq_none hj]; show (0 : Nat) ≤ 1048576; omega
theorem rd_small_Q (xs : List S127) (h : ∀ x ∈ xs, x.f2.length ≤ 1048576) (j : Nat) : (rd_T127 xs (j : Int)).f2.length ≤ 1048576 := by
  unfold rd_T127
  rw [Int.toNat_natCast, List.getD_eq_getElem?_getD]
  rcases Nat.lt_or_ge j xs.length with hj | hj
  · rw [List.getElem?_eq_getElem hj]; exact h _ (List.getElem_mem hj)
  · rw [List.getElem?_eq_none hj]; show (0 : Nat) ≤ 1048576; omega

/-- A house's copy is made: as a value that reads so. -/
theorem toHouse_R (ss : List S174) (li : List S179) (qu : List S176) (le : List S182) (sz : List S120) (lz : List S111) (qz : List S127) (ez : List S113) (hs : Hid (ss.map cSession = sz)) (hl : Hid (li.map cListen = lz)) (hq : Hid (qu.map cQueue = qz)) (he : Hid (le.map cLease = ez)) (hsm : Hid (HouseSmall ss li qu le)) (A0 A1 A2 A3 : Option Addr) (c0 c1 c2 c3 : Nat) (w : World)
    (h0 : ss.length ≤ c0) (hC0 : Kd.C k174 w A0 ss.length ss) (h1 : li.length ≤ c1) (hC1 : Kd.C k179 w A1 li.length li) (h2 : qu.length ≤ c2) (hC2 : Kd.C k176 w A2 qu.length qu) (h3 : le.length ≤ c3) (hC3 : Kd.C k182 w A3 le.length le) :
    Calls Try.prog 16 #[.agg #[.slice A0 ss.length c0, .slice A1 li.length c1, .slice A2 qu.length c2, .slice A3 le.length c3]] w fun e w' => ∃ v, e = .returned v ∧ HouseR sz lz qz ez w' v ∧ Below w.heap.size w w' := by
  refine (laws_toH ss li qu le sz lz qz ez hs hl hq he hsm.out A0 A1 A2 A3 c0 c1 c2 c3 w h0 hC0 h1 hC1 h2 hC2 h3 hC3).mono ?_
  rintro e w' ⟨B0, B1, B2, B3, d0, d1, d2, d3, rfl, g0, D0, g1, D1, g2, D2, g3, D3, hb⟩
  exact ⟨_, rfl, ⟨B0, B1, B2, B3, d0, d1, d2, d3, rfl, g0, g1, g2, g3, D0.out, D1.out, D2.out, D3.out⟩, hb⟩

theorem impl_Same_R (x0 : List S120) (x1 : List S111) (x2 : List S127) (x3 : List S113) (y0 : List S120) (y1 : List S111) (y2 : List S127) (y3 : List S113) (r : Bool) (hr : Hid (sameH x0 x1 x2 x3 y0 y1 y2 y3 = r)) (hx : Hid (ImplSmall x0 x1 x2 x3)) (hy : Hid (ImplSmall y0 y1 y2 y3)) (v u : Value) (w : World) (hv : HouseR x0 x1 x2 x3 w v) (hu : HouseR y0 y1 y2 y3 w u) :
    Calls Try.prog 17 #[v, u] w fun e w' => e = .returned (.bool r) ∧ Below w.heap.size w w' := by
  obtain ⟨A0, A1, A2, A3, c0, c1, c2, c3, rfl, g0, g1, g2, g3, C0, C1, C2, C3⟩ := hv
  obtain ⟨B0, B1, B2, B3, d0, d1, d2, d3, rfl, e0, e1, e2, e3, D0, D1, D2, D3⟩ := hu
  obtain ⟨p0, p1, p2, p3, p4, p5⟩ := hx.out
  obtain ⟨q0, q1, q2, q3, q4, q5⟩ := hy.out
  have := impl_SameHouse x0 x1 x2 x3 A0 A1 A2 A3 c0 c1 c2 c3 y0 y1 y2 y3 B0 B1 B2 B3 d0 d1 d2 d3 w C0 g0 C1 g1 C2 g2 C3 g3 D0 e0 D1 e1 D2 e2 D3 e3 p0 p1 p2 p3 q0 q1 q2 q3 (rd_small_S _ p4) (rd_small_Q _ p5) (rd_small_S _ q4) (rd_small_Q _ q5)
  rw [hr.out] at this
  exact this

theorem spec_Same_R (x0 : List S120) (x1 : List S111) (x2 : List S127) (x3 : List S113) (y0 : List S120) (y1 : List S111) (y2 : List S127) (y3 : List S113) (r : Bool) (hr : Hid (sameH x0 x1 x2 x3 y0 y1 y2 y3 = r)) (hx : Hid (ImplSmall x0 x1 x2 x3)) (hy : Hid (ImplSmall y0 y1 y2 y3)) (v u : Value) (w : World) (hv : HouseR x0 x1 x2 x3 w v) (hu : HouseR y0 y1 y2 y3 w u) :
    Calls Try.prog 15 #[v, u] w fun e w' => e = .returned (.bool r) ∧ Below w.heap.size w w' := by
  obtain ⟨A0, A1, A2, A3, c0, c1, c2, c3, rfl, g0, g1, g2, g3, C0, C1, C2, C3⟩ := hv
  obtain ⟨B0, B1, B2, B3, d0, d1, d2, d3, rfl, e0, e1, e2, e3, D0, D1, D2, D3⟩ := hu
  obtain ⟨p0, p1, p2, p3, p4, p5⟩ := hx.out
  obtain ⟨q0, q1, q2, q3, q4, q5⟩ := hy.out
  have := spec_SameHouse x0 x1 x2 x3 A0 A1 A2 A3 c0 c1 c2 c3 y0 y1 y2 y3 B0 B1 B2 B3 d0 d1 d2 d3 w C0 g0 C1 g1 C2 g2 C3 g3 D0 e0 D1 e1 D2 e2 D3 e3 p0 p1 p2 p3 q0 q1 q2 q3 (rd_small_S _ p4) (rd_small_Q _ p5) (rd_small_S _ q4) (rd_small_Q _ q5)
  rw [hr.out] at this
  exact this

theorem eqHouse_R (x0 : List S120) (x1 : List S111) (x2 : List S127) (x3 : List S113) (hx : Hid (ImplSmall x0 x1 x2 x3)) (v u : Value) (w : World) (hv : HouseR x0 x1 x2 x3 w v) (hu : HouseR x0 x1 x2 x3 w u) :
    Calls Try.prog 18 #[v, u] w fun e w' => e = .returned (.bool true) ∧ Below w.heap.size w w' := by
  obtain ⟨A0, A1, A2, A3, c0, c1, c2, c3, rfl, g0, g1, g2, g3, C0, C1, C2, C3⟩ := hv
  obtain ⟨B0, B1, B2, B3, d0, d1, d2, d3, rfl, e0, e1, e2, e3, D0, D1, D2, D3⟩ := hu
  exact laws_eqHC x0 x1 x2 x3 hx A0 A1 A2 A3 c0 c1 c2 c3 B0 B1 B2 B3 d0 d1 d2 d3 w g0 C0 g1 C1 g2 C2 g3 C3 e0 D0 e1 D1 e2 D2 e3 D3

attribute [local go_sem] flowUpon
set_option maxRecDepth 100000 in
set_option maxHeartbeats 4000000 in
theorem FnExactSameHouse_walk (v u : Value) (W : World) (h : ArgOf Try.prog W 40 v) (hu : ArgOf Try.prog W 40 u) :
    Calls Try.prog 4 #[v, u] W fun e w' => e = .returned (.bool true) ∧ Below W.heap.size W w' := by
  obtain ⟨A0, A1, A2, A3, a0, a1, a2, a3, x0, x1, x2, x3, rfl, ⟨gx0, hCx0⟩, ⟨gx1, hCx1⟩, ⟨gx2, hCx2⟩, ⟨gx3, hCx3⟩, ⟨m0, n0⟩, m1, ⟨m2, n2⟩, m3⟩ := arg_house h
  obtain ⟨B0, B1, B2, B3, b0, b1, b2, b3, y0, y1, y2, y3, rfl, ⟨gy0, hCy0⟩, ⟨gy1, hCy1⟩, ⟨gy2, hCy2⟩, ⟨gy3, hCy3⟩, ⟨k0, l0⟩, k1, ⟨k2, l2⟩, k3⟩ := arg_house hu
  clear h hu
  unfold maxLen at m0 n0 m1 m2 n2 m3 k0 l0 k1 k2 l2 k3
  obtain ⟨r, hr, hrr⟩ := szHouse_fL 1048576 (by omega) (by omega) x0 x1 x2 x3 m0 m1 m2 m3 n0 n2
  have Hx0 := Lib.hid hCx0
  have Hx1 := Lib.hid hCx1
  have Hx2 := Lib.hid hCx2
  have Hx3 := Lib.hid hCx3
  have Hy0 := Lib.hid hCy0
  have Hy1 := Lib.hid hCy1
  have Hy2 := Lib.hid hCy2
  have Hy3 := Lib.hid hCy3
  have HRx := Lib.hid hr
  clear hCx0 hCx1 hCx2 hCx3 hCy0 hCy1 hCy2 hCy3 hr m0 n0 m1 m2 n2 m3
  rcases hrr with hneg | ⟨hr0, hr1, hsmx⟩
  · go_enter Try.func4, Try.ntmps4
    go_wp2_with (first | (go_at_call 14; (with_reducible refine (PFnExactSameHouse.laws_szHouse.calls _ _ _ x0 _ _ x1 _ _ x2 _ _ x3 _ _ _ (Kd.C_below Hx0.out (by repeat (first | exact Below.refl _ _ | apply bl_alloc | apply bl_drewN | apply bl_drew | refine bl_set ?_ (by simp) | refine bl_then ?_ (by assumption)))) gx0 (Kd.C_below Hx1.out (by repeat (first | exact Below.refl _ _ | apply bl_alloc | apply bl_drewN | apply bl_drew | refine bl_set ?_ (by simp) | refine bl_then ?_ (by assumption)))) gx1 (Kd.C_below Hx2.out (by repeat (first | exact Below.refl _ _ | apply bl_alloc | apply bl_drewN | apply bl_drew | refine bl_set ?_ (by simp) | refine bl_then ?_ (by assumption)))) gx2 (Kd.C_below Hx3.out (by repeat (first | exact Below.refl _ _ | apply bl_alloc | apply bl_drewN | apply bl_drew | refine bl_set ?_ (by simp) | refine bl_then ?_ (by assumption)))) gx3 HRx.out).mono ?_); rintro e w' ⟨rfl, hb⟩; obtain ⟨hc, hf⟩ := bcell hb))
    all_goals
      go_ret
      exact ⟨rfl, (by repeat (first | exact Below.refl _ _ | apply bl_alloc | apply bl_drewN | apply bl_drew | refine bl_set ?_ (by simp) | refine bl_then ?_ (by assumption)))⟩
  · obtain ⟨q, hq, hqq⟩ := szHouse_fL r hr0 hr1 y0 y1 y2 y3 k0 k1 k2 k3 l0 l2
    have HRy := Lib.hid hq
    have Hsx := Lib.hid hsmx
    clear hq k0 l0 k1 k2 l2 k3 hsmx
    have hn : ¬ r < 0 := by omega
    rcases hqq with hneg | ⟨hq0, hq1, hsmy⟩
    · go_enter Try.func4, Try.ntmps4
      go_wp2_with fail
      (with_reducible refine (PFnExactSameHouse.laws_szHouse.calls _ _ _ x0 _ _ x1 _ _ x2 _ _ x3 _ _ _ (Kd.C_below Hx0.out (by repeat (first | exact Below.refl _ _ | apply bl_alloc | apply bl_drewN | apply bl_drew | refine bl_set ?_ (by simp) | refine bl_then ?_ (by assumption)))) gx0 (Kd.C_below Hx1.out (by repeat (first | exact Below.refl _ _ | apply bl_alloc | apply bl_drewN | apply bl_drew | refine bl_set ?_ (by simp) | refine bl_then ?_ (by assumption)))) gx1 (Kd.C_below Hx2.out (by repeat (first | exact Below.refl _ _ | apply bl_alloc | apply bl_drewN | apply bl_drew | refine bl_set ?_ (by simp) | refine bl_then ?_ (by assumption)))) gx2 (Kd.C_below Hx3.out (by repeat (first | exact Below.refl _ _ | apply bl_alloc | apply bl_drewN | apply bl_drew | refine bl_set ?_ (by simp) | refine bl_then ?_ (by assumption)))) gx3 HRx.out).mono ?_)
      rintro e w1 ⟨rfl, hb1⟩
      obtain ⟨hc1, hf1⟩ := bcell hb1
      go_wp2_with fail
      (with_reducible refine (PFnExactSameHouse.laws_szHouse.calls _ _ _ y0 _ _ y1 _ _ y2 _ _ y3 _ _ _ (Kd.C_below Hy0.out (by repeat (first | exact Below.refl _ _ | apply bl_alloc | apply bl_drewN | apply bl_drew | refine bl_set ?_ (by simp) | refine bl_then ?_ (by assumption)))) gy0 (Kd.C_below Hy1.out (by repeat (first | exact Below.refl _ _ | apply bl_alloc | apply bl_drewN | apply bl_drew | refine bl_set ?_ (by simp) | refine bl_then ?_ (by assumption)))) gy1 (Kd.C_below Hy2.out (by repeat (first | exact Below.refl _ _ | apply bl_alloc | apply bl_drewN | apply bl_drew | refine bl_set ?_ (by simp) | refine bl_then ?_ (by assumption)))) gy2 (Kd.C_below Hy3.out (by repeat (first | exact Below.refl _ _ | apply bl_alloc | apply bl_drewN | apply bl_drew | refine bl_set ?_ (by simp) | refine bl_then ?_ (by assumption)))) gy3 HRy.out).mono ?_)
      rintro e w2 ⟨rfl, hb2⟩
      go_wp2
      all_goals
        go_ret
        exact ⟨rfl, (by repeat (first | exact Below.refl _ _ | apply bl_alloc | apply bl_drewN | apply bl_drew | refine bl_set ?_ (by simp) | refine bl_then ?_ (by assumption)))⟩
    · have Hsy := Lib.hid hsmy
      clear hsmy
      obtain ⟨p0, hp0⟩ : ∃ z, Hid (x0.map cSession = z) := ⟨_, Lib.hid rfl⟩
      obtain ⟨p1, hp1⟩ : ∃ z, Hid (x1.map cListen = z) := ⟨_, Lib.hid rfl⟩
      obtain ⟨p2, hp2⟩ : ∃ z, Hid (x2.map cQueue = z) := ⟨_, Lib.hid rfl⟩
      obtain ⟨p3, hp3⟩ : ∃ z, Hid (x3.map cLease = z) := ⟨_, Lib.hid rfl⟩
      obtain ⟨q0, hq0⟩ : ∃ z, Hid (y0.map cSession = z) := ⟨_, Lib.hid rfl⟩
      obtain ⟨q1, hq1⟩ : ∃ z, Hid (y1.map cListen = z) := ⟨_, Lib.hid rfl⟩
      obtain ⟨q2, hq2⟩ : ∃ z, Hid (y2.map cQueue = z) := ⟨_, Lib.hid rfl⟩
      obtain ⟨q3, hq3⟩ : ∃ z, Hid (y3.map cLease = z) := ⟨_, Lib.hid rfl⟩
      have Hip : Hid (ImplSmall p0 p1 p2 p3) := by
        have := implSmall_of x0 x1 x2 x3 Hsx.out
        rw [hp0.out, hp1.out, hp2.out, hp3.out] at this
        exact Lib.hid this
      have Hiq : Hid (ImplSmall q0 q1 q2 q3) := by
        have := implSmall_of y0 y1 y2 y3 Hsy.out
        rw [hq0.out, hq1.out, hq2.out, hq3.out] at this
        exact Lib.hid this
      obtain ⟨sm, hsm⟩ : ∃ sm, Hid (sameH p0 p1 p2 p3 q0 q1 q2 q3 = sm) := ⟨_, Lib.hid rfl⟩
      go_enter Try.func4, Try.ntmps4
      go_wp2_with fail
      (with_reducible refine (PFnExactSameHouse.laws_szHouse.calls _ _ _ x0 _ _ x1 _ _ x2 _ _ x3 _ _ _ (Kd.C_below Hx0.out (by repeat (first | exact Below.refl _ _ | apply bl_alloc | apply bl_drewN | apply bl_drew | refine bl_set ?_ (by simp) | refine bl_then ?_ (by assumption)))) gx0 (Kd.C_below Hx1.out (by repeat (first | exact Below.refl _ _ | apply bl_alloc | apply bl_drewN | apply bl_drew | refine bl_set ?_ (by simp) | refine bl_then ?_ (by assumption)))) gx1 (Kd.C_below Hx2.out (by repeat (first | exact Below.refl _ _ | apply bl_alloc | apply bl_drewN | apply bl_drew | refine bl_set ?_ (by simp) | refine bl_then ?_ (by assumption)))) gx2 (Kd.C_below Hx3.out (by repeat (first | exact Below.refl _ _ | apply bl_alloc | apply bl_drewN | apply bl_drew | refine bl_set ?_ (by simp) | refine bl_then ?_ (by assumption)))) gx3 HRx.out).mono ?_)
      rintro e w1 ⟨rfl, hb1⟩
      obtain ⟨hc1, hf1⟩ := bcell hb1
      have hz1 : W.heap.size + 1 < w1.heap.size := by have := hb1.size; simp at this; omega
      go_wp2_with fail
      (with_reducible refine (PFnExactSameHouse.laws_szHouse.calls _ _ _ y0 _ _ y1 _ _ y2 _ _ y3 _ _ _ (Kd.C_below Hy0.out (by repeat (first | exact Below.refl _ _ | apply bl_alloc | apply bl_drewN | apply bl_drew | refine bl_set ?_ (by simp) | refine bl_then ?_ (by assumption)))) gy0 (Kd.C_below Hy1.out (by repeat (first | exact Below.refl _ _ | apply bl_alloc | apply bl_drewN | apply bl_drew | refine bl_set ?_ (by simp) | refine bl_then ?_ (by assumption)))) gy1 (Kd.C_below Hy2.out (by repeat (first | exact Below.refl _ _ | apply bl_alloc | apply bl_drewN | apply bl_drew | refine bl_set ?_ (by simp) | refine bl_then ?_ (by assumption)))) gy2 (Kd.C_below Hy3.out (by repeat (first | exact Below.refl _ _ | apply bl_alloc | apply bl_drewN | apply bl_drew | refine bl_set ?_ (by simp) | refine bl_then ?_ (by assumption)))) gy3 HRy.out).mono ?_)
      rintro e w2 ⟨rfl, hb2⟩
      obtain ⟨hc2, hf2⟩ := bcell hb2
      have hz2 : W.heap.size + 1 < w2.heap.size := by have := hb2.size; (try simp at this); omega
      have hn2 : ¬ q < 0 := by omega
      have KA : Blk 40 W.heap.size #[.slice A0 x0.length a0, .slice A1 x1.length a1, .slice A2 x2.length a2, .slice A3 x3.length a3] w2 := Blk.below (Blk.below ((Blk.new _ _ W).alloc _) hb1) hb2
      have KB : Blk 40 (W.heap.size + 1) #[.slice B0 y0.length b0, .slice B1 y1.length b1, .slice B2 y2.length b2, .slice B3 y3.length b3] w2 := Blk.below (Blk.below (Blk.newE _ _ (W.alloc _) (by simp)) hb1) hb2
      have HB : Below W.heap.size W w2 := bl_then (bl_then (bl_alloc (bl_alloc (Below.refl _ _) _) _) hb1) hb2
      clear hc1 hf1 hc2 hf2 hb1 hb2 hz1 hz2
      have ka0 := KA.cell 0 rfl
      have kb0 := KB.cell 0 rfl
      have ka1 := KA.cell 1 rfl
      have kb1 := KB.cell 1 rfl
      have ka2 := KA.cell 2 rfl
      have kb2 := KB.cell 2 rfl
      have ka3 := KA.cell 3 rfl
      have kb3 := KB.cell 3 rfl
      have la := KA.lt
      have lb := KB.lt
      go_wp2
      clear hn hn2
      refine wp_region_flow [2, 3] 45 (by kernel_rfl) (by rfl) (by kernel_rfl) (by kernel_rfl) (by kernel_rfl) ?_
      (refine flow_valE ?_; apply Exists.intro; refine ⟨fun A wq hBq hbq hdq => ?_, ?_⟩; focus (obtain ⟨hcq, hfq⟩ := bcell hBq; (try simp [go_sem, baseF, deps, dep1, Region.binds] at hbq); (try simp [go_sem, baseF, deps, dep1, Region.binds, NewSl] at hdq); go_simp; first | exact ⟨Below.refl _ _, rfl⟩ | (rw [if_neg]; (focus (exact ⟨Below.refl _ _, rfl⟩)); (focus ((try simp only [ByteArray.size_append]); omega))) | (fail)))
      refine flow_R (HouseR p0 p1 p2 p3) (vmono_houseR _ _ _ _) (fun A wq hBq hbq hdq => ?_) ?_
      · obtain ⟨hcq, hfq⟩ := bcell hBq
        (try simp [go_sem, baseF, deps, dep1, Region.binds] at hbq)
        (try simp [go_sem, baseF, deps, dep1, Region.binds] at hdq)
        go_simp
        refine (toHouse_R x0 x1 x2 x3 p0 p1 p2 p3 hp0 hp1 hp2 hp3 Hsx _ _ _ _ _ _ _ _ _ gx0 (Kd.C_below Hx0.out (by repeat (first | exact Below.refl _ _ | apply bl_alloc | apply bl_drewN | apply bl_drew | refine bl_set ?_ (by simp) | refine bl_then ?_ (by assumption)))) gx1 (Kd.C_below Hx1.out (by repeat (first | exact Below.refl _ _ | apply bl_alloc | apply bl_drewN | apply bl_drew | refine bl_set ?_ (by simp) | refine bl_then ?_ (by assumption)))) gx2 (Kd.C_below Hx2.out (by repeat (first | exact Below.refl _ _ | apply bl_alloc | apply bl_drewN | apply bl_drew | refine bl_set ?_ (by simp) | refine bl_then ?_ (by assumption)))) gx3 (Kd.C_below Hx3.out (by repeat (first | exact Below.refl _ _ | apply bl_alloc | apply bl_drewN | apply bl_drew | refine bl_set ?_ (by simp) | refine bl_then ?_ (by assumption))))).mono ?_
        rintro e w' ⟨v, rfl, hv, hb⟩
        first | exact ⟨_, rfl, hb, hv⟩ | exact ⟨hb, hv⟩
      (refine flow_valE ?_; apply Exists.intro; refine ⟨fun A wq hBq hbq hdq => ?_, ?_⟩; focus (obtain ⟨hcq, hfq⟩ := bcell hBq; (try simp [go_sem, baseF, deps, dep1, Region.binds] at hbq); (try simp [go_sem, baseF, deps, dep1, Region.binds, NewSl] at hdq); go_simp; first | exact ⟨Below.refl _ _, rfl⟩ | (rw [if_neg]; (focus (exact ⟨Below.refl _ _, rfl⟩)); (focus ((try simp only [ByteArray.size_append]); omega))) | (fail)))
      refine flow_R (HouseR q0 q1 q2 q3) (vmono_houseR _ _ _ _) (fun A wq hBq hbq hdq => ?_) ?_
      · obtain ⟨hcq, hfq⟩ := bcell hBq
        (try simp [go_sem, baseF, deps, dep1, Region.binds] at hbq)
        (try simp [go_sem, baseF, deps, dep1, Region.binds] at hdq)
        go_simp
        refine (toHouse_R y0 y1 y2 y3 q0 q1 q2 q3 hq0 hq1 hq2 hq3 Hsy _ _ _ _ _ _ _ _ _ gy0 (Kd.C_below Hy0.out (by repeat (first | exact Below.refl _ _ | apply bl_alloc | apply bl_drewN | apply bl_drew | refine bl_set ?_ (by simp) | refine bl_then ?_ (by assumption)))) gy1 (Kd.C_below Hy1.out (by repeat (first | exact Below.refl _ _ | apply bl_alloc | apply bl_drewN | apply bl_drew | refine bl_set ?_ (by simp) | refine bl_then ?_ (by assumption)))) gy2 (Kd.C_below Hy2.out (by repeat (first | exact Below.refl _ _ | apply bl_alloc | apply bl_drewN | apply bl_drew | refine bl_set ?_ (by simp) | refine bl_then ?_ (by assumption)))) gy3 (Kd.C_below Hy3.out (by repeat (first | exact Below.refl _ _ | apply bl_alloc | apply bl_drewN | apply bl_drew | refine bl_set ?_ (by simp) | refine bl_then ?_ (by assumption))))).mono ?_
        rintro e w' ⟨v, rfl, hv, hb⟩
        first | exact ⟨_, rfl, hb, hv⟩ | exact ⟨hb, hv⟩
      refine flow_valE ?_
      apply Exists.intro
      refine ⟨fun A wq hBq hbq hdq => ?_, ?_⟩
      · obtain ⟨hcq, hfq⟩ := bcell hBq
        (try simp [go_sem, baseF, deps, dep1, Region.binds] at hbq)
        (try simp [go_sem, baseF, deps, dep1, Region.binds] at hdq)
        go_simp
        exact spec_Same_R p0 p1 p2 p3 q0 q1 q2 q3 sm hsm Hip Hiq _ _ _ hdq.1 hdq.2
      (refine flow_valE ?_; apply Exists.intro; refine ⟨fun A wq hBq hbq hdq => ?_, ?_⟩; focus (obtain ⟨hcq, hfq⟩ := bcell hBq; (try simp [go_sem, baseF, deps, dep1, Region.binds] at hbq); (try simp [go_sem, baseF, deps, dep1, Region.binds, NewSl] at hdq); go_simp; first | exact ⟨Below.refl _ _, rfl⟩ | (rw [if_neg]; (focus (exact ⟨Below.refl _ _, rfl⟩)); (focus ((try simp only [ByteArray.size_append]); omega))) | (fail)))
      refine fun x wq hBq hall => ?_
      simp only [allT] at hall
      simp [frameOf, Act.put, hall]
      clear hall
      have KA := KA.below hBq
      have KB := KB.below hBq
      have HB := bl_then HB hBq
      clear hBq
      clear ka0 kb0 ka1 kb1 ka2 kb2 ka3 kb3 la lb
      have ka0 := KA.cell 0 rfl
      have kb0 := KB.cell 0 rfl
      have ka1 := KA.cell 1 rfl
      have kb1 := KB.cell 1 rfl
      have ka2 := KA.cell 2 rfl
      have kb2 := KB.cell 2 rfl
      have ka3 := KA.cell 3 rfl
      have kb3 := KB.cell 3 rfl
      have la := KA.lt
      have lb := KB.lt
      go_wp2_with fail
      refine (toHouse_R x0 x1 x2 x3 p0 p1 p2 p3 hp0 hp1 hp2 hp3 Hsx _ _ _ _ _ _ _ _ _ gx0 (Kd.C_below Hx0.out (by repeat (first | exact Below.refl _ _ | apply bl_alloc | apply bl_drewN | apply bl_drew | refine bl_set ?_ (by simp) | refine bl_then ?_ (by assumption)))) gx1 (Kd.C_below Hx1.out (by repeat (first | exact Below.refl _ _ | apply bl_alloc | apply bl_drewN | apply bl_drew | refine bl_set ?_ (by simp) | refine bl_then ?_ (by assumption)))) gx2 (Kd.C_below Hx2.out (by repeat (first | exact Below.refl _ _ | apply bl_alloc | apply bl_drewN | apply bl_drew | refine bl_set ?_ (by simp) | refine bl_then ?_ (by assumption)))) gx3 (Kd.C_below Hx3.out (by repeat (first | exact Below.refl _ _ | apply bl_alloc | apply bl_drewN | apply bl_drew | refine bl_set ?_ (by simp) | refine bl_then ?_ (by assumption))))).mono ?_
      rintro e w3 ⟨v3, rfl, V3, hb⟩
      obtain ⟨E0, E1, E2, E3, e0, e1, e2, e3, rfl, f0, f1, f2, f3, F0, F1, F2, F3⟩ := V3
      have HVE : Hid (HouseR p0 p1 p2 p3 w3 (.agg #[.slice E0 p0.length e0, .slice E1 p1.length e1, .slice E2 p2.length e2, .slice E3 p3.length e3])) := Lib.hid ⟨E0, E1, E2, E3, e0, e1, e2, e3, rfl, f0, f1, f2, f3, F0, F1, F2, F3⟩
      clear F0 F1 F2 F3
      have KA := KA.below hb
      have KB := KB.below hb
      have HB := bl_then HB hb
      have lw3 : W.heap.size + 1 < w3.heap.size := KB.lt
      clear hb
      clear ka0 kb0 ka1 kb1 ka2 kb2 ka3 kb3 la lb
      have ka0 := KA.cell 0 rfl
      have kb0 := KB.cell 0 rfl
      have ka1 := KA.cell 1 rfl
      have kb1 := KB.cell 1 rfl
      have ka2 := KA.cell 2 rfl
      have kb2 := KB.cell 2 rfl
      have ka3 := KA.cell 3 rfl
      have kb3 := KB.cell 3 rfl
      have la := KA.lt
      have lb := KB.lt
      go_wp2_with fail
      refine (toHouse_R y0 y1 y2 y3 q0 q1 q2 q3 hq0 hq1 hq2 hq3 Hsy _ _ _ _ _ _ _ _ _ gy0 (Kd.C_below Hy0.out (by repeat (first | exact Below.refl _ _ | apply bl_alloc | apply bl_drewN | apply bl_drew | refine bl_set ?_ (by simp) | refine bl_then ?_ (by assumption)))) gy1 (Kd.C_below Hy1.out (by repeat (first | exact Below.refl _ _ | apply bl_alloc | apply bl_drewN | apply bl_drew | refine bl_set ?_ (by simp) | refine bl_then ?_ (by assumption)))) gy2 (Kd.C_below Hy2.out (by repeat (first | exact Below.refl _ _ | apply bl_alloc | apply bl_drewN | apply bl_drew | refine bl_set ?_ (by simp) | refine bl_then ?_ (by assumption)))) gy3 (Kd.C_below Hy3.out (by repeat (first | exact Below.refl _ _ | apply bl_alloc | apply bl_drewN | apply bl_drew | refine bl_set ?_ (by simp) | refine bl_then ?_ (by assumption))))).mono ?_
      rintro e w4 ⟨v4, rfl, V4, hb⟩
      obtain ⟨G0, G1, G2, G3, g0, g1, g2, g3, rfl, j0, j1, j2, j3, J0, J1, J2, J3⟩ := V4
      have HVG : Hid (HouseR q0 q1 q2 q3 w4 (.agg #[.slice G0 q0.length g0, .slice G1 q1.length g1, .slice G2 q2.length g2, .slice G3 q3.length g3])) := Lib.hid ⟨G0, G1, G2, G3, g0, g1, g2, g3, rfl, j0, j1, j2, j3, J0, J1, J2, J3⟩
      clear J0 J1 J2 J3
      have KA := (KA.alloc _).below hb
      have KB := (KB.alloc _).below hb
      have HB := bl_then (bl_alloc HB _) hb
      have KE : Blk 48 w3.heap.size #[.slice E0 p0.length e0, .slice E1 p1.length e1, .slice E2 p2.length e2, .slice E3 p3.length e3] w4 := (Blk.new _ _ w3).below hb
      have HVE := Lib.hid (vmono_houseR _ _ _ _ _ _ _ HVE.out (bl_then (bl_alloc (Below.refl _ _) _) hb))
      have lw4 : w3.heap.size < w4.heap.size := KE.lt
      clear hb
      clear ka0 kb0 ka1 kb1 ka2 kb2 ka3 kb3 la lb
      have ka0 := KA.cell 0 rfl
      have kb0 := KB.cell 0 rfl
      have ka1 := KA.cell 1 rfl
      have kb1 := KB.cell 1 rfl
      have ka2 := KA.cell 2 rfl
      have kb2 := KB.cell 2 rfl
      have ka3 := KA.cell 3 rfl
      have kb3 := KB.cell 3 rfl
      have la := KA.lt
      have lb := KB.lt
      have ke0 := KE.cell 0 rfl
      have ke1 := KE.cell 1 rfl
      have ke2 := KE.cell 2 rfl
      have ke3 := KE.cell 3 rfl
      go_wp2_with fail
      refine (impl_Same_R p0 p1 p2 p3 q0 q1 q2 q3 sm hsm Hip Hiq _ _ _ (vmono_houseR _ _ _ _ _ _ _ HVE.out (bl_alloc (Below.refl _ _) _)) (vmono_houseR _ _ _ _ _ _ _ HVG.out (bl_alloc (Below.refl _ _) _))).mono ?_
      rintro e w5 ⟨rfl, hb⟩
      have KA := (KA.alloc _).below hb
      have KB := (KB.alloc _).below hb
      have HB := bl_then (bl_alloc HB _) hb
      have KE := (KE.alloc _).below hb
      have KG : Blk 48 w4.heap.size #[.slice G0 q0.length g0, .slice G1 q1.length g1, .slice G2 q2.length g2, .slice G3 q3.length g3] w5 := (Blk.new _ _ w4).below hb
      have HVE := Lib.hid (vmono_houseR _ _ _ _ _ _ _ HVE.out (bl_then (bl_alloc (Below.refl _ _) _) hb))
      have HVG := Lib.hid (vmono_houseR _ _ _ _ _ _ _ HVG.out (bl_then (bl_alloc (Below.refl _ _) _) hb))
      have lw5 : w4.heap.size < w5.heap.size := KG.lt
      have le5 : w3.heap.size < w5.heap.size := KE.lt
      clear hb ke0 ke1 ke2 ke3
      clear ka0 kb0 ka1 kb1 ka2 kb2 ka3 kb3 la lb
      have ka0 := KA.cell 0 rfl
      have kb0 := KB.cell 0 rfl
      have ka1 := KA.cell 1 rfl
      have kb1 := KB.cell 1 rfl
      have ka2 := KA.cell 2 rfl
      have kb2 := KB.cell 2 rfl
      have ka3 := KA.cell 3 rfl
      have kb3 := KB.cell 3 rfl
      have la := KA.lt
      have lb := KB.lt
      have ke0 := KE.cell 0 rfl
      have ke1 := KE.cell 1 rfl
      have ke2 := KE.cell 2 rfl
      have ke3 := KE.cell 3 rfl
      have kg0 := KG.cell 0 rfl
      have kg1 := KG.cell 1 rfl
      have kg2 := KG.cell 2 rfl
      have kg3 := KG.cell 3 rfl
      go_wp2
      refine wp_region_flow [7, 2] 45 (by kernel_rfl) (by rfl) (by kernel_rfl) (by kernel_rfl) (by kernel_rfl) ?_
      iterate 2 (refine flow_valE ?_; apply Exists.intro; refine ⟨fun A wq hBq hbq hdq => ?_, ?_⟩; focus (obtain ⟨hcq, hfq⟩ := bcell hBq; (try simp [go_sem, baseF, deps, dep1, Region.binds] at hbq); (try simp [go_sem, baseF, deps, dep1, Region.binds, NewSl] at hdq); go_simp; first | exact ⟨Below.refl _ _, rfl⟩ | (rw [if_neg]; (focus (exact ⟨Below.refl _ _, rfl⟩)); (focus ((try simp only [ByteArray.size_append]); omega))) | (fail)))
      refine flow_R (HouseR p0 p1 p2 p3) (vmono_houseR _ _ _ _) (fun A wq hBq hbq hdq => ?_) ?_
      · obtain ⟨hcq, hfq⟩ := bcell hBq
        (try simp [go_sem, baseF, deps, dep1, Region.binds] at hbq)
        (try simp [go_sem, baseF, deps, dep1, Region.binds] at hdq)
        go_simp
        refine (toHouse_R x0 x1 x2 x3 p0 p1 p2 p3 hp0 hp1 hp2 hp3 Hsx _ _ _ _ _ _ _ _ _ gx0 (Kd.C_below Hx0.out (by repeat (first | exact Below.refl _ _ | apply bl_alloc | apply bl_drewN | apply bl_drew | refine bl_set ?_ (by simp) | refine bl_then ?_ (by assumption)))) gx1 (Kd.C_below Hx1.out (by repeat (first | exact Below.refl _ _ | apply bl_alloc | apply bl_drewN | apply bl_drew | refine bl_set ?_ (by simp) | refine bl_then ?_ (by assumption)))) gx2 (Kd.C_below Hx2.out (by repeat (first | exact Below.refl _ _ | apply bl_alloc | apply bl_drewN | apply bl_drew | refine bl_set ?_ (by simp) | refine bl_then ?_ (by assumption)))) gx3 (Kd.C_below Hx3.out (by repeat (first | exact Below.refl _ _ | apply bl_alloc | apply bl_drewN | apply bl_drew | refine bl_set ?_ (by simp) | refine bl_then ?_ (by assumption))))).mono ?_
        rintro e w' ⟨v, rfl, hv, hb⟩
        first | exact ⟨_, rfl, hb, hv⟩ | exact ⟨hb, hv⟩
      refine flow_valE ?_
      apply Exists.intro
      refine ⟨fun A wq hBq hbq hdq => ?_, ?_⟩
      · obtain ⟨hcq, hfq⟩ := bcell hBq
        (try simp [go_sem, baseF, deps, dep1, Region.binds] at hbq)
        (try simp [go_sem, baseF, deps, dep1, Region.binds] at hdq)
        obtain ⟨hd0, hd1⟩ := hdq
        go_simp
        exact eqHouse_R p0 p1 p2 p3 Hip _ _ _ (vmono_houseR _ _ _ _ _ _ _ HVE.out hBq) hd1
      (refine flow_valE ?_; apply Exists.intro; refine ⟨fun A wq hBq hbq hdq => ?_, ?_⟩; focus (obtain ⟨hcq, hfq⟩ := bcell hBq; (try simp [go_sem, baseF, deps, dep1, Region.binds] at hbq); (try simp [go_sem, baseF, deps, dep1, Region.binds, NewSl] at hdq); go_simp; first | exact ⟨Below.refl _ _, rfl⟩ | (rw [if_neg]; (focus (exact ⟨Below.refl _ _, rfl⟩)); (focus ((try simp only [ByteArray.size_append]); omega))) | (fail)))
      refine fun x wq hBq hall => ?_
      simp only [allT] at hall
      simp [frameOf, Act.put, hall]
      clear hall
      have KA := KA.below hBq
      have KB := KB.below hBq
      have HB := bl_then HB hBq
      have KE := KE.below hBq
      have KG := KG.below hBq
      have HVG := Lib.hid (vmono_houseR _ _ _ _ _ _ _ HVG.out hBq)
      have lw6 := KG.lt
      have le6 := KE.lt
      clear hBq ke0 ke1 ke2 ke3 kg0 kg1 kg2 kg3
      clear ka0 kb0 ka1 kb1 ka2 kb2 ka3 kb3 la lb
      have ka0 := KA.cell 0 rfl
      have kb0 := KB.cell 0 rfl
      have ka1 := KA.cell 1 rfl
      have kb1 := KB.cell 1 rfl
      have ka2 := KA.cell 2 rfl
      have kb2 := KB.cell 2 rfl
      have ka3 := KA.cell 3 rfl
      have kb3 := KB.cell 3 rfl
      have la := KA.lt
      have lb := KB.lt
      have kg0 := KG.cell 0 rfl
      have kg1 := KG.cell 1 rfl
      have kg2 := KG.cell 2 rfl
      have kg3 := KG.cell 3 rfl
      go_wp2
      refine wp_region_flow [8, 3] 45 (by kernel_rfl) (by rfl) (by kernel_rfl) (by kernel_rfl) (by kernel_rfl) ?_
      iterate 2 (refine flow_valE ?_; apply Exists.intro; refine ⟨fun A wq hBq hbq hdq => ?_, ?_⟩; focus (obtain ⟨hcq, hfq⟩ := bcell hBq; (try simp [go_sem, baseF, deps, dep1, Region.binds] at hbq); (try simp [go_sem, baseF, deps, dep1, Region.binds, NewSl] at hdq); go_simp; first | exact ⟨Below.refl _ _, rfl⟩ | (rw [if_neg]; (focus (exact ⟨Below.refl _ _, rfl⟩)); (focus ((try simp only [ByteArray.size_append]); omega))) | (fail)))
      refine flow_R (HouseR q0 q1 q2 q3) (vmono_houseR _ _ _ _) (fun A wq hBq hbq hdq => ?_) ?_
      · obtain ⟨hcq, hfq⟩ := bcell hBq
        (try simp [go_sem, baseF, deps, dep1, Region.binds] at hbq)
        (try simp [go_sem, baseF, deps, dep1, Region.binds] at hdq)
        go_simp
        refine (toHouse_R y0 y1 y2 y3 q0 q1 q2 q3 hq0 hq1 hq2 hq3 Hsy _ _ _ _ _ _ _ _ _ gy0 (Kd.C_below Hy0.out (by repeat (first | exact Below.refl _ _ | apply bl_alloc | apply bl_drewN | apply bl_drew | refine bl_set ?_ (by simp) | refine bl_then ?_ (by assumption)))) gy1 (Kd.C_below Hy1.out (by repeat (first | exact Below.refl _ _ | apply bl_alloc | apply bl_drewN | apply bl_drew | refine bl_set ?_ (by simp) | refine bl_then ?_ (by assumption)))) gy2 (Kd.C_below Hy2.out (by repeat (first | exact Below.refl _ _ | apply bl_alloc | apply bl_drewN | apply bl_drew | refine bl_set ?_ (by simp) | refine bl_then ?_ (by assumption)))) gy3 (Kd.C_below Hy3.out (by repeat (first | exact Below.refl _ _ | apply bl_alloc | apply bl_drewN | apply bl_drew | refine bl_set ?_ (by simp) | refine bl_then ?_ (by assumption))))).mono ?_
        rintro e w' ⟨v, rfl, hv, hb⟩
        first | exact ⟨_, rfl, hb, hv⟩ | exact ⟨hb, hv⟩
      refine flow_valE ?_
      apply Exists.intro
      refine ⟨fun A wq hBq hbq hdq => ?_, ?_⟩
      · obtain ⟨hcq, hfq⟩ := bcell hBq
        (try simp [go_sem, baseF, deps, dep1, Region.binds] at hbq)
        (try simp [go_sem, baseF, deps, dep1, Region.binds] at hdq)
        obtain ⟨hd0, hd1⟩ := hdq
        go_simp
        exact eqHouse_R q0 q1 q2 q3 Hiq _ _ _ (vmono_houseR _ _ _ _ _ _ _ HVG.out hBq) hd1
      (refine flow_valE ?_; apply Exists.intro; refine ⟨fun A wq hBq hbq hdq => ?_, ?_⟩; focus (obtain ⟨hcq, hfq⟩ := bcell hBq; (try simp [go_sem, baseF, deps, dep1, Region.binds] at hbq); (try simp [go_sem, baseF, deps, dep1, Region.binds, NewSl] at hdq); go_simp; first | exact ⟨Below.refl _ _, rfl⟩ | (rw [if_neg]; (focus (exact ⟨Below.refl _ _, rfl⟩)); (focus ((try simp only [ByteArray.size_append]); omega))) | (fail)))
      refine fun x wq hBq hall => ?_
      simp only [allT] at hall
      simp [frameOf, Act.put, hall]
      clear hall
      have HB := bl_then HB hBq
      clear hBq
      go_wp2
      all_goals
        go_ret
        exact ⟨rfl, HB⟩

end Go.Proofs.Ytlbikcelfheohab
end

/-! ### YtlbikcelfheohabRowFnExactSameHouse -/
section
namespace Go.Proofs.Ytlbikcelfheohab.fnExactSameHouse
open Go.ChangeShapes Go.WideShapes Go.ChangeAt Go.RowKit
theorem own : ownKnob Try.prog.godebug = none := by kernel_rfl
theorem laidOut : laidOutB Try.prog = true := by kernel_rfl
set_option maxRecDepth 100000 in
theorem lifted (os : Os) (started : os.Started) (H : Type) (enc : TypeId × Value → H) :
    ReturnsInHanded {} Try.checked os 4 .any (Rows.fnExactSameHouseSpec.pre6 enc Try.prog Try.f4 Rows.fnExactSameHouseRow.domain false) (Rows.fnExactSameHouseSpec.post enc Try.prog Try.f4 false true false false) := by
  refine returnsInHanded_of_change_sized (C := Try.checked) own started (by kernel_rfl) Try.func4
    (ChangeSpec.witness6 (enc := enc) (C := Try.checked) false ⟨#[], #[.agg #[.slice none 0 0, .slice none 0 0, .slice none 0 0, .slice none 0 0], .agg #[.slice none 0 0, .slice none 0 0, .slice none 0 0, .slice none 0 0]], []⟩ 20 (by kernel_rfl) (by kernel_rfl) (by kernel_rfl) (by kernel_rfl)) ?_
  intro W base args ds gs before hval0 hW hcnd hsz0 _
  have hval : ∀ (j : Nat) t v, Try.f4.params[j]? = some t → args[j]? = some v → Value.okWide Try.prog W .any base t v := hval0
  have hW' := hW
  obtain ⟨p, q, hA0, hV, rfl, hfz, hnd⟩ := hW
  have hA : DataW.TrodAll enc Try.prog W 0 (fun _ => true) true Try.f4.params.toList args.toList ds p := hA0
  rw [Try.params4] at hA hval
  obtain ⟨v0, vs0, d0, ds0, p0, q0, hargs, rfl, rfl, h0, r0⟩ := trodAll_cons hA
  obtain ⟨v1, vs1, d1, ds1, p1, q1, rfl, rfl, rfl, h1, r1⟩ := trodAll_cons r0
  obtain ⟨rfl, rfl, rfl⟩ := trodAll_nil r1
  obtain rfl : args = #[v0, v1] := by cases args; simp_all
  obtain ⟨rfl, rfl⟩ := trodVars_none hV
  have k0 := h0
  have lt0 : ∀ x ∈ p0, x.block < W.heap.size := by obtain ⟨m, hm⟩ := k0; exact DataW.trod_lt m _ _ _ hm
  have a0 : ArgOf Try.prog W 40 v0 := ⟨⟨base, hval 0 40 v0 rfl rfl⟩, by obtain ⟨m, hm⟩ := k0; exact ⟨H, enc, m, _, hm⟩⟩
  have k1 := h1
  have lt1 : ∀ x ∈ p1, x.block < W.heap.size := by obtain ⟨m, hm⟩ := k1; exact DataW.trod_lt m _ _ _ hm
  have a1 : ArgOf Try.prog W 40 v1 := ⟨⟨base, hval 1 40 v1 rfl rfl⟩, by obtain ⟨m, hm⟩ := k1; exact ⟨H, enc, m, _, hm⟩⟩
  clear hA0 hval0 hsz0
  refine (FnExactSameHouse_walk v0 v1 W a0 a1).mono fun e W' ⟨he, bel⟩ => ?_
  subst he
  exact ⟨_, rfl, _, _, _, [], _, [], hW', trodAll_mk1 (shut_bool Try.underlying4 _), (trodAll_cons_mk (Below.trod laidOut (by kernel_rfl) (of_decide_eq_true (by kernel_rfl)) k0 bel lt0) (trodAll_cons_mk (Below.trod laidOut (by kernel_rfl) (of_decide_eq_true (by kernel_rfl)) k1 bel lt1) trodAll_mk0)), rfl, bel.frame _, fun h => by cases h⟩
theorem over : Rows.fnExactSameHouseRow.holds Try.pinned (OpenSpec.ofChange Rows.fnExactSameHouseSpec) :=
  OpenClaim.holds_of_wide 4 Try.f4 rfl rfl rfl rfl rfl rfl rfl ⟨rfl, rfl, rfl, rfl, rfl⟩ rfl rfl rfl rfl rfl (by kernel_rfl) Try.func4 (by kernel_rfl)
    (of_decide_eq_true (by kernel_rfl)) (by unfold Func.isWrapper; first | (rw [if_pos (by decide +kernel)]; kernel_rfl) | (rw [if_neg (by decide +kernel)]; exact ⟨rfl, rfl⟩))
    (fun os started H enc _ => lifted os started H enc)
theorem proved : Rows.FnExactSameHouseSaid := over
#print axioms proved
end Go.Proofs.Ytlbikcelfheohab.fnExactSameHouse
namespace Go.Proofs.Ytlbikcelfheohab
/-- The row, under a short name, for the claim. -/
theorem fnExactSameHouse_holds : Rows.FnExactSameHouseSaid := fnExactSameHouse.proved
end Go.Proofs.Ytlbikcelfheohab
end
