import Derived.Test.YtofikijbmgejkaaODecodeA
import Derived.Test.YtofikijbmgejkaaPDecodeA
import Derived.Test.YtofikijbmgejkaaPDecodeB
import Derived.Deep.Cut

/-! ### YtofikijbmgejkaaMsgSpec -/
section
namespace Go.Proofs.Ytofikijbmgejkaa
open Go.RowKit Go.Proofs.YtofikijbmgejkaaW.PrintWords PFnExactDecode
set_option linter.unusedSimpArgs false
set_option linter.unusedVariables false

/-- What stands ahead of the entries. -/
def preB (a0 a1 a2 a3 a4 a5 a6 : Int) (es : List S105) : Bool :=
  inB a0 1 6 && inB a1 1 4 && inB a2 1 4 && !(a1 == a2) && (inB a3 0 100000 && inB a5 0 100000 && inB a4 0 1000000 && inB a6 0 1000000) && decide (es.length ≤ 4) && (decide (es.length = 0) || a0 == 3)
theorem msgB_pre (a0 a1 a2 a3 a4 a5 a6 : Int) (es : List S105) (cf : List Int) (d : ByteArray) (ls : Bool) :
    msgB a0 a1 a2 a3 a4 a5 a6 es cf d ls = (preB a0 a1 a2 a3 a4 a5 a6 es && ents es a3 0 es.length a5 && lastB a0 cf d ls) := by
  unfold msgB preB headB tailB
  simp only [inM_inB]
  generalize inB a0 1 6 = b0
  generalize inB a1 1 4 = b1
  generalize inB a2 1 4 = b2
  generalize (!(a1 == a2)) = b3
  generalize inB a3 0 100000 = b4
  generalize inB a5 0 100000 = b5
  generalize inB a4 0 1000000 = b6
  generalize inB a6 0 1000000 = b7
  generalize decide (es.length ≤ 4) = b8
  generalize (decide (es.length = 0) || a0 == 3) = b9
  generalize ents es a3 0 es.length a5 = b10
  cases b0 <;> cases b1 <;> cases b2 <;> cases b3 <;> cases b4 <;> cases b5 <;> cases b6 <;> cases b7 <;> cases b8 <;> cases b9 <;> cases b10 <;> rfl

set_option maxHeartbeats 2000000 in
set_option maxRecDepth 100000 in
theorem spec_Msg_no (es : List S105) (hS : Short es) (a0 a1 a2 a3 a4 a5 a6 : Int) (a7 : Bool) (cf : List Int) (d : ByteArray) (ls : Bool) (hl : es.length ≤ 1048576) (hcf : cf.length ≤ 1048576) (A8 : Option Addr) (c8 : Nat) (A9 : Option Addr) (c9 : Nat) (w : World)
    (hr8 : Kd.C k105 w A8 es.length es) (hc8 : es.length ≤ c8) (hr9 : Kd.C (Kd.int .i64) w A9 cf.length cf) (hc9 : cf.length ≤ c9) (hno : preB a0 a1 a2 a3 a4 a5 a6 es = false) :
    Calls Try.prog 114 #[.agg #[.int .i64 a0, .int .i64 a1, .int .i64 a2, .int .i64 a3, .int .i64 a4, .int .i64 a5, .int .i64 a6, .bool a7, .slice A8 es.length c8, .slice A9 cf.length c9, .string d, .bool ls]] w fun e w' => e = .returned (.bool false) ∧ Below w.heap.size w w' := by
  have HN := Lib.hid hno
  clear hno hr8 hr9
  go_enter Try.func114, Try.ntmps114
  go_wp2_with (first | (go_at_call 58; refine (spec_l01In _ _ _ _).mono ?_; rintro e w' ⟨rfl, rfl⟩))
  all_goals first
    | (go_ret; exact ⟨rfl, (by repeat (first | exact Below.refl _ _ | apply bl_alloc | apply bl_drewN | apply bl_drew | refine bl_set ?_ (by simp) | refine bl_then ?_ (by assumption)))⟩)
    | (exfalso
       have h := HN.out
       unfold preB at h
       simp [*] at h
       have h6 : inB a6 0 1000000 = true := by simpa using (by assumption : (!inB a6 0 1000000) = false)
       have h4 : es.length ≤ 4 := by omega
       have h7 := h h6 h4
       first
         | exact h7.1 (List.eq_nil_of_length_eq_zero (by omega))
         | (have h9 := (by assumption : (es.length : Int) ≤ 4 ∧ (a0 != 3) = false).2
            exact h7.2 (by simpa using h9)))
attribute [local go_sem] flowUpon
set_option maxHeartbeats 4000000 in
set_option maxRecDepth 100000 in
theorem spec_Msg_yes (es : List S105) (hS : Short es) (a0 a1 a2 a3 a4 a5 a6 : Int) (a7 : Bool) (cf : List Int) (d : ByteArray) (ls : Bool) (hl : es.length ≤ 1048576) (hcf : cf.length ≤ 1048576) (A8 : Option Addr) (c8 : Nat) (A9 : Option Addr) (c9 : Nat) (w : World)
    (hr8 : Kd.C k105 w A8 es.length es) (hc8 : es.length ≤ c8) (hr9 : Kd.C (Kd.int .i64) w A9 cf.length cf) (hc9 : cf.length ≤ c9) (i0 : inB a0 1 6 = true) (i1 : inB a1 1 4 = true) (i2 : inB a2 1 4 = true) (ne : (a1 == a2) = false) (i3 : inB a3 0 100000 = true) (i5 : inB a5 0 100000 = true) (i4 : inB a4 0 1000000 = true) (i6 : inB a6 0 1000000 = true)
    (l4 : es.length ≤ 4) (lk : es.length = 0 ∨ a0 = 3) (r lb : Bool) (hr : Hid (ents es a3 0 es.length a5 = r)) (hlb : Hid (lastB a0 cf d ls = lb)) :
    Calls Try.prog 114 #[.agg #[.int .i64 a0, .int .i64 a1, .int .i64 a2, .int .i64 a3, .int .i64 a4, .int .i64 a5, .int .i64 a6, .bool a7, .slice A8 es.length c8, .slice A9 cf.length c9, .string d, .bool ls]] w fun e w' => e = .returned (.bool (r && lb)) ∧ Below w.heap.size w w' := by
  have HR8 := Lib.hid hr8
  have HR9 := Lib.hid hr9
  clear hr8 hr9
  have n4 : decide (4 < (es.length : Int)) = false := decide_eq_false (by omega)
  have hcont : ∀ (b : Bool), True := fun _ => trivial
  rcases Nat.eq_zero_or_pos es.length with hz | hp
  · have n0 : decide (0 < (es.length : Int)) = false := decide_eq_false (by omega)
    have n0' : decide (0 < es.length) = false := decide_eq_false (by omega)
    have HZ := Lib.hid hz
    clear hz lk
    go_enter Try.func114, Try.ntmps114
    go_wp2_with (first | (go_at_call 58; refine (spec_l01In _ _ _ _).mono ?_; rintro e w' ⟨rfl, rfl⟩))
    clear i0 i1 i2 ne i3 i5 i4 i6 n4 n0 n0'
    obtain ⟨X, hX⟩ : ∃ X, X = w.alloc (.cells #[.int .i64 a0, .int .i64 a1, .int .i64 a2, .int .i64 a3, .int .i64 a4, .int .i64 a5, .int .i64 a6, .bool a7, .slice A8 es.length c8, .slice A9 cf.length c9, .string d, .bool ls] 57) := ⟨_, rfl⟩
    have KA : Blk 57 w.heap.size #[.int .i64 a0, .int .i64 a1, .int .i64 a2, .int .i64 a3, .int .i64 a4, .int .i64 a5, .int .i64 a6, .bool a7, .slice A8 es.length c8, .slice A9 cf.length c9, .string d, .bool ls] X := by rw [hX]; exact Blk.new _ _ w
    have HX : Below w.heap.size w X := by rw [hX]; exact (by repeat (first | exact Below.refl _ _ | apply bl_alloc | apply bl_drewN | apply bl_drew | refine bl_set ?_ (by simp) | refine bl_then ?_ (by assumption)))
    rw [← hX]
    clear hX
    go_loopg [3, 4] es.length (fun kq v3 v4 w' => ∃ (i : Nat) (pt : Int), v3 = .int .i64 pt ∧ v4 = .int .i64 (i : Int) ∧ i + kq = es.length ∧ Hid (ents es a3 i kq pt = r) ∧ Below X.heap.size X w')
    case atStart => exact ⟨0, a5, rfl, rfl, by omega, hr, Below.refl _ _⟩
    case round =>
      obtain ⟨i, pt, rfl, rfl, hik, hix, hb⟩ := hrel
      clear hr
      have KW := KA.below hb
      have k0 := KW.cell 0 rfl
      have k3 := KW.cell 3 rfl
      have k8 := KW.cell 8 rfl
      have k9 := KW.cell 9 rfl
      have k10 := KW.cell 10 rfl
      have k11 := KW.cell 11 rfl
      have la := KW.lt
      have la2 : w.heap.size < wr.heap.size + 1 := by omega
      cases gk with
      | zero =>
        have hlt : ¬ ((i : Int) < (es.length : Int)) := by omega
        have hrv := hix.out
        simp only [ents] at hrv
        subst hrv
        clear hix
        have hl5 := hlb.out
        unfold lastB at hl5
        clear hlb
        by_cases h5 : a0 = 5
        · rw [if_pos h5] at hl5
          have h5' : (a0 == 5) = true := by rw [h5]; rfl
          obtain ⟨cb, hcb⟩ : ∃ cb, confOk cf = cb := ⟨_, rfl⟩
          rw [hcb] at hl5
          have HCB := Lib.hid hcb
          clear hcb h5
          cases cb with
          | false =>
            simp only [Bool.false_and] at hl5
            subst hl5
            go_wp2_with (first | (go_at_call 84; refine (spec_confH _ _ cf false _ HCB (Kd.C_below HR9.out (bl_then HX (bl_then hb (by repeat (first | exact Below.refl _ _ | apply bl_alloc | apply bl_drewN | apply bl_drew | refine bl_set ?_ (by simp) | refine bl_then ?_ (by assumption)))))) hc9 hcf).mono ?_; rintro e w' ⟨rfl, hb1⟩))
            go_ret
            exact ⟨rfl, bl_then HX (bl_then hb (by repeat (first | exact Below.refl _ _ | apply bl_alloc | apply bl_drewN | apply bl_drew | refine bl_set ?_ (by simp) | refine bl_then ?_ (by assumption))))⟩
          | true =>
            simp only [Bool.true_and] at hl5
            subst hl5
            go_wp2_with (first | (go_at_call 84; refine (spec_confH _ _ cf true _ HCB (Kd.C_below HR9.out (bl_then HX (bl_then hb (by repeat (first | exact Below.refl _ _ | apply bl_alloc | apply bl_drewN | apply bl_drew | refine bl_set ?_ (by simp) | refine bl_then ?_ (by assumption)))))) hc9 hcf).mono ?_; rintro e w' ⟨rfl, hb1⟩; obtain ⟨hc1, hf1⟩ := bcell hb1; have hz1 : w.heap.size < w'.heap.size := (by have := hb1.size; (try simp at this); omega)))
            all_goals
              go_ret
              exact ⟨by first | rfl | (simp; done) | (simp [*]; done) | (refine ret_bool ?_; simp; omega), bl_then HX (bl_then hb (by repeat (first | exact Below.refl _ _ | apply bl_alloc | apply bl_drewN | apply bl_drew | refine bl_set ?_ (by simp) | refine bl_then ?_ (by assumption))))⟩
        · rw [if_neg h5] at hl5
          have h5' : (a0 == 5) = false := by simpa using h5
          clear h5
          go_wp2
          all_goals
            go_ret
            refine ⟨?_, bl_then HX (bl_then hb (by repeat (first | exact Below.refl _ _ | apply bl_alloc | apply bl_drewN | apply bl_drew | refine bl_set ?_ (by simp) | refine bl_then ?_ (by assumption))))⟩
            first
              | (refine ret_bool ?_; rw [← hl5]; simp [*]; done)
              | (refine ret_bool ?_; rw [← hl5]; simp_all; done)
              | trace_state
      | succ n =>
        have hlt : (i : Int) < (es.length : Int) := by omega
        obtain ⟨ad, e1, x0, x1, x2⟩ := at_T105 (Kd.C_below HR8.out (bl_then HX hb)) i (by omega) hlt
        subst e1
        simp only [Int.toNat_natCast] at x0 x1 x2
        have lx : (ad.add (i * 3)).block < wr.heap.size := World.block_lt_of_cell? wr _ x0
        have E1 := Lib.hid (show wrap64 ((i : Int) + 1) = ((i + 1 : Nat) : Int) from by unfold wrap64; omega)
        have hrv := hix.out
        simp only [ents] at hrv
        have hSi := hS i
        obtain ⟨eo, heo⟩ : ∃ eo, entryOk (rd_T105 es (i : Int)).f0 (rd_T105 es (i : Int)).f1 (rd_T105 es (i : Int)).f2 = eo := ⟨_, rfl⟩
        rw [heo] at hrv
        have HEO := Lib.hid heo
        clear heo hix
        cases eo with
        | false =>
          simp only [Bool.false_and] at hrv
          subst hrv
          go_wp2
          refine wp_region_flowG [1, 3, 4] 134 (by kernel_rfl) (by rfl) (by kernel_rfl) (by kernel_rfl) (by kernel_rfl) ?_
          iterate 8 (refine flowG_valE ?_; apply Exists.intro; refine ⟨fun A wq hBq hbq hdq => ?_, ?_⟩; focus (obtain ⟨hcq, hfq⟩ := bcellA hBq; (try simp [go_sem, baseF, deps, dep1, Region.binds] at hbq); (try simp [go_sem, baseF, deps, dep1, Region.binds, NewSl] at hdq); go_simp <;> first | exact ⟨Below.refl _ _, rfl⟩ | (rw [if_neg]; (focus (exact ⟨Below.refl _ _, rfl⟩)); (focus ((try simp only [ByteArray.size_append]); omega))) | (first | (go_at_call 126; exact (spec_EntryOkH _ _ _ false _ HEO (by omega))))))
          iterate 8 (refine flowG_no (fun A wq hBq hbq hdq => ?_) ?_; focus ((try simp [go_sem, baseF, deps, dep1, Region.binds] at hdq); refine yielded_of rfl ?_; simp [hdq]))
          iterate 2 (refine flowG_valE ?_; apply Exists.intro; refine ⟨fun A wq hBq hbq hdq => ?_, ?_⟩; focus (obtain ⟨hcq, hfq⟩ := bcellA hBq; (try simp [go_sem, baseF, deps, dep1, Region.binds] at hbq); (try simp [go_sem, baseF, deps, dep1, Region.binds, NewSl] at hdq); go_simp <;> first | exact ⟨Below.refl _ _, rfl⟩ | (rw [if_neg]; (focus (exact ⟨Below.refl _ _, rfl⟩)); (focus ((try simp only [ByteArray.size_append]); omega))) | (fail)))
          iterate 9 (refine flowG_no (fun A wq hBq hbq hdq => ?_) ?_; focus ((try simp [go_sem, baseF, deps, dep1, Region.binds] at hdq); refine yielded_of rfl ?_; simp [hdq]))
          (refine flowG_valE ?_; apply Exists.intro; refine ⟨fun A wq hBq hbq hdq => ?_, ?_⟩; focus (obtain ⟨hcq, hfq⟩ := bcellA hBq; (try simp [go_sem, baseF, deps, dep1, Region.binds] at hbq); (try simp [go_sem, baseF, deps, dep1, Region.binds, NewSl] at hdq); go_simp <;> first | exact ⟨Below.refl _ _, rfl⟩ | (rw [if_neg]; (focus (exact ⟨Below.refl _ _, rfl⟩)); (focus ((try simp only [ByteArray.size_append]); omega))) | (fail)))
          refine fun x wq hBq hall => ?_
          obtain ⟨hcq, hfq⟩ := bcellA hBq
          simp only [allT] at hall
          simp [frameOf, Act.put, hall]
          clear hall
          go_wp2
          go_ret
          exact ⟨by simp, bl_then HX (bl_then hb (by repeat (first | exact Below.refl _ _ | apply bl_alloc | apply bl_drewN | apply bl_drew | refine bl_set ?_ (by simp) | refine bl_then ?_ (by assumption))))⟩
        | true =>
          simp only [Bool.true_and] at hrv
          by_cases h1 : (rd_T105 es (i : Int)).f0 < pt
          · have h1' : decide ((rd_T105 es (i : Int)).f0 < pt) = true := decide_eq_true h1
            rw [h1'] at hrv
            simp only [Bool.not_true, Bool.false_and] at hrv
            subst hrv
            go_wp2
            refine wp_region_flowG [1, 3, 4] 134 (by kernel_rfl) (by rfl) (by kernel_rfl) (by kernel_rfl) (by kernel_rfl) ?_
            iterate 8 (refine flowG_valE ?_; apply Exists.intro; refine ⟨fun A wq hBq hbq hdq => ?_, ?_⟩; focus (obtain ⟨hcq, hfq⟩ := bcellA hBq; (try simp [go_sem, baseF, deps, dep1, Region.binds] at hbq); (try simp [go_sem, baseF, deps, dep1, Region.binds, NewSl] at hdq); go_simp <;> first | exact ⟨Below.refl _ _, rfl⟩ | (rw [if_neg]; (focus (exact ⟨Below.refl _ _, rfl⟩)); (focus ((try simp only [ByteArray.size_append]); omega))) | (first | (go_at_call 126; exact (spec_EntryOkH _ _ _ true _ HEO (by omega))))))
            iterate 8 (refine flowG_yesE ?_; apply Exists.intro; refine ⟨fun A wq hBq hbq hdq => ⟨?_, ?_⟩, ?_⟩; (focus ((try simp [go_sem, baseF, deps, dep1, Region.binds] at hdq); refine yielded_of rfl ?_; simp [hdq])); focus (obtain ⟨hcq, hfq⟩ := bcellA hBq; (try simp [go_sem, baseF, deps, dep1, Region.binds] at hbq); (try simp [go_sem, baseF, deps, dep1, Region.binds, NewSl] at hdq); go_simp <;> first | exact ⟨Below.refl _ _, rfl⟩ | (rw [if_neg]; (focus (exact ⟨Below.refl _ _, rfl⟩)); (focus ((try simp only [ByteArray.size_append]); omega))) | (fail)))
            iterate 2 (refine flowG_valE ?_; apply Exists.intro; refine ⟨fun A wq hBq hbq hdq => ?_, ?_⟩; focus (obtain ⟨hcq, hfq⟩ := bcellA hBq; (try simp [go_sem, baseF, deps, dep1, Region.binds] at hbq); (try simp [go_sem, baseF, deps, dep1, Region.binds, NewSl] at hdq); go_simp <;> first | exact ⟨Below.refl _ _, rfl⟩ | (rw [if_neg]; (focus (exact ⟨Below.refl _ _, rfl⟩)); (focus ((try simp only [ByteArray.size_append]); omega))) | (fail)))
            iterate 9 (refine flowG_no (fun A wq hBq hbq hdq => ?_) ?_; focus ((try simp [go_sem, baseF, deps, dep1, Region.binds] at hdq); refine yielded_of rfl ?_; simp [hdq]))
            (refine flowG_valE ?_; apply Exists.intro; refine ⟨fun A wq hBq hbq hdq => ?_, ?_⟩; focus (obtain ⟨hcq, hfq⟩ := bcellA hBq; (try simp [go_sem, baseF, deps, dep1, Region.binds] at hbq); (try simp [go_sem, baseF, deps, dep1, Region.binds, NewSl] at hdq); go_simp <;> first | exact ⟨Below.refl _ _, rfl⟩ | (rw [if_neg]; (focus (exact ⟨Below.refl _ _, rfl⟩)); (focus ((try simp only [ByteArray.size_append]); omega))) | (fail)))
            refine fun x wq hBq hall => ?_
            obtain ⟨hcq, hfq⟩ := bcellA hBq
            simp only [allT] at hall
            simp [frameOf, Act.put, hall]
            clear hall
            go_wp2
            go_ret
            exact ⟨by simp, bl_then HX (bl_then hb (by repeat (first | exact Below.refl _ _ | apply bl_alloc | apply bl_drewN | apply bl_drew | refine bl_set ?_ (by simp) | refine bl_then ?_ (by assumption))))⟩
          · have h1' : decide ((rd_T105 es (i : Int)).f0 < pt) = false := decide_eq_false h1
            rw [h1'] at hrv
            simp only [Bool.not_false, Bool.true_and] at hrv
            clear h1
            by_cases h2 : (rd_T105 es (i : Int)).f0 > a3
            · have h2' : decide (a3 < (rd_T105 es (i : Int)).f0) = true := decide_eq_true h2
              rw [show decide ((rd_T105 es (i : Int)).f0 > a3) = true from h2'] at hrv
              simp only [Bool.not_true, Bool.false_and] at hrv
              subst hrv
              go_wp2
              refine wp_region_flowG [1, 3, 4] 134 (by kernel_rfl) (by rfl) (by kernel_rfl) (by kernel_rfl) (by kernel_rfl) ?_
              iterate 8 (refine flowG_valE ?_; apply Exists.intro; refine ⟨fun A wq hBq hbq hdq => ?_, ?_⟩; focus (obtain ⟨hcq, hfq⟩ := bcellA hBq; (try simp [go_sem, baseF, deps, dep1, Region.binds] at hbq); (try simp [go_sem, baseF, deps, dep1, Region.binds, NewSl] at hdq); go_simp <;> first | exact ⟨Below.refl _ _, rfl⟩ | (rw [if_neg]; (focus (exact ⟨Below.refl _ _, rfl⟩)); (focus ((try simp only [ByteArray.size_append]); omega))) | (first | (go_at_call 126; exact (spec_EntryOkH _ _ _ true _ HEO (by omega))))))
              iterate 8 (refine flowG_yesE ?_; apply Exists.intro; refine ⟨fun A wq hBq hbq hdq => ⟨?_, ?_⟩, ?_⟩; (focus ((try simp [go_sem, baseF, deps, dep1, Region.binds] at hdq); refine yielded_of rfl ?_; simp [hdq])); focus (obtain ⟨hcq, hfq⟩ := bcellA hBq; (try simp [go_sem, baseF, deps, dep1, Region.binds] at hbq); (try simp [go_sem, baseF, deps, dep1, Region.binds, NewSl] at hdq); go_simp <;> first | exact ⟨Below.refl _ _, rfl⟩ | (rw [if_neg]; (focus (exact ⟨Below.refl _ _, rfl⟩)); (focus ((try simp only [ByteArray.size_append]); omega))) | (fail)))
              iterate 2 (refine flowG_valE ?_; apply Exists.intro; refine ⟨fun A wq hBq hbq hdq => ?_, ?_⟩; focus (obtain ⟨hcq, hfq⟩ := bcellA hBq; (try simp [go_sem, baseF, deps, dep1, Region.binds] at hbq); (try simp [go_sem, baseF, deps, dep1, Region.binds, NewSl] at hdq); go_simp <;> first | exact ⟨Below.refl _ _, rfl⟩ | (rw [if_neg]; (focus (exact ⟨Below.refl _ _, rfl⟩)); (focus ((try simp only [ByteArray.size_append]); omega))) | (fail)))
              iterate 9 (refine flowG_yesE ?_; apply Exists.intro; refine ⟨fun A wq hBq hbq hdq => ⟨?_, ?_⟩, ?_⟩; (focus ((try simp [go_sem, baseF, deps, dep1, Region.binds] at hdq); refine yielded_of rfl ?_; simp [hdq])); focus (obtain ⟨hcq, hfq⟩ := bcellA hBq; (try simp [go_sem, baseF, deps, dep1, Region.binds] at hbq); (try simp [go_sem, baseF, deps, dep1, Region.binds, NewSl] at hdq); go_simp <;> first | exact ⟨Below.refl _ _, rfl⟩ | (rw [if_neg]; (focus (exact ⟨Below.refl _ _, rfl⟩)); (focus ((try simp only [ByteArray.size_append]); omega))) | (fail)))
              (refine flowG_valE ?_; apply Exists.intro; refine ⟨fun A wq hBq hbq hdq => ?_, ?_⟩; focus (obtain ⟨hcq, hfq⟩ := bcellA hBq; (try simp [go_sem, baseF, deps, dep1, Region.binds] at hbq); (try simp [go_sem, baseF, deps, dep1, Region.binds, NewSl] at hdq); go_simp <;> first | exact ⟨Below.refl _ _, rfl⟩ | (rw [if_neg]; (focus (exact ⟨Below.refl _ _, rfl⟩)); (focus ((try simp only [ByteArray.size_append]); omega))) | (fail)))
              refine fun x wq hBq hall => ?_
              obtain ⟨hcq, hfq⟩ := bcellA hBq
              simp only [allT] at hall
              simp [frameOf, Act.put, hall]
              clear hall
              go_wp2
              go_ret
              exact ⟨by simp, bl_then HX (bl_then hb (by repeat (first | exact Below.refl _ _ | apply bl_alloc | apply bl_drewN | apply bl_drew | refine bl_set ?_ (by simp) | refine bl_then ?_ (by assumption))))⟩
            · have h2' : decide (a3 < (rd_T105 es (i : Int)).f0) = false := decide_eq_false h2
              rw [show decide ((rd_T105 es (i : Int)).f0 > a3) = false from h2'] at hrv
              simp only [Bool.not_false, Bool.true_and] at hrv
              have hix2 := Lib.hid hrv
              clear hrv h2
              go_wp2
              refine wp_region_flowG [1, 3, 4] 134 (by kernel_rfl) (by rfl) (by kernel_rfl) (by kernel_rfl) (by kernel_rfl) ?_
              iterate 8 (refine flowG_valE ?_; apply Exists.intro; refine ⟨fun A wq hBq hbq hdq => ?_, ?_⟩; focus (obtain ⟨hcq, hfq⟩ := bcellA hBq; (try simp [go_sem, baseF, deps, dep1, Region.binds] at hbq); (try simp [go_sem, baseF, deps, dep1, Region.binds, NewSl] at hdq); go_simp <;> first | exact ⟨Below.refl _ _, rfl⟩ | (rw [if_neg]; (focus (exact ⟨Below.refl _ _, rfl⟩)); (focus ((try simp only [ByteArray.size_append]); omega))) | (first | (go_at_call 126; exact (spec_EntryOkH _ _ _ true _ HEO (by omega))))))
              iterate 8 (refine flowG_yesE ?_; apply Exists.intro; refine ⟨fun A wq hBq hbq hdq => ⟨?_, ?_⟩, ?_⟩; (focus ((try simp [go_sem, baseF, deps, dep1, Region.binds] at hdq); refine yielded_of rfl ?_; simp [hdq])); focus (obtain ⟨hcq, hfq⟩ := bcellA hBq; (try simp [go_sem, baseF, deps, dep1, Region.binds] at hbq); (try simp [go_sem, baseF, deps, dep1, Region.binds, NewSl] at hdq); go_simp <;> first | exact ⟨Below.refl _ _, rfl⟩ | (rw [if_neg]; (focus (exact ⟨Below.refl _ _, rfl⟩)); (focus ((try simp only [ByteArray.size_append]); omega))) | (fail)))
              iterate 2 (refine flowG_valE ?_; apply Exists.intro; refine ⟨fun A wq hBq hbq hdq => ?_, ?_⟩; focus (obtain ⟨hcq, hfq⟩ := bcellA hBq; (try simp [go_sem, baseF, deps, dep1, Region.binds] at hbq); (try simp [go_sem, baseF, deps, dep1, Region.binds, NewSl] at hdq); go_simp <;> first | exact ⟨Below.refl _ _, rfl⟩ | (rw [if_neg]; (focus (exact ⟨Below.refl _ _, rfl⟩)); (focus ((try simp only [ByteArray.size_append]); omega))) | (fail)))
              iterate 9 (refine flowG_yesE ?_; apply Exists.intro; refine ⟨fun A wq hBq hbq hdq => ⟨?_, ?_⟩, ?_⟩; (focus ((try simp [go_sem, baseF, deps, dep1, Region.binds] at hdq); refine yielded_of rfl ?_; simp [hdq])); focus (obtain ⟨hcq, hfq⟩ := bcellA hBq; (try simp [go_sem, baseF, deps, dep1, Region.binds] at hbq); (try simp [go_sem, baseF, deps, dep1, Region.binds, NewSl] at hdq); go_simp <;> first | exact ⟨Below.refl _ _, rfl⟩ | (rw [if_neg]; (focus (exact ⟨Below.refl _ _, rfl⟩)); (focus ((try simp only [ByteArray.size_append]); omega))) | (fail)))
              (refine flowG_valE ?_; apply Exists.intro; refine ⟨fun A wq hBq hbq hdq => ?_, ?_⟩; focus (obtain ⟨hcq, hfq⟩ := bcellA hBq; (try simp [go_sem, baseF, deps, dep1, Region.binds] at hbq); (try simp [go_sem, baseF, deps, dep1, Region.binds, NewSl] at hdq); go_simp <;> first | exact ⟨Below.refl _ _, rfl⟩ | (rw [if_neg]; (focus (exact ⟨Below.refl _ _, rfl⟩)); (focus ((try simp only [ByteArray.size_append]); omega))) | (fail)))
              refine fun x wq hBq hall => ?_
              obtain ⟨hcq, hfq⟩ := bcellA hBq
              simp only [allT] at hall
              simp [frameOf, Act.put, hall]
              clear hall
              go_wp2
              go_roundg n
              case measure => omega
              case rel => exact ⟨i + 1, _, rfl, by first | rfl | (rw [E1.out]), by omega, hix2, bl_then hb (by repeat (first | exact Below.refl _ _ | apply bl_alloc | apply bl_drewN | apply bl_drew | refine bl_set ?_ (by simp) | refine bl_then ?_ (by assumption)))⟩
  · have hk : a0 = 3 := by rcases lk with h | h <;> omega
    have n0 : decide (0 < (es.length : Int)) = true := decide_eq_true (by omega)
    have n0' : decide (0 < es.length) = true := decide_eq_true (by omega)
    have k3 : (a0 != 3) = false := by rw [hk]; rfl
    have HK := Lib.hid hk
    clear hk lk
    go_enter Try.func114, Try.ntmps114
    go_wp2_with (first | (go_at_call 58; refine (spec_l01In _ _ _ _).mono ?_; rintro e w' ⟨rfl, rfl⟩))
    clear i0 i1 i2 ne i3 i5 i4 i6 n4 n0 n0'
    obtain ⟨X, hX⟩ : ∃ X, X = w.alloc (.cells #[.int .i64 a0, .int .i64 a1, .int .i64 a2, .int .i64 a3, .int .i64 a4, .int .i64 a5, .int .i64 a6, .bool a7, .slice A8 es.length c8, .slice A9 cf.length c9, .string d, .bool ls] 57) := ⟨_, rfl⟩
    have KA : Blk 57 w.heap.size #[.int .i64 a0, .int .i64 a1, .int .i64 a2, .int .i64 a3, .int .i64 a4, .int .i64 a5, .int .i64 a6, .bool a7, .slice A8 es.length c8, .slice A9 cf.length c9, .string d, .bool ls] X := by rw [hX]; exact Blk.new _ _ w
    have HX : Below w.heap.size w X := by rw [hX]; exact (by repeat (first | exact Below.refl _ _ | apply bl_alloc | apply bl_drewN | apply bl_drew | refine bl_set ?_ (by simp) | refine bl_then ?_ (by assumption)))
    rw [← hX]
    clear hX
    go_loopg [3, 4] es.length (fun kq v3 v4 w' => ∃ (i : Nat) (pt : Int), v3 = .int .i64 pt ∧ v4 = .int .i64 (i : Int) ∧ i + kq = es.length ∧ Hid (ents es a3 i kq pt = r) ∧ Below X.heap.size X w')
    case atStart => exact ⟨0, a5, rfl, rfl, by omega, hr, Below.refl _ _⟩
    case round =>
      obtain ⟨i, pt, rfl, rfl, hik, hix, hb⟩ := hrel
      clear hr
      have KW := KA.below hb
      have k0 := KW.cell 0 rfl
      have k3 := KW.cell 3 rfl
      have k8 := KW.cell 8 rfl
      have k9 := KW.cell 9 rfl
      have k10 := KW.cell 10 rfl
      have k11 := KW.cell 11 rfl
      have la := KW.lt
      have la2 : w.heap.size < wr.heap.size + 1 := by omega
      cases gk with
      | zero =>
        have hlt : ¬ ((i : Int) < (es.length : Int)) := by omega
        have hrv := hix.out
        simp only [ents] at hrv
        subst hrv
        clear hix
        have hl5 := hlb.out
        unfold lastB at hl5
        clear hlb
        by_cases h5 : a0 = 5
        · rw [if_pos h5] at hl5
          have h5' : (a0 == 5) = true := by rw [h5]; rfl
          obtain ⟨cb, hcb⟩ : ∃ cb, confOk cf = cb := ⟨_, rfl⟩
          rw [hcb] at hl5
          have HCB := Lib.hid hcb
          clear hcb h5
          cases cb with
          | false =>
            simp only [Bool.false_and] at hl5
            subst hl5
            go_wp2_with (first | (go_at_call 84; refine (spec_confH _ _ cf false _ HCB (Kd.C_below HR9.out (bl_then HX (bl_then hb (by repeat (first | exact Below.refl _ _ | apply bl_alloc | apply bl_drewN | apply bl_drew | refine bl_set ?_ (by simp) | refine bl_then ?_ (by assumption)))))) hc9 hcf).mono ?_; rintro e w' ⟨rfl, hb1⟩))
            go_ret
            exact ⟨rfl, bl_then HX (bl_then hb (by repeat (first | exact Below.refl _ _ | apply bl_alloc | apply bl_drewN | apply bl_drew | refine bl_set ?_ (by simp) | refine bl_then ?_ (by assumption))))⟩
          | true =>
            simp only [Bool.true_and] at hl5
            subst hl5
            go_wp2_with (first | (go_at_call 84; refine (spec_confH _ _ cf true _ HCB (Kd.C_below HR9.out (bl_then HX (bl_then hb (by repeat (first | exact Below.refl _ _ | apply bl_alloc | apply bl_drewN | apply bl_drew | refine bl_set ?_ (by simp) | refine bl_then ?_ (by assumption)))))) hc9 hcf).mono ?_; rintro e w' ⟨rfl, hb1⟩; obtain ⟨hc1, hf1⟩ := bcell hb1; have hz1 : w.heap.size < w'.heap.size := (by have := hb1.size; (try simp at this); omega)))
            all_goals
              go_ret
              exact ⟨by first | rfl | (simp; done) | (simp [*]; done) | (refine ret_bool ?_; simp; omega), bl_then HX (bl_then hb (by repeat (first | exact Below.refl _ _ | apply bl_alloc | apply bl_drewN | apply bl_drew | refine bl_set ?_ (by simp) | refine bl_then ?_ (by assumption))))⟩
        · rw [if_neg h5] at hl5
          have h5' : (a0 == 5) = false := by simpa using h5
          clear h5
          go_wp2
          all_goals
            go_ret
            refine ⟨?_, bl_then HX (bl_then hb (by repeat (first | exact Below.refl _ _ | apply bl_alloc | apply bl_drewN | apply bl_drew | refine bl_set ?_ (by simp) | refine bl_then ?_ (by assumption))))⟩
            first
              | (refine ret_bool ?_; rw [← hl5]; simp [*]; done)
              | (refine ret_bool ?_; rw [← hl5]; simp_all; done)
              | trace_state
      | succ n =>
        have hlt : (i : Int) < (es.length : Int) := by omega
        obtain ⟨ad, e1, x0, x1, x2⟩ := at_T105 (Kd.C_below HR8.out (bl_then HX hb)) i (by omega) hlt
        subst e1
        simp only [Int.toNat_natCast] at x0 x1 x2
        have lx : (ad.add (i * 3)).block < wr.heap.size := World.block_lt_of_cell? wr _ x0
        have E1 := Lib.hid (show wrap64 ((i : Int) + 1) = ((i + 1 : Nat) : Int) from by unfold wrap64; omega)
        have hrv := hix.out
        simp only [ents] at hrv
        have hSi := hS i
        obtain ⟨eo, heo⟩ : ∃ eo, entryOk (rd_T105 es (i : Int)).f0 (rd_T105 es (i : Int)).f1 (rd_T105 es (i : Int)).f2 = eo := ⟨_, rfl⟩
        rw [heo] at hrv
        have HEO := Lib.hid heo
        clear heo hix
        cases eo with
        | false =>
          simp only [Bool.false_and] at hrv
          subst hrv
          go_wp2
          refine wp_region_flowG [1, 3, 4] 134 (by kernel_rfl) (by rfl) (by kernel_rfl) (by kernel_rfl) (by kernel_rfl) ?_
          iterate 8 (refine flowG_valE ?_; apply Exists.intro; refine ⟨fun A wq hBq hbq hdq => ?_, ?_⟩; focus (obtain ⟨hcq, hfq⟩ := bcellA hBq; (try simp [go_sem, baseF, deps, dep1, Region.binds] at hbq); (try simp [go_sem, baseF, deps, dep1, Region.binds, NewSl] at hdq); go_simp <;> first | exact ⟨Below.refl _ _, rfl⟩ | (rw [if_neg]; (focus (exact ⟨Below.refl _ _, rfl⟩)); (focus ((try simp only [ByteArray.size_append]); omega))) | (first | (go_at_call 126; exact (spec_EntryOkH _ _ _ false _ HEO (by omega))))))
          iterate 8 (refine flowG_no (fun A wq hBq hbq hdq => ?_) ?_; focus ((try simp [go_sem, baseF, deps, dep1, Region.binds] at hdq); refine yielded_of rfl ?_; simp [hdq]))
          iterate 2 (refine flowG_valE ?_; apply Exists.intro; refine ⟨fun A wq hBq hbq hdq => ?_, ?_⟩; focus (obtain ⟨hcq, hfq⟩ := bcellA hBq; (try simp [go_sem, baseF, deps, dep1, Region.binds] at hbq); (try simp [go_sem, baseF, deps, dep1, Region.binds, NewSl] at hdq); go_simp <;> first | exact ⟨Below.refl _ _, rfl⟩ | (rw [if_neg]; (focus (exact ⟨Below.refl _ _, rfl⟩)); (focus ((try simp only [ByteArray.size_append]); omega))) | (fail)))
          iterate 9 (refine flowG_no (fun A wq hBq hbq hdq => ?_) ?_; focus ((try simp [go_sem, baseF, deps, dep1, Region.binds] at hdq); refine yielded_of rfl ?_; simp [hdq]))
          (refine flowG_valE ?_; apply Exists.intro; refine ⟨fun A wq hBq hbq hdq => ?_, ?_⟩; focus (obtain ⟨hcq, hfq⟩ := bcellA hBq; (try simp [go_sem, baseF, deps, dep1, Region.binds] at hbq); (try simp [go_sem, baseF, deps, dep1, Region.binds, NewSl] at hdq); go_simp <;> first | exact ⟨Below.refl _ _, rfl⟩ | (rw [if_neg]; (focus (exact ⟨Below.refl _ _, rfl⟩)); (focus ((try simp only [ByteArray.size_append]); omega))) | (fail)))
          refine fun x wq hBq hall => ?_
          obtain ⟨hcq, hfq⟩ := bcellA hBq
          simp only [allT] at hall
          simp [frameOf, Act.put, hall]
          clear hall
          go_wp2
          go_ret
          exact ⟨by simp, bl_then HX (bl_then hb (by repeat (first | exact Below.refl _ _ | apply bl_alloc | apply bl_drewN | apply bl_drew | refine bl_set ?_ (by simp) | refine bl_then ?_ (by assumption))))⟩
        | true =>
          simp only [Bool.true_and] at hrv
          by_cases h1 : (rd_T105 es (i : Int)).f0 < pt
          · have h1' : decide ((rd_T105 es (i : Int)).f0 < pt) = true := decide_eq_true h1
            rw [h1'] at hrv
            simp only [Bool.not_true, Bool.false_and] at hrv
            subst hrv
            go_wp2
            refine wp_region_flowG [1, 3, 4] 134 (by kernel_rfl) (by rfl) (by kernel_rfl) (by kernel_rfl) (by kernel_rfl) ?_
            iterate 8 (refine flowG_valE ?_; apply Exists.intro; refine ⟨fun A wq hBq hbq hdq => ?_, ?_⟩; focus (obtain ⟨hcq, hfq⟩ := bcellA hBq; (try simp [go_sem, baseF, deps, dep1, Region.binds] at hbq); (try simp [go_sem, baseF, deps, dep1, Region.binds, NewSl] at hdq); go_simp <;> first | exact ⟨Below.refl _ _, rfl⟩ | (rw [if_neg]; (focus (exact ⟨Below.refl _ _, rfl⟩)); (focus ((try simp only [ByteArray.size_append]); omega))) | (first | (go_at_call 126; exact (spec_EntryOkH _ _ _ true _ HEO (by omega))))))
            iterate 8 (refine flowG_yesE ?_; apply Exists.intro; refine ⟨fun A wq hBq hbq hdq => ⟨?_, ?_⟩, ?_⟩; (focus ((try simp [go_sem, baseF, deps, dep1, Region.binds] at hdq); refine yielded_of rfl ?_; simp [hdq])); focus (obtain ⟨hcq, hfq⟩ := bcellA hBq; (try simp [go_sem, baseF, deps, dep1, Region.binds] at hbq); (try simp [go_sem, baseF, deps, dep1, Region.binds, NewSl] at hdq); go_simp <;> first | exact ⟨Below.refl _ _, rfl⟩ | (rw [if_neg]; (focus (exact ⟨Below.refl _ _, rfl⟩)); (focus ((try simp only [ByteArray.size_append]); omega))) | (fail)))
            iterate 2 (refine flowG_valE ?_; apply Exists.intro; refine ⟨fun A wq hBq hbq hdq => ?_, ?_⟩; focus (obtain ⟨hcq, hfq⟩ := bcellA hBq; (try simp [go_sem, baseF, deps, dep1, Region.binds] at hbq); (try simp [go_sem, baseF, deps, dep1, Region.binds, NewSl] at hdq); go_simp <;> first | exact ⟨Below.refl _ _, rfl⟩ | (rw [if_neg]; (focus (exact ⟨Below.refl _ _, rfl⟩)); (focus ((try simp only [ByteArray.size_append]); omega))) | (fail)))
            iterate 9 (refine flowG_no (fun A wq hBq hbq hdq => ?_) ?_; focus ((try simp [go_sem, baseF, deps, dep1, Region.binds] at hdq); refine yielded_of rfl ?_; simp [hdq]))
            (refine flowG_valE ?_; apply Exists.intro; refine ⟨fun A wq hBq hbq hdq => ?_, ?_⟩; focus (obtain ⟨hcq, hfq⟩ := bcellA hBq; (try simp [go_sem, baseF, deps, dep1, Region.binds] at hbq); (try simp [go_sem, baseF, deps, dep1, Region.binds, NewSl] at hdq); go_simp <;> first | exact ⟨Below.refl _ _, rfl⟩ | (rw [if_neg]; (focus (exact ⟨Below.refl _ _, rfl⟩)); (focus ((try simp only [ByteArray.size_append]); omega))) | (fail)))
            refine fun x wq hBq hall => ?_
            obtain ⟨hcq, hfq⟩ := bcellA hBq
            simp only [allT] at hall
            simp [frameOf, Act.put, hall]
            clear hall
            go_wp2
            go_ret
            exact ⟨by simp, bl_then HX (bl_then hb (by repeat (first | exact Below.refl _ _ | apply bl_alloc | apply bl_drewN | apply bl_drew | refine bl_set ?_ (by simp) | refine bl_then ?_ (by assumption))))⟩
          · have h1' : decide ((rd_T105 es (i : Int)).f0 < pt) = false := decide_eq_false h1
            rw [h1'] at hrv
            simp only [Bool.not_false, Bool.true_and] at hrv
            clear h1
            by_cases h2 : (rd_T105 es (i : Int)).f0 > a3
            · have h2' : decide (a3 < (rd_T105 es (i : Int)).f0) = true := decide_eq_true h2
              rw [show decide ((rd_T105 es (i : Int)).f0 > a3) = true from h2'] at hrv
              simp only [Bool.not_true, Bool.false_and] at hrv
              subst hrv
              go_wp2
              refine wp_region_flowG [1, 3, 4] 134 (by kernel_rfl) (by rfl) (by kernel_rfl) (by kernel_rfl) (by kernel_rfl) ?_
              iterate 8 (refine flowG_valE ?_; apply Exists.intro; refine ⟨fun A wq hBq hbq hdq => ?_, ?_⟩; focus (obtain ⟨hcq, hfq⟩ := bcellA hBq; (try simp [go_sem, baseF, deps, dep1, Region.binds] at hbq); (try simp [go_sem, baseF, deps, dep1, Region.binds, NewSl] at hdq); go_simp <;> first | exact ⟨Below.refl _ _, rfl⟩ | (rw [if_neg]; (focus (exact ⟨Below.refl _ _, rfl⟩)); (focus ((try simp only [ByteArray.size_append]); omega))) | (first | (go_at_call 126; exact (spec_EntryOkH _ _ _ true _ HEO (by omega))))))
              iterate 8 (refine flowG_yesE ?_; apply Exists.intro; refine ⟨fun A wq hBq hbq hdq => ⟨?_, ?_⟩, ?_⟩; (focus ((try simp [go_sem, baseF, deps, dep1, Region.binds] at hdq); refine yielded_of rfl ?_; simp [hdq])); focus (obtain ⟨hcq, hfq⟩ := bcellA hBq; (try simp [go_sem, baseF, deps, dep1, Region.binds] at hbq); (try simp [go_sem, baseF, deps, dep1, Region.binds, NewSl] at hdq); go_simp <;> first | exact ⟨Below.refl _ _, rfl⟩ | (rw [if_neg]; (focus (exact ⟨Below.refl _ _, rfl⟩)); (focus ((try simp only [ByteArray.size_append]); omega))) | (fail)))
              iterate 2 (refine flowG_valE ?_; apply Exists.intro; refine ⟨fun A wq hBq hbq hdq => ?_, ?_⟩; focus (obtain ⟨hcq, hfq⟩ := bcellA hBq; (try simp [go_sem, baseF, deps, dep1, Region.binds] at hbq); (try simp [go_sem, baseF, deps, dep1, Region.binds, NewSl] at hdq); go_simp <;> first | exact ⟨Below.refl _ _, rfl⟩ | (rw [if_neg]; (focus (exact ⟨Below.refl _ _, rfl⟩)); (focus ((try simp only [ByteArray.size_append]); omega))) | (fail)))
              iterate 9 (refine flowG_yesE ?_; apply Exists.intro; refine ⟨fun A wq hBq hbq hdq => ⟨?_, ?_⟩, ?_⟩; (focus ((try simp [go_sem, baseF, deps, dep1, Region.binds] at hdq); refine yielded_of rfl ?_; simp [hdq])); focus (obtain ⟨hcq, hfq⟩ := bcellA hBq; (try simp [go_sem, baseF, deps, dep1, Region.binds] at hbq); (try simp [go_sem, baseF, deps, dep1, Region.binds, NewSl] at hdq); go_simp <;> first | exact ⟨Below.refl _ _, rfl⟩ | (rw [if_neg]; (focus (exact ⟨Below.refl _ _, rfl⟩)); (focus ((try simp only [ByteArray.size_append]); omega))) | (fail)))
              (refine flowG_valE ?_; apply Exists.intro; refine ⟨fun A wq hBq hbq hdq => ?_, ?_⟩; focus (obtain ⟨hcq, hfq⟩ := bcellA hBq; (try simp [go_sem, baseF, deps, dep1, Region.binds] at hbq); (try simp [go_sem, baseF, deps, dep1, Region.binds, NewSl] at hdq); go_simp <;> first | exact ⟨Below.refl _ _, rfl⟩ | (rw [if_neg]; (focus (exact ⟨Below.refl _ _, rfl⟩)); (focus ((try simp only [ByteArray.size_append]); omega))) | (fail)))
              refine fun x wq hBq hall => ?_
              obtain ⟨hcq, hfq⟩ := bcellA hBq
              simp only [allT] at hall
              simp [frameOf, Act.put, hall]
              clear hall
              go_wp2
              go_ret
              exact ⟨by simp, bl_then HX (bl_then hb (by repeat (first | exact Below.refl _ _ | apply bl_alloc | apply bl_drewN | apply bl_drew | refine bl_set ?_ (by simp) | refine bl_then ?_ (by assumption))))⟩
            · have h2' : decide (a3 < (rd_T105 es (i : Int)).f0) = false := decide_eq_false h2
              rw [show decide ((rd_T105 es (i : Int)).f0 > a3) = false from h2'] at hrv
              simp only [Bool.not_false, Bool.true_and] at hrv
              have hix2 := Lib.hid hrv
              clear hrv h2
              go_wp2
              refine wp_region_flowG [1, 3, 4] 134 (by kernel_rfl) (by rfl) (by kernel_rfl) (by kernel_rfl) (by kernel_rfl) ?_
              iterate 8 (refine flowG_valE ?_; apply Exists.intro; refine ⟨fun A wq hBq hbq hdq => ?_, ?_⟩; focus (obtain ⟨hcq, hfq⟩ := bcellA hBq; (try simp [go_sem, baseF, deps, dep1, Region.binds] at hbq); (try simp [go_sem, baseF, deps, dep1, Region.binds, NewSl] at hdq); go_simp <;> first | exact ⟨Below.refl _ _, rfl⟩ | (rw [if_neg]; (focus (exact ⟨Below.refl _ _, rfl⟩)); (focus ((try simp only [ByteArray.size_append]); omega))) | (first | (go_at_call 126; exact (spec_EntryOkH _ _ _ true _ HEO (by omega))))))
              iterate 8 (refine flowG_yesE ?_; apply Exists.intro; refine ⟨fun A wq hBq hbq hdq => ⟨?_, ?_⟩, ?_⟩; (focus ((try simp [go_sem, baseF, deps, dep1, Region.binds] at hdq); refine yielded_of rfl ?_; simp [hdq])); focus (obtain ⟨hcq, hfq⟩ := bcellA hBq; (try simp [go_sem, baseF, deps, dep1, Region.binds] at hbq); (try simp [go_sem, baseF, deps, dep1, Region.binds, NewSl] at hdq); go_simp <;> first | exact ⟨Below.refl _ _, rfl⟩ | (rw [if_neg]; (focus (exact ⟨Below.refl _ _, rfl⟩)); (focus ((try simp only [ByteArray.size_append]); omega))) | (fail)))
              iterate 2 (refine flowG_valE ?_; apply Exists.intro; refine ⟨fun A wq hBq hbq hdq => ?_, ?_⟩; focus (obtain ⟨hcq, hfq⟩ := bcellA hBq; (try simp [go_sem, baseF, deps, dep1, Region.binds] at hbq); (try simp [go_sem, baseF, deps, dep1, Region.binds, NewSl] at hdq); go_simp <;> first | exact ⟨Below.refl _ _, rfl⟩ | (rw [if_neg]; (focus (exact ⟨Below.refl _ _, rfl⟩)); (focus ((try simp only [ByteArray.size_append]); omega))) | (fail)))
              iterate 9 (refine flowG_yesE ?_; apply Exists.intro; refine ⟨fun A wq hBq hbq hdq => ⟨?_, ?_⟩, ?_⟩; (focus ((try simp [go_sem, baseF, deps, dep1, Region.binds] at hdq); refine yielded_of rfl ?_; simp [hdq])); focus (obtain ⟨hcq, hfq⟩ := bcellA hBq; (try simp [go_sem, baseF, deps, dep1, Region.binds] at hbq); (try simp [go_sem, baseF, deps, dep1, Region.binds, NewSl] at hdq); go_simp <;> first | exact ⟨Below.refl _ _, rfl⟩ | (rw [if_neg]; (focus (exact ⟨Below.refl _ _, rfl⟩)); (focus ((try simp only [ByteArray.size_append]); omega))) | (fail)))
              (refine flowG_valE ?_; apply Exists.intro; refine ⟨fun A wq hBq hbq hdq => ?_, ?_⟩; focus (obtain ⟨hcq, hfq⟩ := bcellA hBq; (try simp [go_sem, baseF, deps, dep1, Region.binds] at hbq); (try simp [go_sem, baseF, deps, dep1, Region.binds, NewSl] at hdq); go_simp <;> first | exact ⟨Below.refl _ _, rfl⟩ | (rw [if_neg]; (focus (exact ⟨Below.refl _ _, rfl⟩)); (focus ((try simp only [ByteArray.size_append]); omega))) | (fail)))
              refine fun x wq hBq hall => ?_
              obtain ⟨hcq, hfq⟩ := bcellA hBq
              simp only [allT] at hall
              simp [frameOf, Act.put, hall]
              clear hall
              go_wp2
              go_roundg n
              case measure => omega
              case rel => exact ⟨i + 1, _, rfl, by first | rfl | (rw [E1.out]), by omega, hix2, bl_then hb (by repeat (first | exact Below.refl _ _ | apply bl_alloc | apply bl_drewN | apply bl_drew | refine bl_set ?_ (by simp) | refine bl_then ?_ (by assumption)))⟩
theorem spec_MessageOk (es : List S105) (hS : Short es) (a0 a1 a2 a3 a4 a5 a6 : Int) (a7 : Bool) (cf : List Int) (d : ByteArray) (ls : Bool) (hl : es.length ≤ 1048576) (hcf : cf.length ≤ 1048576) (A8 : Option Addr) (c8 : Nat) (A9 : Option Addr) (c9 : Nat) (w : World)
    (hr8 : Kd.C k105 w A8 es.length es) (hc8 : es.length ≤ c8) (hr9 : Kd.C (Kd.int .i64) w A9 cf.length cf) (hc9 : cf.length ≤ c9) :
    Calls Try.prog 114 #[.agg #[.int .i64 a0, .int .i64 a1, .int .i64 a2, .int .i64 a3, .int .i64 a4, .int .i64 a5, .int .i64 a6, .bool a7, .slice A8 es.length c8, .slice A9 cf.length c9, .string d, .bool ls]] w fun e w' => e = .returned (.bool (msgB a0 a1 a2 a3 a4 a5 a6 es cf d ls)) ∧ Below w.heap.size w w' := by
  rw [msgB_pre]
  cases hp : preB a0 a1 a2 a3 a4 a5 a6 es with
  | false => exact spec_Msg_no es hS a0 a1 a2 a3 a4 a5 a6 a7 cf d ls hl hcf A8 c8 A9 c9 w hr8 hc8 hr9 hc9 hp
  | true =>
    unfold preB at hp
    simp only [Bool.and_eq_true, Bool.or_eq_true, Bool.not_eq_true', decide_eq_true_eq, beq_iff_eq] at hp
    obtain ⟨⟨⟨⟨⟨⟨i0, i1⟩, i2⟩, ne⟩, ⟨⟨i3, i5⟩, i4⟩, i6⟩, l4⟩, lk⟩ := hp
    exact spec_Msg_yes es hS a0 a1 a2 a3 a4 a5 a6 a7 cf d ls hl hcf A8 c8 A9 c9 w hr8 hc8 hr9 hc9 i0 i1 i2 ne i3 i5 i4 i6 l4 lk _ _ (Lib.hid rfl) (Lib.hid rfl)
end Go.Proofs.Ytofikijbmgejkaa
end

/-! ### YtofikijbmgejkaaEncDef -/
section
namespace Go.Proofs.Ytofikijbmgejkaa
open Go.RowKit Go.Proofs.YtofikijbmgejkaaW.PrintWords PFnExactDecode
set_option linter.unusedSimpArgs false
set_option linter.unusedVariables false

/-! The bytes of a message. (own) -/
def flagN (b : Bool) : Int := if b then 1 else 0
/-- What one entry adds. -/
def entS (es : List S105) (i : Nat) : ByteArray := shortS (entryT 1 (rd_T105 es (i : Int)).f0 (rd_T105 es (i : Int)).f1 (rd_T105 es (i : Int)).f2)
/-- The entries' texts behind what stands already, so many from one place on. -/
def entsS (es : List S105) : Nat → Nat → ByteArray → ByteArray
  | _, 0, s => s
  | i, n + 1, s => entsS es (i + 1) n (s ++ entS es i)
def headS (a0 a1 a2 a3 a4 a5 a6 : Int) (a7 ls : Bool) (n : Nat) : ByteArray := strOfNums [a0 % 256, a1 % 256, a2 % 256] ++ varS a3 ++ varS a4 ++ varS a5 ++ varS a6 ++ byteS (flagN a7) ++ byteS (flagN ls) ++ varS n
def confT (cf : List Int) : ByteArray := strOfNums (PFnExactDecode.confBs cf)
def encS (a0 a1 a2 a3 a4 a5 a6 : Int) (a7 : Bool) (es : List S105) (cf : List Int) (d : ByteArray) (ls : Bool) : ByteArray := entsS es 0 es.length (headS a0 a1 a2 a3 a4 a5 a6 a7 ls es.length) ++ shortS (confT cf) ++ shortS d

theorem entryT_size (i t k : Int) (d : ByteArray) : (entryT i t k d).size ≤ 132 := by
  unfold entryT
  split
  · rename_i h
    unfold entryOkI at h
    simp only [Bool.and_eq_true] at h
    obtain ⟨h1, h2, h3, h4, h5⟩ := entryOk_parts h.1
    obtain ⟨h6, h7⟩ := inB_iff.1 h.2
    have s1 := varS_size i (by omega) (by omega)
    have s2 := varS_size t (by omega) (by omega)
    have s3 := byteS_size k
    have s4 : (⟨#[69]⟩ : ByteArray).size = 1 := rfl
    unfold entryS
    simp only [ByteArray.size_append]
    omega
  · show (0 : Nat) ≤ 132; omega
theorem shortS_size (s : ByteArray) (h : s.size ≤ 1000000000) : (shortS s).size ≤ s.size + 5 := by
  have := varS_size s.size (by omega) (by omega)
  unfold shortS
  rw [ByteArray.size_append]
  omega
theorem entS_size (es : List S105) (i : Nat) : (entS es i).size ≤ 137 := by
  unfold entS
  have h1 := entryT_size 1 (rd_T105 es (i : Int)).f0 (rd_T105 es (i : Int)).f1 (rd_T105 es (i : Int)).f2
  have h2 := shortS_size (entryT 1 (rd_T105 es (i : Int)).f0 (rd_T105 es (i : Int)).f1 (rd_T105 es (i : Int)).f2) (by omega)
  omega
theorem entsS_size (es : List S105) : ∀ (n i : Nat) (s : ByteArray), (entsS es i n s).size ≤ s.size + 137 * n
  | 0, _, s => by simp [entsS]
  | n + 1, i, s => by
    have h1 := entsS_size es n (i + 1) (s ++ entS es i)
    have h2 := entS_size es i
    rw [ByteArray.size_append] at h1
    unfold entsS
    omega
theorem confT_size (cf : List Int) : (confT cf).size = cf.length := by simp [confT, PFnExactDecode.confBs, strOfNums_size]
theorem spec_flagH (b : Bool) (w : World) : Calls Try.prog 116 #[.bool b] w fun e w' => e = .returned (.string (byteS (flagN b))) ∧ Below w.heap.size w w' := by
  refine (PFnExactDecode.spec_l11Flag.calls b (byteS (flagN b)) w (by cases b <;> rfl)).mono ?_
  rintro e w' h
  first | exact h | (obtain ⟨rfl, ⟨n, rfl⟩⟩ := h; exact ⟨rfl, bl_drewN (Below.refl _ _) n⟩) | (obtain ⟨rfl, rfl⟩ := h; exact ⟨rfl, Below.refl _ _⟩)
end Go.Proofs.Ytofikijbmgejkaa
end

/-! ### YtofikijbmgejkaaRead -/
section
namespace Go.Proofs.Ytofikijbmgejkaa
set_option linter.unusedSimpArgs false
set_option linter.unusedVariables false
open Go.RowKit Go.Proofs.YtofikijbmgejkaaW.PrintWords Go.Proofs.YtofikijbmgejkaaW.PrintMore

/-- A byte of a text. -/
def byN (s : ByteArray) (p : Nat) : Nat := (bt s (p : Int)).toNat
theorem byN_lt (s : ByteArray) (p : Nat) : byN s p < 256 := by have := bt_range s (p : Int); unfold byN; omega
theorem bt_byN (s : ByteArray) (p : Nat) : bt s (p : Int) = (byN s p : Int) := by have := bt_range s (p : Int); unfold byN; omega

/-- A number that stands in a text from a place on: itself and the place behind it. -/
def rvGo : Nat → ByteArray → Nat → Nat → Nat → Option (Nat × Nat)
  | 0, _, _, _, _ => none
  | f + 1, s, p, acc, k =>
    if p < s.size then
      if byN s p < 128 then
        if (byN s p = 0 ∧ 0 < k) ∨ 1000000000 < acc + byN s p * 128 ^ k then none else some (acc + byN s p * 128 ^ k, p + 1)
      else rvGo f s (p + 1) (acc + (byN s p - 128) * 128 ^ k) (k + 1)
    else none
def rv (s : ByteArray) (p : Int) : Option (Nat × Nat) := if 0 ≤ p ∧ p ≤ s.size then rvGo 5 s p.toNat 0 0 else none
/-- What the two programs' ReadVar hand back. -/
def rv3 : Option (Nat × Nat) → Int × Int × Bool
  | some (n, e) => (n, e, true)
  | none => (0, 0, false)

theorem wid (n : Nat) (h : n ≤ 4000000000000) : wrap64 (n : Int) = (n : Int) := by unfold wrap64; omega

theorem or_low (a h i : Nat) (ha : a < 2 ^ i) (hd : h % 2 ^ i = 0) (hi : i ≤ 63) (hh : h < 2 ^ 63) : bits .or .i64 (a : Int) (h : Int) = ((a + h : Nat) : Int) := by
  have hw : ∀ n : Int, 0 ≤ n → n < 2 ^ 63 → IntKind.i64.wrap n = n := by intro m h0 h1; rw [IntKind.wrap_i64]; omega
  have ha' : a < 2 ^ 63 := Nat.lt_of_lt_of_le ha (Nat.pow_le_pow_right (by decide) hi)
  have e1 := (bits_nat .i64 63 (by decide) hw a h ha' hh).2
  have e2 := (bits_nat .i64 63 (by decide) hw h a hh ha').2
  have e3 := bits_join .i64 63 (by decide) hw i (h : Int) (a : Int) (by omega) (by exact_mod_cast hd) (by exact_mod_cast hh) (by omega) (by exact_mod_cast ha) (by exact_mod_cast ha')
  rw [e1, Nat.or_comm, ← e2, e3]
  omega

theorem step_or (acc v k : Nat) (hk : k < 5) (ha : acc < 128 ^ k) (hv : v < 256) :
    bits .or .i64 (acc : Int) (shl .i64 (bits .and .i64 (v : Int) 127) (wrap64 (7 * (k : Int)))) = ((acc + v % 128 * 128 ^ k : Nat) : Int) := by
  rw [and127 v (by omega)]
  have hm : v % 128 < 128 := Nat.mod_lt _ (by omega)
  have key : ∀ i P : Nat, i ≤ 28 → P = 2 ^ i → shl .i64 ((v % 128 : Nat) : Int) (i : Int) = ((v % 128 * P : Nat) : Int) := by
    intro i P hi hP
    have hPle : P ≤ 2 ^ 28 := by rw [hP]; exact Nat.pow_le_pow_right (by decide) hi
    have hmul : v % 128 * P ≤ 127 * 2 ^ 28 := Nat.mul_le_mul (by omega) hPle
    unfold shl
    rw [Int.toNat_natCast, Nat.min_eq_left (by show i ≤ 64; omega), IntKind.wrap_i64]
    have : (((v % 128 : Nat) : Int) * 2 ^ i) = ((v % 128 * P : Nat) : Int) := by rw [hP]; simp
    rw [this]
    generalize v % 128 * P = q at *
    have : (2 : Nat) ^ 28 = 268435456 := by decide
    omega
  have fin : ∀ i P : Nat, i ≤ 28 → P = 2 ^ i → acc < P → bits .or .i64 (acc : Int) ((v % 128 * P : Nat) : Int) = ((acc + v % 128 * P : Nat) : Int) := by
    intro i P hi hP hac
    have hPle : P ≤ 2 ^ 28 := by rw [hP]; exact Nat.pow_le_pow_right (by decide) hi
    have hmul : v % 128 * P ≤ 127 * 2 ^ 28 := Nat.mul_le_mul (by omega) hPle
    refine or_low acc _ i (by rw [← hP]; exact hac) (by rw [hP]; exact Nat.mul_mod_left _ _) (by omega) ?_
    have : (2 : Nat) ^ 28 = 268435456 := by decide
    have : (2 : Nat) ^ 63 = 9223372036854775808 := by decide
    omega
  have e7 : wrap64 (7 * (k : Int)) = ((7 * k : Nat) : Int) := by rw [show (7 * (k : Int)) = ((7 * k : Nat) : Int) from by omega]; exact wid _ (by omega)
  rw [e7]
  have hp : 128 ^ k = 2 ^ (7 * k) := by rw [show (128 : Nat) = 2 ^ 7 from rfl, ← Nat.pow_mul]
  rw [key (7 * k) (128 ^ k) (by omega) hp, fin (7 * k) (128 ^ k) (by omega) hp ha]

theorem impl_rv_l0 (s : ByteArray) (at_ : Nat) (hs : s.size ≤ 1099511627776) (hat : at_ ≤ s.size) : ∀ (f k acc K : Nat), k + f = 5 → acc < 128 ^ k → 2 * f + 2 ≤ K →
    PFnExactDecode.impl_ReadVar.l0 K s (at_ : Int) (acc : Int) (k : Int) = some (rv3 (rvGo f s (at_ + k) acc k)) := by
  intro f
  induction f with
  | zero =>
    intro k acc K hk ha hK
    obtain ⟨K, rfl⟩ : ∃ m, K = m + 2 := ⟨K - 2, by omega⟩
    simp only [PFnExactDecode.impl_ReadVar.l0, PFnExactDecode.impl_ReadVar.j1]
    rw [if_neg (by omega)]
    simp [rvGo, rv3]
  | succ f ih =>
    intro k acc K hk ha hK
    obtain ⟨K, rfl⟩ : ∃ m, K = m + 2 := ⟨K - 2, by omega⟩
    simp only [PFnExactDecode.impl_ReadVar.l0, PFnExactDecode.impl_ReadVar.j1]
    have hb := byN_lt s (at_ + k)
    rw [if_pos (by omega), show ((at_ : Int) + (k : Int)) = ((at_ + k : Nat) : Int) from by omega, wid (at_ + k) (by omega), bt_byN, wid (byN s (at_ + k)) (by omega),
      show ((k : Int) + 1) = ((k + 1 : Nat) : Int) from by omega, wid (k + 1) (by omega), show (((at_ + k : Nat) : Int) + 1) = ((at_ + k + 1 : Nat) : Int) from by omega, wid (at_ + k + 1) (by omega),
      step_or acc (byN s (at_ + k)) k (by omega) ha hb, show (7 * (k : Int)) = ((7 * k : Nat) : Int) from by omega, wid (7 * k) (by omega)]
    simp only [rvGo]
    by_cases hp : at_ + k < s.size
    · rw [if_pos (decide_eq_true (by omega)), if_pos (by omega), if_pos (by exact_mod_cast hp), if_pos (by omega), if_pos hp]
      by_cases hv : byN s (at_ + k) < 128
      · have hmod : byN s (at_ + k) % 128 = byN s (at_ + k) := Nat.mod_eq_of_lt hv
        rw [if_neg (by omega), if_pos hv, hmod]
        by_cases hz : byN s (at_ + k) = 0
        · by_cases hk0 : 0 < k
          · rw [if_pos (by omega), if_pos (by omega), if_pos (.inl ⟨hz, hk0⟩)]; rfl
          · rw [if_pos (by omega), if_neg (by omega)]
            by_cases hM : 1000000000 < acc + byN s (at_ + k) * 128 ^ k
            · rw [if_pos (by omega), if_pos (.inr hM)]; rfl
            · rw [if_neg (by omega), if_neg (by rintro (⟨_, h⟩ | h) <;> omega)]; rfl
        · rw [if_neg (by omega)]
          by_cases hM : 1000000000 < acc + byN s (at_ + k) * 128 ^ k
          · rw [if_pos (by omega), if_pos (.inr hM)]; rfl
          · rw [if_neg (by omega), if_neg (by rintro (⟨h, _⟩ | h) <;> omega)]; rfl
      · have hmod : byN s (at_ + k) % 128 = byN s (at_ + k) - 128 := by omega
        rw [if_pos (by omega), if_neg hv, hmod]
        have hlt : acc + (byN s (at_ + k) - 128) * 128 ^ k < 128 ^ (k + 1) := by
          rw [Nat.pow_succ]
          have : (byN s (at_ + k) - 128) * 128 ^ k ≤ 127 * 128 ^ k := Nat.mul_le_mul_right _ (by omega)
          omega
        exact ih (k + 1) _ K (by omega) hlt (by omega)
    · rw [if_neg hp]
      have : decide (((at_ + k : Nat) : Int) < (s.size : Int)) = false := decide_eq_false (by omega)
      rw [this]
      rfl

theorem impl_rv_f (s : ByteArray) (p : Int) (hs : s.size ≤ 1099511627776) : PFnExactDecode.impl_ReadVar.f 12 s p = some (rv3 (rv s p)) := by
  unfold PFnExactDecode.impl_ReadVar.f PFnExactDecode.impl_in.f rv
  by_cases h : 0 ≤ p ∧ p ≤ s.size
  · obtain ⟨m, rfl⟩ := Int.eq_ofNat_of_zero_le h.1
    rw [if_pos (by omega), if_pos h]
    have := impl_rv_l0 s m hs (by omega) 5 0 0 12 (by omega) (by omega) (by omega)
    simp only [Option.bind_some]
    rw [if_pos (by simpa using h.2)]
    simpa using this
  · rw [if_neg h]
    by_cases h0 : p ≥ 0
    · rw [if_pos h0]
      simp only [Option.bind_some]
      rw [if_neg (by simp; omega)]
      rfl
    · rw [if_neg h0]
      rfl

/-! the reference's ReadVar: the same -/
def val : List Nat → Nat
  | [] => 0
  | b :: r => b % 128 + 128 * val r
theorem val_snoc : ∀ (L : List Nat) (v : Nat), val (L ++ [v]) = val L + v % 128 * 128 ^ L.length
  | [], v => by simp [val]
  | b :: r, v => by
    simp only [List.cons_append, val, val_snoc r v, List.length_cons, Nat.pow_succ]
    rw [Nat.mul_add, ← Nat.mul_assoc, Nat.mul_comm 128 (v % 128), Nat.mul_assoc, Nat.mul_comm 128 (128 ^ r.length)]
    omega
theorem val_lt : ∀ (L : List Nat), val L < 128 ^ L.length
  | [] => by simp [val]
  | b :: r => by
    have := val_lt r
    have hb : b % 128 < 128 := Nat.mod_lt _ (by omega)
    simp only [val, List.length_cons, Nat.pow_succ]
    omega
theorem varN_ne (n : Nat) : varN n ≠ [] := by rw [varN]; split <;> simp
theorem varN_zero {n : Nat} (h : varN n = [0]) : n = 0 := by
  rw [varN] at h
  split at h
  · simpa using h
  · simp at h
    exact absurd h.2 (varN_ne _)
theorem varN_end : ∀ (L : List Int) (n : Nat), varN n = L ++ [0] → L = []
  | [], _, _ => rfl
  | y :: r, n, h => by
    rw [varN] at h
    split at h
    · simp at h
    · rename_i hn
      simp at h
      have hr := varN_end r (n / 128) h.2
      subst hr
      have := varN_zero h.2
      omega
theorem varN_canon : ∀ (L : List Nat) (v : Nat), (∀ b ∈ L, 128 ≤ b ∧ b < 256) → v < 128 → (varN (val (L ++ [v])) = (L ++ [v]).map (fun b : Nat => (b : Int)) ↔ (L = [] ∨ v ≠ 0))
  | [], v, _, hv => by
    simp only [List.nil_append, val, List.map_cons, List.map_nil]
    rw [varN, dif_pos (by omega), Nat.mod_eq_of_lt hv]
    simp
  | b :: r, v, hb, hv => by
    by_cases hz : v = 0
    · subst hz
      constructor
      · intro h
        have : varN (val (b :: r ++ [0])) = ((b :: r).map (fun b : Nat => (b : Int))) ++ [0] := by rw [h]; simp
        have := varN_end _ _ this
        simp at this
      · rintro (h | h)
        · cases h
        · exact absurd rfl h
    · have hpos : 1 ≤ val (r ++ [v]) := by
        rw [val_snoc, Nat.mod_eq_of_lt hv]
        have : 1 ≤ v * 128 ^ r.length := Nat.mul_pos (by omega) (Nat.pow_pos (by omega))
        omega
      have hb0 := hb b (by simp)
      have ih := (varN_canon r v (fun x hx => hb x (by simp [hx])) hv).2 (.inr hz)
      simp only [List.cons_append, val, List.map_cons]
      rw [varN, dif_neg (by omega)]
      have e1 : (b % 128 + 128 * val (r ++ [v])) / 128 = val (r ++ [v]) := by omega
      have e2 : (b % 128 + 128 * val (r ++ [v])) % 128 + 128 = b := by omega
      rw [e1, e2, ih]
      simp [hz]

theorem varN_range : ∀ (n : Nat), ∀ x ∈ varN n, 0 ≤ x ∧ x < 256 := by
  intro n
  induction n using Nat.strongRecOn with
  | _ n ih =>
    intro x hx
    rw [varN] at hx
    split at hx
    · simp at hx; omega
    · rcases List.mem_cons.1 hx with h | h
      · omega
      · exact ih (n / 128) (by omega) x h

/-- The bytes of a text, as numbers. -/
def nums8 (s : ByteArray) : List Nat := s.data.toList.map (fun b => b.toNat)
theorem nums8_length (s : ByteArray) : (nums8 s).length = s.size := by simp [nums8]
theorem byN_nums (s : ByteArray) (p : Nat) (h : p < s.size) : (nums8 s)[p]? = some (byN s p) := by
  have hp : p < s.data.toList.length := by simpa using h
  unfold nums8 byN bt
  rw [List.getElem?_map, List.getElem?_eq_getElem hp]
  have h' : ((p : Int).toNat) < s.size := by simpa using h
  rw [dif_pos h']
  simp
  rfl
theorem same_bytes (n : Nat) (s : ByteArray) (a b : Nat) (hb : b ≤ s.size) :
    ((strOfNums (varN n)).toList = (s.extract a b).toList ↔ varN n = (((nums8 s).take b).drop a).map (fun x : Nat => (x : Int))) := by
  rw [ByteArray.toList_eq, ByteArray.toList_eq, strOfNums_data]
  have he : (s.extract a b).data.toList = (s.data.toList.take b).drop a := by
    simp [ByteArray.data_extract, List.drop_take]
  rw [he]
  have hr := varN_range n
  unfold nums8
  rw [← List.map_take, ← List.map_drop, List.map_map]
  generalize varN n = xs at *
  generalize List.drop a (List.take b s.data.toList) = bs
  constructor
  · intro h
    rw [← h, List.map_map]
    conv => lhs; rw [← List.map_id xs]
    apply List.map_congr_left
    intro x hx
    have := hr x hx
    simp only [Function.comp, id]
    rw [UInt8.toNat_ofNat']
    omega
  · intro h
    rw [h, List.map_map]
    conv => rhs; rw [← List.map_id bs]
    apply List.map_congr_left
    intro x hx
    simp

/-- The bytes of a text from a place on, so many of them. -/
def part (s : ByteArray) (a k : Nat) : List Nat := ((nums8 s).take (a + k)).drop a
theorem part_zero (s : ByteArray) (a : Nat) : part s a 0 = [] := by simp [part]
theorem part_length (s : ByteArray) (a k : Nat) (h : a + k ≤ s.size) : (part s a k).length = k := by simp [part, nums8_length]; omega
theorem part_succ (s : ByteArray) (a k : Nat) (h : a + k < s.size) : part s a (k + 1) = part s a k ++ [byN s (a + k)] := by
  have hl : a + k < (nums8 s).length := by rw [nums8_length]; exact h
  have hg : (nums8 s)[a + k] = byN s (a + k) := by
    have h1 := byN_nums s (a + k) h
    rw [List.getElem?_eq_getElem hl] at h1
    exact Option.some.inj h1
  unfold part
  rw [← Nat.add_assoc, List.take_succ_eq_append_getElem hl, hg, List.drop_append_of_le_length (by simp; omega)]

theorem spec_l01Var_f (n K : Nat) (h : n ≤ 1000000000) (hK : 6 ≤ K) (hK2 : K ≤ 100) : PFnExactDecode.spec_l01Var.f K (n : Int) = some (strOfNums (varN n)) := by
  have hp : 128 ^ 6 ≤ 128 ^ K := Nat.pow_le_pow_right (by omega) hK
  have := l01Var_l0 K n [] (by omega) (by omega) (by omega) (by simp; omega)
  simpa [PFnExactDecode.spec_l01Var.f] using this

theorem spec_rv_l0 (s : ByteArray) (at_ : Nat) (hs : s.size ≤ 1099511627776) (hat : at_ ≤ s.size) : ∀ (f k K : Nat), k + f = 5 → at_ + k ≤ s.size → (∀ b ∈ part s at_ k, 128 ≤ b ∧ b < 256) → 2 * f + 10 ≤ K → K ≤ 100 →
    PFnExactDecode.spec_ReadVar.l0 K s (at_ : Int) (val (part s at_ k) : Int) ((128 ^ k : Nat) : Int) ((at_ + k : Nat) : Int) = some (rv3 (rvGo f s (at_ + k) (val (part s at_ k)) k)) := by
  intro f
  induction f with
  | zero =>
    intro k K hk hle hb hK hK2
    obtain ⟨K, rfl⟩ : ∃ m, K = m + 2 := ⟨K - 2, by omega⟩
    have h5 : k = 5 := by omega
    subst h5
    simp only [PFnExactDecode.spec_ReadVar.l0, PFnExactDecode.spec_ReadVar.j1]
    rw [show ((at_ : Int) + 5) = ((at_ + 5 : Nat) : Int) from by omega, wid (at_ + 5) (by omega)]
    rw [show decide (((at_ + 5 : Nat) : Int) < ((at_ + 5 : Nat) : Int)) = false from decide_eq_false (by omega)]
    split <;> simp [rvGo, rv3]
  | succ f ih =>
    intro k K hk hle hb hK hK2
    obtain ⟨K, rfl⟩ : ∃ m, K = m + 2 := ⟨K - 2, by omega⟩
    simp only [PFnExactDecode.spec_ReadVar.l0, PFnExactDecode.spec_ReadVar.j1, rvGo]
    by_cases hp : at_ + k < s.size
    · have hv := byN_lt s (at_ + k)
      have hps := part_succ s at_ k hp
      have hpl := part_length s at_ k hle
      have hval : val (part s at_ (k + 1)) = val (part s at_ k) + byN s (at_ + k) % 128 * 128 ^ k := by rw [hps, val_snoc, hpl]
      have hvl := val_lt (part s at_ (k + 1))
      rw [part_length s at_ (k + 1) (by omega)] at hvl
      have hpow : 128 ^ (k + 1) ≤ 128 ^ 5 := Nat.pow_le_pow_right (by omega) (by omega)
      have h128 : (128 : Nat) ^ 5 = 34359738368 := by decide
      have hmm : byN s (at_ + k) % 128 * 128 ^ k ≤ val (part s at_ (k + 1)) := by omega
      rw [if_pos (by omega), if_pos hp, show ((at_ : Int) + 5) = ((at_ + 5 : Nat) : Int) from by omega, wid (at_ + 5) (by omega)]
      rw [show decide (((at_ + k : Nat) : Int) < ((at_ + 5 : Nat) : Int)) = true from decide_eq_true (by omega)]
      rw [if_pos rfl, if_pos (by omega), if_pos (by omega), bt_byN, wid (byN s (at_ + k)) (by omega), Int.tmod_eq_emod_of_nonneg (by omega)]
      rw [show ((byN s (at_ + k) : Int) % 128 * ((128 ^ k : Nat) : Int)) = ((byN s (at_ + k) % 128 * 128 ^ k : Nat) : Int) from by push_cast; rfl, wid (byN s (at_ + k) % 128 * 128 ^ k) (by omega)]
      rw [show ((val (part s at_ k) : Int) + ((byN s (at_ + k) % 128 * 128 ^ k : Nat) : Int)) = ((val (part s at_ (k + 1)) : Nat) : Int) from by rw [hval]; push_cast; rfl, wid (val (part s at_ (k + 1))) (by omega)]
      rw [show (((at_ + k : Nat) : Int) + 1) = ((at_ + k + 1 : Nat) : Int) from by omega, wid (at_ + k + 1) (by omega)]
      by_cases hlt : byN s (at_ + k) < 128
      · rw [if_pos (by omega), if_pos hlt]
        have hmod : byN s (at_ + k) % 128 = byN s (at_ + k) := Nat.mod_eq_of_lt hlt
        rw [hmod] at hval
        rw [← hval]
        by_cases hM : 1000000000 < val (part s at_ (k + 1))
        · rw [if_pos (by omega), if_pos (.inr hM)]; rfl
        · rw [if_neg (by omega), spec_l01Var_f _ K (by omega) (by omega) (by omega)]
          simp only [Option.bind_some]
          rw [if_pos (by omega), if_pos (by omega), if_pos (by omega), Int.toNat_natCast, Int.toNat_natCast]
          have hcan := varN_canon (part s at_ k) (byN s (at_ + k)) hb hlt
          rw [← hps] at hcan
          have hsb := same_bytes (val (part s at_ (k + 1))) s at_ (at_ + k + 1) (by omega)
          have hpart : ((nums8 s).take (at_ + k + 1)).drop at_ = part s at_ (k + 1) := rfl
          rw [hpart] at hsb
          by_cases hc : byN s (at_ + k) = 0 ∧ 0 < k
          · have hne : ¬ ((strOfNums (varN (val (part s at_ (k + 1))))).toList = (s.extract at_ (at_ + k + 1)).toList) := by
              rw [hsb, hcan]
              rintro (h | h)
              · rw [h] at hpl; simp at hpl; omega
              · exact h hc.1
            rw [if_neg hne, if_pos (.inl hc)]; rfl
          · have heq : (strOfNums (varN (val (part s at_ (k + 1))))).toList = (s.extract at_ (at_ + k + 1)).toList := by
              rw [hsb, hcan]
              by_cases h0 : byN s (at_ + k) = 0
              · left
                have hk0 : k = 0 := by
                  rcases Nat.eq_zero_or_pos k with h | h
                  · exact h
                  · exact absurd ⟨h0, h⟩ hc
                subst hk0
                exact part_zero s at_
              · exact .inr h0
            have hno : ¬ ((byN s (at_ + k) = 0 ∧ 0 < k) ∨ 1000000000 < val (part s at_ (k + 1))) := fun h => h.elim hc hM
            rw [if_pos heq, if_neg hno]; rfl
      · rw [if_neg (by omega), if_neg hlt]
        have hmod : byN s (at_ + k) % 128 = byN s (at_ + k) - 128 := by omega
        have hb' : ∀ b ∈ part s at_ (k + 1), 128 ≤ b ∧ b < 256 := by
          intro b hbm
          rw [hps] at hbm
          rcases List.mem_append.1 hbm with h | h
          · exact hb b h
          · simp at h; omega
        have := ih (k + 1) K (by omega) (by omega) hb' (by omega) (by omega)
        rw [hmod] at hval
        rw [← hval]
        rw [show (((128 ^ k : Nat) : Int) * 128) = ((128 ^ (k + 1) : Nat) : Int) from by rw [Nat.pow_succ]; push_cast; rfl, wid (128 ^ (k + 1)) (by omega)]
        exact this
    · rw [if_neg (by omega), if_neg hp]
      rfl

theorem spec_rv_f (s : ByteArray) (p : Int) (hs : s.size ≤ 1099511627776) : PFnExactDecode.spec_ReadVar.f 20 s p = some (rv3 (rv s p)) := by
  unfold PFnExactDecode.spec_ReadVar.f PFnExactDecode.spec_l01In.f rv
  by_cases h : 0 ≤ p ∧ p ≤ s.size
  · obtain ⟨m, rfl⟩ := Int.eq_ofNat_of_zero_le h.1
    rw [if_pos (by omega), if_pos h]
    have := spec_rv_l0 s m hs (by omega) 5 0 20 (by omega) (by omega) (by rw [part_zero]; simp) (by omega) (by omega)
    simp only [Option.bind_some]
    rw [if_pos (by simpa using h.2)]
    rw [part_zero] at this
    simpa [val] using this
  · rw [if_neg h]
    by_cases h0 : p ≥ 0
    · rw [if_pos h0]
      simp only [Option.bind_some]
      rw [if_neg (by simp; omega)]
      rfl
    · rw [if_neg h0]
      rfl

end Go.Proofs.Ytofikijbmgejkaa
end

/-! ### YtofikijbmgejkaaState -/
section
namespace Go.Proofs.Ytofikijbmgejkaa
open Go.RowKit Go.Proofs.YtofikijbmgejkaaW.PrintWords
set_option linter.unusedSimpArgs false
set_option linter.unusedVariables false

/-- A reader's block: the text, the place, whether it was bad. -/
def Rd (T g : Nat) (s : ByteArray) (p : Int) (bad : Bool) (W : World) : Prop := W.heap[g]? = some (.cells #[.string s, .int .i64 p, .bool bad] T (0, 0))
theorem Rd.lt {T g : Nat} {s : ByteArray} {p : Int} {bad : Bool} {W : World} (h : Rd T g s p bad W) : g < W.heap.size := by
  unfold Rd at h
  rcases Nat.lt_or_ge g W.heap.size with h1 | h1
  · exact h1
  · rw [Array.getElem?_eq_none h1] at h; cases h
theorem Rd.cells {T g : Nat} {s : ByteArray} {p : Int} {bad : Bool} {W : World} (h : Rd T g s p bad W) :
    W.cell? ⟨g, 0, none⟩ = some (.string s) ∧ W.cell? ⟨g, 1, none⟩ = some (.int .i64 p) ∧ W.cell? ⟨g, 2, none⟩ = some (.bool bad) ∧ ∀ o, W.frozen? ⟨g, o, none⟩ = false := by
  unfold Rd at h
  refine ⟨?_, ?_, ?_, fun o => ?_⟩ <;> simp [World.cell?, World.frozen?, h]
theorem Rd.upd {T g g' : Nat} {s : ByteArray} {p : Int} {bad : Bool} {W W1 : World} (h : Rd T g s p bad W) (hu : Upd g' W W1) (hg : g ≠ g') : Rd T g s p bad W1 := (hu.block g h.lt hg).trans h
theorem Rd.below {T g : Nat} {s : ByteArray} {p : Int} {bad : Bool} {W W1 : World} (h : Rd T g s p bad W) (hb : Below W.heap.size W W1) : Rd T g s p bad W1 := (hb.block g h.lt).trans h
theorem Rd.far {T g : Nat} {s : ByteArray} {p : Int} {bad : Bool} {W : World} (h : Rd T g s p bad W) {a : Addr} (hg : g ≠ a.block) (v : Value) : Rd T g s p bad (W.setCell a v) := (Below.heap_setCell W a v g hg).trans h
theorem Rd.set1 {T g : Nat} {s : ByteArray} {p : Int} {bad : Bool} {W : World} (h : Rd T g s p bad W) (q : Int) : Rd T g s q bad (W.setCell ⟨g, 1, none⟩ (.int .i64 q)) := by
  unfold Rd at *
  simp [World.setCell, Array.getElem?_modify, h]
theorem Rd.set2 {T g : Nat} {s : ByteArray} {p : Int} {bad : Bool} {W : World} (h : Rd T g s p bad W) (q : Bool) : Rd T g s p q (W.setCell ⟨g, 2, none⟩ (.bool q)) := by
  unfold Rd at *
  simp [World.setCell, Array.getElem?_modify, h]
theorem Rd.new (T : Nat) (s : ByteArray) (p : Int) (bad : Bool) (W : World) : Rd T W.heap.size s p bad (W.alloc (.cells #[.string s, .int .i64 p, .bool bad] T)) := by
  unfold Rd
  simpa using heap_alloc_new W _

/-- What taking a number, a byte, a text does. -/
def rdNum (s : ByteArray) (p : Int) (bad : Bool) : Int × Int × Bool := if bad then (0, p, true) else match rv s p with
  | some (n, e) => (n, e, false)
  | none => (0, p, true)
def rdByte (s : ByteArray) (p : Int) (bad : Bool) : Int × Int × Bool := if bad = true ∨ p ≥ s.size then (0, p, true) else (bt s p, p + 1, false)

theorem impl_ReadVar (s : ByteArray) (p : Int) (w : World) (hs : s.size ≤ 1099511627776) :
    Calls Try.prog 119 #[.string s, .int .i64 p] w fun e w' => e = .returned (.tuple #[.int .i64 (rv3 (rv s p)).1, .int .i64 (rv3 (rv s p)).2.1, .bool (rv3 (rv s p)).2.2]) ∧ Below w.heap.size w w' := by
  refine (PFnExactDecode.impl_ReadVar.calls 12 s p _ _ _ w (impl_rv_f s p hs)).mono ?_
  rintro e w' ⟨rfl, nd, rfl⟩
  exact ⟨rfl, bl_drewN (Below.refl _ _) nd⟩
theorem spec_ReadVar (s : ByteArray) (p : Int) (w : World) (hs : s.size ≤ 1099511627776) :
    Calls Try.prog 112 #[.string s, .int .i64 p] w fun e w' => e = .returned (.tuple #[.int .i64 (rv3 (rv s p)).1, .int .i64 (rv3 (rv s p)).2.1, .bool (rv3 (rv s p)).2.2]) ∧ Below w.heap.size w w' := by
  refine (PFnExactDecode.spec_ReadVar.calls 20 s p _ _ _ w (spec_rv_f s p hs)).mono ?_
  rintro e w' ⟨rfl, hb⟩
  exact ⟨rfl, hb⟩

attribute [local go_sem] cell_grow

theorem impl_ReadVarH (s : ByteArray) (p : Int) (r : Int × Int × Bool) (w : World) (h : Hid (rv3 (rv s p) = r)) (hs : s.size ≤ 1099511627776) :
    Calls Try.prog 119 #[.string s, .int .i64 p] w fun e w' => e = .returned (.tuple #[.int .i64 r.1, .int .i64 r.2.1, .bool r.2.2]) ∧ Below w.heap.size w w' := by
  have := impl_ReadVar s p w hs
  rw [h.out] at this
  exact this
theorem spec_ReadVarH (s : ByteArray) (p : Int) (r : Int × Int × Bool) (w : World) (h : Hid (rv3 (rv s p) = r)) (hs : s.size ≤ 1099511627776) :
    Calls Try.prog 112 #[.string s, .int .i64 p] w fun e w' => e = .returned (.tuple #[.int .i64 r.1, .int .i64 r.2.1, .bool r.2.2]) ∧ Below w.heap.size w w' := by
  have := spec_ReadVar s p w hs
  rw [h.out] at this
  exact this

set_option maxHeartbeats 1000000 in
theorem impl_number (g : Nat) (s : ByteArray) (p : Int) (bad : Bool) (w : World) (hs : s.size ≤ 1099511627776) (hR : Rd 115 g s p bad w) :
    Calls Try.prog 69 #[.pointer (some ⟨g, 0, none⟩)] w fun e w' =>
      e = .returned (.int .i64 (rdNum s p bad).1) ∧ Rd 115 g s (rdNum s p bad).2.1 (rdNum s p bad).2.2 w' ∧ Upd g w w' := by
  have hlt := hR.lt
  obtain ⟨c0, c1, c2, hf⟩ := hR.cells
  cases bad with
  | true =>
    have Hq := Lib.hid (show rdNum s p true = (0, p, true) from by simp [rdNum])
    go_enter Try.func69, Try.ntmps69
    go_wp2_with fail
    refine wp_region_quiet_below (by kernel_rfl) (by kernel_rfl) ?_
    repeat (first | quiet_step (first | (go_at_call 119; exact Calls.regrown_of (impl_ReadVar _ _ _ hs))) | go_big_quiet_step (fail))
    refine wpQuiet_nil ?_
    intro W2 hw'
    have hbq := bl_regrown hw'
    clear hw'
    obtain ⟨hcq, hfq⟩ := bcell hbq
    go_wp2
    go_ret
    rw [Hq.out]
    exact ⟨rfl, (hR.below hbq).set2 true, ((Upd.refl g w).then hbq).set 2 _⟩
  | false =>
    rcases hq : rv s p with _ | ⟨n, e⟩
    · have Hq := Lib.hid (show rdNum s p false = (0, p, true) from by simp [rdNum, hq])
      have H3 := Lib.hid (show rv3 (rv s p) = (0, 0, false) from by rw [hq]; rfl)
      clear hq
      go_enter Try.func69, Try.ntmps69
      go_wp2_with fail
      refine wp_region_quiet_below (by kernel_rfl) (by kernel_rfl) ?_
      repeat (first | quiet_step (first | (go_at_call 119; exact Calls.regrown_of (impl_ReadVarH _ _ _ _ H3 hs))) | go_big_quiet_step (fail))
      refine wpQuiet_nil ?_
      intro W2 hw'
      have hbq := bl_regrown hw'
      clear hw'
      obtain ⟨hcq, hfq⟩ := bcell hbq
      go_wp2
      go_ret
      rw [Hq.out]
      exact ⟨rfl, (hR.below hbq).set2 true, ((Upd.refl g w).then hbq).set 2 _⟩
    · have Hq := Lib.hid (show rdNum s p false = ((n : Int), (e : Int), false) from by simp [rdNum, hq])
      have H3 := Lib.hid (show rv3 (rv s p) = ((n : Int), (e : Int), true) from by rw [hq]; rfl)
      clear hq
      go_enter Try.func69, Try.ntmps69
      go_wp2_with fail
      refine wp_region_quiet_below (by kernel_rfl) (by kernel_rfl) ?_
      repeat (first | quiet_step (first | (go_at_call 119; exact Calls.regrown_of (impl_ReadVarH _ _ _ _ H3 hs))) | go_big_quiet_step (fail))
      refine wpQuiet_nil ?_
      intro W2 hw'
      have hbq := bl_regrown hw'
      clear hw'
      obtain ⟨hcq, hfq⟩ := bcell hbq
      go_wp2
      go_ret
      rw [Hq.out]
      exact ⟨rfl, (hR.below hbq).set1 e, ((Upd.refl g w).then hbq).set 1 _⟩

set_option maxHeartbeats 1000000 in
theorem spec_l05Var (g : Nat) (s : ByteArray) (p : Int) (bad : Bool) (w : World) (hs : s.size ≤ 1099511627776) (hR : Rd 101 g s p bad w) :
    Calls Try.prog 63 #[.pointer (some ⟨g, 0, none⟩)] w fun e w' =>
      e = .returned (.int .i64 (rdNum s p bad).1) ∧ Rd 101 g s (rdNum s p bad).2.1 (rdNum s p bad).2.2 w' ∧ Upd g w w' := by
  have hlt := hR.lt
  obtain ⟨c0, c1, c2, hf⟩ := hR.cells
  cases bad with
  | true =>
    have Hq := Lib.hid (show rdNum s p true = (0, p, true) from by simp [rdNum])
    go_enter Try.func63, Try.ntmps63
    go_wp2_with fail
    refine wp_region_quiet_below (by kernel_rfl) (by kernel_rfl) ?_
    repeat (first | quiet_step (first | (go_at_call 112; exact Calls.regrown_of (spec_ReadVar _ _ _ hs))) | go_big_quiet_step (fail))
    refine wpQuiet_nil ?_
    intro W2 hw'
    have hbq := bl_regrown hw'
    clear hw'
    obtain ⟨hcq, hfq⟩ := bcell hbq
    go_wp2
    go_ret
    rw [Hq.out]
    exact ⟨rfl, (hR.below hbq).set2 true, ((Upd.refl g w).then hbq).set 2 _⟩
  | false =>
    rcases hq : rv s p with _ | ⟨n, e⟩
    · have Hq := Lib.hid (show rdNum s p false = (0, p, true) from by simp [rdNum, hq])
      have H3 := Lib.hid (show rv3 (rv s p) = (0, 0, false) from by rw [hq]; rfl)
      clear hq
      go_enter Try.func63, Try.ntmps63
      go_wp2_with fail
      refine wp_region_quiet_below (by kernel_rfl) (by kernel_rfl) ?_
      repeat (first | quiet_step (first | (go_at_call 112; exact Calls.regrown_of (spec_ReadVarH _ _ _ _ H3 hs))) | go_big_quiet_step (fail))
      refine wpQuiet_nil ?_
      intro W2 hw'
      have hbq := bl_regrown hw'
      clear hw'
      obtain ⟨hcq, hfq⟩ := bcell hbq
      go_wp2
      go_ret
      rw [Hq.out]
      exact ⟨rfl, (hR.below hbq).set2 true, ((Upd.refl g w).then hbq).set 2 _⟩
    · have Hq := Lib.hid (show rdNum s p false = ((n : Int), (e : Int), false) from by simp [rdNum, hq])
      have H3 := Lib.hid (show rv3 (rv s p) = ((n : Int), (e : Int), true) from by rw [hq]; rfl)
      clear hq
      go_enter Try.func63, Try.ntmps63
      go_wp2_with fail
      refine wp_region_quiet_below (by kernel_rfl) (by kernel_rfl) ?_
      repeat (first | quiet_step (first | (go_at_call 112; exact Calls.regrown_of (spec_ReadVarH _ _ _ _ H3 hs))) | go_big_quiet_step (fail))
      refine wpQuiet_nil ?_
      intro W2 hw'
      have hbq := bl_regrown hw'
      clear hw'
      obtain ⟨hcq, hfq⟩ := bcell hbq
      go_wp2
      go_ret
      rw [Hq.out]
      exact ⟨rfl, (hR.below hbq).set1 e, ((Upd.refl g w).then hbq).set 1 _⟩

/-! what the numbers read are -/
theorem rvGo_range (s : ByteArray) : ∀ (f p acc k n e : Nat), rvGo f s p acc k = some (n, e) → p < e ∧ e ≤ s.size ∧ n ≤ 1000000000
  | 0, _, _, _, _, _, h => by simp [rvGo] at h
  | f + 1, p, acc, k, n, e, h => by
    simp only [rvGo] at h
    split at h
    · split at h
      · split at h
        · cases h
        · rename_i h1 h2 h3
          have hn : ¬ (1000000000 < acc + byN s p * 128 ^ k) := fun x => h3 (.inr x)
          simp only [Option.some.injEq, Prod.mk.injEq] at h
          omega
      · have := rvGo_range s f (p + 1) _ _ n e h
        omega
    · cases h
theorem rv_range {s : ByteArray} {p : Int} {n e : Nat} (h : rv s p = some (n, e)) : 0 ≤ p ∧ p < (e : Int) ∧ e ≤ s.size ∧ n ≤ 1000000000 := by
  unfold rv at h
  split at h
  · rename_i hp
    have := rvGo_range s 5 _ 0 0 n e h
    omega
  · cases h

def rdTake (s : ByteArray) (p : Int) (bad : Bool) (n : Int) : ByteArray × Int × Bool := if bad = true ∨ n > s.size - p then (⟨#[]⟩, p, true) else (s.extract p.toNat (p + n).toNat, p + n, false)


/-- A world's first blocks. -/
def trunc (w : World) (g : Nat) : World := { w with heap := w.heap.extract 0 g }
theorem trunc_size {w : World} {g : Nat} (h : g ≤ w.heap.size) : (trunc w g).heap.size = g := by simp [trunc]; omega
theorem trunc_below {w : World} {g : Nat} (h : g ≤ w.heap.size) : Below (trunc w g).heap.size (trunc w g) w := by
  rw [trunc_size h]
  refine ⟨rfl, rfl, rfl, by rw [trunc_size h]; exact h, fun k hk => ?_⟩
  show w.heap[k]? = (w.heap.extract 0 g)[k]?
  rw [Array.getElem?_extract, if_pos (by omega)]
  simp
theorem upd_of {g : Nat} {w w' w0 : World} (h0 : Below w0.heap.size w0 w) (h1 : Below w0.heap.size w0 w') (hk : KeepBut w w' g none) : Upd g w w' :=
  ⟨h1.os.trans h0.os.symm, h1.tape.trans h0.tape.symm, h1.output.trans h0.output.symm, hk.1, fun k hk' hg => hk.2 k hk' hg (by simp)⟩

theorem take_f (s : ByteArray) (p : Int) (bad : Bool) (n : Int) (hs : s.size ≤ 1099511627776) (hp0 : 0 ≤ p) (hp1 : p ≤ s.size) (hn : 0 ≤ n) (hn1 : n ≤ 1000000000) :
    PFnExactDecode.spec_l05Take.f s p bad n = some ((rdTake s p bad n).1, s, (rdTake s p bad n).2.1, (rdTake s p bad n).2.2) := by
  unfold PFnExactDecode.spec_l05Take.f rdTake
  have e1 : wrap64 ((s.size : Int) - p) = (s.size : Int) - p := by unfold wrap64; omega
  have e2 : wrap64 (p + n) = p + n := by unfold wrap64; omega
  have e3 : wrap64 (p + n - n) = p := by unfold wrap64; omega
  rw [e1, e2, e3]
  clear e1 e2 e3
  cases bad with
  | true => simp
  | false =>
    by_cases h : n > s.size - p
    · rw [if_neg (by simp), if_pos h, if_pos (.inr h)]
    · rw [if_neg (by simp), if_neg h, if_pos hp0, if_pos (by omega), if_pos (by omega), if_neg (by simpa using h)]

theorem byte_f (s : ByteArray) (p : Int) (bad : Bool) (hs : s.size ≤ 1099511627776) (hp0 : 0 ≤ p) (hp1 : p ≤ s.size) :
    PFnExactDecode.impl_reader_byte.f s p bad = some ((rdByte s p bad).1, s, (rdByte s p bad).2.1, (rdByte s p bad).2.2) := by
  unfold PFnExactDecode.impl_reader_byte.f rdByte
  have hb := bt_range s p
  have e2 : wrap64 (p + 1) = p + 1 := by unfold wrap64; omega
  have e3 : wrap64 (p + 1 - 1) = p := by unfold wrap64; omega
  have e4 : wrap64 (bt s p) = bt s p := by unfold wrap64; omega
  rw [e2, e3, e4]
  clear e2 e3 e4
  cases bad with
  | true => simp
  | false =>
    by_cases h : p ≥ s.size
    · rw [if_neg (by simp), if_pos h, if_pos (.inr h)]
    · rw [if_neg (by simp), if_neg h, if_pos hp0, if_pos (by omega), if_neg (by simpa using h)]
theorem done_f (s : ByteArray) (p : Int) (bad : Bool) : PFnExactDecode.impl_reader_done.f s p bad = some (!bad && p == s.size, s, p, bad) := by
  unfold PFnExactDecode.impl_reader_done.f
  cases bad <;> simp

theorem spec_l05Take (g : Nat) (s : ByteArray) (p : Int) (bad : Bool) (n : Int) (w : World) (hs : s.size ≤ 1099511627776) (hp0 : 0 ≤ p) (hp1 : p ≤ s.size) (hn : 0 ≤ n) (hn1 : n ≤ 1000000000) (hR : Rd 101 g s p bad w) :
    Calls Try.prog 62 #[.pointer (some ⟨g, 0, none⟩), .int .i64 n] w fun e w' =>
      e = .returned (.string (rdTake s p bad n).1) ∧ Rd 101 g s (rdTake s p bad n).2.1 (rdTake s p bad n).2.2 w' ∧ Upd g w w' := by
  have hlt := Nat.le_of_lt hR.lt
  refine (PFnExactDecode.spec_l05Take.calls g s p bad n _ _ _ _ (trunc w g) w ⟨hR, Nat.le_of_eq (trunc_size hlt)⟩ (trunc_below hlt) (take_f s p bad n hs hp0 hp1 hn hn1)).mono ?_
  rintro e w' ⟨rfl, hI, hB, hK⟩
  exact ⟨rfl, hI.1, upd_of (trunc_below hlt) hB hK⟩

theorem impl_byte (g : Nat) (s : ByteArray) (p : Int) (bad : Bool) (w : World) (hs : s.size ≤ 1099511627776) (hp0 : 0 ≤ p) (hp1 : p ≤ s.size) (hR : Rd 115 g s p bad w) :
    Calls Try.prog 68 #[.pointer (some ⟨g, 0, none⟩)] w fun e w' =>
      e = .returned (.int .i64 (rdByte s p bad).1) ∧ Rd 115 g s (rdByte s p bad).2.1 (rdByte s p bad).2.2 w' ∧ Upd g w w' := by
  have hlt := Nat.le_of_lt hR.lt
  refine (PFnExactDecode.impl_reader_byte.calls g s p bad _ _ _ _ (trunc w g) w ⟨hR, Nat.le_of_eq (trunc_size hlt)⟩ (trunc_below hlt) (byte_f s p bad hs hp0 hp1)).mono ?_
  rintro e w' ⟨rfl, hI, hB, hK⟩
  exact ⟨rfl, hI.1, upd_of (trunc_below hlt) hB hK⟩
theorem impl_done (g : Nat) (s : ByteArray) (p : Int) (bad : Bool) (w : World) (hR : Rd 115 g s p bad w) :
    Calls Try.prog 75 #[.pointer (some ⟨g, 0, none⟩)] w fun e w' =>
      e = .returned (.bool (!bad && p == s.size)) ∧ Rd 115 g s p bad w' ∧ Upd g w w' := by
  have hlt := Nat.le_of_lt hR.lt
  refine (PFnExactDecode.impl_reader_done.calls g s p bad _ _ _ _ (trunc w g) w ⟨hR, Nat.le_of_eq (trunc_size hlt)⟩ (trunc_below hlt) (done_f s p bad)).mono ?_
  rintro e w' ⟨rfl, hI, hB, hK⟩
  exact ⟨rfl, hI.1, upd_of (trunc_below hlt) hB hK⟩

def rs (s : ByteArray) (p : Int) : Option (ByteArray × Int) := match rv s p with
  | some (n, e) => if n > 20000 ∨ (n : Int) > s.size - e then none else some (s.extract e (e + n), ((e + n : Nat) : Int))
  | none => none
def rs3 : Option (ByteArray × Int) → ByteArray × Int × Bool
  | some (t, e) => (t, e, true)
  | none => (⟨#[]⟩, 0, false)
def rdText (s : ByteArray) (p : Int) (bad : Bool) : ByteArray × Int × Bool := if bad then (⟨#[]⟩, p, true) else match rs s p with
  | some (t, e) => (t, e, false)
  | none => (⟨#[]⟩, p, true)
theorem rs_f (s : ByteArray) (p : Int) (hs : s.size ≤ 1099511627776) : PFnExactDecode.impl_ReadShort.f 12 s p = some (rs3 (rs s p)) := by
  unfold PFnExactDecode.impl_ReadShort.f rs
  rw [impl_rv_f s p hs]
  rcases hq : rv s p with _ | ⟨n, e⟩
  · rfl
  · obtain ⟨h0, h1, h2, h3⟩ := rv_range hq
    simp only [rv3, Option.bind_some]
    rw [if_pos trivial]
    by_cases c1 : n > 20000
    · rw [if_pos (by omega), if_pos (.inl c1)]; rfl
    · have e1 : wrap64 ((s.size : Int) - (e : Int)) = (s.size : Int) - (e : Int) := by unfold wrap64; omega
      have e2 : wrap64 ((e : Int) + (n : Int)) = ((e + n : Nat) : Int) := by unfold wrap64; omega
      rw [if_neg (by omega), e1, e2]
      clear e1 e2
      by_cases c2 : (n : Int) > s.size - e
      · rw [if_pos c2, if_pos (.inr c2)]; rfl
      · have c3 : ¬ (n > 20000 ∨ (n : Int) > s.size - e) := fun h => h.elim c1 c2
        rw [if_neg c2, if_pos (by omega), if_pos (by omega), if_pos (by omega), if_neg c3, Int.toNat_natCast, Int.toNat_natCast]; rfl

theorem text_f (s : ByteArray) (p : Int) (bad : Bool) (hs : s.size ≤ 1099511627776) :
    PFnExactDecode.impl_reader_text.f 12 s p bad = some ((rdText s p bad).1, s, (rdText s p bad).2.1, (rdText s p bad).2.2) := by
  unfold PFnExactDecode.impl_reader_text.f rdText
  rw [rs_f s p hs]
  cases bad with
  | true => simp
  | false => rcases rs s p with _ | ⟨t, e⟩ <;> simp [rs3]

theorem bt_extract (s : ByteArray) (a b : Nat) (hab : a < b) (hb : b ≤ s.size) : bt (s.extract a b) 0 = bt s (a : Int) := by
  unfold bt
  have h1 : (0 : Int).toNat < (s.extract a b).size := by simp; omega
  have h2 : (a : Int).toNat < s.size := by simp; omega
  rw [dif_pos h1, dif_pos h2]
  congr 2
  simp [ByteArray.getElem_extract]

theorem impl_text (g : Nat) (s : ByteArray) (p : Int) (bad : Bool) (w : World) (hs : s.size ≤ 1099511627776) (hR : Rd 115 g s p bad w) :
    Calls Try.prog 73 #[.pointer (some ⟨g, 0, none⟩)] w fun e w' =>
      e = .returned (.string (rdText s p bad).1) ∧ Rd 115 g s (rdText s p bad).2.1 (rdText s p bad).2.2 w' ∧ Upd g w w' := by
  have hlt := Nat.le_of_lt hR.lt
  refine (PFnExactDecode.impl_reader_text.calls 12 g s p bad _ _ _ _ (trunc w g) w ⟨hR, Nat.le_of_eq (trunc_size hlt)⟩ (trunc_below hlt) (text_f s p bad hs)).mono ?_
  rintro e w' ⟨rfl, hI, hB, hK⟩
  exact ⟨rfl, hI.1, upd_of (trunc_below hlt) hB hK⟩


theorem rdNum_range (s : ByteArray) (p : Int) (bad : Bool) (hp0 : 0 ≤ p) (hp1 : p ≤ s.size) : 0 ≤ (rdNum s p bad).1 ∧ (rdNum s p bad).1 ≤ 1000000000 ∧ 0 ≤ (rdNum s p bad).2.1 ∧ (rdNum s p bad).2.1 ≤ s.size := by
  unfold rdNum
  cases bad with
  | true => simp; omega
  | false =>
    rcases hq : rv s p with _ | ⟨n, e⟩
    · simp; omega
    · have := rv_range hq
      simp; omega
theorem rdByte_range (s : ByteArray) (p : Int) (bad : Bool) (hp0 : 0 ≤ p) (hp1 : p ≤ s.size) : 0 ≤ (rdByte s p bad).1 ∧ (rdByte s p bad).1 ≤ 255 ∧ 0 ≤ (rdByte s p bad).2.1 ∧ (rdByte s p bad).2.1 ≤ s.size := by
  unfold rdByte
  have := bt_range s p
  split
  · simp; omega
  · rename_i h
    have : ¬ p ≥ s.size := fun x => h (.inr x)
    simp; omega

/-- The reference's short text. -/
def rdShort (s : ByteArray) (p : Int) (bad : Bool) : ByteArray × Int × Bool := rdTake s (rdNum s p bad).2.1 (rdNum s p bad).2.2 (rdNum s p bad).1
set_option maxHeartbeats 1000000 in
theorem spec_l05ReadShort (g : Nat) (s : ByteArray) (p : Int) (bad : Bool) (w : World) (hs : s.size ≤ 1099511627776) (hp0 : 0 ≤ p) (hp1 : p ≤ s.size) (hR : Rd 101 g s p bad w) :
    Calls Try.prog 65 #[.pointer (some ⟨g, 0, none⟩)] w fun e w' =>
      e = .returned (.string (rdShort s p bad).1) ∧ Rd 101 g s (rdShort s p bad).2.1 (rdShort s p bad).2.2 w' ∧ Upd g w w' := by
  have hr := rdNum_range s p bad hp0 hp1
  unfold rdShort
  go_enter Try.func65, Try.ntmps65
  go_wp2_with fail
  refine (spec_l05Var _ _ _ _ _ hs hR).mono ?_
  rintro e w1 ⟨rfl, hR1, hU1⟩
  go_wp2_with fail
  refine (spec_l05Take _ _ _ _ _ _ hs hr.2.2.1 hr.2.2.2 hr.1 hr.2.1 hR1).mono ?_
  rintro e w2 ⟨rfl, hR2, hU2⟩
  go_wp2
  go_ret
  exact ⟨rfl, hR2, hU1.trans hU2⟩

end Go.Proofs.Ytofikijbmgejkaa
end

/-! ### YtofikijbmgejkaaReadEnt -/
section
namespace Go.Proofs.Ytofikijbmgejkaa
open Go.RowKit Go.Proofs.YtofikijbmgejkaaW.PrintWords
set_option linter.unusedSimpArgs false
set_option linter.unusedVariables false

/-! impl.ReadEntry at any text; the text of a right entry is read back. (own) -/
theorem rdNumH_range {s : ByteArray} {p : Int} {bad : Bool} {n p' : Int} {bad' : Bool} (h : Hid (rdNum s p bad = (n, p', bad'))) (hp : 0 ≤ p ∧ p ≤ s.size) : 0 ≤ p' ∧ p' ≤ s.size := by
  have := rdNum_range s p bad hp.1 hp.2
  rw [h.out] at this
  exact this.2.2
theorem rdByteH_range {s : ByteArray} {p : Int} {bad : Bool} {n p' : Int} {bad' : Bool} (h : Hid (rdByte s p bad = (n, p', bad'))) (hp : 0 ≤ p ∧ p ≤ s.size) : 0 ≤ p' ∧ p' ≤ s.size := by
  have := rdByte_range s p bad hp.1 hp.2
  rw [h.out] at this
  exact this.2.2
theorem rbyteH (g : Nat) (s : ByteArray) (p : Int) (bad : Bool) (n : Int) (p' : Int) (bad' : Bool) (w : World) (h : Hid (rdByte s p bad = (n, p', bad'))) (hs : s.size ≤ 1099511627776) (hp : 0 ≤ p ∧ p ≤ s.size) (hR : Rd 115 g s p bad w) :
    Calls Try.prog 68 #[.pointer (some ⟨g, 0, none⟩)] w fun e w' => e = .returned (.int .i64 n) ∧ Rd 115 g s p' bad' w' ∧ Upd g w w' := by
  have := impl_byte g s p bad w hs hp.1 hp.2 hR
  rw [h.out] at this
  exact this
theorem rnumH (g : Nat) (s : ByteArray) (p : Int) (bad : Bool) (n : Int) (p' : Int) (bad' : Bool) (w : World) (h : Hid (rdNum s p bad = (n, p', bad'))) (hs : s.size ≤ 1099511627776) (hR : Rd 115 g s p bad w) :
    Calls Try.prog 69 #[.pointer (some ⟨g, 0, none⟩)] w fun e w' => e = .returned (.int .i64 n) ∧ Rd 115 g s p' bad' w' ∧ Upd g w w' := by
  have := impl_number g s p bad w hs hR
  rw [h.out] at this
  exact this
theorem rrestH (g : Nat) (s : ByteArray) (p : Int) (bad : Bool) (w : World) (hp : 0 ≤ p ∧ p ≤ s.size) (hR : Rd 115 g s p bad w) :
    Calls Try.prog 120 #[.pointer (some ⟨g, 0, none⟩)] w fun e w' => e = .returned (.string (s.extract p.toNat s.size)) ∧ Rd 115 g s s.size bad w' ∧ Upd g w w' := by
  have hlt := Nat.le_of_lt hR.lt
  refine (PFnExactDecode.impl_reader_rest.calls g s p bad (s.extract p.toNat s.size) s s.size bad (trunc w g) w ⟨hR, Nat.le_of_eq (trunc_size hlt)⟩ (trunc_below hlt) ?_).mono ?_
  · unfold PFnExactDecode.impl_reader_rest.f
    rw [if_pos hp.1, if_pos hp.2]
  · rintro e w' ⟨rfl, hI, hB, hK⟩
    exact ⟨rfl, hI.1, upd_of (trunc_below hlt) hB hK⟩
theorem blk_upd {T b g : Nat} {cs : Array Value} {W W1 : World} (h : Blk T b cs W) (hu : Upd g W W1) (hne : b ≠ g) : Blk T b cs W1 := h.upd hu hne
theorem calls_at' {P : Program} {f : Nat} {args : Array Value} {E : World} {Q : Ending → World → Prop} (R : World → Prop) (h : R E) (k : ∀ W, R W → Calls P f args W Q) : Calls P f args E Q := k E h
theorem wp_at' {P : Program} {c : Code} {Q : Exit → Act → World → Prop} {a : Act} {E : World} (R : World → Prop) (h : R E) (k : ∀ W, R W → c.wp P Q a W) : c.wp P Q a E := k E h

/-- What ReadEntry hands back. -/
def rentV (b : Bool) (ix t k : Int) (d : ByteArray) : Value := if b then .tuple #[.int .i64 ix, .agg #[.int .i64 t, .int .i64 k, .string d], .bool true] else .tuple #[.int .i64 0, .agg #[.int .i64 0, .int .i64 0, .string ⟨#[]⟩], .bool false]

set_option maxHeartbeats 4000000 in
set_option maxRecDepth 100000 in
theorem impl_ReadEntry (s : ByteArray) (hs : s.size ≤ 1099511627776) (mk ix t k p1 p2 p3 p4 : Int) (q1 q2 q3 q4 : Bool) (d : ByteArray) (w : World)
    (h1 : Hid (rdByte s 0 false = (mk, p1, q1))) (h2 : Hid (rdNum s p1 q1 = (ix, p2, q2))) (h3 : Hid (rdNum s p2 q2 = (t, p3, q3))) (h4 : Hid (rdByte s p3 q3 = (k, p4, q4))) (h5 : Hid (s.extract p4.toNat s.size = d))
    (eo ei e69 : Bool) (H1 : Hid (entryOk t k d = eo)) (H2 : Hid (inB ix 1 1000000 = ei)) (H3 : (mk != 69) = !e69) :
    Calls Try.prog 72 #[.string s] w fun e w' => e = .returned (rentV (!q4 && e69 && eo && ei) ix t k d) ∧ Below w.heap.size w w' := by
  have g0 : 0 ≤ (0 : Int) ∧ (0 : Int) ≤ s.size := by omega
  have g1 := rdByteH_range h1 g0
  have g2 := rdNumH_range h2 g1
  have g3 := rdNumH_range h3 g2
  have g4 := rdByteH_range h4 g3
  have hd : d.size ≤ 1099511627776 := by rw [← h5.out, ByteArray.size_extract]; omega
  go_enter Try.func72, Try.ntmps72
  go_wp2_with fail
  refine calls_at' (fun W => Blk 105 w.heap.size #[.int .i64 0, .int .i64 0, .string ⟨#[]⟩] W ∧ Rd 115 (w.heap.size + 1) s 0 false W ∧ Below w.heap.size w W) ⟨(Blk.new _ _ w).alloc _, by have := Rd.new 115 s 0 false (w.alloc (.cells #[.int .i64 0, .int .i64 0, .string ⟨#[]⟩] 105)); simpa using this, (by repeat (first | exact Below.refl _ _ | apply bl_alloc | apply bl_drewN | apply bl_drew | refine bl_set ?_ (by simp) | refine bl_then ?_ (by assumption)))⟩ ?_
  rintro W0 ⟨k3, R0, B0⟩
  refine (rbyteH _ _ _ _ _ _ _ _ h1 hs g0 R0).mono ?_
  rintro e W1 ⟨rfl, R1, U1⟩
  replace k3 := k3.upd U1 (by omega)
  have B1 := U1.below B0 (by omega)
  clear R0 U1 B0 W0
  go_wp2_with fail
  refine (rnumH _ _ _ _ _ _ _ _ h2 hs R1).mono ?_
  rintro e W2 ⟨rfl, R2, U2⟩
  replace k3 := k3.upd U2 (by omega)
  have B2 := U2.below B1 (by omega)
  clear R1 U2 B1 W1
  go_wp2_with fail
  refine (rnumH _ _ _ _ _ _ _ _ h3 hs R2).mono ?_
  rintro e W3 ⟨rfl, R3, U3⟩
  replace k3 := k3.upd U3 (by omega)
  have B3 := U3.below B2 (by omega)
  have l3 := R3.lt
  clear R2 U3 B2 W2
  go_wp2_with fail
  obtain ⟨b8, hb8⟩ : ∃ b8, b8 = W3.heap.size := ⟨_, rfl⟩
  refine calls_at' (fun W => Blk 105 w.heap.size #[.int .i64 0, .int .i64 0, .string ⟨#[]⟩] W ∧ Rd 115 (w.heap.size + 1) s p3 q3 W ∧ Below w.heap.size w W ∧ Blk 105 b8 #[.int .i64 t, .int .i64 0, .string ⟨#[]⟩] W) ⟨k3.alloc _, R3.below (bl_alloc (Below.refl _ _) _), bl_alloc B3 _, Blk.newE _ _ W3 hb8⟩ ?_
  rw [← hb8]
  have n8 : w.heap.size + 1 < b8 := by omega
  clear hb8 k3 R3 B3 l3 W3
  rintro W4 ⟨k3, R4, B4, k8⟩
  refine (rbyteH _ _ _ _ _ _ _ _ h4 hs g3 R4).mono ?_
  rintro e W5 ⟨rfl, R5, U5⟩
  replace k3 := k3.upd U5 (by omega)
  replace k8 := k8.upd U5 (by omega)
  have B5 := U5.below B4 (by omega)
  clear R4 U5 B4 W4
  have c81 := k8.cell 1 rfl
  have f81 := k8.free 1
  have l8 := k8.lt
  go_wp2_with fail
  refine calls_at' (fun W => Blk 105 w.heap.size #[.int .i64 0, .int .i64 0, .string ⟨#[]⟩] W ∧ Rd 115 (w.heap.size + 1) s p4 q4 W ∧ Below w.heap.size w W ∧ Blk 105 b8 #[.int .i64 t, .int .i64 k, .string ⟨#[]⟩] W) ⟨k3.far (by show w.heap.size ≠ b8; omega) _, R5.far (by show w.heap.size + 1 ≠ b8; omega) _, bl_set B5 (by show w.heap.size ≤ b8; omega), k8.set 1 _ rfl⟩ ?_
  clear c81 f81 l8 k3 R5 B5 k8 W5
  rintro W6 ⟨k3, R6, B6, k8⟩
  have hr := rrestH _ _ _ _ _ g4 R6
  rw [h5.out] at hr
  refine hr.mono ?_
  clear hr
  rintro e W7 ⟨rfl, R7, U7⟩
  replace k3 := k3.upd U7 (by omega)
  replace k8 := k8.upd U7 (by omega)
  have B7 := U7.below B6 (by omega)
  clear R6 U7 B6 W6
  have c82 := k8.cell 2 rfl
  have f82 := k8.free 2
  have l8 := k8.lt
  go_upto_region 7 with fail
  refine wp_at' (fun W => Blk 105 w.heap.size #[.int .i64 0, .int .i64 0, .string ⟨#[]⟩] W ∧ Rd 115 (w.heap.size + 1) s s.size q4 W ∧ Below w.heap.size w W ∧ Blk 105 b8 #[.int .i64 t, .int .i64 k, .string d] W) ⟨k3.far (by show w.heap.size ≠ b8; omega) _, R7.far (by show w.heap.size + 1 ≠ b8; omega) _, bl_set B7 (by show w.heap.size ≤ b8; omega), k8.set 2 _ rfl⟩ ?_
  clear c82 f82 l8 k3 R7 B7 k8 W7
  rintro W8 ⟨k3, R8, B8, k8⟩
  obtain ⟨r0, r1, r2, rf⟩ := R8.cells
  have rl := R8.lt
  have c80 := k8.cell 0 rfl
  have c81 := k8.cell 1 rfl
  have c82 := k8.cell 2 rfl
  have l8 := k8.lt
  have x0 := k3.cell 0 rfl
  have x1 := k3.cell 1 rfl
  have x2 := k3.cell 2 rfl
  have y0 := k3.free 0
  have y1 := k3.free 1
  have y2 := k3.free 2
  have l3 := k3.lt
  have n38 : w.heap.size ≠ b8 := by omega
  rcases q4 with _ | _
  · rcases e69 with _ | _
    · go_wp2_with fail
      refine bodyPost_ret (v := .tuple #[.int .i64 0, .agg #[.int .i64 0, .int .i64 0, .string ⟨#[]⟩], .bool false]) ?_ rfl ⟨rfl, ?_⟩
      · simp only [results, Try.results72]
        go_simp
      · first | exact bl_set (bl_set (bl_set B8 (Nat.le_refl _)) (Nat.le_refl _)) (Nat.le_refl _) | exact B8
    · rcases eo with _ | _
      · go_wp2_with fail
        refine (impl_EntryOkH _ _ _ false _ H1 hd).mono ?_
        rintro e W9 ⟨rfl, hb9⟩
        clear r0 r1 r2 rf rl c80 c81 c82 l8 x0 x1 x2 y0 y1 y2 l3 R8
        replace k3 := k3.below hb9
        replace k8 := k8.below hb9
        replace B8 := bl_then B8 hb9
        clear hb9 W8
        have c80 := k8.cell 0 rfl
        have c81 := k8.cell 1 rfl
        have c82 := k8.cell 2 rfl
        have l8 := k8.lt
        have x0 := k3.cell 0 rfl
        have x1 := k3.cell 1 rfl
        have x2 := k3.cell 2 rfl
        have y0 := k3.free 0
        have y1 := k3.free 1
        have y2 := k3.free 2
        have l3 := k3.lt
        go_wp2_with fail
        refine bodyPost_ret (v := .tuple #[.int .i64 0, .agg #[.int .i64 0, .int .i64 0, .string ⟨#[]⟩], .bool false]) ?_ rfl ⟨rfl, ?_⟩
        · simp only [results, Try.results72]
          go_simp
        · first | exact bl_set (bl_set (bl_set B8 (Nat.le_refl _)) (Nat.le_refl _)) (Nat.le_refl _) | exact B8
      · go_wp2_with fail
        refine (impl_EntryOkH _ _ _ true _ H1 hd).mono ?_
        rintro e W9 ⟨rfl, hb9⟩
        clear r0 r1 r2 rf rl c80 c81 c82 l8 x0 x1 x2 y0 y1 y2 l3 R8
        replace k3 := k3.below hb9
        replace k8 := k8.below hb9
        replace B8 := bl_then B8 hb9
        clear hb9 W8
        have c80 := k8.cell 0 rfl
        have c81 := k8.cell 1 rfl
        have c82 := k8.cell 2 rfl
        have l8 := k8.lt
        have x0 := k3.cell 0 rfl
        have x1 := k3.cell 1 rfl
        have x2 := k3.cell 2 rfl
        have y0 := k3.free 0
        have y1 := k3.free 1
        have y2 := k3.free 2
        have l3 := k3.lt
        rcases ei with _ | _
        · go_wp2_with (first | (go_at_call 60; (with_reducible refine (impl_inH' _ _ _ false _ H2).mono ?_); rintro e w' ⟨rfl, rfl⟩))
          refine bodyPost_ret (v := .tuple #[.int .i64 0, .agg #[.int .i64 0, .int .i64 0, .string ⟨#[]⟩], .bool false]) ?_ rfl ⟨rfl, ?_⟩
          · simp only [results, Try.results72]
            go_simp
          · first | exact bl_set (bl_set (bl_set B8 (Nat.le_refl _)) (Nat.le_refl _)) (Nat.le_refl _) | exact B8
        · go_wp2_with (first | (go_at_call 60; (with_reducible refine (impl_inH' _ _ _ true _ H2).mono ?_); rintro e w' ⟨rfl, rfl⟩))
          go_region
          all_goals go_wp2_with fail
          all_goals refine bodyPost_ret (v := .tuple #[.int .i64 ix, .agg #[.int .i64 t, .int .i64 k, .string d], .bool true]) ?_ rfl ⟨rfl, ?_⟩
          rotate_left
          · repeat (first | exact B8 | apply bl_drew | apply bl_drewN | refine bl_set ?_ (Nat.le_refl _))
          simp only [results, Try.results72]
          go_simp
  · go_wp2_with fail
    refine bodyPost_ret (v := .tuple #[.int .i64 0, .agg #[.int .i64 0, .int .i64 0, .string ⟨#[]⟩], .bool false]) ?_ rfl ⟨rfl, ?_⟩
    · simp only [results, Try.results72]
      go_simp
    · first | exact bl_set (bl_set (bl_set B8 (Nat.le_refl _)) (Nat.le_refl _)) (Nat.le_refl _) | exact B8
end Go.Proofs.Ytofikijbmgejkaa
end

/-! ### YtofikijbmgejkaaReadEntP -/
section
namespace Go.Proofs.Ytofikijbmgejkaa
open Go.RowKit Go.Proofs.YtofikijbmgejkaaW.PrintWords
set_option linter.unusedSimpArgs false
set_option linter.unusedVariables false

/-! A right entry's text is read back. (own) -/
theorem nums8_append (a b : ByteArray) : nums8 (a ++ b) = nums8 a ++ nums8 b := by simp [nums8, ByteArray.data_append]
theorem nums8_str (xs : List Int) (h : ∀ x ∈ xs, 0 ≤ x ∧ x < 256) : nums8 (strOfNums xs) = xs.map Int.toNat := by
  unfold nums8
  rw [strOfNums_data, List.map_map]
  apply List.map_congr_left
  intro x hx
  have := h x hx
  simp only [Function.comp]
  rw [UInt8.toNat_ofNat']
  omega
theorem byN_at {s : ByteArray} {pre rest : List Nat} {b : Nat} (h : nums8 s = pre ++ b :: rest) : byN s pre.length = b ∧ pre.length < s.size := by
  have hl : pre.length < s.size := by rw [← nums8_length, h]; simp
  have h1 := byN_nums s pre.length hl
  rw [h] at h1
  simp at h1
  exact ⟨h1.symm, hl⟩
theorem rvGo_fwd (s : ByteArray) : ∀ (f m k acc : Nat) (pre post : List Nat), 1 ≤ f → m < 128 ^ f → nums8 s = pre ++ (varN m).map Int.toNat ++ post → (0 < k → m ≠ 0) → acc + m * 128 ^ k ≤ 1000000000 →
    rvGo f s pre.length acc k = some (acc + m * 128 ^ k, pre.length + (varN m).length)
  | 0, _, _, _, _, _, h, _, _, _, _ => by omega
  | f + 1, m, k, acc, pre, post, _, hm, hs, hk, hl => by
    unfold rvGo
    by_cases h7 : m ≤ 127
    · have hv : varN m = [(m : Int)] := by rw [varN, dif_pos h7]
      rw [hv] at hs ⊢
      obtain ⟨hb, hp⟩ := byN_at (s := s) (pre := pre) (b := m) (rest := post) (by rw [hs]; simp)
      rw [if_pos hp, hb, if_pos (by omega), if_neg (by rintro (⟨h1, h2⟩ | h1); exact hk h2 h1; omega)]
      simp
    · have hv : varN m = ((m % 128 + 128 : Nat) : Int) :: varN (m / 128) := by rw [varN, dif_neg h7]
      rw [hv] at hs ⊢
      obtain ⟨hb, hp⟩ := byN_at (s := s) (pre := pre) (b := m % 128 + 128) (rest := (varN (m / 128)).map Int.toNat ++ post) (by rw [hs]; simp; omega)
      rw [if_pos hp, hb, if_neg (by omega)]
      have hf : 1 ≤ f := by
        rcases f with _ | f
        · simp at hm; omega
        · omega
      have e1 : acc + (m % 128 + 128 - 128) * 128 ^ k + m / 128 * 128 ^ (k + 1) = acc + m * 128 ^ k := by
        have : m = m % 128 + 128 * (m / 128) := by omega
        conv => rhs; rw [this]
        rw [Nat.add_sub_cancel, Nat.add_mul, Nat.pow_succ]
        have e2 : m / 128 * (128 ^ k * 128) = 128 * (m / 128) * 128 ^ k := by rw [Nat.mul_comm (128 ^ k) 128, ← Nat.mul_assoc, Nat.mul_comm (m / 128) 128]
        rw [e2]
        omega
      have ih := rvGo_fwd s f (m / 128) (k + 1) (acc + (m % 128 + 128 - 128) * 128 ^ k) (pre ++ [m % 128 + 128]) post hf (by rw [Nat.pow_succ] at hm; omega) (by rw [hs]; simp; omega) (by intro _; omega) (by rw [e1]; exact hl)
      rw [e1] at ih
      simp only [List.length_append, List.length_singleton] at ih
      rw [ih]
      simp only [List.length_cons]
      congr 2
      omega
theorem rdNum_fwd {s : ByteArray} {n : Int} {pre post : List Nat} {p : Int} (h0 : 0 ≤ n) (h1 : n ≤ 1000000000) (hs : nums8 s = pre ++ (varN n.toNat).map Int.toNat ++ post) (hp : p = pre.length) :
    rdNum s p false = (n, ((pre.length + (varN n.toNat).length : Nat) : Int), false) := by
  subst hp
  obtain ⟨m, rfl⟩ := Int.eq_ofNat_of_zero_le h0
  simp only [Int.toNat_natCast] at hs ⊢
  have hz : pre.length ≤ s.size := by rw [← nums8_length, hs]; simp
  have := rvGo_fwd s 5 m 0 0 pre post (by omega) (by omega) hs (by omega) (by omega)
  unfold rdNum rv
  rw [if_neg (by simp), if_pos ⟨by omega, by omega⟩, Int.toNat_natCast, this]
  simp
theorem rdByte_fwd {s : ByteArray} {b : Nat} {pre post : List Nat} {p : Int} (hs : nums8 s = pre ++ b :: post) (hp : p = pre.length) : rdByte s p false = ((b : Int), ((pre.length + 1 : Nat) : Int), false) := by
  subst hp
  obtain ⟨hb, hl⟩ := byN_at hs
  unfold rdByte
  rw [if_neg (by simp; omega), bt_byN, hb]
  simp
theorem extract_tail (a b : ByteArray) : (a ++ b).extract a.size (a ++ b).size = b := by
  apply ByteArray.ext
  have h1 : a.data.extract a.size (a.size + b.size) = #[] := by
    apply Array.eq_empty_of_size_eq_zero
    rw [Array.size_extract]
    show min (a.size + b.size) a.size - a.size = 0
    omega
  have h2 : b.data.extract 0 b.size = b.data := by
    show b.data.extract 0 b.data.size = b.data
    simp
  simp [ByteArray.data_extract, ByteArray.data_append, ByteArray.size_append, h1, h2]

theorem entry_reads (i t k : Int) (d : ByteArray) (hok : entryOk t k d = true) (hi : inB i 1 1000000 = true) : ∃ p2 p3 p4 : Int,
    rdByte (entryS i t k d) 0 false = (69, 1, false) ∧ rdNum (entryS i t k d) 1 false = (i, p2, false) ∧ rdNum (entryS i t k d) p2 false = (t, p3, false) ∧ rdByte (entryS i t k d) p3 false = (k, p4, false) ∧ (entryS i t k d).extract p4.toNat (entryS i t k d).size = d := by
  obtain ⟨ht0, ht1, hk0, hk1, hdz⟩ := entryOk_parts hok
  obtain ⟨hi0, hi1⟩ := inB_iff.1 hi
  have n1 : nums8 (⟨#[69]⟩ : ByteArray) = [69] := rfl
  have n2 : nums8 (varS i) = (varN i.toNat).map Int.toNat := nums8_str _ (varN_range _)
  have n3 : nums8 (varS t) = (varN t.toNat).map Int.toNat := nums8_str _ (varN_range _)
  have n4 : nums8 (byteS k) = [k.toNat] := by
    have : byteS k = strOfNums [k] := by unfold byteS; rw [show k % 256 = k from by omega]
    rw [this, nums8_str [k] (by intro x hx; simp at hx; omega)]
    rfl
  have hs : nums8 (entryS i t k d) = [69] ++ (varN i.toNat).map Int.toNat ++ (varN t.toNat).map Int.toNat ++ [k.toNat] ++ nums8 d := by
    unfold entryS
    rw [nums8_append, nums8_append, nums8_append, nums8_append, n1, n2, n3, n4]
  have a1 := rdByte_fwd (s := entryS i t k d) (b := 69) (pre := []) (p := 0) (post := (varN i.toNat).map Int.toNat ++ ((varN t.toNat).map Int.toNat ++ ([k.toNat] ++ nums8 d))) (by rw [hs]; simp) rfl
  have a2 := rdNum_fwd (s := entryS i t k d) (n := i) (pre := [69]) (p := 1) (post := (varN t.toNat).map Int.toNat ++ ([k.toNat] ++ nums8 d)) (by omega) (by omega) (by rw [hs]; simp) rfl
  have a3 := rdNum_fwd (s := entryS i t k d) (n := t) (pre := [69] ++ (varN i.toNat).map Int.toNat) (p := (([69] : List Nat).length + (varN i.toNat).length : Nat)) (post := [k.toNat] ++ nums8 d) (by omega) (by omega) (by rw [hs]; simp) (by simp; omega)
  have a4 := rdByte_fwd (s := entryS i t k d) (b := k.toNat) (pre := [69] ++ (varN i.toNat).map Int.toNat ++ (varN t.toNat).map Int.toNat) (p := ((([69] ++ (varN i.toNat).map Int.toNat : List Nat)).length + (varN t.toNat).length : Nat)) (post := nums8 d) (by rw [hs]; simp) (by simp; omega)
  refine ⟨_, _, _, a1, a2, a3, by rw [a4, show ((k.toNat : Nat) : Int) = k from by omega], ?_⟩
  rw [Int.toNat_natCast]
  have hz : ([69] ++ (varN i.toNat).map Int.toNat ++ (varN t.toNat).map Int.toNat).length + 1 = ((⟨#[69]⟩ : ByteArray) ++ varS i ++ varS t ++ byteS k).size := by
    have : ((⟨#[69]⟩ : ByteArray) ++ varS i ++ varS t ++ byteS k).size = (nums8 ((⟨#[69]⟩ : ByteArray) ++ varS i ++ varS t ++ byteS k)).length := (nums8_length _).symm
    rw [this, nums8_append, nums8_append, nums8_append, n1, n2, n3, n4]
    simp
    try omega
  rw [hz]
  exact extract_tail _ d

/-- ReadEntry gives a right entry back. -/
theorem impl_ReadEntry_back (i t k : Int) (d : ByteArray) (hok : entryOk t k d = true) (hi : inB i 1 1000000 = true) (w : World) :
    Calls Try.prog 72 #[.string (entryS i t k d)] w fun e w' => e = .returned (.tuple #[.int .i64 i, .agg #[.int .i64 t, .int .i64 k, .string d], .bool true]) ∧ Below w.heap.size w w' := by
  obtain ⟨p2, p3, p4, h1, h2, h3, h4, h5⟩ := entry_reads i t k d hok hi
  obtain ⟨ht0, ht1, hk0, hk1, hdz⟩ := entryOk_parts hok
  obtain ⟨hi0, hi1⟩ := inB_iff.1 hi
  have s1 := varS_size i (by omega) (by omega)
  have s2 := varS_size t (by omega) (by omega)
  have s3 := byteS_size k
  have s4 : (⟨#[69]⟩ : ByteArray).size = 1 := rfl
  exact impl_ReadEntry (entryS i t k d) (by unfold entryS; simp only [ByteArray.size_append]; omega) 69 i t k 1 p2 p3 p4 false false false false d w (Lib.hid h1) (Lib.hid h2) (Lib.hid h3) (Lib.hid h4) (Lib.hid h5) true true true (Lib.hid hok) (Lib.hid hi) rfl
theorem impl_ReadEntry_none (w : World) :
    Calls Try.prog 72 #[.string ⟨#[]⟩] w fun e w' => e = .returned (.tuple #[.int .i64 0, .agg #[.int .i64 0, .int .i64 0, .string ⟨#[]⟩], .bool false]) ∧ Below w.heap.size w w' :=
  impl_ReadEntry ⟨#[]⟩ (by decide) 0 0 0 0 0 0 0 0 true true true true _ w (Lib.hid rfl) (Lib.hid rfl) (Lib.hid rfl) (Lib.hid rfl) (Lib.hid rfl) _ _ false (Lib.hid rfl) (Lib.hid rfl) rfl
end Go.Proofs.Ytofikijbmgejkaa
end

/-! ### YtofikijbmgejkaaReadPure -/
section
namespace Go.Proofs.Ytofikijbmgejkaa
open Go.RowKit Go.Proofs.YtofikijbmgejkaaW.PrintWords
set_option linter.unusedSimpArgs false
set_option linter.unusedVariables false

theorem ba_ext {a b : ByteArray} (h : a.toList = b.toList) : a = b := by
  rw [ByteArray.toList_eq, ByteArray.toList_eq] at h
  apply ByteArray.ext
  exact Array.toList_inj.1 h

theorem rvGo_bytes (s : ByteArray) (a : Nat) : ∀ (f k n e : Nat), (∀ b ∈ part s a k, 128 ≤ b ∧ b < 256) → a + k ≤ s.size → rvGo f s (a + k) (val (part s a k)) k = some (n, e) →
    ∃ m, e = a + m ∧ a + m ≤ s.size ∧ varN n = (part s a m).map (fun x : Nat => (x : Int))
  | 0, _, _, _, _, _, h => by simp [rvGo] at h
  | f + 1, k, n, e, hb, hle, h => by
    simp only [rvGo] at h
    by_cases hp : a + k < s.size
    · rw [if_pos hp] at h
      have hv := byN_lt s (a + k)
      have hps := part_succ s a k hp
      have hpl := part_length s a k hle
      have hval : val (part s a (k + 1)) = val (part s a k) + byN s (a + k) % 128 * 128 ^ k := by rw [hps, val_snoc, hpl]
      by_cases hlt : byN s (a + k) < 128
      · rw [if_pos hlt] at h
        rw [Nat.mod_eq_of_lt hlt] at hval
        split at h
        · cases h
        · rename_i hno
          simp only [Option.some.injEq, Prod.mk.injEq] at h
          obtain ⟨hn, he⟩ := h
          refine ⟨k + 1, by omega, by omega, ?_⟩
          have hcan := varN_canon (part s a k) (byN s (a + k)) hb hlt
          rw [← hps] at hcan
          rw [← hn, ← hval]
          refine hcan.2 ?_
          by_cases h0 : byN s (a + k) = 0
          · left
            have hk0 : k = 0 := by
              rcases Nat.eq_zero_or_pos k with h | h
              · exact h
              · exact absurd (.inl ⟨h0, h⟩) hno
            subst hk0
            exact part_zero s a
          · exact .inr h0
      · rw [if_neg hlt] at h
        have hb' : ∀ b ∈ part s a (k + 1), 128 ≤ b ∧ b < 256 := by
          intro b hbm
          rw [hps] at hbm
          rcases List.mem_append.1 hbm with h | h
          · exact hb b h
          · simp at h; omega
        have hmod : byN s (a + k) % 128 = byN s (a + k) - 128 := by omega
        rw [hmod] at hval
        rw [← hval] at h
        exact rvGo_bytes s a f (k + 1) n e hb' (by omega) h
    · rw [if_neg hp] at h
      cases h

/-- What a number was read from is its text. -/
theorem rv_bytes {s : ByteArray} {p : Int} {n e : Nat} (h : rv s p = some (n, e)) : s.extract p.toNat e = varS n := by
  have hr := rv_range h
  obtain ⟨a, rfl⟩ := Int.eq_ofNat_of_zero_le hr.1
  unfold rv at h
  rw [if_pos (by omega)] at h
  have hz : part s a 0 = [] := part_zero s a
  obtain ⟨m, rfl, hm, hv⟩ := rvGo_bytes s a 5 0 n e (by rw [hz]; simp) (by omega) (by rw [hz]; simpa [val] using h)
  apply ba_ext
  unfold varS
  rw [Int.toNat_natCast, Int.toNat_natCast]
  exact ((same_bytes n s a (a + m) hm).2 hv).symm

theorem extract_join (s : ByteArray) (a b c : Nat) (h1 : a ≤ b) (h2 : b ≤ c) : s.extract a b ++ s.extract b c = s.extract a c := by
  apply ByteArray.ext
  simp [ByteArray.data_append, ByteArray.data_extract, Nat.min_eq_left h1, Nat.max_eq_right h2]

theorem num_bytes {s : ByteArray} {p n p' : Int} {q : Bool} (h : rdNum s p q = (n, p', false)) : q = false ∧ 0 ≤ p ∧ p ≤ p' ∧ p' ≤ s.size ∧ s.extract p.toNat p'.toNat = varS n := by
  unfold rdNum at h
  cases q with
  | true => simp at h
  | false =>
    rcases hq : rv s p with _ | ⟨m, e⟩
    · rw [hq] at h; simp at h
    · rw [hq] at h
      have hr := rv_range hq
      have hb := rv_bytes hq
      simp at h
      obtain ⟨rfl, rfl⟩ := h
      exact ⟨rfl, by omega, by omega, by omega, by simpa using hb⟩
theorem byte_bytes {s : ByteArray} {p n p' : Int} {q : Bool} (hp : 0 ≤ p) (h : rdByte s p q = (n, p', false)) : q = false ∧ 0 ≤ p ∧ p ≤ p' ∧ p' ≤ s.size ∧ s.extract p.toNat p'.toNat = byteS n := by
  unfold rdByte at h
  split at h
  · simp at h
  · rename_i hno
    simp at h
    obtain ⟨rfl, rfl⟩ := h
    have hq : q = false := by cases q; rfl; exact absurd (.inl rfl) hno
    have hlt : p < s.size := by
      have : ¬ p ≥ s.size := fun x => hno (.inr x)
      omega
    obtain ⟨a, rfl⟩ := Int.eq_ofNat_of_zero_le hp
    refine ⟨hq, by omega, by omega, by omega, ?_⟩
    have ha : a < s.size := by omega
    have hr := bt_range s (a : Int)
    apply ByteArray.ext
    apply Array.toList_inj.1
    have e1 : ((a : Int) + 1).toNat = a + 1 := by omega
    rw [Int.toNat_natCast, e1]
    unfold byteS
    rw [strOfNums_data]
    have e2 : (s.extract a (a + 1)).data.toList = (s.data.toList.take (a + 1)).drop a := by simp [ByteArray.data_extract, List.drop_take]
    rw [e2]
    have hl : a < s.data.toList.length := by simpa using ha
    rw [List.take_succ_eq_append_getElem hl, List.drop_append_of_le_length (by simp; omega), List.drop_of_length_le (by simp; omega)]
    have hbt : bt s (a : Int) = ((s.data.toList[a]).toNat : Int) := by
      unfold bt
      rw [dif_pos (by simpa using ha)]
      simp
      rfl
    rw [hbt]
    have ha' : a < s.data.size := by simpa using ha
    have hlt2 := (s.data[a]).toNat_lt
    have e3 : (((s.data[a]).toNat : Int) % 256).toNat = (s.data[a]).toNat := by omega
    simp [e3]

theorem short_bytes {s t : ByteArray} {p p' : Int} {q : Bool} (hp : 0 ≤ p) (hps : p ≤ s.size) (h : rdShort s p q = (t, p', false)) : q = false ∧ 0 ≤ p ∧ p ≤ p' ∧ p' ≤ s.size ∧ s.extract p.toNat p'.toNat = shortS t := by
  unfold rdShort at h
  rcases hn : rdNum s p q with ⟨n, pn, qn⟩
  have hrange := rdNum_range s p q hp hps
  rw [hn] at h hrange
  simp only at h hrange
  unfold rdTake at h
  split at h
  · simp at h
  · rename_i hno
    simp at h
    obtain ⟨rfl, rfl⟩ := h
    have hqn : qn = false := by cases qn; rfl; exact absurd (.inl rfl) hno
    subst hqn
    have hle : n ≤ s.size - pn := by
      have : ¬ n > s.size - pn := fun x => hno (.inr x)
      omega
    obtain ⟨h1, h2, h3, h4, h5⟩ := num_bytes hn
    refine ⟨h1, h2, by omega, by omega, ?_⟩
    rw [← extract_join s p.toNat pn.toNat (pn + n).toNat (by omega) (by omega), h5]
    unfold shortS
    congr 1
    have : (s.extract pn.toNat (pn + n).toNat).size = n.toNat := by simp; omega
    rw [this, Int.toNat_of_nonneg hrange.1]

/-- The program's short text, read: the reference's. -/
theorem short_of_text {s t : ByteArray} {p p' : Int} {q : Bool} (h : rdText s p q = (t, p', false)) : rdShort s p q = (t, p', false) := by
  unfold rdText at h
  cases q with
  | true => simp at h
  | false =>
    unfold rs at h
    rcases hq : rv s p with _ | ⟨n, e⟩
    · rw [hq] at h; simp at h
    · rw [hq] at h
      have hr := rv_range hq
      simp only at h
      by_cases hc : n > 20000 ∨ (n : Int) > s.size - e
      · rw [if_pos hc] at h; simp at h
      · rw [if_neg hc] at h
        simp at h
        obtain ⟨rfl, rfl⟩ := h
        have hn : rdNum s p false = ((n : Int), (e : Int), false) := by simp [rdNum, hq]
        unfold rdShort
        rw [hn]
        unfold rdTake
        have hle : ¬ ((n : Int) > s.size - e) := fun x => hc (.inr x)
        rw [if_neg (by simpa using hle)]
        have e1 : ((e : Int) + (n : Int)).toNat = e + n := by omega
        simp only [Int.toNat_natCast, e1]
/-- And the other way round, where the text is not long. -/
theorem text_of_short {s t : ByteArray} {p p' : Int} {q : Bool} (h : rdShort s p q = (t, p', false)) (ht : t.size ≤ 20000) : rdText s p q = (t, p', false) := by
  unfold rdShort at h
  rcases hn : rdNum s p q with ⟨n, pn, qn⟩
  rw [hn] at h
  simp only at h
  unfold rdTake at h
  split at h
  · simp at h
  · rename_i hno
    simp at h
    obtain ⟨rfl, rfl⟩ := h
    have hqn : qn = false := by cases qn; rfl; exact absurd (.inl rfl) hno
    subst hqn
    have hle : n ≤ s.size - pn := by
      have : ¬ n > s.size - pn := fun x => hno (.inr x)
      omega
    unfold rdNum at hn
    cases q with
    | true => simp at hn
    | false =>
      rcases hq : rv s p with _ | ⟨m, e⟩
      · rw [hq] at hn; simp at hn
      · rw [hq] at hn
        have hr := rv_range hq
        simp at hn
        obtain ⟨rfl, rfl⟩ := hn
        have e1 : ((e : Int) + (m : Int)).toNat = e + m := by omega
        have hsz : (s.extract e (e + m)).size = m := by simp; omega
        rw [Int.toNat_natCast, e1, hsz] at ht
        unfold rdText rs
        rw [hq]
        simp only
        have hc : ¬ (m > 20000 ∨ (m : Int) > s.size - e) := by rintro (x | x) <;> omega
        rw [if_neg hc]
        simp [e1]
end Go.Proofs.Ytofikijbmgejkaa
end
