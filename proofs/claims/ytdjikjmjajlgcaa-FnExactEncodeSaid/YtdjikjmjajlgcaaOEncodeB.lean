import Derived.Test.YtdjikjmjajlgcaaOEncodeA
import Derived.Test.YtdjikjmjajlgcaaPEncodeA
import Derived.Test.YtdjikjmjajlgcaaWWords
import Derived.Test.YtdjikjmjajlgcaaPEncodeB

/-! ### YtdjikjmjajlgcaaMsgSpec -/
section
namespace Go.Proofs.Ytdjikjmjajlgcaa
open Go.RowKit Go.Proofs.YtdjikjmjajlgcaaW.PrintWords PFnExactEncode
set_option linter.unusedSimpArgs false
set_option linter.unusedVariables false

/-- What stands ahead of the entries. -/
def preB (a0 a1 a2 a3 a4 a5 a6 : Int) (es : List S54) : Bool :=
  inB a0 1 6 && inB a1 1 4 && inB a2 1 4 && !(a1 == a2) && (inB a3 0 100000 && inB a5 0 100000 && inB a4 0 1000000 && inB a6 0 1000000) && decide (es.length ≤ 4) && (decide (es.length = 0) || a0 == 3)
theorem msgB_pre (a0 a1 a2 a3 a4 a5 a6 : Int) (es : List S54) (cf : List Int) (d : ByteArray) (ls : Bool) :
    msgB a0 a1 a2 a3 a4 a5 a6 es cf d ls = (preB a0 a1 a2 a3 a4 a5 a6 es && ents es a3 0 es.length a5 && lastB a0 cf d ls) := by
  unfold msgB preB headB tailB
  simp only [inM_inB]
  generalize inB a0 1 6 = b0
  generalize inB a1 1 4 = b1
  generalize inB a2 1 4 = b2
  generalize (!(a1 == a2)) = b3
  generalize inB a3 0 100000 = b4
  generalize inB a5 0 100000 = b5
  generalize inB a4 0 1000000 = b6
  generalize inB a6 0 1000000 = b7
  generalize decide (es.length ≤ 4) = b8
  generalize (decide (es.length = 0) || a0 == 3) = b9
  generalize ents es a3 0 es.length a5 = b10
  cases b0 <;> cases b1 <;> cases b2 <;> cases b3 <;> cases b4 <;> cases b5 <;> cases b6 <;> cases b7 <;> cases b8 <;> cases b9 <;> cases b10 <;> rfl

set_option maxHeartbeats 2000000 in
set_option maxRecDepth 100000 in
theorem spec_Msg_no (es : List S54) (hS : Short es) (a0 a1 a2 a3 a4 a5 a6 : Int) (a7 : Bool) (cf : List Int) (d : ByteArray) (ls : Bool) (hl : es.length ≤ 1048576) (hcf : cf.length ≤ 1048576) (A8 : Option Addr) (c8 : Nat) (A9 : Option Addr) (c9 : Nat) (w : World)
    (hr8 : Kd.C k54 w A8 es.length es) (hc8 : es.length ≤ c8) (hr9 : Kd.C (Kd.int .i64) w A9 cf.length cf) (hc9 : cf.length ≤ c9) (hno : preB a0 a1 a2 a3 a4 a5 a6 es = false) :
    Calls Try.prog 54 #[.agg #[.int .i64 a0, .int .i64 a1, .int .i64 a2, .int .i64 a3, .int .i64 a4, .int .i64 a5, .int .i64 a6, .bool a7, .slice A8 es.length c8, .slice A9 cf.length c9, .string d, .bool ls]] w fun e w' => e = .returned (.bool false) ∧ Below w.heap.size w w' := by
  have HN := Lib.hid hno
  clear hno hr8 hr9
  go_enter Try.func54, Try.ntmps54
  go_wp2_with (first | (go_at_call 95; refine (spec_l01In _ _ _ _).mono ?_; rintro e w' ⟨rfl, rfl⟩))
  all_goals first
    | (go_ret; exact ⟨rfl, (by repeat (first | exact Below.refl _ _ | apply bl_alloc | apply bl_drewN | apply bl_drew | refine bl_set ?_ (by simp) | refine bl_then ?_ (by assumption)))⟩)
    | (exfalso
       have h := HN.out
       unfold preB at h
       simp [*] at h
       have h6 : inB a6 0 1000000 = true := by simpa using (by assumption : (!inB a6 0 1000000) = false)
       have h4 : es.length ≤ 4 := by omega
       have h7 := h h6 h4
       first
         | exact h7.1 (List.eq_nil_of_length_eq_zero (by omega))
         | (have h9 := (by assumption : (es.length : Int) ≤ 4 ∧ (a0 != 3) = false).2
            exact h7.2 (by simpa using h9)))
attribute [local go_sem] flowUpon
set_option maxHeartbeats 4000000 in
set_option maxRecDepth 100000 in
theorem spec_Msg_yes (es : List S54) (hS : Short es) (a0 a1 a2 a3 a4 a5 a6 : Int) (a7 : Bool) (cf : List Int) (d : ByteArray) (ls : Bool) (hl : es.length ≤ 1048576) (hcf : cf.length ≤ 1048576) (A8 : Option Addr) (c8 : Nat) (A9 : Option Addr) (c9 : Nat) (w : World)
    (hr8 : Kd.C k54 w A8 es.length es) (hc8 : es.length ≤ c8) (hr9 : Kd.C (Kd.int .i64) w A9 cf.length cf) (hc9 : cf.length ≤ c9) (i0 : inB a0 1 6 = true) (i1 : inB a1 1 4 = true) (i2 : inB a2 1 4 = true) (ne : (a1 == a2) = false) (i3 : inB a3 0 100000 = true) (i5 : inB a5 0 100000 = true) (i4 : inB a4 0 1000000 = true) (i6 : inB a6 0 1000000 = true)
    (l4 : es.length ≤ 4) (lk : es.length = 0 ∨ a0 = 3) (r lb : Bool) (hr : Hid (ents es a3 0 es.length a5 = r)) (hlb : Hid (lastB a0 cf d ls = lb)) :
    Calls Try.prog 54 #[.agg #[.int .i64 a0, .int .i64 a1, .int .i64 a2, .int .i64 a3, .int .i64 a4, .int .i64 a5, .int .i64 a6, .bool a7, .slice A8 es.length c8, .slice A9 cf.length c9, .string d, .bool ls]] w fun e w' => e = .returned (.bool (r && lb)) ∧ Below w.heap.size w w' := by
  have HR8 := Lib.hid hr8
  have HR9 := Lib.hid hr9
  clear hr8 hr9
  have n4 : decide (4 < (es.length : Int)) = false := decide_eq_false (by omega)
  have hcont : ∀ (b : Bool), True := fun _ => trivial
  rcases Nat.eq_zero_or_pos es.length with hz | hp
  · have n0 : decide (0 < (es.length : Int)) = false := decide_eq_false (by omega)
    have n0' : decide (0 < es.length) = false := decide_eq_false (by omega)
    have HZ := Lib.hid hz
    clear hz lk
    go_enter Try.func54, Try.ntmps54
    go_wp2_with (first | (go_at_call 95; refine (spec_l01In _ _ _ _).mono ?_; rintro e w' ⟨rfl, rfl⟩))
    clear i0 i1 i2 ne i3 i5 i4 i6 n4 n0 n0'
    obtain ⟨X, hX⟩ : ∃ X, X = w.alloc (.cells #[.int .i64 a0, .int .i64 a1, .int .i64 a2, .int .i64 a3, .int .i64 a4, .int .i64 a5, .int .i64 a6, .bool a7, .slice A8 es.length c8, .slice A9 cf.length c9, .string d, .bool ls] 31) := ⟨_, rfl⟩
    have KA : Blk 31 w.heap.size #[.int .i64 a0, .int .i64 a1, .int .i64 a2, .int .i64 a3, .int .i64 a4, .int .i64 a5, .int .i64 a6, .bool a7, .slice A8 es.length c8, .slice A9 cf.length c9, .string d, .bool ls] X := by rw [hX]; exact Blk.new _ _ w
    have HX : Below w.heap.size w X := by rw [hX]; exact (by repeat (first | exact Below.refl _ _ | apply bl_alloc | apply bl_drewN | apply bl_drew | refine bl_set ?_ (by simp) | refine bl_then ?_ (by assumption)))
    rw [← hX]
    clear hX
    go_loopg [3, 4] es.length (fun kq v3 v4 w' => ∃ (i : Nat) (pt : Int), v3 = .int .i64 pt ∧ v4 = .int .i64 (i : Int) ∧ i + kq = es.length ∧ Hid (ents es a3 i kq pt = r) ∧ Below X.heap.size X w')
    case atStart => exact ⟨0, a5, rfl, rfl, by omega, hr, Below.refl _ _⟩
    case round =>
      obtain ⟨i, pt, rfl, rfl, hik, hix, hb⟩ := hrel
      clear hr
      have KW := KA.below hb
      have k0 := KW.cell 0 rfl
      have k3 := KW.cell 3 rfl
      have k8 := KW.cell 8 rfl
      have k9 := KW.cell 9 rfl
      have k10 := KW.cell 10 rfl
      have k11 := KW.cell 11 rfl
      have la := KW.lt
      have la2 : w.heap.size < wr.heap.size + 1 := by omega
      cases gk with
      | zero =>
        have hlt : ¬ ((i : Int) < (es.length : Int)) := by omega
        have hrv := hix.out
        simp only [ents] at hrv
        subst hrv
        clear hix
        have hl5 := hlb.out
        unfold lastB at hl5
        clear hlb
        by_cases h5 : a0 = 5
        · rw [if_pos h5] at hl5
          have h5' : (a0 == 5) = true := by rw [h5]; rfl
          obtain ⟨cb, hcb⟩ : ∃ cb, confOk cf = cb := ⟨_, rfl⟩
          rw [hcb] at hl5
          have HCB := Lib.hid hcb
          clear hcb h5
          cases cb with
          | false =>
            simp only [Bool.false_and] at hl5
            subst hl5
            go_wp2_with (first | (go_at_call 27; refine (spec_confH _ _ cf false _ HCB (Kd.C_below HR9.out (bl_then HX (bl_then hb (by repeat (first | exact Below.refl _ _ | apply bl_alloc | apply bl_drewN | apply bl_drew | refine bl_set ?_ (by simp) | refine bl_then ?_ (by assumption)))))) hc9 hcf).mono ?_; rintro e w' ⟨rfl, hb1⟩))
            go_ret
            exact ⟨rfl, bl_then HX (bl_then hb (by repeat (first | exact Below.refl _ _ | apply bl_alloc | apply bl_drewN | apply bl_drew | refine bl_set ?_ (by simp) | refine bl_then ?_ (by assumption))))⟩
          | true =>
            simp only [Bool.true_and] at hl5
            subst hl5
            go_wp2_with (first | (go_at_call 27; refine (spec_confH _ _ cf true _ HCB (Kd.C_below HR9.out (bl_then HX (bl_then hb (by repeat (first | exact Below.refl _ _ | apply bl_alloc | apply bl_drewN | apply bl_drew | refine bl_set ?_ (by simp) | refine bl_then ?_ (by assumption)))))) hc9 hcf).mono ?_; rintro e w' ⟨rfl, hb1⟩; obtain ⟨hc1, hf1⟩ := bcell hb1; have hz1 : w.heap.size < w'.heap.size := (by have := hb1.size; (try simp at this); omega)))
            all_goals
              go_ret
              exact ⟨by first | rfl | (simp; done) | (simp [*]; done) | (refine ret_bool ?_; simp; omega), bl_then HX (bl_then hb (by repeat (first | exact Below.refl _ _ | apply bl_alloc | apply bl_drewN | apply bl_drew | refine bl_set ?_ (by simp) | refine bl_then ?_ (by assumption))))⟩
        · rw [if_neg h5] at hl5
          have h5' : (a0 == 5) = false := by simpa using h5
          clear h5
          go_wp2
          all_goals
            go_ret
            refine ⟨?_, bl_then HX (bl_then hb (by repeat (first | exact Below.refl _ _ | apply bl_alloc | apply bl_drewN | apply bl_drew | refine bl_set ?_ (by simp) | refine bl_then ?_ (by assumption))))⟩
            first
              | (refine ret_bool ?_; rw [← hl5]; simp [*]; done)
              | (refine ret_bool ?_; rw [← hl5]; simp_all; done)
              | trace_state
      | succ n =>
        have hlt : (i : Int) < (es.length : Int) := by omega
        obtain ⟨ad, e1, x0, x1, x2⟩ := at_T54 (Kd.C_below HR8.out (bl_then HX hb)) i (by omega) hlt
        subst e1
        simp only [Int.toNat_natCast] at x0 x1 x2
        have lx : (ad.add (i * 3)).block < wr.heap.size := World.block_lt_of_cell? wr _ x0
        have E1 := Lib.hid (show wrap64 ((i : Int) + 1) = ((i + 1 : Nat) : Int) from by unfold wrap64; omega)
        have hrv := hix.out
        simp only [ents] at hrv
        have hSi := hS i
        obtain ⟨eo, heo⟩ : ∃ eo, entryOk (rd_T54 es (i : Int)).f0 (rd_T54 es (i : Int)).f1 (rd_T54 es (i : Int)).f2 = eo := ⟨_, rfl⟩
        rw [heo] at hrv
        have HEO := Lib.hid heo
        clear heo hix
        cases eo with
        | false =>
          simp only [Bool.false_and] at hrv
          subst hrv
          go_wp2
          refine wp_region_flowG [1, 3, 4] 134 (by kernel_rfl) (by rfl) (by kernel_rfl) (by kernel_rfl) (by kernel_rfl) ?_
          iterate 8 (refine flowG_valE ?_; apply Exists.intro; refine ⟨fun A wq hBq hbq hdq => ?_, ?_⟩; focus (obtain ⟨hcq, hfq⟩ := bcellA hBq; (try simp [go_sem, baseF, deps, dep1, Region.binds] at hbq); (try simp [go_sem, baseF, deps, dep1, Region.binds, NewSl] at hdq); go_simp <;> first | exact ⟨Below.refl _ _, rfl⟩ | (rw [if_neg]; (focus (exact ⟨Below.refl _ _, rfl⟩)); (focus ((try simp only [ByteArray.size_append]); omega))) | (first | (go_at_call 94; exact (spec_EntryOkH _ _ _ false _ HEO (by omega))))))
          iterate 8 (refine flowG_no (fun A wq hBq hbq hdq => ?_) ?_; focus ((try simp [go_sem, baseF, deps, dep1, Region.binds] at hdq); refine yielded_of rfl ?_; simp [hdq]))
          iterate 2 (refine flowG_valE ?_; apply Exists.intro; refine ⟨fun A wq hBq hbq hdq => ?_, ?_⟩; focus (obtain ⟨hcq, hfq⟩ := bcellA hBq; (try simp [go_sem, baseF, deps, dep1, Region.binds] at hbq); (try simp [go_sem, baseF, deps, dep1, Region.binds, NewSl] at hdq); go_simp <;> first | exact ⟨Below.refl _ _, rfl⟩ | (rw [if_neg]; (focus (exact ⟨Below.refl _ _, rfl⟩)); (focus ((try simp only [ByteArray.size_append]); omega))) | (fail)))
          iterate 9 (refine flowG_no (fun A wq hBq hbq hdq => ?_) ?_; focus ((try simp [go_sem, baseF, deps, dep1, Region.binds] at hdq); refine yielded_of rfl ?_; simp [hdq]))
          (refine flowG_valE ?_; apply Exists.intro; refine ⟨fun A wq hBq hbq hdq => ?_, ?_⟩; focus (obtain ⟨hcq, hfq⟩ := bcellA hBq; (try simp [go_sem, baseF, deps, dep1, Region.binds] at hbq); (try simp [go_sem, baseF, deps, dep1, Region.binds, NewSl] at hdq); go_simp <;> first | exact ⟨Below.refl _ _, rfl⟩ | (rw [if_neg]; (focus (exact ⟨Below.refl _ _, rfl⟩)); (focus ((try simp only [ByteArray.size_append]); omega))) | (fail)))
          refine fun x wq hBq hall => ?_
          obtain ⟨hcq, hfq⟩ := bcellA hBq
          simp only [allT] at hall
          simp [frameOf, Act.put, hall]
          clear hall
          go_wp2
          go_ret
          exact ⟨by simp, bl_then HX (bl_then hb (by repeat (first | exact Below.refl _ _ | apply bl_alloc | apply bl_drewN | apply bl_drew | refine bl_set ?_ (by simp) | refine bl_then ?_ (by assumption))))⟩
        | true =>
          simp only [Bool.true_and] at hrv
          by_cases h1 : (rd_T54 es (i : Int)).f0 < pt
          · have h1' : decide ((rd_T54 es (i : Int)).f0 < pt) = true := decide_eq_true h1
            rw [h1'] at hrv
            simp only [Bool.not_true, Bool.false_and] at hrv
            subst hrv
            go_wp2
            refine wp_region_flowG [1, 3, 4] 134 (by kernel_rfl) (by rfl) (by kernel_rfl) (by kernel_rfl) (by kernel_rfl) ?_
            iterate 8 (refine flowG_valE ?_; apply Exists.intro; refine ⟨fun A wq hBq hbq hdq => ?_, ?_⟩; focus (obtain ⟨hcq, hfq⟩ := bcellA hBq; (try simp [go_sem, baseF, deps, dep1, Region.binds] at hbq); (try simp [go_sem, baseF, deps, dep1, Region.binds, NewSl] at hdq); go_simp <;> first | exact ⟨Below.refl _ _, rfl⟩ | (rw [if_neg]; (focus (exact ⟨Below.refl _ _, rfl⟩)); (focus ((try simp only [ByteArray.size_append]); omega))) | (first | (go_at_call 94; exact (spec_EntryOkH _ _ _ true _ HEO (by omega))))))
            iterate 8 (refine flowG_yesE ?_; apply Exists.intro; refine ⟨fun A wq hBq hbq hdq => ⟨?_, ?_⟩, ?_⟩; (focus ((try simp [go_sem, baseF, deps, dep1, Region.binds] at hdq); refine yielded_of rfl ?_; simp [hdq])); focus (obtain ⟨hcq, hfq⟩ := bcellA hBq; (try simp [go_sem, baseF, deps, dep1, Region.binds] at hbq); (try simp [go_sem, baseF, deps, dep1, Region.binds, NewSl] at hdq); go_simp <;> first | exact ⟨Below.refl _ _, rfl⟩ | (rw [if_neg]; (focus (exact ⟨Below.refl _ _, rfl⟩)); (focus ((try simp only [ByteArray.size_append]); omega))) | (fail)))
            iterate 2 (refine flowG_valE ?_; apply Exists.intro; refine ⟨fun A wq hBq hbq hdq => ?_, ?_⟩; focus (obtain ⟨hcq, hfq⟩ := bcellA hBq; (try simp [go_sem, baseF, deps, dep1, Region.binds] at hbq); (try simp [go_sem, baseF, deps, dep1, Region.binds, NewSl] at hdq); go_simp <;> first | exact ⟨Below.refl _ _, rfl⟩ | (rw [if_neg]; (focus (exact ⟨Below.refl _ _, rfl⟩)); (focus ((try simp only [ByteArray.size_append]); omega))) | (fail)))
            iterate 9 (refine flowG_no (fun A wq hBq hbq hdq => ?_) ?_; focus ((try simp [go_sem, baseF, deps, dep1, Region.binds] at hdq); refine yielded_of rfl ?_; simp [hdq]))
            (refine flowG_valE ?_; apply Exists.intro; refine ⟨fun A wq hBq hbq hdq => ?_, ?_⟩; focus (obtain ⟨hcq, hfq⟩ := bcellA hBq; (try simp [go_sem, baseF, deps, dep1, Region.binds] at hbq); (try simp [go_sem, baseF, deps, dep1, Region.binds, NewSl] at hdq); go_simp <;> first | exact ⟨Below.refl _ _, rfl⟩ | (rw [if_neg]; (focus (exact ⟨Below.refl _ _, rfl⟩)); (focus ((try simp only [ByteArray.size_append]); omega))) | (fail)))
            refine fun x wq hBq hall => ?_
            obtain ⟨hcq, hfq⟩ := bcellA hBq
            simp only [allT] at hall
            simp [frameOf, Act.put, hall]
            clear hall
            go_wp2
            go_ret
            exact ⟨by simp, bl_then HX (bl_then hb (by repeat (first | exact Below.refl _ _ | apply bl_alloc | apply bl_drewN | apply bl_drew | refine bl_set ?_ (by simp) | refine bl_then ?_ (by assumption))))⟩
          · have h1' : decide ((rd_T54 es (i : Int)).f0 < pt) = false := decide_eq_false h1
            rw [h1'] at hrv
            simp only [Bool.not_false, Bool.true_and] at hrv
            clear h1
            by_cases h2 : (rd_T54 es (i : Int)).f0 > a3
            · have h2' : decide (a3 < (rd_T54 es (i : Int)).f0) = true := decide_eq_true h2
              rw [show decide ((rd_T54 es (i : Int)).f0 > a3) = true from h2'] at hrv
              simp only [Bool.not_true, Bool.false_and] at hrv
              subst hrv
              go_wp2
              refine wp_region_flowG [1, 3, 4] 134 (by kernel_rfl) (by rfl) (by kernel_rfl) (by kernel_rfl) (by kernel_rfl) ?_
              iterate 8 (refine flowG_valE ?_; apply Exists.intro; refine ⟨fun A wq hBq hbq hdq => ?_, ?_⟩; focus (obtain ⟨hcq, hfq⟩ := bcellA hBq; (try simp [go_sem, baseF, deps, dep1, Region.binds] at hbq); (try simp [go_sem, baseF, deps, dep1, Region.binds, NewSl] at hdq); go_simp <;> first | exact ⟨Below.refl _ _, rfl⟩ | (rw [if_neg]; (focus (exact ⟨Below.refl _ _, rfl⟩)); (focus ((try simp only [ByteArray.size_append]); omega))) | (first | (go_at_call 94; exact (spec_EntryOkH _ _ _ true _ HEO (by omega))))))
              iterate 8 (refine flowG_yesE ?_; apply Exists.intro; refine ⟨fun A wq hBq hbq hdq => ⟨?_, ?_⟩, ?_⟩; (focus ((try simp [go_sem, baseF, deps, dep1, Region.binds] at hdq); refine yielded_of rfl ?_; simp [hdq])); focus (obtain ⟨hcq, hfq⟩ := bcellA hBq; (try simp [go_sem, baseF, deps, dep1, Region.binds] at hbq); (try simp [go_sem, baseF, deps, dep1, Region.binds, NewSl] at hdq); go_simp <;> first | exact ⟨Below.refl _ _, rfl⟩ | (rw [if_neg]; (focus (exact ⟨Below.refl _ _, rfl⟩)); (focus ((try simp only [ByteArray.size_append]); omega))) | (fail)))
              iterate 2 (refine flowG_valE ?_; apply Exists.intro; refine ⟨fun A wq hBq hbq hdq => ?_, ?_⟩; focus (obtain ⟨hcq, hfq⟩ := bcellA hBq; (try simp [go_sem, baseF, deps, dep1, Region.binds] at hbq); (try simp [go_sem, baseF, deps, dep1, Region.binds, NewSl] at hdq); go_simp <;> first | exact ⟨Below.refl _ _, rfl⟩ | (rw [if_neg]; (focus (exact ⟨Below.refl _ _, rfl⟩)); (focus ((try simp only [ByteArray.size_append]); omega))) | (fail)))
              iterate 9 (refine flowG_yesE ?_; apply Exists.intro; refine ⟨fun A wq hBq hbq hdq => ⟨?_, ?_⟩, ?_⟩; (focus ((try simp [go_sem, baseF, deps, dep1, Region.binds] at hdq); refine yielded_of rfl ?_; simp [hdq])); focus (obtain ⟨hcq, hfq⟩ := bcellA hBq; (try simp [go_sem, baseF, deps, dep1, Region.binds] at hbq); (try simp [go_sem, baseF, deps, dep1, Region.binds, NewSl] at hdq); go_simp <;> first | exact ⟨Below.refl _ _, rfl⟩ | (rw [if_neg]; (focus (exact ⟨Below.refl _ _, rfl⟩)); (focus ((try simp only [ByteArray.size_append]); omega))) | (fail)))
              (refine flowG_valE ?_; apply Exists.intro; refine ⟨fun A wq hBq hbq hdq => ?_, ?_⟩; focus (obtain ⟨hcq, hfq⟩ := bcellA hBq; (try simp [go_sem, baseF, deps, dep1, Region.binds] at hbq); (try simp [go_sem, baseF, deps, dep1, Region.binds, NewSl] at hdq); go_simp <;> first | exact ⟨Below.refl _ _, rfl⟩ | (rw [if_neg]; (focus (exact ⟨Below.refl _ _, rfl⟩)); (focus ((try simp only [ByteArray.size_append]); omega))) | (fail)))
              refine fun x wq hBq hall => ?_
              obtain ⟨hcq, hfq⟩ := bcellA hBq
              simp only [allT] at hall
              simp [frameOf, Act.put, hall]
              clear hall
              go_wp2
              go_ret
              exact ⟨by simp, bl_then HX (bl_then hb (by repeat (first | exact Below.refl _ _ | apply bl_alloc | apply bl_drewN | apply bl_drew | refine bl_set ?_ (by simp) | refine bl_then ?_ (by assumption))))⟩
            · have h2' : decide (a3 < (rd_T54 es (i : Int)).f0) = false := decide_eq_false h2
              rw [show decide ((rd_T54 es (i : Int)).f0 > a3) = false from h2'] at hrv
              simp only [Bool.not_false, Bool.true_and] at hrv
              have hix2 := Lib.hid hrv
              clear hrv h2
              go_wp2
              refine wp_region_flowG [1, 3, 4] 134 (by kernel_rfl) (by rfl) (by kernel_rfl) (by kernel_rfl) (by kernel_rfl) ?_
              iterate 8 (refine flowG_valE ?_; apply Exists.intro; refine ⟨fun A wq hBq hbq hdq => ?_, ?_⟩; focus (obtain ⟨hcq, hfq⟩ := bcellA hBq; (try simp [go_sem, baseF, deps, dep1, Region.binds] at hbq); (try simp [go_sem, baseF, deps, dep1, Region.binds, NewSl] at hdq); go_simp <;> first | exact ⟨Below.refl _ _, rfl⟩ | (rw [if_neg]; (focus (exact ⟨Below.refl _ _, rfl⟩)); (focus ((try simp only [ByteArray.size_append]); omega))) | (first | (go_at_call 94; exact (spec_EntryOkH _ _ _ true _ HEO (by omega))))))
              iterate 8 (refine flowG_yesE ?_; apply Exists.intro; refine ⟨fun A wq hBq hbq hdq => ⟨?_, ?_⟩, ?_⟩; (focus ((try simp [go_sem, baseF, deps, dep1, Region.binds] at hdq); refine yielded_of rfl ?_; simp [hdq])); focus (obtain ⟨hcq, hfq⟩ := bcellA hBq; (try simp [go_sem, baseF, deps, dep1, Region.binds] at hbq); (try simp [go_sem, baseF, deps, dep1, Region.binds, NewSl] at hdq); go_simp <;> first | exact ⟨Below.refl _ _, rfl⟩ | (rw [if_neg]; (focus (exact ⟨Below.refl _ _, rfl⟩)); (focus ((try simp only [ByteArray.size_append]); omega))) | (fail)))
              iterate 2 (refine flowG_valE ?_; apply Exists.intro; refine ⟨fun A wq hBq hbq hdq => ?_, ?_⟩; focus (obtain ⟨hcq, hfq⟩ := bcellA hBq; (try simp [go_sem, baseF, deps, dep1, Region.binds] at hbq); (try simp [go_sem, baseF, deps, dep1, Region.binds, NewSl] at hdq); go_simp <;> first | exact ⟨Below.refl _ _, rfl⟩ | (rw [if_neg]; (focus (exact ⟨Below.refl _ _, rfl⟩)); (focus ((try simp only [ByteArray.size_append]); omega))) | (fail)))
              iterate 9 (refine flowG_yesE ?_; apply Exists.intro; refine ⟨fun A wq hBq hbq hdq => ⟨?_, ?_⟩, ?_⟩; (focus ((try simp [go_sem, baseF, deps, dep1, Region.binds] at hdq); refine yielded_of rfl ?_; simp [hdq])); focus (obtain ⟨hcq, hfq⟩ := bcellA hBq; (try simp [go_sem, baseF, deps, dep1, Region.binds] at hbq); (try simp [go_sem, baseF, deps, dep1, Region.binds, NewSl] at hdq); go_simp <;> first | exact ⟨Below.refl _ _, rfl⟩ | (rw [if_neg]; (focus (exact ⟨Below.refl _ _, rfl⟩)); (focus ((try simp only [ByteArray.size_append]); omega))) | (fail)))
              (refine flowG_valE ?_; apply Exists.intro; refine ⟨fun A wq hBq hbq hdq => ?_, ?_⟩; focus (obtain ⟨hcq, hfq⟩ := bcellA hBq; (try simp [go_sem, baseF, deps, dep1, Region.binds] at hbq); (try simp [go_sem, baseF, deps, dep1, Region.binds, NewSl] at hdq); go_simp <;> first | exact ⟨Below.refl _ _, rfl⟩ | (rw [if_neg]; (focus (exact ⟨Below.refl _ _, rfl⟩)); (focus ((try simp only [ByteArray.size_append]); omega))) | (fail)))
              refine fun x wq hBq hall => ?_
              obtain ⟨hcq, hfq⟩ := bcellA hBq
              simp only [allT] at hall
              simp [frameOf, Act.put, hall]
              clear hall
              go_wp2
              go_roundg n
              case measure => omega
              case rel => exact ⟨i + 1, _, rfl, by first | rfl | (rw [E1.out]), by omega, hix2, bl_then hb (by repeat (first | exact Below.refl _ _ | apply bl_alloc | apply bl_drewN | apply bl_drew | refine bl_set ?_ (by simp) | refine bl_then ?_ (by assumption)))⟩
  · have hk : a0 = 3 := by rcases lk with h | h <;> omega
    have n0 : decide (0 < (es.length : Int)) = true := decide_eq_true (by omega)
    have n0' : decide (0 < es.length) = true := decide_eq_true (by omega)
    have k3 : (a0 != 3) = false := by rw [hk]; rfl
    have HK := Lib.hid hk
    clear hk lk
    go_enter Try.func54, Try.ntmps54
    go_wp2_with (first | (go_at_call 95; refine (spec_l01In _ _ _ _).mono ?_; rintro e w' ⟨rfl, rfl⟩))
    clear i0 i1 i2 ne i3 i5 i4 i6 n4 n0 n0'
    obtain ⟨X, hX⟩ : ∃ X, X = w.alloc (.cells #[.int .i64 a0, .int .i64 a1, .int .i64 a2, .int .i64 a3, .int .i64 a4, .int .i64 a5, .int .i64 a6, .bool a7, .slice A8 es.length c8, .slice A9 cf.length c9, .string d, .bool ls] 31) := ⟨_, rfl⟩
    have KA : Blk 31 w.heap.size #[.int .i64 a0, .int .i64 a1, .int .i64 a2, .int .i64 a3, .int .i64 a4, .int .i64 a5, .int .i64 a6, .bool a7, .slice A8 es.length c8, .slice A9 cf.length c9, .string d, .bool ls] X := by rw [hX]; exact Blk.new _ _ w
    have HX : Below w.heap.size w X := by rw [hX]; exact (by repeat (first | exact Below.refl _ _ | apply bl_alloc | apply bl_drewN | apply bl_drew | refine bl_set ?_ (by simp) | refine bl_then ?_ (by assumption)))
    rw [← hX]
    clear hX
    go_loopg [3, 4] es.length (fun kq v3 v4 w' => ∃ (i : Nat) (pt : Int), v3 = .int .i64 pt ∧ v4 = .int .i64 (i : Int) ∧ i + kq = es.length ∧ Hid (ents es a3 i kq pt = r) ∧ Below X.heap.size X w')
    case atStart => exact ⟨0, a5, rfl, rfl, by omega, hr, Below.refl _ _⟩
    case round =>
      obtain ⟨i, pt, rfl, rfl, hik, hix, hb⟩ := hrel
      clear hr
      have KW := KA.below hb
      have k0 := KW.cell 0 rfl
      have k3 := KW.cell 3 rfl
      have k8 := KW.cell 8 rfl
      have k9 := KW.cell 9 rfl
      have k10 := KW.cell 10 rfl
      have k11 := KW.cell 11 rfl
      have la := KW.lt
      have la2 : w.heap.size < wr.heap.size + 1 := by omega
      cases gk with
      | zero =>
        have hlt : ¬ ((i : Int) < (es.length : Int)) := by omega
        have hrv := hix.out
        simp only [ents] at hrv
        subst hrv
        clear hix
        have hl5 := hlb.out
        unfold lastB at hl5
        clear hlb
        by_cases h5 : a0 = 5
        · rw [if_pos h5] at hl5
          have h5' : (a0 == 5) = true := by rw [h5]; rfl
          obtain ⟨cb, hcb⟩ : ∃ cb, confOk cf = cb := ⟨_, rfl⟩
          rw [hcb] at hl5
          have HCB := Lib.hid hcb
          clear hcb h5
          cases cb with
          | false =>
            simp only [Bool.false_and] at hl5
            subst hl5
            go_wp2_with (first | (go_at_call 27; refine (spec_confH _ _ cf false _ HCB (Kd.C_below HR9.out (bl_then HX (bl_then hb (by repeat (first | exact Below.refl _ _ | apply bl_alloc | apply bl_drewN | apply bl_drew | refine bl_set ?_ (by simp) | refine bl_then ?_ (by assumption)))))) hc9 hcf).mono ?_; rintro e w' ⟨rfl, hb1⟩))
            go_ret
            exact ⟨rfl, bl_then HX (bl_then hb (by repeat (first | exact Below.refl _ _ | apply bl_alloc | apply bl_drewN | apply bl_drew | refine bl_set ?_ (by simp) | refine bl_then ?_ (by assumption))))⟩
          | true =>
            simp only [Bool.true_and] at hl5
            subst hl5
            go_wp2_with (first | (go_at_call 27; refine (spec_confH _ _ cf true _ HCB (Kd.C_below HR9.out (bl_then HX (bl_then hb (by repeat (first | exact Below.refl _ _ | apply bl_alloc | apply bl_drewN | apply bl_drew | refine bl_set ?_ (by simp) | refine bl_then ?_ (by assumption)))))) hc9 hcf).mono ?_; rintro e w' ⟨rfl, hb1⟩; obtain ⟨hc1, hf1⟩ := bcell hb1; have hz1 : w.heap.size < w'.heap.size := (by have := hb1.size; (try simp at this); omega)))
            all_goals
              go_ret
              exact ⟨by first | rfl | (simp; done) | (simp [*]; done) | (refine ret_bool ?_; simp; omega), bl_then HX (bl_then hb (by repeat (first | exact Below.refl _ _ | apply bl_alloc | apply bl_drewN | apply bl_drew | refine bl_set ?_ (by simp) | refine bl_then ?_ (by assumption))))⟩
        · rw [if_neg h5] at hl5
          have h5' : (a0 == 5) = false := by simpa using h5
          clear h5
          go_wp2
          all_goals
            go_ret
            refine ⟨?_, bl_then HX (bl_then hb (by repeat (first | exact Below.refl _ _ | apply bl_alloc | apply bl_drewN | apply bl_drew | refine bl_set ?_ (by simp) | refine bl_then ?_ (by assumption))))⟩
            first
              | (refine ret_bool ?_; rw [← hl5]; simp [*]; done)
              | (refine ret_bool ?_; rw [← hl5]; simp_all; done)
              | trace_state
      | succ n =>
        have hlt : (i : Int) < (es.length : Int) := by omega
        obtain ⟨ad, e1, x0, x1, x2⟩ := at_T54 (Kd.C_below HR8.out (bl_then HX hb)) i (by omega) hlt
        subst e1
        simp only [Int.toNat_natCast] at x0 x1 x2
        have lx : (ad.add (i * 3)).block < wr.heap.size := World.block_lt_of_cell? wr _ x0
        have E1 := Lib.hid (show wrap64 ((i : Int) + 1) = ((i + 1 : Nat) : Int) from by unfold wrap64; omega)
        have hrv := hix.out
        simp only [ents] at hrv
        have hSi := hS i
        obtain ⟨eo, heo⟩ : ∃ eo, entryOk (rd_T54 es (i : Int)).f0 (rd_T54 es (i : Int)).f1 (rd_T54 es (i : Int)).f2 = eo := ⟨_, rfl⟩
        rw [heo] at hrv
        have HEO := Lib.hid heo
        clear heo hix
        cases eo with
        | false =>
          simp only [Bool.false_and] at hrv
          subst hrv
          go_wp2
          refine wp_region_flowG [1, 3, 4] 134 (by kernel_rfl) (by rfl) (by kernel_rfl) (by kernel_rfl) (by kernel_rfl) ?_
          iterate 8 (refine flowG_valE ?_; apply Exists.intro; refine ⟨fun A wq hBq hbq hdq => ?_, ?_⟩; focus (obtain ⟨hcq, hfq⟩ := bcellA hBq; (try simp [go_sem, baseF, deps, dep1, Region.binds] at hbq); (try simp [go_sem, baseF, deps, dep1, Region.binds, NewSl] at hdq); go_simp <;> first | exact ⟨Below.refl _ _, rfl⟩ | (rw [if_neg]; (focus (exact ⟨Below.refl _ _, rfl⟩)); (focus ((try simp only [ByteArray.size_append]); omega))) | (first | (go_at_call 94; exact (spec_EntryOkH _ _ _ false _ HEO (by omega))))))
          iterate 8 (refine flowG_no (fun A wq hBq hbq hdq => ?_) ?_; focus ((try simp [go_sem, baseF, deps, dep1, Region.binds] at hdq); refine yielded_of rfl ?_; simp [hdq]))
          iterate 2 (refine flowG_valE ?_; apply Exists.intro; refine ⟨fun A wq hBq hbq hdq => ?_, ?_⟩; focus (obtain ⟨hcq, hfq⟩ := bcellA hBq; (try simp [go_sem, baseF, deps, dep1, Region.binds] at hbq); (try simp [go_sem, baseF, deps, dep1, Region.binds, NewSl] at hdq); go_simp <;> first | exact ⟨Below.refl _ _, rfl⟩ | (rw [if_neg]; (focus (exact ⟨Below.refl _ _, rfl⟩)); (focus ((try simp only [ByteArray.size_append]); omega))) | (fail)))
          iterate 9 (refine flowG_no (fun A wq hBq hbq hdq => ?_) ?_; focus ((try simp [go_sem, baseF, deps, dep1, Region.binds] at hdq); refine yielded_of rfl ?_; simp [hdq]))
          (refine flowG_valE ?_; apply Exists.intro; refine ⟨fun A wq hBq hbq hdq => ?_, ?_⟩; focus (obtain ⟨hcq, hfq⟩ := bcellA hBq; (try simp [go_sem, baseF, deps, dep1, Region.binds] at hbq); (try simp [go_sem, baseF, deps, dep1, Region.binds, NewSl] at hdq); go_simp <;> first | exact ⟨Below.refl _ _, rfl⟩ | (rw [if_neg]; (focus (exact ⟨Below.refl _ _, rfl⟩)); (focus ((try simp only [ByteArray.size_append]); omega))) | (fail)))
          refine fun x wq hBq hall => ?_
          obtain ⟨hcq, hfq⟩ := bcellA hBq
          simp only [allT] at hall
          simp [frameOf, Act.put, hall]
          clear hall
          go_wp2
          go_ret
          exact ⟨by simp, bl_then HX (bl_then hb (by repeat (first | exact Below.refl _ _ | apply bl_alloc | apply bl_drewN | apply bl_drew | refine bl_set ?_ (by simp) | refine bl_then ?_ (by assumption))))⟩
        | true =>
          simp only [Bool.true_and] at hrv
          by_cases h1 : (rd_T54 es (i : Int)).f0 < pt
          · have h1' : decide ((rd_T54 es (i : Int)).f0 < pt) = true := decide_eq_true h1
            rw [h1'] at hrv
            simp only [Bool.not_true, Bool.false_and] at hrv
            subst hrv
            go_wp2
            refine wp_region_flowG [1, 3, 4] 134 (by kernel_rfl) (by rfl) (by kernel_rfl) (by kernel_rfl) (by kernel_rfl) ?_
            iterate 8 (refine flowG_valE ?_; apply Exists.intro; refine ⟨fun A wq hBq hbq hdq => ?_, ?_⟩; focus (obtain ⟨hcq, hfq⟩ := bcellA hBq; (try simp [go_sem, baseF, deps, dep1, Region.binds] at hbq); (try simp [go_sem, baseF, deps, dep1, Region.binds, NewSl] at hdq); go_simp <;> first | exact ⟨Below.refl _ _, rfl⟩ | (rw [if_neg]; (focus (exact ⟨Below.refl _ _, rfl⟩)); (focus ((try simp only [ByteArray.size_append]); omega))) | (first | (go_at_call 94; exact (spec_EntryOkH _ _ _ true _ HEO (by omega))))))
            iterate 8 (refine flowG_yesE ?_; apply Exists.intro; refine ⟨fun A wq hBq hbq hdq => ⟨?_, ?_⟩, ?_⟩; (focus ((try simp [go_sem, baseF, deps, dep1, Region.binds] at hdq); refine yielded_of rfl ?_; simp [hdq])); focus (obtain ⟨hcq, hfq⟩ := bcellA hBq; (try simp [go_sem, baseF, deps, dep1, Region.binds] at hbq); (try simp [go_sem, baseF, deps, dep1, Region.binds, NewSl] at hdq); go_simp <;> first | exact ⟨Below.refl _ _, rfl⟩ | (rw [if_neg]; (focus (exact ⟨Below.refl _ _, rfl⟩)); (focus ((try simp only [ByteArray.size_append]); omega))) | (fail)))
            iterate 2 (refine flowG_valE ?_; apply Exists.intro; refine ⟨fun A wq hBq hbq hdq => ?_, ?_⟩; focus (obtain ⟨hcq, hfq⟩ := bcellA hBq; (try simp [go_sem, baseF, deps, dep1, Region.binds] at hbq); (try simp [go_sem, baseF, deps, dep1, Region.binds, NewSl] at hdq); go_simp <;> first | exact ⟨Below.refl _ _, rfl⟩ | (rw [if_neg]; (focus (exact ⟨Below.refl _ _, rfl⟩)); (focus ((try simp only [ByteArray.size_append]); omega))) | (fail)))
            iterate 9 (refine flowG_no (fun A wq hBq hbq hdq => ?_) ?_; focus ((try simp [go_sem, baseF, deps, dep1, Region.binds] at hdq); refine yielded_of rfl ?_; simp [hdq]))
            (refine flowG_valE ?_; apply Exists.intro; refine ⟨fun A wq hBq hbq hdq => ?_, ?_⟩; focus (obtain ⟨hcq, hfq⟩ := bcellA hBq; (try simp [go_sem, baseF, deps, dep1, Region.binds] at hbq); (try simp [go_sem, baseF, deps, dep1, Region.binds, NewSl] at hdq); go_simp <;> first | exact ⟨Below.refl _ _, rfl⟩ | (rw [if_neg]; (focus (exact ⟨Below.refl _ _, rfl⟩)); (focus ((try simp only [ByteArray.size_append]); omega))) | (fail)))
            refine fun x wq hBq hall => ?_
            obtain ⟨hcq, hfq⟩ := bcellA hBq
            simp only [allT] at hall
            simp [frameOf, Act.put, hall]
            clear hall
            go_wp2
            go_ret
            exact ⟨by simp, bl_then HX (bl_then hb (by repeat (first | exact Below.refl _ _ | apply bl_alloc | apply bl_drewN | apply bl_drew | refine bl_set ?_ (by simp) | refine bl_then ?_ (by assumption))))⟩
          · have h1' : decide ((rd_T54 es (i : Int)).f0 < pt) = false := decide_eq_false h1
            rw [h1'] at hrv
            simp only [Bool.not_false, Bool.true_and] at hrv
            clear h1
            by_cases h2 : (rd_T54 es (i : Int)).f0 > a3
            · have h2' : decide (a3 < (rd_T54 es (i : Int)).f0) = true := decide_eq_true h2
              rw [show decide ((rd_T54 es (i : Int)).f0 > a3) = true from h2'] at hrv
              simp only [Bool.not_true, Bool.false_and] at hrv
              subst hrv
              go_wp2
              refine wp_region_flowG [1, 3, 4] 134 (by kernel_rfl) (by rfl) (by kernel_rfl) (by kernel_rfl) (by kernel_rfl) ?_
              iterate 8 (refine flowG_valE ?_; apply Exists.intro; refine ⟨fun A wq hBq hbq hdq => ?_, ?_⟩; focus (obtain ⟨hcq, hfq⟩ := bcellA hBq; (try simp [go_sem, baseF, deps, dep1, Region.binds] at hbq); (try simp [go_sem, baseF, deps, dep1, Region.binds, NewSl] at hdq); go_simp <;> first | exact ⟨Below.refl _ _, rfl⟩ | (rw [if_neg]; (focus (exact ⟨Below.refl _ _, rfl⟩)); (focus ((try simp only [ByteArray.size_append]); omega))) | (first | (go_at_call 94; exact (spec_EntryOkH _ _ _ true _ HEO (by omega))))))
              iterate 8 (refine flowG_yesE ?_; apply Exists.intro; refine ⟨fun A wq hBq hbq hdq => ⟨?_, ?_⟩, ?_⟩; (focus ((try simp [go_sem, baseF, deps, dep1, Region.binds] at hdq); refine yielded_of rfl ?_; simp [hdq])); focus (obtain ⟨hcq, hfq⟩ := bcellA hBq; (try simp [go_sem, baseF, deps, dep1, Region.binds] at hbq); (try simp [go_sem, baseF, deps, dep1, Region.binds, NewSl] at hdq); go_simp <;> first | exact ⟨Below.refl _ _, rfl⟩ | (rw [if_neg]; (focus (exact ⟨Below.refl _ _, rfl⟩)); (focus ((try simp only [ByteArray.size_append]); omega))) | (fail)))
              iterate 2 (refine flowG_valE ?_; apply Exists.intro; refine ⟨fun A wq hBq hbq hdq => ?_, ?_⟩; focus (obtain ⟨hcq, hfq⟩ := bcellA hBq; (try simp [go_sem, baseF, deps, dep1, Region.binds] at hbq); (try simp [go_sem, baseF, deps, dep1, Region.binds, NewSl] at hdq); go_simp <;> first | exact ⟨Below.refl _ _, rfl⟩ | (rw [if_neg]; (focus (exact ⟨Below.refl _ _, rfl⟩)); (focus ((try simp only [ByteArray.size_append]); omega))) | (fail)))
              iterate 9 (refine flowG_yesE ?_; apply Exists.intro; refine ⟨fun A wq hBq hbq hdq => ⟨?_, ?_⟩, ?_⟩; (focus ((try simp [go_sem, baseF, deps, dep1, Region.binds] at hdq); refine yielded_of rfl ?_; simp [hdq])); focus (obtain ⟨hcq, hfq⟩ := bcellA hBq; (try simp [go_sem, baseF, deps, dep1, Region.binds] at hbq); (try simp [go_sem, baseF, deps, dep1, Region.binds, NewSl] at hdq); go_simp <;> first | exact ⟨Below.refl _ _, rfl⟩ | (rw [if_neg]; (focus (exact ⟨Below.refl _ _, rfl⟩)); (focus ((try simp only [ByteArray.size_append]); omega))) | (fail)))
              (refine flowG_valE ?_; apply Exists.intro; refine ⟨fun A wq hBq hbq hdq => ?_, ?_⟩; focus (obtain ⟨hcq, hfq⟩ := bcellA hBq; (try simp [go_sem, baseF, deps, dep1, Region.binds] at hbq); (try simp [go_sem, baseF, deps, dep1, Region.binds, NewSl] at hdq); go_simp <;> first | exact ⟨Below.refl _ _, rfl⟩ | (rw [if_neg]; (focus (exact ⟨Below.refl _ _, rfl⟩)); (focus ((try simp only [ByteArray.size_append]); omega))) | (fail)))
              refine fun x wq hBq hall => ?_
              obtain ⟨hcq, hfq⟩ := bcellA hBq
              simp only [allT] at hall
              simp [frameOf, Act.put, hall]
              clear hall
              go_wp2
              go_ret
              exact ⟨by simp, bl_then HX (bl_then hb (by repeat (first | exact Below.refl _ _ | apply bl_alloc | apply bl_drewN | apply bl_drew | refine bl_set ?_ (by simp) | refine bl_then ?_ (by assumption))))⟩
            · have h2' : decide (a3 < (rd_T54 es (i : Int)).f0) = false := decide_eq_false h2
              rw [show decide ((rd_T54 es (i : Int)).f0 > a3) = false from h2'] at hrv
              simp only [Bool.not_false, Bool.true_and] at hrv
              have hix2 := Lib.hid hrv
              clear hrv h2
              go_wp2
              refine wp_region_flowG [1, 3, 4] 134 (by kernel_rfl) (by rfl) (by kernel_rfl) (by kernel_rfl) (by kernel_rfl) ?_
              iterate 8 (refine flowG_valE ?_; apply Exists.intro; refine ⟨fun A wq hBq hbq hdq => ?_, ?_⟩; focus (obtain ⟨hcq, hfq⟩ := bcellA hBq; (try simp [go_sem, baseF, deps, dep1, Region.binds] at hbq); (try simp [go_sem, baseF, deps, dep1, Region.binds, NewSl] at hdq); go_simp <;> first | exact ⟨Below.refl _ _, rfl⟩ | (rw [if_neg]; (focus (exact ⟨Below.refl _ _, rfl⟩)); (focus ((try simp only [ByteArray.size_append]); omega))) | (first | (go_at_call 94; exact (spec_EntryOkH _ _ _ true _ HEO (by omega))))))
              iterate 8 (refine flowG_yesE ?_; apply Exists.intro; refine ⟨fun A wq hBq hbq hdq => ⟨?_, ?_⟩, ?_⟩; (focus ((try simp [go_sem, baseF, deps, dep1, Region.binds] at hdq); refine yielded_of rfl ?_; simp [hdq])); focus (obtain ⟨hcq, hfq⟩ := bcellA hBq; (try simp [go_sem, baseF, deps, dep1, Region.binds] at hbq); (try simp [go_sem, baseF, deps, dep1, Region.binds, NewSl] at hdq); go_simp <;> first | exact ⟨Below.refl _ _, rfl⟩ | (rw [if_neg]; (focus (exact ⟨Below.refl _ _, rfl⟩)); (focus ((try simp only [ByteArray.size_append]); omega))) | (fail)))
              iterate 2 (refine flowG_valE ?_; apply Exists.intro; refine ⟨fun A wq hBq hbq hdq => ?_, ?_⟩; focus (obtain ⟨hcq, hfq⟩ := bcellA hBq; (try simp [go_sem, baseF, deps, dep1, Region.binds] at hbq); (try simp [go_sem, baseF, deps, dep1, Region.binds, NewSl] at hdq); go_simp <;> first | exact ⟨Below.refl _ _, rfl⟩ | (rw [if_neg]; (focus (exact ⟨Below.refl _ _, rfl⟩)); (focus ((try simp only [ByteArray.size_append]); omega))) | (fail)))
              iterate 9 (refine flowG_yesE ?_; apply Exists.intro; refine ⟨fun A wq hBq hbq hdq => ⟨?_, ?_⟩, ?_⟩; (focus ((try simp [go_sem, baseF, deps, dep1, Region.binds] at hdq); refine yielded_of rfl ?_; simp [hdq])); focus (obtain ⟨hcq, hfq⟩ := bcellA hBq; (try simp [go_sem, baseF, deps, dep1, Region.binds] at hbq); (try simp [go_sem, baseF, deps, dep1, Region.binds, NewSl] at hdq); go_simp <;> first | exact ⟨Below.refl _ _, rfl⟩ | (rw [if_neg]; (focus (exact ⟨Below.refl _ _, rfl⟩)); (focus ((try simp only [ByteArray.size_append]); omega))) | (fail)))
              (refine flowG_valE ?_; apply Exists.intro; refine ⟨fun A wq hBq hbq hdq => ?_, ?_⟩; focus (obtain ⟨hcq, hfq⟩ := bcellA hBq; (try simp [go_sem, baseF, deps, dep1, Region.binds] at hbq); (try simp [go_sem, baseF, deps, dep1, Region.binds, NewSl] at hdq); go_simp <;> first | exact ⟨Below.refl _ _, rfl⟩ | (rw [if_neg]; (focus (exact ⟨Below.refl _ _, rfl⟩)); (focus ((try simp only [ByteArray.size_append]); omega))) | (fail)))
              refine fun x wq hBq hall => ?_
              obtain ⟨hcq, hfq⟩ := bcellA hBq
              simp only [allT] at hall
              simp [frameOf, Act.put, hall]
              clear hall
              go_wp2
              go_roundg n
              case measure => omega
              case rel => exact ⟨i + 1, _, rfl, by first | rfl | (rw [E1.out]), by omega, hix2, bl_then hb (by repeat (first | exact Below.refl _ _ | apply bl_alloc | apply bl_drewN | apply bl_drew | refine bl_set ?_ (by simp) | refine bl_then ?_ (by assumption)))⟩
theorem spec_MessageOk (es : List S54) (hS : Short es) (a0 a1 a2 a3 a4 a5 a6 : Int) (a7 : Bool) (cf : List Int) (d : ByteArray) (ls : Bool) (hl : es.length ≤ 1048576) (hcf : cf.length ≤ 1048576) (A8 : Option Addr) (c8 : Nat) (A9 : Option Addr) (c9 : Nat) (w : World)
    (hr8 : Kd.C k54 w A8 es.length es) (hc8 : es.length ≤ c8) (hr9 : Kd.C (Kd.int .i64) w A9 cf.length cf) (hc9 : cf.length ≤ c9) :
    Calls Try.prog 54 #[.agg #[.int .i64 a0, .int .i64 a1, .int .i64 a2, .int .i64 a3, .int .i64 a4, .int .i64 a5, .int .i64 a6, .bool a7, .slice A8 es.length c8, .slice A9 cf.length c9, .string d, .bool ls]] w fun e w' => e = .returned (.bool (msgB a0 a1 a2 a3 a4 a5 a6 es cf d ls)) ∧ Below w.heap.size w w' := by
  rw [msgB_pre]
  cases hp : preB a0 a1 a2 a3 a4 a5 a6 es with
  | false => exact spec_Msg_no es hS a0 a1 a2 a3 a4 a5 a6 a7 cf d ls hl hcf A8 c8 A9 c9 w hr8 hc8 hr9 hc9 hp
  | true =>
    unfold preB at hp
    simp only [Bool.and_eq_true, Bool.or_eq_true, Bool.not_eq_true', decide_eq_true_eq, beq_iff_eq] at hp
    obtain ⟨⟨⟨⟨⟨⟨i0, i1⟩, i2⟩, ne⟩, ⟨⟨i3, i5⟩, i4⟩, i6⟩, l4⟩, lk⟩ := hp
    exact spec_Msg_yes es hS a0 a1 a2 a3 a4 a5 a6 a7 cf d ls hl hcf A8 c8 A9 c9 w hr8 hc8 hr9 hc9 i0 i1 i2 ne i3 i5 i4 i6 l4 lk _ _ (Lib.hid rfl) (Lib.hid rfl)
end Go.Proofs.Ytdjikjmjajlgcaa
end

/-! ### YtdjikjmjajlgcaaEncDef -/
section
namespace Go.Proofs.Ytdjikjmjajlgcaa
open Go.RowKit Go.Proofs.YtdjikjmjajlgcaaW.PrintWords PFnExactEncode
set_option linter.unusedSimpArgs false
set_option linter.unusedVariables false

/-! The bytes of a message. (own) -/
def flagN (b : Bool) : Int := if b then 1 else 0
/-- What one entry adds. -/
def entS (es : List S54) (i : Nat) : ByteArray := shortS (entryT 1 (rd_T54 es (i : Int)).f0 (rd_T54 es (i : Int)).f1 (rd_T54 es (i : Int)).f2)
/-- The entries' texts behind what stands already, so many from one place on. -/
def entsS (es : List S54) : Nat → Nat → ByteArray → ByteArray
  | _, 0, s => s
  | i, n + 1, s => entsS es (i + 1) n (s ++ entS es i)
def headS (a0 a1 a2 a3 a4 a5 a6 : Int) (a7 ls : Bool) (n : Nat) : ByteArray := strOfNums [a0 % 256, a1 % 256, a2 % 256] ++ varS a3 ++ varS a4 ++ varS a5 ++ varS a6 ++ byteS (flagN a7) ++ byteS (flagN ls) ++ varS n
def confT (cf : List Int) : ByteArray := strOfNums (PFnExactEncode.confBs cf)
def encS (a0 a1 a2 a3 a4 a5 a6 : Int) (a7 : Bool) (es : List S54) (cf : List Int) (d : ByteArray) (ls : Bool) : ByteArray := entsS es 0 es.length (headS a0 a1 a2 a3 a4 a5 a6 a7 ls es.length) ++ shortS (confT cf) ++ shortS d

theorem entryT_size (i t k : Int) (d : ByteArray) : (entryT i t k d).size ≤ 132 := by
  unfold entryT
  split
  · rename_i h
    unfold entryOkI at h
    simp only [Bool.and_eq_true] at h
    obtain ⟨h1, h2, h3, h4, h5⟩ := entryOk_parts h.1
    obtain ⟨h6, h7⟩ := inB_iff.1 h.2
    have s1 := varS_size i (by omega) (by omega)
    have s2 := varS_size t (by omega) (by omega)
    have s3 := byteS_size k
    have s4 : (⟨#[69]⟩ : ByteArray).size = 1 := rfl
    unfold entryS
    simp only [ByteArray.size_append]
    omega
  · show (0 : Nat) ≤ 132; omega
theorem shortS_size (s : ByteArray) (h : s.size ≤ 1000000000) : (shortS s).size ≤ s.size + 5 := by
  have := varS_size s.size (by omega) (by omega)
  unfold shortS
  rw [ByteArray.size_append]
  omega
theorem entS_size (es : List S54) (i : Nat) : (entS es i).size ≤ 137 := by
  unfold entS
  have h1 := entryT_size 1 (rd_T54 es (i : Int)).f0 (rd_T54 es (i : Int)).f1 (rd_T54 es (i : Int)).f2
  have h2 := shortS_size (entryT 1 (rd_T54 es (i : Int)).f0 (rd_T54 es (i : Int)).f1 (rd_T54 es (i : Int)).f2) (by omega)
  omega
theorem entsS_size (es : List S54) : ∀ (n i : Nat) (s : ByteArray), (entsS es i n s).size ≤ s.size + 137 * n
  | 0, _, s => by simp [entsS]
  | n + 1, i, s => by
    have h1 := entsS_size es n (i + 1) (s ++ entS es i)
    have h2 := entS_size es i
    rw [ByteArray.size_append] at h1
    unfold entsS
    omega
theorem confT_size (cf : List Int) : (confT cf).size = cf.length := by simp [confT, PFnExactEncode.confBs, strOfNums_size]
theorem spec_flagH (b : Bool) (w : World) : Calls Try.prog 56 #[.bool b] w fun e w' => e = .returned (.string (byteS (flagN b))) ∧ Below w.heap.size w w' := by
  refine (PFnExactEncode.spec_l11Flag.calls b (byteS (flagN b)) w (by cases b <;> rfl)).mono ?_
  rintro e w' h
  first | exact h | (obtain ⟨rfl, ⟨n, rfl⟩⟩ := h; exact ⟨rfl, bl_drewN (Below.refl _ _) n⟩) | (obtain ⟨rfl, rfl⟩ := h; exact ⟨rfl, Below.refl _ _⟩)
theorem impl_flagH (b : Bool) (w : World) : Calls Try.prog 63 #[.bool b] w fun e w' => e = .returned (.int .i64 (flagN b)) ∧ Below w.heap.size w w' := by
  refine (PFnExactEncode.impl_flag.calls b (flagN b) w (by cases b <;> rfl)).mono ?_
  rintro e w' h
  first | exact h | (obtain ⟨rfl, ⟨n, rfl⟩⟩ := h; exact ⟨rfl, bl_drewN (Below.refl _ _) n⟩) | (obtain ⟨rfl, rfl⟩ := h; exact ⟨rfl, Below.refl _ _⟩)
end Go.Proofs.Ytdjikjmjajlgcaa
end

/-! ### YtdjikjmjajlgcaaEnc -/
section
namespace Go.Proofs.Ytdjikjmjajlgcaa
open Go.RowKit Go.Proofs.YtdjikjmjajlgcaaW.PrintWords PFnExactEncode
set_option linter.unusedSimpArgs false
set_option linter.unusedVariables false

theorem spec_MsgH (es : List S54) (hS : Short es) (a0 a1 a2 a3 a4 a5 a6 : Int) (a7 : Bool) (cf : List Int) (d : ByteArray) (ls : Bool) (hl : es.length ≤ 1048576) (hcf : cf.length ≤ 1048576) (A8 : Option Addr) (c8 : Nat) (A9 : Option Addr) (c9 : Nat) (w : World)
    (hr8 : Kd.C k54 w A8 es.length es) (hc8 : es.length ≤ c8) (hr9 : Kd.C (Kd.int .i64) w A9 cf.length cf) (hc9 : cf.length ≤ c9) (b : Bool) (h : Hid (msgB a0 a1 a2 a3 a4 a5 a6 es cf d ls = b)) :
    Calls Try.prog 54 #[.agg #[.int .i64 a0, .int .i64 a1, .int .i64 a2, .int .i64 a3, .int .i64 a4, .int .i64 a5, .int .i64 a6, .bool a7, .slice A8 es.length c8, .slice A9 cf.length c9, .string d, .bool ls]] w fun e w' => e = .returned (.bool b) ∧ Below w.heap.size w w' := by
  have := spec_MessageOk es hS a0 a1 a2 a3 a4 a5 a6 a7 cf d ls hl hcf A8 c8 A9 c9 w hr8 hc8 hr9 hc9
  rw [h.out] at this
  exact this
theorem impl_MsgH (es : List S54) (hS : Short es) (a0 a1 a2 a3 a4 a5 a6 : Int) (a7 : Bool) (cf : List Int) (d : ByteArray) (ls : Bool) (hl : es.length ≤ 1048576) (hcf : cf.length ≤ 1048576) (A8 : Option Addr) (c8 : Nat) (A9 : Option Addr) (c9 : Nat) (w : World)
    (hr8 : Kd.C k54 w A8 es.length es) (hc8 : es.length ≤ c8) (hr9 : Kd.C (Kd.int .i64) w A9 cf.length cf) (hc9 : cf.length ≤ c9) (b : Bool) (h : Hid (msgB a0 a1 a2 a3 a4 a5 a6 es cf d ls = b)) :
    Calls Try.prog 60 #[.agg #[.int .i64 a0, .int .i64 a1, .int .i64 a2, .int .i64 a3, .int .i64 a4, .int .i64 a5, .int .i64 a6, .bool a7, .slice A8 es.length c8, .slice A9 cf.length c9, .string d, .bool ls]] w fun e w' => e = .returned (.bool b) ∧ Below w.heap.size w w' := by
  have := impl_MessageOk es hS a0 a1 a2 a3 a4 a5 a6 a7 cf d ls hl hcf A8 c8 A9 c9 w hr8 hc8 hr9 hc9
  rw [implB_eq, h.out] at this
  exact this

theorem msgB_facts {a0 a1 a2 a3 a4 a5 a6 : Int} {es : List S54} {cf : List Int} {d : ByteArray} {ls : Bool} (h : msgB a0 a1 a2 a3 a4 a5 a6 es cf d ls = true) :
    (0 ≤ a3 ∧ a3 ≤ 100000) ∧ (0 ≤ a4 ∧ a4 ≤ 1000000) ∧ (0 ≤ a5 ∧ a5 ≤ 100000) ∧ (0 ≤ a6 ∧ a6 ≤ 1000000) ∧ es.length ≤ 4 ∧ (confOk cf = true ∨ cf.length = 0) ∧ d.size ≤ 60 := by
  unfold msgB headB tailB lastB at h
  simp only [Bool.and_eq_true, decide_eq_true_eq, inM] at h
  obtain ⟨⟨⟨⟨⟨⟨h0, h1⟩, h2⟩, hne⟩, ⟨⟨⟨h3, h5⟩, h4⟩, h6⟩⟩, ⟨⟨hen, hl4⟩, hk⟩⟩, hlast⟩ := h
  by_cases c : a0 = 5
  · rw [if_pos c] at hlast
    simp only [Bool.and_eq_true, decide_eq_true_eq] at hlast
    exact ⟨h3, h4, h5, h6, hl4, .inl hlast.1, by omega⟩
  · rw [if_neg c] at hlast
    simp only [Bool.and_eq_true, decide_eq_true_eq] at hlast
    have hd : d.size = 0 := by
      have hz := hlast.1.2
      rw [ByteArray.toList_eq] at hz
      have : d.data.size = 0 := by rw [← Array.length_toList, hz]; rfl
      exact this
    exact ⟨h3, h4, h5, h6, hl4, .inr hlast.1.1, by omega⟩
theorem sctext_l0 (xs : List Int) (hl : xs.length ≤ 1099511627776) : ∀ (n k i : Nat), n + i = xs.length → n < k → spec_ConfText.l0 k xs ((PFnExactEncode.confBs xs).take i) i = some (strOfNums (PFnExactEncode.confBs xs), true)
  | _, 0, _, _, hk => by omega
  | 0, k + 1, i, h, hk => by
    unfold spec_ConfText.l0
    rw [if_neg (by omega), List.take_of_length_le (by simp [PFnExactEncode.confBs]; omega)]
  | n + 1, k + 1, i, h, hk => by
    have e1 : wrap64 ((i : Int) + 1) = ((i + 1 : Nat) : Int) := by unfold wrap64; omega
    unfold spec_ConfText.l0
    rw [if_pos (by omega), if_pos (by omega), if_pos (by simp [PFnExactEncode.confBs]; omega), e1, ← PFnExactEncode.take_confBs xs i (by omega)]
    clear e1
    exact sctext_l0 xs hl n k (i + 1) (by omega) (by omega)
theorem spec_ConfTextH (A : Option Addr) (c : Nat) (xs : List Int) (w : World) (hr : Kd.C (Kd.int .i64) w A xs.length xs) (hc : xs.length ≤ c) (hl : xs.length ≤ 1048576) (hok : confOk xs = true ∨ xs.length = 0) :
    Calls Try.prog 47 #[.slice A xs.length c] w fun e w' => (∃ b, e = .returned (.tuple #[.string (confT xs), .bool b])) ∧ Below w.heap.size w w' := by
  have hf : spec_ConfText.f (xs.length + 1) xs = some (if confOk xs then (strOfNums (PFnExactEncode.confBs xs), true) else (⟨#[]⟩, false)) := by
    unfold spec_ConfText.f
    rw [PFnExactEncode.sconf_f xs (xs.length + 1) (by omega) (by omega), Option.bind_some]
    have := sctext_l0 xs (by omega) xs.length (xs.length + 1) 0 (by omega) (by omega)
    cases hc : confOk xs with
    | false => rw [if_neg (by simp)]; rfl
    | true => rw [if_pos rfl]; exact this
  rcases hok with h1 | h0
  · rw [h1, if_pos rfl] at hf
    refine (spec_ConfText.calls (xs.length + 1) A c xs _ _ w hr hc hf).mono ?_
    rintro e w' h
    first | (obtain ⟨rfl, hb⟩ := h; exact ⟨⟨_, rfl⟩, hb⟩) | (obtain ⟨rfl, ⟨n, rfl⟩⟩ := h; exact ⟨⟨_, rfl⟩, bl_drewN (Below.refl _ _) n⟩)
  · obtain rfl : xs = [] := List.eq_nil_of_length_eq_zero h0
    rw [if_neg (by simp [confOk])] at hf
    refine (spec_ConfText.calls _ A c [] _ _ w hr hc hf).mono ?_
    rintro e w' h
    first | (obtain ⟨rfl, hb⟩ := h; exact ⟨⟨_, rfl⟩, hb⟩) | (obtain ⟨rfl, ⟨n, rfl⟩⟩ := h; exact ⟨⟨_, rfl⟩, bl_drewN (Below.refl _ _) n⟩)
theorem str3_size (x y z : Int) : (strOfNums [x, y, z]).size = 3 := by simp [strOfNums_size]
theorem str2_size (x y : Int) : (strOfNums [x, y]).size = 2 := by simp [strOfNums_size]
end Go.Proofs.Ytdjikjmjajlgcaa
end

/-! ### YtdjikjmjajlgcaaEncS -/
section
namespace Go.Proofs.Ytdjikjmjajlgcaa
open Go.RowKit Go.Proofs.YtdjikjmjajlgcaaW.PrintWords PFnExactEncode
set_option linter.unusedSimpArgs false
set_option linter.unusedVariables false

/-- A text made from a new block of three bytes. -/
theorem conv_new3 {P : Program} {src e dst T : TypeId} (hs : P.underlying src = some (.slice e)) (he : P.underlying e = some (.int .u8)) (hd : P.underlying dst = some .string) {w : World} {b : Nat} {x y z : Int}
    (h : w.heap[b]? = some (.cells #[.int .u8 x, .int .u8 y, .int .u8 z] T (0, 0))) : (convert src dst (.slice (some ⟨b, 0, none⟩) 3 3)).run P w = .ok (.string (strOfNums [x, y, z])) w := by
  refine run_convert_bytes_arg w src e hs he b 0 3 3 [x, y, z] rfl (fun i hi => ?_) dst hd
  have : i = 0 ∨ i = 1 ∨ i = 2 := by omega
  rcases this with rfl | rfl | rfl <;> simp [World.cell?, h]

attribute [local go_sem] flowUpon ByteArray.size_append
set_option maxHeartbeats 1000000 in
set_option maxRecDepth 100000 in
theorem spec_Enc_no (es : List S54) (hS : Short es) (a0 a1 a2 a3 a4 a5 a6 : Int) (a7 : Bool) (cf : List Int) (d : ByteArray) (ls : Bool) (hl : es.length ≤ 1048576) (hcf : cf.length ≤ 1048576) (A8 : Option Addr) (c8 : Nat) (A9 : Option Addr) (c9 : Nat) (w : World)
    (hr8 : Kd.C k54 w A8 es.length es) (hc8 : es.length ≤ c8) (hr9 : Kd.C (Kd.int .i64) w A9 cf.length cf) (hc9 : cf.length ≤ c9) (HB : Hid (msgB a0 a1 a2 a3 a4 a5 a6 es cf d ls = false)) :
    Calls Try.prog 10 #[.agg #[.int .i64 a0, .int .i64 a1, .int .i64 a2, .int .i64 a3, .int .i64 a4, .int .i64 a5, .int .i64 a6, .bool a7, .slice A8 es.length c8, .slice A9 cf.length c9, .string d, .bool ls]] w fun e w' => e = .returned (.tuple #[.string ⟨#[]⟩, .bool false]) ∧ Below w.heap.size w w' := by
  have HR8 := Lib.hid hr8
  have HR9 := Lib.hid hr9
  clear hr8 hr9
  go_enter Try.func10, Try.ntmps10
  go_wp2_with (first | (go_at_call 54; refine (spec_MsgH es hS _ _ _ _ _ _ _ _ cf _ _ hl hcf _ _ _ _ _ (Kd.C_below HR8.out (by repeat (first | exact Below.refl _ _ | apply bl_alloc | apply bl_drewN | apply bl_drew | refine bl_set ?_ (by simp) | refine bl_then ?_ (by assumption)))) hc8 (Kd.C_below HR9.out (by repeat (first | exact Below.refl _ _ | apply bl_alloc | apply bl_drewN | apply bl_drew | refine bl_set ?_ (by simp) | refine bl_then ?_ (by assumption)))) hc9 false HB).mono ?_; rintro e w1 ⟨rfl, hb1⟩))
  go_ret2
  exact ⟨rfl, (by repeat (first | exact Below.refl _ _ | apply bl_alloc | apply bl_drewN | apply bl_drew | refine bl_set ?_ (by simp) | refine bl_then ?_ (by assumption)))⟩

set_option maxHeartbeats 4000000 in
set_option maxRecDepth 100000 in
theorem spec_Enc_yes (es : List S54) (hS : Short es) (a0 a1 a2 a3 a4 a5 a6 : Int) (a7 : Bool) (cf : List Int) (d : ByteArray) (ls : Bool) (hl : es.length ≤ 1048576) (hcf : cf.length ≤ 1048576) (A8 : Option Addr) (c8 : Nat) (A9 : Option Addr) (c9 : Nat) (w : World)
    (hr8 : Kd.C k54 w A8 es.length es) (hc8 : es.length ≤ c8) (hr9 : Kd.C (Kd.int .i64) w A9 cf.length cf) (hc9 : cf.length ≤ c9) (HB : Hid (msgB a0 a1 a2 a3 a4 a5 a6 es cf d ls = true)) :
    Calls Try.prog 10 #[.agg #[.int .i64 a0, .int .i64 a1, .int .i64 a2, .int .i64 a3, .int .i64 a4, .int .i64 a5, .int .i64 a6, .bool a7, .slice A8 es.length c8, .slice A9 cf.length c9, .string d, .bool ls]] w fun e w' => e = .returned (.tuple #[.string (encS a0 a1 a2 a3 a4 a5 a6 a7 es cf d ls), .bool true]) ∧ Below w.heap.size w w' := by
  obtain ⟨⟨b3, b3'⟩, ⟨b4, b4'⟩, ⟨b5, b5'⟩, ⟨b6, b6'⟩, b8, b9, b10⟩ := msgB_facts HB.out
  have HR8 := Lib.hid hr8
  have HR9 := Lib.hid hr9
  clear hr8 hr9
  have s0 := str3_size (a0 % 256) (a1 % 256) (a2 % 256)
  have s2 := str2_size (flagN a7 % 256) (flagN ls % 256)
  have s3 := varS_size a3 (by omega) (by omega)
  have s4 := varS_size a4 (by omega) (by omega)
  have s5 := varS_size a5 (by omega) (by omega)
  have s6 := varS_size a6 (by omega) (by omega)
  have s7 := byteS_size (flagN a7)
  have s11 := byteS_size (flagN ls)
  have s8 := varS_size es.length (by omega) (by omega)
  go_enter Try.func10, Try.ntmps10
  go_wp2_with fail
  obtain ⟨X, hX⟩ : ∃ X, X = w.alloc (.cells #[.int .i64 a0, .int .i64 a1, .int .i64 a2, .int .i64 a3, .int .i64 a4, .int .i64 a5, .int .i64 a6, .bool a7, .slice A8 es.length c8, .slice A9 cf.length c9, .string d, .bool ls] 31) := ⟨_, rfl⟩
  have KA : Blk 31 w.heap.size #[.int .i64 a0, .int .i64 a1, .int .i64 a2, .int .i64 a3, .int .i64 a4, .int .i64 a5, .int .i64 a6, .bool a7, .slice A8 es.length c8, .slice A9 cf.length c9, .string d, .bool ls] X := by rw [hX]; exact Blk.new _ _ w
  have HX : Below w.heap.size w X := by rw [hX]; exact (by repeat (first | exact Below.refl _ _ | apply bl_alloc | apply bl_drewN | apply bl_drew | refine bl_set ?_ (by simp) | refine bl_then ?_ (by assumption)))
  rw [← hX]
  clear hX
  go_at_call 54
  refine (spec_MsgH es hS _ _ _ _ _ _ _ _ cf _ _ hl hcf _ _ _ _ _ (Kd.C_below HR8.out HX) hc8 (Kd.C_below HR9.out HX) hc9 true HB).mono ?_
  rintro e w1 ⟨rfl, hb1⟩
  have HW1 := bl_then HX hb1
  have K1 := KA.below hb1
  clear hb1 KA HX
  go_wp2_with fail

  have k0 := K1.cell 0 rfl
  have k1 := K1.cell 1 rfl
  have k2 := K1.cell 2 rfl
  have k3 := K1.cell 3 rfl
  have k4 := K1.cell 4 rfl
  have k5 := K1.cell 5 rfl
  have k6 := K1.cell 6 rfl
  have k7 := K1.cell 7 rfl
  have k8 := K1.cell 8 rfl
  have k9 := K1.cell 9 rfl
  have k10 := K1.cell 10 rfl
  have k11 := K1.cell 11 rfl
  have la := K1.lt
  refine wp_region_flow [1] 87 (by kernel_rfl) (by rfl) (by kernel_rfl) (by kernel_rfl) (by kernel_rfl) ?_
  iterate 9 (refine flow_valE ?_; apply Exists.intro; refine ⟨fun A wq hBq hbq hdq => ?_, ?_⟩; focus (obtain ⟨hcq, hfq⟩ := bcell hBq; (try simp [go_sem, baseF, deps, dep1, Region.binds] at hbq); (try simp [go_sem, baseF, deps, dep1, Region.binds, NewSl] at hdq); go_simp; first | exact ⟨Below.refl _ _, rfl⟩ | (rw [if_neg]; (focus (exact ⟨Below.refl _ _, rfl⟩)); (focus ((try simp only [ByteArray.size_append]); omega))) | (fail)))
  (refine flow_newSlE ?_; apply Exists.intro; apply Exists.intro; apply Exists.intro; refine ⟨fun A wq hBq hbq hdq => ?_, ?_⟩; focus (obtain ⟨hcq, hfq⟩ := bcell hBq; (try simp [go_sem, baseF, deps, dep1, Region.binds] at hbq); (try simp [go_sem, baseF, deps, dep1, Region.binds, NewSl] at hdq); go_simp; exact ⟨rfl, rfl⟩))
  refine flow_val (.string (strOfNums [a0 % 256, a1 % 256, a2 % 256])) (fun A wq hBq hbq hdq => ?_) ?_
  · (try simp [go_sem, baseF, deps, dep1, Region.binds] at hbq)
    (try simp [go_sem, baseF, deps, dep1, Region.binds, NewSl] at hdq)
    go_simp
    obtain ⟨g, h1, h2, h3⟩ := hdq
    rw [h1, conv_new3 Try.underlying51 Try.underlying5 Try.underlying9 h3]
    exact ⟨Below.refl _ _, by rw [IntKind.wrap_u8, IntKind.wrap_u8, IntKind.wrap_u8]⟩
  iterate 16 (refine flow_valE ?_; apply Exists.intro; refine ⟨fun A wq hBq hbq hdq => ?_, ?_⟩; focus (obtain ⟨hcq, hfq⟩ := bcell hBq; (try simp [go_sem, baseF, deps, dep1, Region.binds] at hbq); (try simp [go_sem, baseF, deps, dep1, Region.binds, NewSl] at hdq); go_simp; first | exact ⟨Below.refl _ _, rfl⟩ | (rw [if_neg]; (focus (exact ⟨Below.refl _ _, rfl⟩)); (focus ((try simp only [ByteArray.size_append]); omega))) | (first | (go_at_call 55; exact (spec_l01Var _ _ (by omega) (by omega))))))
  iterate 8 (refine flow_valE ?_; apply Exists.intro; refine ⟨fun A wq hBq hbq hdq => ?_, ?_⟩; focus (obtain ⟨hcq, hfq⟩ := bcell hBq; (try simp [go_sem, baseF, deps, dep1, Region.binds] at hbq); (try simp [go_sem, baseF, deps, dep1, Region.binds, NewSl] at hdq); go_simp; first | exact ⟨Below.refl _ _, rfl⟩ | (rw [if_neg]; (focus (exact ⟨Below.refl _ _, rfl⟩)); (focus ((try simp only [ByteArray.size_append]); omega))) | (first | (go_at_call 56; exact (spec_flagH _ _)))))
  iterate 6 (refine flow_valE ?_; apply Exists.intro; refine ⟨fun A wq hBq hbq hdq => ?_, ?_⟩; focus (obtain ⟨hcq, hfq⟩ := bcell hBq; (try simp [go_sem, baseF, deps, dep1, Region.binds] at hbq); (try simp [go_sem, baseF, deps, dep1, Region.binds, NewSl] at hdq); go_simp; first | exact ⟨Below.refl _ _, rfl⟩ | (rw [if_neg]; (focus (exact ⟨Below.refl _ _, rfl⟩)); (focus ((try simp only [ByteArray.size_append]); omega))) | (first | (go_at_call 55; exact (spec_l01Var _ _ (by omega) (by omega))))))
  refine fun x w2 hb2 hall => ?_
  simp only [allT] at hall
  simp [frameOf, Act.put, hall]
  clear hall
  go_wp2_with fail
  have K2 := K1.below hb2
  have HW2 := bl_then HW1 hb2
  clear hb2 K1 la k0 k1 k2 k3 k4 k5 k6 k7 k8 k9 k10 k11 HW1
  obtain ⟨r, hr⟩ : ∃ r, Hid (entsS es 0 es.length (headS a0 a1 a2 a3 a4 a5 a6 a7 ls es.length) = r) := ⟨_, Lib.hid rfl⟩
  have hrz := entsS_size es es.length 0 (headS a0 a1 a2 a3 a4 a5 a6 a7 ls es.length)
  have hhz : (headS a0 a1 a2 a3 a4 a5 a6 a7 ls es.length).size ≤ 30 := by unfold headS; simp only [ByteArray.size_append]; omega
  rw [hr.out] at hrz
  clear s0 s2 s3 s4 s5 s6 s7 s8 s11
  go_loopg [4, 5] es.length (fun kq v4 v5 w' => ∃ (i : Nat) (s : ByteArray), v4 = .string s ∧ v5 = .int .i64 (i : Int) ∧ i + kq = es.length ∧ s.size ≤ 30 + 137 * i ∧ Hid (entsS es i kq s = r) ∧ Below w2.heap.size w2 w')
  case atStart => exact ⟨0, _, rfl, rfl, by omega, hhz, hr, Below.refl _ _⟩
  case round =>
    obtain ⟨i, s, rfl, rfl, hik, hsz, hix, hb⟩ := hrel
    have KW := K2.below hb
    have k8 := KW.cell 8 rfl
    have k9 := KW.cell 9 rfl
    have k10 := KW.cell 10 rfl
    have la := KW.lt
    cases gk with
    | zero =>
      have hlt : ¬ ((i : Int) < (es.length : Int)) := by omega
      have hrv := hix.out
      simp only [entsS] at hrv
      subst hrv
      clear hix
      go_wp2_with fail
      go_at_call 47
      refine (spec_ConfTextH _ _ cf _ (Kd.C_below HR9.out (bl_then HW2 hb)) hc9 hcf b9).mono ?_
      rintro e w3 ⟨⟨bq, rfl⟩, hb3⟩
      have K3 := KW.below hb3
      have HW3 := bl_then HW2 (bl_then hb hb3)
      clear hb hb3 KW K2 HW2 k8 k9 k10 la
      have k10 := K3.cell 10 rfl
      have la := K3.lt
      have cz := confT_size cf
      have cz1 := shortS_size (confT cf) (by omega)
      have cz2 := shortS_size d (by omega)
      have cl : cf.length ≤ 4 := by rcases b9 with h | h; exact (confOk_short h).2; omega
      go_wp2_with fail
      refine wp_region_flow [4, 8, 1] 87 (by kernel_rfl) (by rfl) (by kernel_rfl) (by kernel_rfl) (by kernel_rfl) ?_
      iterate 10 (refine flow_valE ?_; apply Exists.intro; refine ⟨fun A wq hBq hbq hdq => ?_, ?_⟩; focus (obtain ⟨hcq, hfq⟩ := bcell hBq; (try simp [go_sem, baseF, deps, dep1, Region.binds] at hbq); (try simp [go_sem, baseF, deps, dep1, Region.binds, NewSl] at hdq); go_simp; first | exact ⟨Below.refl _ _, rfl⟩ | (rw [if_neg]; (focus (exact ⟨Below.refl _ _, rfl⟩)); (focus ((try simp only [ByteArray.size_append]); omega))) | (first | (go_at_call 57; exact (spec_l05Short _ _ (by omega))))))
      refine fun x w4 hb4 hall => ?_
      simp only [allT] at hall
      simp [frameOf, Act.put, hall]
      clear hall
      go_wp2
      go_ret2
      refine ⟨?_, bl_then HW3 hb4⟩
      rw [encS, hr.out]
      rfl
    | succ n =>
      have hlt : (i : Int) < (es.length : Int) := by omega
      obtain ⟨ad, e1, x0, x1, x2⟩ := at_T54 (Kd.C_below HR8.out (bl_then HW2 hb)) i (by omega) hlt
      subst e1
      simp only [Int.toNat_natCast] at x0 x1 x2
      have lx : (ad.add (i * 3)).block < wr.heap.size := World.block_lt_of_cell? wr _ x0
      have E1 := Lib.hid (show wrap64 ((i : Int) + 1) = ((i + 1 : Nat) : Int) from by unfold wrap64; omega)
      have hrv := hix.out
      simp only [entsS] at hrv
      have hix2 := Lib.hid hrv
      clear hrv hix
      have hSi := hS i
      have hze : (shortS (entryT 1 (rd_T54 es (i : Int)).f0 (rd_T54 es (i : Int)).f1 (rd_T54 es (i : Int)).f2)).size ≤ 137 := entS_size es i
      have hzt := entryT_size 1 (rd_T54 es (i : Int)).f0 (rd_T54 es (i : Int)).f1 (rd_T54 es (i : Int)).f2
      go_wp2_with fail
      go_at_call 22
      with_reducible refine (spec_EntryText 1 _ _ _ _ (by omega)).mono ?_
      rintro e w3 ⟨rfl, hb3⟩
      have hb4 := bl_then hb hb3
      clear hb hb3 KW k8 k9 k10 la x0 x1 x2 lx
      go_wp2_with fail
      go_at_call 57
      refine (spec_l05Short _ _ (by omega)).mono ?_
      rintro e w5 ⟨rfl, hb5⟩
      have hb6 := bl_then hb4 hb5
      clear hb4 hb5
      go_wp2_with fail
      go_roundg n
      case measure => omega
      case rel => exact ⟨i + 1, _, rfl, by first | rfl | (rw [E1.out]), by omega, by simp only [ByteArray.size_append]; omega, hix2, hb6⟩

end Go.Proofs.Ytdjikjmjajlgcaa
end

/-! ### YtdjikjmjajlgcaaFlowW -/
section
namespace Go.Proofs.Ytdjikjmjajlgcaa
open Go.RowKit
set_option linter.unusedVariables false
set_option linter.unusedSimpArgs false

/-! The flow rule where a tmp that is read from before may be written by an operation that waits for all others. (own) -/
section
variable {P : Program}
def lastW (l : List Oper) (t : Nat) : Bool := (List.range l.length).all fun j => match l[j]? with
  | some o => o.dst != some t || (List.range l.length).all fun i => i == j || o.after.toList.any fun e => e.on == i && Region.binds .any e
  | none => true
theorem lastW_spec {l : List Oper} {t : Nat} (h : lastW l t = true) (j : Nat) (o : Oper) (hj : l[j]? = some o) (hd : o.dst = some t) (i : Nat) (hi : i < l.length) (hij : i ≠ j) : ∃ e ∈ o.after.toList, e.on = i ∧ Region.binds .any e = true := by
  have hjl : j < l.length := (List.getElem?_eq_some_iff.1 hj).1
  have h1 := List.all_eq_true.1 h j (List.mem_range.2 hjl)
  rw [hj] at h1
  simp only [hd, bne_self_eq_false, Bool.false_or] at h1
  have h2 := List.all_eq_true.1 h1 i (List.mem_range.2 hi)
  simp only [Bool.or_eq_true, beq_iff_eq, hij, false_or, List.any_eq_true, Bool.and_eq_true] at h2
  obtain ⟨e, he, h3, h4⟩ := h2
  exact ⟨e, he, h3, h4⟩
theorem getD_ft {l : Array Bool} {i : Nat} (h : i < l.size) : l.getD i false = l.getD i true := by simp [Array.getD_eq_getD_getElem?, h]
theorem getD_set_self {l : Array Bool} {i : Nat} (h : i < l.size) : (l.setIfInBounds i true).getD i false = true := by simp [Array.getD_eq_getD_getElem?, h]
theorem getD_set_mono {l : Array Bool} {i j : Nat} (h : l.getD j false = true) : (l.setIfInBounds i true).getD j false = true := by
  by_cases hij : i = j
  · subst hij
    refine getD_set_self ?_
    rcases Nat.lt_or_ge i l.size with h1 | h1
    · exact h1
    · simp [Array.getD_eq_getD_getElem?, Array.getElem?_eq_none h1] at h
  · rw [getD_set_ne false hij]; exact h

theorem wp_region_flowW {id : Nat} {Q : Exit → Act → World → Prop} {a : Act} {w : World} {l : List Oper} (bs : List Nat) (n : Nat) (hm : P.follows .mixedOrders = true) (hn : a.tmps.size = n)
    (hB : flowB n l = true) (hO : flowO l 0 = true) (hbs : bs.all (lastW l) = true) (h : Flow P w a bs Q l l 0 []) : (Code.region id l.toArray true).wp P Q a w := by
  obtain ⟨T, -, -, hlen, hobl, hfin⟩ := flow_table l 0 [] (by simp) h
  subst hn
  refine wp_region_any hm ?_
  refine wpAny_inv (fun listed A w' => listed.size = l.length ∧ Below w.heap.size w w' ∧ A.defers = a.defers ∧ A.tmps.size = a.tmps.size ∧ (∀ t, a.tmps[t]? ≠ A.tmps[t]? → ∃ (i : Nat) (o : Oper), l[i]? = some o ∧ o.dst = some t ∧ listed.getD i false = true) ∧
      (∀ (j : Nat) (o : Oper), l[j]? = some o → listed.getD j false = true → ∀ e ∈ o.after.toList, Region.binds .any e = true → listed.getD e.on false = true) ∧
      (∀ i d R, (i, d, R) ∈ T → listed.getD i false = true → R w' (A.eval (.tmp d)))) ?_ ?_ (fun listed => unl listed.toList) ?_ _ _ _ _ ?_ ?_
  · rintro listed A w' i ⟨hsz, hbel, hdef, hts, hdiff, hcl, hall⟩ hi
    obtain ⟨hun, o, ho, haft⟩ := mem_ready.1 hi
    have ho' : l[i]? = some o := by simpa using ho
    obtain ⟨hg, hd⟩ := flowB_spec hB i o ho'
    obtain ⟨R, hmono, huniq, hob⟩ := hobl i o ho'
    simp only [Nat.zero_add] at huniq
    unfold wpOp
    rw [ho]
    simp only [Region.wanted, hg, if_true]
    refine .inl (flow_upon (hob A w' hbel (baseF_of fun t ht => ?_) fun e he hb d R hmem => hall _ d R hmem (haft e (by simpa using he) hb)) fun v w2 hb2 hR => ?_)
    · have h1 := List.all_eq_true.1 hbs t ht
      have h3 : a.tmps[t]? = A.tmps[t]? := Classical.byContradiction fun hne => by
        obtain ⟨j, oj, hj, hdj, hlj⟩ := hdiff t hne
        have hil : i < l.length := (List.getElem?_eq_some_iff.1 ho').1
        have hij : i ≠ j := fun e => by
          subst e
          rw [getD_ft (by omega)] at hlj
          simp [hun] at hlj
        obtain ⟨e, he, heo, heb⟩ := lastW_spec h1 j oj hj hdj i hil hij
        have := hcl j oj hj hlj e he heb
        rw [heo, getD_ft (by omega)] at this
        simp [hun] at this
      simp only [Act.eval, Array.getD_eq_getD_getElem?, h3]
    · refine ⟨by simpa using hsz, hbel.trans ⟨hb2.os, hb2.tape, hb2.output, hb2.size, fun k hk => hb2.block k (Nat.lt_of_lt_of_le hk hbel.size)⟩, ?_, ?_, ?_, ?_, ?_⟩
      · rw [← hdef]; unfold Act.put; split <;> rfl
      · rw [← hts]; unfold Act.put; split <;> simp
      · intro t ht
        by_cases hdt : o.dst = some t
        · exact ⟨i, o, ho', hdt, getD_set_self (by have := (List.getElem?_eq_some_iff.1 ho').1; omega)⟩
        · refine (hdiff t fun he => ht ?_).imp fun j => Exists.imp fun oj h => ⟨h.1, h.2.1, getD_set_mono h.2.2⟩
          rw [he]
          unfold Act.put
          split
          · rename_i t' ht'
            have : t' ≠ t := fun e => hdt (by rw [ht', e])
            rw [Array.getElem?_setIfInBounds_ne this]
          · rfl
      · intro j oj hj hlj e he hb
        by_cases hij : i = j
        · subst hij
          obtain rfl : o = oj := by rw [ho'] at hj; exact Option.some.inj hj
          exact getD_set_mono (haft e (by simpa using he) hb)
        · rw [getD_set_ne false hij] at hlj
          exact getD_set_mono (hcl j oj hj hlj e he hb)
      · intro k d R' hmem hk
        by_cases hki : i = k
        · subst hki
          obtain ⟨hod, rfl⟩ := huniq d R' hmem
          rw [eval_put_eq hod (by rw [hts]; exact (hd d hod).1)]
          exact hR
        · have hk' : listed.getD k false = true := by rw [getD_set_ne false hki] at hk; exact hk
          have hold := hall k d R' hmem hk'
          have hkl : k < l.length := by simpa using hlen k d R' hmem
          have hko : l[k]? = some l[k] := by simp [hkl]
          obtain ⟨R2, hmono2, huniq2, -⟩ := hobl k l[k] hko
          simp only [Nat.zero_add] at huniq2
          obtain ⟨hod, rfl⟩ := huniq2 d R' hmem
          have hne : o.dst ≠ some d := fun hd0 => by
            rcases Nat.lt_or_gt_of_ne hki with h | h
            · exact (hd d hd0).2 k l[k] hko h hod
            · exact ((flowB_spec hB k l[k] hko).2 d hod).2 i o ho' h hd0
          rw [eval_put_ne hne]
          exact hmono2 _ _ _ hold hb2
  · rintro listed A w' ⟨hsz, hbel, hdef, hts, hdiff, hcl, hall⟩ hno
    have hdone : ∀ k, k < l.length → listed.getD k false = true := by
      intro k
      induction k using Nat.strongRecOn with
      | _ k ih =>
        intro hk
        refine Classical.byContradiction fun hf => hno k (mem_ready.2 ⟨?_, l[k], by simp [hk], fun e he hb => ?_⟩)
        · have hks : k < listed.size := by omega
          simp only [Array.getD_eq_getD_getElem?, Array.getElem?_eq_getElem hks, Option.getD_some] at hf ⊢
          simpa using hf
        · have hlt := flowO_spec hO k l[k] (by simp [hk]) e (by simpa using he) hb
          exact ih e.on (by omega) (by omega)
    have hx : frameOf (fun i => match (l[i]?).bind (·.dst) with | some d => A.eval (.tmp d) | none => undef) l 0 a = A := by
      refine frame_eq _ A l 0 a hdef hts (fun i o d hi hd hlt => ?_) (fun t ht => (hdiff t ht).imp fun j => Exists.imp fun oj h => ⟨h.1, h.2.1⟩)
      simp only [Nat.zero_add, hi, Option.bind_some, hd, Act.eval, Array.getD_eq_getD_getElem?]
      have : d < A.tmps.size := by rw [hts]; exact hlt
      simp [this]
    have := hfin (fun i => match (l[i]?).bind (·.dst) with | some d => A.eval (.tmp d) | none => undef) w' hbel (allT_of fun k d R hmem => by
      have hkl : k < l.length := by simpa using hlen k d R hmem
      have hko : l[k]? = some l[k] := by simp [hkl]
      obtain ⟨R2, -, huniq2, -⟩ := hobl k l[k] hko
      simp only [Nat.zero_add] at huniq2
      obtain ⟨hod, -⟩ := huniq2 d R hmem
      simp only [hko, Option.bind_some, hod]
      exact hall k d R hmem (hdone k hkl))
    rw [hx] at this
    exact this
  · rintro listed A w' i ⟨hsz, -⟩ hi
    obtain ⟨hun, o, ho, -⟩ := mem_ready.1 hi
    have hil : i < listed.size := by have := (Array.getElem?_eq_some_iff.1 ho).1; simp at this; omega
    simp only [Array.toList_setIfInBounds]
    refine unl_set _ _ ?_
    simp only [Array.getD_eq_getD_getElem?, Array.getElem?_eq_getElem hil, Option.getD_some] at hun
    simp [hil, hun]
  · simp [unl_rep]
  · exact ⟨by simp, ⟨rfl, rfl, rfl, Nat.le_refl _, fun _ _ => rfl⟩, rfl, rfl, fun t ht => absurd rfl ht, fun j o _ hl => by simp [Array.getD_eq_getD_getElem?, Array.getElem?_replicate] at hl; split at hl <;> simp at hl, fun i d R _ hl => by simp [Array.getD_eq_getD_getElem?, Array.getElem?_replicate] at hl; split at hl <;> simp at hl⟩

end
end Go.Proofs.Ytdjikjmjajlgcaa
end

/-! ### YtdjikjmjajlgcaaEncI -/
section
namespace Go.Proofs.Ytdjikjmjajlgcaa
open Go.RowKit Go.Proofs.YtdjikjmjajlgcaaW.PrintWords PFnExactEncode
set_option linter.unusedSimpArgs false
set_option linter.unusedVariables false

theorem row_two {W : World} {g : Nat} {x y : Int} (h0 : W.cell? ⟨g, 0, none⟩ = some (.int .i64 x)) (h1 : W.cell? ⟨g, 1, none⟩ = some (.int .i64 y)) :
    Kd.C (Kd.int .i64) W (some ⟨g, 0, none⟩) 2 [x, y] := by
  refine ⟨rfl, by omega, fun _ => ⟨_, rfl, fun j p hj => ?_⟩⟩
  have step : ∀ (v : Int), W.cell? ⟨g, j, none⟩ = some (.int .i64 v) → p = v → ∃ c : List Value, c.length = (Kd.int .i64).sz ∧ (Kd.int .i64).K W p c ∧ ∀ i u, c[i]? = some u → W.cell? (Addr.add ⟨g, 0, none⟩ (j * (Kd.int .i64).sz + i)) = some u := by
    rintro v hv rfl
    refine ⟨[.int .i64 p], rfl, rfl, fun i u hu => ?_⟩
    rcases i with _ | i
    · obtain rfl : Value.int .i64 p = u := by simpa using hu
      have : Addr.add ⟨g, 0, none⟩ (j * (Kd.int .i64).sz + 0) = ⟨g, j, none⟩ := by
        show Addr.add ⟨g, 0, none⟩ (j * 1 + 0) = ⟨g, j, none⟩
        unfold Addr.add
        rcases j with _ | j <;> simp
      rw [this]
      exact hv
    · simp at hu
  rcases j with _ | _ | j
  · exact step x h0 (by simpa using hj.symm)
  · exact step y h1 (by simpa using hj.symm)
  · simp at hj
theorem impl_oneByte2 (g : Nat) (x y : Int) (w : World) (h0 : w.cell? ⟨g, 0, none⟩ = some (.int .i64 x)) (h1 : w.cell? ⟨g, 1, none⟩ = some (.int .i64 y)) :
    Calls Try.prog 61 #[.slice (some ⟨g, 0, none⟩) 2 2] w fun e w' => e = .returned (.string (strOfNums [x % 256, y % 256])) ∧ Below w.heap.size w w' :=
  impl_oneByte _ 2 [x, y] w (row_two h0 h1) (by simp) (by simp)
theorem head_two (a0 a1 a2 a3 a4 a5 a6 : Int) (a7 ls : Bool) (n : Nat) :
    strOfNums [a0 % 256, a1 % 256, a2 % 256] ++ varS a3 ++ varS a4 ++ varS a5 ++ varS a6 ++ (strOfNums [flagN a7 % 256, flagN ls % 256] ++ varS n) = headS a0 a1 a2 a3 a4 a5 a6 a7 ls n := by
  have h : strOfNums [flagN a7 % 256, flagN ls % 256] = strOfNums [flagN a7 % 256] ++ strOfNums [flagN ls % 256] := strOfNums_append [flagN a7 % 256] [flagN ls % 256]
  unfold headS byteS
  rw [h]
  simp only [ByteArray.append_assoc]

theorem impl_oneByteC (A : Option Addr) (c : Nat) (xs : List Int) (w : World) (hr : Kd.C (Kd.int .i64) w A xs.length xs) (hc : xs.length ≤ c) (hl : xs.length ≤ 1048576) :
    Calls Try.prog 61 #[.slice A xs.length c] w fun e w' => e = .returned (.string (confT xs)) ∧ Below w.heap.size w w' :=
  impl_oneByte A c xs w hr hc (by omega)

attribute [local go_sem] flowUpon ByteArray.size_append
set_option maxHeartbeats 1000000 in
set_option maxRecDepth 100000 in
theorem impl_Enc_no (es : List S54) (hS : Short es) (a0 a1 a2 a3 a4 a5 a6 : Int) (a7 : Bool) (cf : List Int) (d : ByteArray) (ls : Bool) (hl : es.length ≤ 1048576) (hcf : cf.length ≤ 1048576) (A8 : Option Addr) (c8 : Nat) (A9 : Option Addr) (c9 : Nat) (w : World)
    (hr8 : Kd.C k54 w A8 es.length es) (hc8 : es.length ≤ c8) (hr9 : Kd.C (Kd.int .i64) w A9 cf.length cf) (hc9 : cf.length ≤ c9) (HB : Hid (msgB a0 a1 a2 a3 a4 a5 a6 es cf d ls = false)) :
    Calls Try.prog 12 #[.agg #[.int .i64 a0, .int .i64 a1, .int .i64 a2, .int .i64 a3, .int .i64 a4, .int .i64 a5, .int .i64 a6, .bool a7, .slice A8 es.length c8, .slice A9 cf.length c9, .string d, .bool ls]] w fun e w' => e = .returned (.tuple #[.string ⟨#[]⟩, .bool false]) ∧ Below w.heap.size w w' := by
  have HR8 := Lib.hid hr8
  have HR9 := Lib.hid hr9
  clear hr8 hr9
  go_enter Try.func12, Try.ntmps12
  go_wp2_with (first | (go_at_call 60; refine (impl_MsgH es hS _ _ _ _ _ _ _ _ cf _ _ hl hcf _ _ _ _ _ (Kd.C_below HR8.out (by repeat (first | exact Below.refl _ _ | apply bl_alloc | apply bl_drewN | apply bl_drew | refine bl_set ?_ (by simp) | refine bl_then ?_ (by assumption)))) hc8 (Kd.C_below HR9.out (by repeat (first | exact Below.refl _ _ | apply bl_alloc | apply bl_drewN | apply bl_drew | refine bl_set ?_ (by simp) | refine bl_then ?_ (by assumption)))) hc9 false HB).mono ?_; rintro e w1 ⟨rfl, hb1⟩))
  go_ret2
  exact ⟨rfl, (by repeat (first | exact Below.refl _ _ | apply bl_alloc | apply bl_drewN | apply bl_drew | refine bl_set ?_ (by simp) | refine bl_then ?_ (by assumption)))⟩

set_option maxHeartbeats 4000000 in
set_option maxRecDepth 100000 in
theorem impl_Enc_yes (es : List S54) (hS : Short es) (a0 a1 a2 a3 a4 a5 a6 : Int) (a7 : Bool) (cf : List Int) (d : ByteArray) (ls : Bool) (hl : es.length ≤ 1048576) (hcf : cf.length ≤ 1048576) (A8 : Option Addr) (c8 : Nat) (A9 : Option Addr) (c9 : Nat) (w : World)
    (hr8 : Kd.C k54 w A8 es.length es) (hc8 : es.length ≤ c8) (hr9 : Kd.C (Kd.int .i64) w A9 cf.length cf) (hc9 : cf.length ≤ c9) (HB : Hid (msgB a0 a1 a2 a3 a4 a5 a6 es cf d ls = true)) :
    Calls Try.prog 12 #[.agg #[.int .i64 a0, .int .i64 a1, .int .i64 a2, .int .i64 a3, .int .i64 a4, .int .i64 a5, .int .i64 a6, .bool a7, .slice A8 es.length c8, .slice A9 cf.length c9, .string d, .bool ls]] w fun e w' => e = .returned (.tuple #[.string (encS a0 a1 a2 a3 a4 a5 a6 a7 es cf d ls), .bool true]) ∧ Below w.heap.size w w' := by
  obtain ⟨⟨b3, b3'⟩, ⟨b4, b4'⟩, ⟨b5, b5'⟩, ⟨b6, b6'⟩, b8, b9, b10⟩ := msgB_facts HB.out
  have HR8 := Lib.hid hr8
  have HR9 := Lib.hid hr9
  clear hr8 hr9
  have s0 := str3_size (a0 % 256) (a1 % 256) (a2 % 256)
  have s2 := str2_size (flagN a7 % 256) (flagN ls % 256)
  have s3 := varS_size a3 (by omega) (by omega)
  have s4 := varS_size a4 (by omega) (by omega)
  have s5 := varS_size a5 (by omega) (by omega)
  have s6 := varS_size a6 (by omega) (by omega)
  have s7 := byteS_size (flagN a7)
  have s11 := byteS_size (flagN ls)
  have s8 := varS_size es.length (by omega) (by omega)
  go_enter Try.func12, Try.ntmps12
  go_wp2_with fail
  obtain ⟨X, hX⟩ : ∃ X, X = w.alloc (.cells #[.int .i64 a0, .int .i64 a1, .int .i64 a2, .int .i64 a3, .int .i64 a4, .int .i64 a5, .int .i64 a6, .bool a7, .slice A8 es.length c8, .slice A9 cf.length c9, .string d, .bool ls] 31) := ⟨_, rfl⟩
  have KA : Blk 31 w.heap.size #[.int .i64 a0, .int .i64 a1, .int .i64 a2, .int .i64 a3, .int .i64 a4, .int .i64 a5, .int .i64 a6, .bool a7, .slice A8 es.length c8, .slice A9 cf.length c9, .string d, .bool ls] X := by rw [hX]; exact Blk.new _ _ w
  have HX : Below w.heap.size w X := by rw [hX]; exact (by repeat (first | exact Below.refl _ _ | apply bl_alloc | apply bl_drewN | apply bl_drew | refine bl_set ?_ (by simp) | refine bl_then ?_ (by assumption)))
  rw [← hX]
  clear hX
  go_at_call 60
  refine (impl_MsgH es hS _ _ _ _ _ _ _ _ cf _ _ hl hcf _ _ _ _ _ (Kd.C_below HR8.out HX) hc8 (Kd.C_below HR9.out HX) hc9 true HB).mono ?_
  rintro e w1 ⟨rfl, hb1⟩
  have HW1 := bl_then HX hb1
  have K1 := KA.below hb1
  clear hb1 KA HX
  go_wp2_with fail

  have k0 := K1.cell 0 rfl
  have k1 := K1.cell 1 rfl
  have k2 := K1.cell 2 rfl
  have k3 := K1.cell 3 rfl
  have k4 := K1.cell 4 rfl
  have k5 := K1.cell 5 rfl
  have k6 := K1.cell 6 rfl
  have k7 := K1.cell 7 rfl
  have k8 := K1.cell 8 rfl
  have k9 := K1.cell 9 rfl
  have k10 := K1.cell 10 rfl
  have k11 := K1.cell 11 rfl
  have la := K1.lt
  refine wp_region_flow [1] 78 (by kernel_rfl) (by rfl) (by kernel_rfl) (by kernel_rfl) (by kernel_rfl) ?_
  iterate 6 (refine flow_valE ?_; apply Exists.intro; refine ⟨fun A wq hBq hbq hdq => ?_, ?_⟩; focus (obtain ⟨hcq, hfq⟩ := bcell hBq; (try simp [go_sem, baseF, deps, dep1, Region.binds] at hbq); (try simp [go_sem, baseF, deps, dep1, Region.binds, NewSl] at hdq); go_simp; first | exact ⟨Below.refl _ _, rfl⟩ | (rw [if_neg]; (focus (exact ⟨Below.refl _ _, rfl⟩)); (focus ((try simp only [ByteArray.size_append]); omega))) | (fail)))
  (refine flow_newSlE ?_; apply Exists.intro; apply Exists.intro; apply Exists.intro; refine ⟨fun A wq hBq hbq hdq => ?_, ?_⟩; focus (obtain ⟨hcq, hfq⟩ := bcell hBq; (try simp [go_sem, baseF, deps, dep1, Region.binds] at hbq); (try simp [go_sem, baseF, deps, dep1, Region.binds, NewSl] at hdq); go_simp; exact ⟨rfl, rfl⟩))
  (refine flow_valE ?_; apply Exists.intro; refine ⟨fun A wq hBq hbq hdq => ?_, ?_⟩; focus (obtain ⟨hcq, hfq⟩ := bcell hBq; (try simp [go_sem, baseF, deps, dep1, Region.binds] at hbq); (try simp [go_sem, baseF, deps, dep1, Region.binds, NewSl] at hdq); go_simp; first | exact ⟨Below.refl _ _, rfl⟩ | (rw [if_neg]; (focus (exact ⟨Below.refl _ _, rfl⟩)); (focus ((try simp only [ByteArray.size_append]); omega))) | ((go_at_call 61; obtain ⟨g, h1, h2, h3⟩ := hdq; rw [h1]; exact impl_oneByte3 g a0 a1 a2 _ (by simp [World.cell?, h3]) (by simp [World.cell?, h3]) (by simp [World.cell?, h3])))))
  iterate 17 (refine flow_valE ?_; apply Exists.intro; refine ⟨fun A wq hBq hbq hdq => ?_, ?_⟩; focus (obtain ⟨hcq, hfq⟩ := bcell hBq; (try simp [go_sem, baseF, deps, dep1, Region.binds] at hbq); (try simp [go_sem, baseF, deps, dep1, Region.binds, NewSl] at hdq); go_simp; first | exact ⟨Below.refl _ _, rfl⟩ | (rw [if_neg]; (focus (exact ⟨Below.refl _ _, rfl⟩)); (focus ((try simp only [ByteArray.size_append]); omega))) | (first | (go_at_call 62; exact (impl_varOf _ _ (by omega) (by omega))))))
  refine fun x w2 hb2 hall => ?_
  simp only [allT] at hall
  simp [frameOf, Act.put, hall]
  clear hall
  have K2 := K1.below hb2
  have HW2 := bl_then HW1 hb2
  clear hb2 K1 la k0 k1 k2 k3 k4 k5 k6 k7 k8 k9 k10 k11 HW1
  have k0 := K2.cell 0 rfl
  have k1 := K2.cell 1 rfl
  have k2 := K2.cell 2 rfl
  have k3 := K2.cell 3 rfl
  have k4 := K2.cell 4 rfl
  have k5 := K2.cell 5 rfl
  have k6 := K2.cell 6 rfl
  have k7 := K2.cell 7 rfl
  have k8 := K2.cell 8 rfl
  have k9 := K2.cell 9 rfl
  have k10 := K2.cell 10 rfl
  have k11 := K2.cell 11 rfl
  have la := K2.lt
  go_wp2_with fail
  refine wp_region_flowW [4, 1] 78 (by kernel_rfl) (by rfl) (by kernel_rfl) (by kernel_rfl) (by kernel_rfl) ?_
  iterate 7 (refine flow_valE ?_; apply Exists.intro; refine ⟨fun A wq hBq hbq hdq => ?_, ?_⟩; focus (obtain ⟨hcq, hfq⟩ := bcell hBq; (try simp [go_sem, baseF, deps, dep1, Region.binds] at hbq); (try simp [go_sem, baseF, deps, dep1, Region.binds, NewSl] at hdq); go_simp; first | exact ⟨Below.refl _ _, rfl⟩ | (rw [if_neg]; (focus (exact ⟨Below.refl _ _, rfl⟩)); (focus ((try simp only [ByteArray.size_append]); omega))) | (first | (go_at_call 63; exact (impl_flagH _ _)))))
  (refine flow_newSlE ?_; apply Exists.intro; apply Exists.intro; apply Exists.intro; refine ⟨fun A wq hBq hbq hdq => ?_, ?_⟩; focus (obtain ⟨hcq, hfq⟩ := bcell hBq; (try simp [go_sem, baseF, deps, dep1, Region.binds] at hbq); (try simp [go_sem, baseF, deps, dep1, Region.binds, NewSl] at hdq); go_simp; exact ⟨rfl, rfl⟩))
  (refine flow_valE ?_; apply Exists.intro; refine ⟨fun A wq hBq hbq hdq => ?_, ?_⟩; focus (obtain ⟨hcq, hfq⟩ := bcell hBq; (try simp [go_sem, baseF, deps, dep1, Region.binds] at hbq); (try simp [go_sem, baseF, deps, dep1, Region.binds, NewSl] at hdq); go_simp; first | exact ⟨Below.refl _ _, rfl⟩ | (rw [if_neg]; (focus (exact ⟨Below.refl _ _, rfl⟩)); (focus ((try simp only [ByteArray.size_append]); omega))) | ((go_at_call 61; obtain ⟨⟨g, h1, h2, h3⟩, -⟩ := hdq; rw [h1]; exact impl_oneByte2 g (flagN a7) (flagN ls) _ (by simp [World.cell?, h3]) (by simp [World.cell?, h3])))))
  iterate 7 (refine flow_valE ?_; apply Exists.intro; refine ⟨fun A wq hBq hbq hdq => ?_, ?_⟩; focus (obtain ⟨hcq, hfq⟩ := bcell hBq; (try simp [go_sem, baseF, deps, dep1, Region.binds] at hbq); (try simp [go_sem, baseF, deps, dep1, Region.binds, NewSl] at hdq); go_simp; first | exact ⟨Below.refl _ _, rfl⟩ | (rw [if_neg]; (focus (exact ⟨Below.refl _ _, rfl⟩)); (focus ((try simp only [ByteArray.size_append]); omega))) | (first | (go_at_call 62; exact (impl_varOf _ _ (by omega) (by omega))))))
  refine fun x w3 hb3 hall => ?_
  simp only [allT] at hall
  simp [frameOf, Act.put, hall]
  clear hall
  rw [head_two]
  have K3 := K2.below hb3
  have HW3 := bl_then HW2 hb3
  clear hb3 K2 la k0 k1 k2 k3 k4 k5 k6 k7 k8 k9 k10 k11 HW2
  obtain ⟨r, hr⟩ : ∃ r, Hid (entsS es 0 es.length (headS a0 a1 a2 a3 a4 a5 a6 a7 ls es.length) = r) := ⟨_, Lib.hid rfl⟩
  have hrz := entsS_size es es.length 0 (headS a0 a1 a2 a3 a4 a5 a6 a7 ls es.length)
  have hhz : (headS a0 a1 a2 a3 a4 a5 a6 a7 ls es.length).size ≤ 30 := by unfold headS; simp only [ByteArray.size_append]; omega
  rw [hr.out] at hrz
  clear s0 s2 s3 s4 s5 s6 s7 s8 s11
  have k8 := K3.cell 8 rfl
  have la := K3.lt
  go_wp2_with fail
  clear k8 la
  go_loopg [4, 54] es.length (fun kq v4 v5 w' => ∃ (i : Nat) (s : ByteArray), v4 = .string s ∧ v5 = .int .i64 (i : Int) ∧ i + kq = es.length ∧ s.size ≤ 30 + 137 * i ∧ Hid (entsS es i kq s = r) ∧ Below w3.heap.size w3 w')
  case atStart => exact ⟨0, _, rfl, rfl, by omega, hhz, hr, Below.refl _ _⟩
  case round =>
    obtain ⟨i, s, rfl, rfl, hik, hsz, hix, hb⟩ := hrel
    have KW := K3.below hb
    have k8 := KW.cell 8 rfl
    have k9 := KW.cell 9 rfl
    have k10 := KW.cell 10 rfl
    have la := KW.lt
    cases gk with
    | zero =>
      have hlt : ¬ ((i : Int) < (es.length : Int)) := by omega
      have hrv := hix.out
      simp only [entsS] at hrv
      subst hrv
      clear hix
      have HW := bl_then HW3 hb
      have cz := confT_size cf
      have cz1 := shortS_size (confT cf) (by omega)
      have cz2 := shortS_size d (by omega)
      have cl : cf.length ≤ 4 := by rcases b9 with h | h; exact (confOk_short h).2; omega
      go_wp2_with fail
      refine wp_region_flow [4, 1] 78 (by kernel_rfl) (by rfl) (by kernel_rfl) (by kernel_rfl) (by kernel_rfl) ?_
      iterate 12 (refine flow_valE ?_; apply Exists.intro; refine ⟨fun A wq hBq hbq hdq => ?_, ?_⟩; focus (obtain ⟨hcq, hfq⟩ := bcell hBq; (try simp [go_sem, baseF, deps, dep1, Region.binds] at hbq); (try simp [go_sem, baseF, deps, dep1, Region.binds, NewSl] at hdq); go_simp; first | exact ⟨Below.refl _ _, rfl⟩ | (rw [if_neg]; (focus (exact ⟨Below.refl _ _, rfl⟩)); (focus ((try simp only [ByteArray.size_append]); omega))) | (first | (go_at_call 61; exact (impl_oneByteC _ _ cf _ (Kd.C_below HR9.out (bl_then HW hBq)) hc9 hcf)) | (go_at_call 64; exact (impl_shortOf _ _ (by omega))))))
      refine fun x w4 hb4 hall => ?_
      simp only [allT] at hall
      simp [frameOf, Act.put, hall]
      clear hall
      go_wp2
      go_ret2
      refine ⟨?_, bl_then HW hb4⟩
      rw [encS, hr.out]
      rfl
    | succ n =>
      have hlt : (i : Int) < (es.length : Int) := by omega
      obtain ⟨ad, e1, x0, x1, x2⟩ := at_T54 (Kd.C_below HR8.out (bl_then HW3 hb)) i (by omega) hlt
      subst e1
      simp only [Int.toNat_natCast] at x0 x1 x2
      have lx : (ad.add (i * 3)).block < wr.heap.size := World.block_lt_of_cell? wr _ x0
      have E1 := Lib.hid (show wrap64 ((i : Int) + 1) = ((i + 1 : Nat) : Int) from by unfold wrap64; omega)
      have hrv := hix.out
      simp only [entsS] at hrv
      have hix2 := Lib.hid hrv
      clear hrv hix
      have hSi := hS i
      have hze : (shortS (entryT 1 (rd_T54 es (i : Int)).f0 (rd_T54 es (i : Int)).f1 (rd_T54 es (i : Int)).f2)).size ≤ 137 := entS_size es i
      have hzt := entryT_size 1 (rd_T54 es (i : Int)).f0 (rd_T54 es (i : Int)).f1 (rd_T54 es (i : Int)).f2
      go_wp2_with fail
      go_at_call 21
      with_reducible refine (impl_EntryText 1 _ _ _ _ (by omega)).mono ?_
      rintro e w4 ⟨rfl, hb4⟩
      have hb5 : Below w3.heap.size w3 w4 := bl_then hb (by repeat (first | exact Below.refl _ _ | apply bl_alloc | apply bl_drewN | apply bl_drew | refine bl_set ?_ (by simp) | refine bl_then ?_ (by assumption)))
      clear hb hb4 KW k8 k9 k10 la x0 x1 x2 lx
      go_wp2_with fail
      go_at_call 64
      refine (impl_shortOf _ _ (by omega)).mono ?_
      rintro e w5 ⟨rfl, hb6⟩
      have hb7 := bl_then hb5 hb6
      clear hb5 hb6
      go_wp2_with fail
      go_roundg n
      case measure => omega
      case rel => exact ⟨i + 1, _, rfl, by first | rfl | (rw [E1.out]), by omega, by simp only [ByteArray.size_append]; omega, hix2, hb7⟩

end Go.Proofs.Ytdjikjmjajlgcaa
end

/-! ### YtdjikjmjajlgcaaMarkEqFnExactEncode -/
section
namespace Go.Proofs.Ytdjikjmjajlgcaa.PFnExactEncode
open Go.RowKit Go.Proofs.YtdjikjmjajlgcaaW.PrintWords
set_option linter.unusedSimpArgs false
set_option linter.unusedVariables false

theorem eqI_l0 (xs : List Int) (hl : xs.length ≤ 1099511627776) : ∀ (n k i : Nat), n + i = xs.length → n < k → laws_eqIntS.l0 k xs xs i = some true
  | _, 0, _, _, hk => by omega
  | 0, k + 1, i, h, hk => by
    unfold laws_eqIntS.l0
    rw [if_neg (by omega)]
  | n + 1, k + 1, i, h, hk => by
    have e1 : wrap64 ((i : Int) + 1) = ((i + 1 : Nat) : Int) := by unfold wrap64; omega
    unfold laws_eqIntS.l0
    rw [if_pos (by omega), if_pos (by omega), if_pos (by omega), if_pos rfl, e1]
    clear e1
    exact eqI_l0 xs hl n k (i + 1) (by omega) (by omega)
theorem eqI_f (xs : List Int) (k : Nat) (hk : xs.length < k) (hl : xs.length ≤ 1099511627776) : laws_eqIntS.f k xs xs = some true := by
  unfold laws_eqIntS.f
  rw [if_pos rfl]
  exact eqI_l0 xs hl xs.length k 0 (by omega) hk
end Go.Proofs.Ytdjikjmjajlgcaa.PFnExactEncode
end

/-! ### YtdjikjmjajlgcaaMsgEq -/
section
namespace Go.Proofs.Ytdjikjmjajlgcaa
open Go.RowKit Go.Proofs.YtdjikjmjajlgcaaW.PrintWords PFnExactEncode
set_option linter.unusedSimpArgs false
set_option linter.unusedVariables false

theorem eqE_l0 (xs : List S54) : ∀ (n k i : Nat), n + i = xs.length → n < k → xs.length < 4611686018427387904 → laws_eqEntryS.l0 k xs xs i = some true
  | 0, 0, _, _, hk, _ => by omega
  | 0, k + 1, i, h, hk, hl => by
    unfold laws_eqEntryS.l0
    rw [if_neg (by omega)]
  | n + 1, 0, _, _, hk, _ => by omega
  | n + 1, k + 1, i, h, hk, hl => by
    have e1 : wrap64 ((i : Int) + 1) = ((i + 1 : Nat) : Int) := by unfold wrap64; omega
    unfold laws_eqEntryS.l0 laws_eqEntry.f
    rw [if_pos (by omega), if_pos (by omega), if_pos (by omega), if_pos rfl, if_pos rfl, if_pos rfl, Option.bind_some, if_pos rfl, e1]
    clear e1
    exact eqE_l0 xs n k (i + 1) (by omega) (by omega) hl
theorem eqI_l0 (xs : List Int) : ∀ (n k i : Nat), n + i = xs.length → n < k → xs.length < 4611686018427387904 → laws_eqIntS.l0 k xs xs i = some true
  | 0, 0, _, _, hk, _ => by omega
  | 0, k + 1, i, h, hk, hl => by
    unfold laws_eqIntS.l0
    rw [if_neg (by omega)]
  | n + 1, 0, _, _, hk, _ => by omega
  | n + 1, k + 1, i, h, hk, hl => by
    have e1 : wrap64 ((i : Int) + 1) = ((i + 1 : Nat) : Int) := by unfold wrap64; omega
    unfold laws_eqIntS.l0
    rw [if_pos (by omega), if_pos (by omega), if_pos (by omega), if_pos rfl, e1]
    clear e1
    exact eqI_l0 xs n k (i + 1) (by omega) (by omega) hl
theorem eqEntryS_C (A : Option Addr) (a : Nat) (B : Option Addr) (b : Nat) (xs : List S54) (w : World) (hl : xs.length ≤ 1048576) (ha : xs.length ≤ a) (hb : xs.length ≤ b) (hA : Kd.C k54 w A xs.length xs) (hB : Kd.C k54 w B xs.length xs) :
    Calls Try.prog 65 #[.slice A xs.length a, .slice B xs.length b] w fun e w' => e = .returned (.bool true) ∧ Below w.heap.size w w' := by
  refine (PFnExactEncode.laws_eqEntryS.calls 1048577 A a xs B b xs true w hA ha hB hb ?_).mono ?_
  · unfold laws_eqEntryS.f
    rw [if_pos rfl]
    exact eqE_l0 xs xs.length 1048577 0 (by omega) (by omega) (by omega)
  · rintro e w' h
    first | exact h | (obtain ⟨rfl, n, rfl⟩ := h; exact ⟨rfl, bl_drewN (Below.refl _ _) n⟩)
theorem eqIntS_C (A : Option Addr) (a : Nat) (B : Option Addr) (b : Nat) (xs : List Int) (w : World) (hl : xs.length ≤ 1048576) (ha : xs.length ≤ a) (hb : xs.length ≤ b) (hA : Kd.C (Kd.int .i64) w A xs.length xs) (hB : Kd.C (Kd.int .i64) w B xs.length xs) :
    Calls Try.prog 66 #[.slice A xs.length a, .slice B xs.length b] w fun e w' => e = .returned (.bool true) ∧ Below w.heap.size w w' := by
  refine (PFnExactEncode.laws_eqIntS.calls 1048577 A a xs B b xs true w hA ha hB hb (PFnExactEncode.eqI_f xs 1048577 (by omega) (by omega))).mono ?_
  rintro e w' h
  first | exact h | (obtain ⟨rfl, n, rfl⟩ := h; exact ⟨rfl, bl_drewN (Below.refl _ _) n⟩)
set_option maxHeartbeats 1000000 in
set_option maxRecDepth 100000 in
theorem laws_eqMC (es : List S54) (a0 a1 a2 a3 a4 a5 a6 : Int) (a7 : Bool) (cf : List Int) (d : ByteArray) (ls : Bool) (hl : es.length ≤ 1048576) (hcl : cf.length ≤ 1048576) (B8 : Option Addr) (b8 : Nat) (B9 : Option Addr) (b9 : Nat) (D8 : Option Addr) (d8 : Nat) (D9 : Option Addr) (d9 : Nat) (w : World) (h8 : es.length ≤ b8) (h9 : cf.length ≤ b9) (hC8 : Kd.C k54 w B8 es.length es) (hC9 : Kd.C (Kd.int .i64) w B9 cf.length cf)
    (g8 : es.length ≤ d8) (g9 : cf.length ≤ d9) (gC8 : Kd.C k54 w D8 es.length es) (gC9 : Kd.C (Kd.int .i64) w D9 cf.length cf) :
    Calls Try.prog 13 #[.agg #[.int .i64 a0, .int .i64 a1, .int .i64 a2, .int .i64 a3, .int .i64 a4, .int .i64 a5, .int .i64 a6, .bool a7, .slice B8 es.length b8, .slice B9 cf.length b9, .string d, .bool ls], .agg #[.int .i64 a0, .int .i64 a1, .int .i64 a2, .int .i64 a3, .int .i64 a4, .int .i64 a5, .int .i64 a6, .bool a7, .slice D8 es.length d8, .slice D9 cf.length d9, .string d, .bool ls]] w fun e w' => e = .returned (.bool true) ∧ Below w.heap.size w w' := by
  have HB8 := Lib.hid hC8
  have HB9 := Lib.hid hC9
  have HD8 := Lib.hid gC8
  have HD9 := Lib.hid gC9
  clear hC8 hC9 gC8 gC9
  go_enter Try.func13, Try.ntmps13
  go_wp2_with (first
    | (go_at_call 65; refine (eqEntryS_C _ _ _ _ es _ hl h8 g8 (Kd.C_below HB8.out (by repeat (first | exact Below.refl _ _ | apply bl_alloc | apply bl_drewN | apply bl_drew | refine bl_set ?_ (by simp) | refine bl_then ?_ (by assumption)))) (Kd.C_below HD8.out (by repeat (first | exact Below.refl _ _ | apply bl_alloc | apply bl_drewN | apply bl_drew | refine bl_set ?_ (by simp) | refine bl_then ?_ (by assumption))))).mono ?_; rintro e w' ⟨rfl, hb⟩; obtain ⟨hc, hf⟩ := bcell hb; have hz : w.heap.size + 1 < w'.heap.size := (by have := hb.size; simp at this; omega); have hz2 : w.heap.size < w'.heap.size := (by omega))
    | (go_at_call 66; refine (eqIntS_C _ _ _ _ cf _ hcl h9 g9 (Kd.C_below HB9.out (by repeat (first | exact Below.refl _ _ | apply bl_alloc | apply bl_drewN | apply bl_drew | refine bl_set ?_ (by simp) | refine bl_then ?_ (by assumption)))) (Kd.C_below HD9.out (by repeat (first | exact Below.refl _ _ | apply bl_alloc | apply bl_drewN | apply bl_drew | refine bl_set ?_ (by simp) | refine bl_then ?_ (by assumption))))).mono ?_; rintro e w' ⟨rfl, hb⟩; obtain ⟨hc, hf⟩ := bcell hb; have hz : w.heap.size + 1 < w'.heap.size := (by have := hb.size; (try simp at this); omega); have hz2 : w.heap.size < w'.heap.size := (by omega)))
  all_goals
    go_ret
    exact ⟨rfl, (by repeat (first | exact Below.refl _ _ | apply bl_alloc | apply bl_drewN | apply bl_drew | refine bl_set ?_ (by simp) | refine bl_then ?_ (by assumption)))⟩
end Go.Proofs.Ytdjikjmjajlgcaa
end

/-! ### YtdjikjmjajlgcaaMsgSz -/
section
namespace Go.Proofs.Ytdjikjmjajlgcaa
open Go.RowKit Go.Proofs.YtdjikjmjajlgcaaW.PrintWords PFnExactEncode
set_option linter.unusedSimpArgs false
set_option linter.unusedVariables false

def conv (x : S167) : S54 := ⟨x.f0, x.f1, x.f2⟩
theorem rdL (xs : List S167) (i : Nat) (h : i < xs.length) : rd_T167 xs i = xs[i] := by simp [rd_T167, h]
theorem rdE (xs : List S54) (i : Nat) (h : i < xs.length) : rd_T54 xs i = xs[i] := by simp [rd_T54, h]
theorem rdI (xs : List Int) (i : Nat) (h : i < xs.length) : rd xs i = xs[i] := by simp [rd, h]

theorem toE_l0 (xs : List S167) : ∀ (n k i : Nat) (acc : List S54), n + i = xs.length → acc = (xs.take i).map conv ++ List.replicate n z54 → n < k → xs.length < 4611686018427387904 → laws_toEntryS.l0 k xs acc i = some (xs.map conv)
  | 0, 0, _, _, _, _, hk, _ => by omega
  | 0, k + 1, i, acc, h, ha, hk, hl => by
    unfold laws_toEntryS.l0
    rw [if_neg (by omega), ha, List.take_of_length_le (by omega)]
    simp
  | n + 1, 0, _, _, _, _, hk, _ => by omega
  | n + 1, k + 1, i, acc, h, ha, hk, hl => by
    have e1 : wrap64 ((i : Int) + 1) = ((i + 1 : Nat) : Int) := by unfold wrap64; omega
    have hlen : acc.length = xs.length := by rw [ha]; simp; omega
    unfold laws_toEntryS.l0
    rw [if_pos (by omega), if_pos (by omega), laws_toEntry.f, Option.bind_some, if_pos (by omega), e1]
    clear e1
    refine toE_l0 xs n k (i + 1) _ (by omega) ?_ (by omega) hl
    have hi : i < xs.length := by omega
    rw [ha, Int.toNat_natCast, List.replicate_succ, List.set_append_right _ _ (by simp; omega), List.take_succ_eq_append_getElem hi, rdL xs i hi]
    have : i - (List.map conv (List.take i xs)).length = 0 := by simp; omega
    rw [this]
    simp only [List.set_cons_zero, List.map_append, List.map_cons, List.map_nil, List.append_assoc, List.cons_append, List.nil_append]
    rfl
theorem toE_f (xs : List S167) (k : Nat) (hk : xs.length < k) (hl : xs.length ≤ 1048576) : laws_toEntryS.f k xs = some (xs.map conv) := by
  unfold laws_toEntryS.f
  rw [if_pos (by omega), if_pos (by omega), Int.toNat_natCast]
  exact toE_l0 xs xs.length k 0 _ (by omega) (by simp) hk (by omega)
theorem toI_l0 (xs : List Int) : ∀ (n k i : Nat) (acc : List Int), n + i = xs.length → acc = xs.take i ++ List.replicate n 0 → n < k → xs.length < 4611686018427387904 → laws_toIntS.l0 k xs acc i = some xs
  | 0, 0, _, _, _, _, hk, _ => by omega
  | 0, k + 1, i, acc, h, ha, hk, hl => by
    unfold laws_toIntS.l0
    rw [if_neg (by omega), ha, List.take_of_length_le (by omega)]
    simp
  | n + 1, 0, _, _, _, _, hk, _ => by omega
  | n + 1, k + 1, i, acc, h, ha, hk, hl => by
    have e1 : wrap64 ((i : Int) + 1) = ((i + 1 : Nat) : Int) := by unfold wrap64; omega
    have hlen : acc.length = xs.length := by rw [ha]; simp; omega
    unfold laws_toIntS.l0
    rw [if_pos (by omega), if_pos (by omega), if_pos (by omega), e1]
    clear e1
    refine toI_l0 xs n k (i + 1) _ (by omega) ?_ (by omega) hl
    have hi : i < xs.length := by omega
    rw [ha, Int.toNat_natCast, List.replicate_succ, List.set_append_right _ _ (by simp; omega), List.take_succ_eq_append_getElem hi, rdI xs i hi]
    have : i - (List.take i xs).length = 0 := by simp; omega
    rw [this]
    simp only [List.set_cons_zero, List.append_assoc, List.cons_append, List.nil_append]
theorem toI_f (xs : List Int) (k : Nat) (hk : xs.length < k) (hl : xs.length ≤ 1048576) : laws_toIntS.f k xs = some xs := by
  unfold laws_toIntS.f
  rw [if_pos (by omega), if_pos (by omega), Int.toNat_natCast]
  exact toI_l0 xs xs.length k 0 _ (by omega) (by simp) hk (by omega)

theorem szE_l0 (xs : List S167) (hG : ∀ x ∈ xs, x.f2.size ≤ 2 ^ 63 - 1) : ∀ (n k i : Nat) (left : Int), n + i = xs.length → n < k → xs.length < 4611686018427387904 → 0 ≤ left → left ≤ 1048576 →
    ∃ r, laws_szEntryS.l0 k xs left i = some r ∧ (r < 0 ∨ (0 ≤ r ∧ r ≤ 1048576 ∧ ∀ j : Nat, i ≤ j → j < xs.length → (rd_T167 xs j).f2.size ≤ 1048576))
  | 0, 0, _, _, _, hk, _, _, _ => by omega
  | 0, k + 1, i, left, h, hk, hl, h0, h1 => by
    unfold laws_szEntryS.l0
    rw [if_neg (by omega)]
    exact ⟨_, rfl, .inr ⟨h0, h1, fun j hj hj2 => by omega⟩⟩
  | n + 1, 0, _, _, _, hk, _, _, _ => by omega
  | n + 1, k + 1, i, left, h, hk, hl, h0, h1 => by
    have e1 : wrap64 ((i : Int) + 1) = ((i + 1 : Nat) : Int) := by unfold wrap64; omega
    have hi : i < xs.length := by omega
    have hg : (rd_T167 xs i).f2.size ≤ 2 ^ 63 - 1 := by rw [rdL xs i hi]; exact hG _ (List.getElem_mem hi)
    have e2 : wrap64 (left - ((rd_T167 xs i).f2.size : Int)) = left - ((rd_T167 xs i).f2.size : Int) := by unfold wrap64; omega
    unfold laws_szEntryS.l0 laws_szEntry.f
    rw [if_pos (by omega), if_pos (by omega), e1, e2]
    clear e1 e2
    by_cases hlt : left - ((rd_T167 xs i).f2.size : Int) < 0
    · rw [if_pos hlt, Option.bind_some, if_pos (by omega)]
      exact ⟨_, rfl, .inl (by omega)⟩
    · rw [if_neg hlt, Option.bind_some, if_neg hlt]
      obtain ⟨r, hr, hh⟩ := szE_l0 xs hG n k (i + 1) _ (by omega) (by omega) hl (by omega) (show left - ((rd_T167 xs i).f2.size : Int) ≤ 1048576 by omega)
      refine ⟨r, hr, hh.imp id fun ⟨a, b, c⟩ => ⟨a, b, fun j hj hj2 => ?_⟩⟩
      by_cases hji : j = i
      · subst hji; omega
      · exact c j (by omega) hj2
theorem sz_f (xs : List S167) (cf : List Int) (d : ByteArray) (a0 a1 a2 a3 a4 a5 a6 : Int) (a7 ls : Bool) (hG : ∀ x ∈ xs, x.f2.size ≤ 2 ^ 63 - 1) (hl : xs.length ≤ 2 ^ 63 - 1) (hc : cf.length ≤ 2 ^ 63 - 1) (hd : d.size ≤ 2 ^ 63 - 1) :
    ∃ r, laws_szMessage.f 3145735 a0 a1 a2 a3 a4 a5 a6 a7 xs cf d ls 1048576 = some r ∧ (r < 0 ∨ (xs.length ≤ 1048576 ∧ cf.length ≤ 1048576 ∧ d.size ≤ 1048576 ∧ ∀ j : Nat, j < xs.length → (rd_T167 xs j).f2.size ≤ 1048576)) := by
  unfold laws_szMessage.f laws_szEntryS.f laws_szIntS.f
  have e1 : wrap64 (1048576 - (xs.length : Int)) = 1048576 - (xs.length : Int) := by unfold wrap64; omega
  rw [e1]
  clear e1
  by_cases h1 : (1048576 : Int) - (xs.length : Int) < 0
  · rw [if_pos h1, Option.bind_some, if_pos (by omega)]
    exact ⟨_, rfl, .inl (by omega)⟩
  · rw [if_neg h1]
    obtain ⟨r, hr, hh⟩ := szE_l0 xs hG xs.length 3145735 0 (1048576 - (xs.length : Int)) (by omega) (by omega) (by omega) (by omega) (by omega)
    have hr' : laws_szEntryS.l0 3145735 xs (1048576 - (xs.length : Int)) 0 = some r := hr
    rw [hr', Option.bind_some]
    rcases hh with hh | ⟨ha, hb, hcc⟩
    · rw [if_pos hh]
      exact ⟨_, rfl, .inl (by omega)⟩
    · rw [if_neg (by omega)]
      have e2 : wrap64 (r - (cf.length : Int)) = r - (cf.length : Int) := by unfold wrap64; omega
      rw [e2]
      clear e2
      by_cases h2 : r - (cf.length : Int) < 0
      · rw [if_pos h2, Option.bind_some, if_pos (by omega)]
        exact ⟨_, rfl, .inl (by omega)⟩
      · rw [if_neg h2, Option.bind_some, if_neg h2]
        have e3 : wrap64 (r - (cf.length : Int) - (d.size : Int)) = r - (cf.length : Int) - (d.size : Int) := by unfold wrap64; omega
        rw [e3]
        clear e3
        by_cases h3 : r - (cf.length : Int) - (d.size : Int) < 0
        · rw [if_pos h3]
          exact ⟨_, rfl, .inl (by omega)⟩
        · rw [if_neg h3]
          exact ⟨_, rfl, .inr ⟨by omega, by omega, by omega, fun j hj => hcc j (by omega) hj⟩⟩

theorem toM_f (xs : List S167) (cf : List Int) (d : ByteArray) (a0 a1 a2 a3 a4 a5 a6 : Int) (a7 ls : Bool) (hl : xs.length ≤ 1048576) (hc : cf.length ≤ 1048576) :
    laws_toMessage.f 3145735 a0 a1 a2 a3 a4 a5 a6 a7 xs cf d ls = some (a0, a1, a2, a3, a4, a5, a6, a7, xs.map conv, cf, d, ls) := by
  unfold laws_toMessage.f
  rw [toE_f xs _ (by omega) hl, toI_f cf _ (by omega) hc]
  rfl
theorem short_conv (xs : List S167) (h : ∀ j : Nat, j < xs.length → (rd_T167 xs j).f2.size ≤ 1048576) : Short (xs.map conv) := by
  intro i
  by_cases hi : i < xs.length
  · rw [rdE _ i (by simpa using hi)]
    have := h i hi
    rw [rdL xs i hi] at this
    simpa [conv] using this
  · have : rd_T54 (xs.map conv) i = z54 := by simp [rd_T54, hi]
    rw [this]
    exact Nat.zero_le _
theorem opens_entry (W : World) : Opens Try.prog W 167 k167 (fun x => x.f2.size ≤ maxLen) :=
  Opens.imp (opens_iso (d := Kd.pair (Kd.int .i64) (Kd.pair (Kd.int .i64) Kd.string)) (p := fun x : S167 => (x.f0, x.f1, x.f2)) (fun t => ⟨t.1, t.2.1, t.2.2⟩) (fun _ => rfl)
    (opens_struct Try.underlying167 (by kernel_rfl)
      (opensL_cons rfl (opens_int Try.underlying3) (by kernel_rfl) (opensL_cons rfl (opens_int Try.underlying3) (by kernel_rfl) (opensL_last rfl (opens_string Try.underlying9) (by kernel_rfl)))))) (fun _ h => h.2.2)
theorem opens_msg (W : World) : Opens Try.prog W 25 (Kd.pair (Kd.int .i64) (Kd.pair (Kd.int .i64) (Kd.pair (Kd.int .i64) (Kd.pair (Kd.int .i64) (Kd.pair (Kd.int .i64) (Kd.pair (Kd.int .i64) (Kd.pair (Kd.int .i64) (Kd.pair Kd.bool (Kd.pair (Kd.slice 167 k167) (Kd.pair (Kd.slice 3 (Kd.int .i64)) (Kd.pair Kd.string Kd.bool)))))))))))
    (fun x => (x.2.2.2.2.2.2.2.2.1.length ≤ maxLen ∧ ∀ y ∈ x.2.2.2.2.2.2.2.2.1, y.f2.size ≤ maxLen) ∧ x.2.2.2.2.2.2.2.2.2.1.length ≤ maxLen ∧ x.2.2.2.2.2.2.2.2.2.2.1.size ≤ maxLen) := by
  exact Opens.imp (opens_struct Try.underlying25 (by kernel_rfl)
    (opensL_cons rfl (opens_int Try.underlying3) (by kernel_rfl)
    (opensL_cons rfl (opens_int Try.underlying3) (by kernel_rfl)
    (opensL_cons rfl (opens_int Try.underlying3) (by kernel_rfl)
    (opensL_cons rfl (opens_int Try.underlying3) (by kernel_rfl)
    (opensL_cons rfl (opens_int Try.underlying3) (by kernel_rfl)
    (opensL_cons rfl (opens_int Try.underlying3) (by kernel_rfl)
    (opensL_cons rfl (opens_int Try.underlying3) (by kernel_rfl)
    (opensL_cons rfl (opens_bool Try.underlying4) (by kernel_rfl)
    (opensL_cons rfl (opens_slice Try.underlying22 (by kernel_rfl) (opens_entry W)) (by kernel_rfl)
    (opensL_cons rfl (opens_slice Try.underlying23 (by kernel_rfl) (opens_int Try.underlying3)) (by kernel_rfl)
    (opensL_cons rfl (opens_string Try.underlying9) (by kernel_rfl)
    (opensL_last rfl (opens_bool Try.underlying4) (by kernel_rfl)))))))))))))) (fun _ h => ⟨h.2.2.2.2.2.2.2.2.1, h.2.2.2.2.2.2.2.2.2.1.1, h.2.2.2.2.2.2.2.2.2.2.1⟩)

theorem arg_msg {W : World} {v : Value} (h : ArgOf Try.prog W 25 v) : ∃ (a0 a1 a2 a3 a4 a5 a6 : Int) (a7 : Bool) (A8 : Option Addr) (c8 : Nat) (es : List S167) (A9 : Option Addr) (c9 : Nat) (cf : List Int) (d : ByteArray) (ls : Bool),
    v = .agg #[.int .i64 a0, .int .i64 a1, .int .i64 a2, .int .i64 a3, .int .i64 a4, .int .i64 a5, .int .i64 a6, .bool a7, .slice A8 es.length c8, .slice A9 cf.length c9, .string d, .bool ls] ∧
    es.length ≤ c8 ∧ Kd.C k167 W A8 es.length es ∧ cf.length ≤ c9 ∧ Kd.C (Kd.int .i64) W A9 cf.length cf ∧ (es.length ≤ maxLen ∧ ∀ y ∈ es, y.f2.size ≤ maxLen) ∧ cf.length ≤ maxLen ∧ d.size ≤ maxLen := by
  obtain ⟨⟨a0, a1, a2, a3, a4, a5, a6, a7, es, cf, d, ls⟩, cs, rfl, hK, hG⟩ := arg_struct Try.underlying25 (opens_msg W) h
  obtain ⟨_, _, e0, rfl, _, _, rfl, rfl, _, _, rfl, rfl, _, _, rfl, rfl, _, _, rfl, rfl, _, _, rfl, rfl, _, _, rfl, rfl, _, _, rfl, rfl, _, _, rfl, ⟨A8, c8, rfl, h8, hC8⟩, _, _, rfl, ⟨A9, c9, rfl, h9, hC9⟩, _, _, rfl, rfl, rfl⟩ := hK
  refine ⟨a0, a1, a2, a3, a4, a5, a6, a7, A8, c8, es, A9, c9, cf, d, ls, ?_, h8, hC8, h9, hC9, hG⟩
  cases cs
  simp_all

theorem laws_toM (a0 a1 a2 a3 a4 a5 a6 : Int) (a7 : Bool) (A8 : Option Addr) (c8 : Nat) (es : List S167) (fs : List S54) (A9 : Option Addr) (c9 : Nat) (cf : List Int) (d : ByteArray) (ls : Bool) (hfs : Hid (es.map conv = fs)) (w : World) (h8 : es.length ≤ c8) (hC8 : Kd.C k167 w A8 es.length es) (h9 : cf.length ≤ c9) (hC9 : Kd.C (Kd.int .i64) w A9 cf.length cf)
    (hl : es.length ≤ 1048576) (hc : cf.length ≤ 1048576) :
    Calls Try.prog 11 #[.agg #[.int .i64 a0, .int .i64 a1, .int .i64 a2, .int .i64 a3, .int .i64 a4, .int .i64 a5, .int .i64 a6, .bool a7, .slice A8 es.length c8, .slice A9 cf.length c9, .string d, .bool ls]] w fun e w' => ∃ (B8 : Option Addr) (b8 : Nat) (B9 : Option Addr) (b9 : Nat),
      e = .returned (.agg #[.int .i64 a0, .int .i64 a1, .int .i64 a2, .int .i64 a3, .int .i64 a4, .int .i64 a5, .int .i64 a6, .bool a7, .slice B8 fs.length b8, .slice B9 cf.length b9, .string d, .bool ls]) ∧ fs.length ≤ b8 ∧ Hid (Kd.C k54 w' B8 fs.length fs) ∧ cf.length ≤ b9 ∧ Hid (Kd.C (Kd.int .i64) w' B9 cf.length cf) ∧ Below w.heap.size w w' := by
  obtain rfl := hfs.out
  refine (PFnExactEncode.laws_toMessage.calls 3145735 a0 a1 a2 a3 a4 a5 a6 a7 A8 c8 es A9 c9 cf d ls _ _ _ _ _ _ _ _ _ _ _ _ w hC8 h8 hC9 h9 (toM_f es cf d a0 a1 a2 a3 a4 a5 a6 a7 ls hl hc)).mono ?_
  rintro e w' ⟨v8, v9, rfl, hR8, hR9, hb⟩
  obtain ⟨B8, b8, rfl, hb8, hD8⟩ := Kd.R_reads hR8
  obtain ⟨B9, b9, rfl, hb9, hD9⟩ := Kd.R_reads hR9
  exact ⟨B8, b8, B9, b9, rfl, hb8, Lib.hid hD8, hb9, Lib.hid hD9, hb⟩
/-- A message that was copied. -/
def MsgR (a0 a1 a2 a3 a4 a5 a6 : Int) (a7 : Bool) (fs : List S54) (cf : List Int) (d : ByteArray) (ls : Bool) : VPred := fun w v => ∃ (B8 : Option Addr) (b8 : Nat) (B9 : Option Addr) (b9 : Nat),
  v = .agg #[.int .i64 a0, .int .i64 a1, .int .i64 a2, .int .i64 a3, .int .i64 a4, .int .i64 a5, .int .i64 a6, .bool a7, .slice B8 fs.length b8, .slice B9 cf.length b9, .string d, .bool ls] ∧ fs.length ≤ b8 ∧ cf.length ≤ b9 ∧
    Kd.C k54 w B8 fs.length fs ∧ Kd.C (Kd.int .i64) w B9 cf.length cf
theorem vmono_msgR (a0 a1 a2 a3 a4 a5 a6 : Int) (a7 : Bool) (fs : List S54) (cf : List Int) (d : ByteArray) (ls : Bool) : VMono (MsgR a0 a1 a2 a3 a4 a5 a6 a7 fs cf d ls) := by
  rintro w w' v ⟨B8, b8, B9, b9, hv, h8, h9, c8, c9⟩ hb
  exact ⟨B8, b8, B9, b9, hv, h8, h9, Kd.C_below c8 hb, Kd.C_below c9 hb⟩

end Go.Proofs.Ytdjikjmjajlgcaa
end
