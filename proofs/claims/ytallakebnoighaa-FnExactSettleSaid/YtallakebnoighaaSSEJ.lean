import Derived.Test.YtallakebnoighaaSSEH
import Derived.Test.YtallakebnoighaaSSEI
import Derived.Test.YtallakebnoighaaSSEE
import Derived.Lib.SliceRun

section
namespace Go.Proofs.Ytallakebnoighaa.PFnExactSettle
open Go.RowKit Go.Proofs.YtallakebnoighaaW.PrintWords
set_option linter.unusedSimpArgs false
set_option linter.unusedVariables false
theorem inHS (n lo hi : Int) (b : Bool) (w : World) (h : Hid (inB n lo hi = b)) :
    Calls Try.prog 27 #[.int .i64 n, .int .i64 lo, .int .i64 hi] w fun e w' => e = .returned (.bool b) ∧ Below w.heap.size w w' := by
  have := spec_l01In n lo hi w
  rw [h.out] at this
  exact this.mono (by rintro e w' ⟨rfl, rfl⟩; exact ⟨rfl, Below.refl _ _⟩)
theorem confHS (A : Option Addr) (c : Nat) (xs : List Int) (b : Bool) (w : World) (h : Hid (confOk xs = b)) (hr : Kd.C (Kd.int .i64) w A xs.length xs) (hc : xs.length ≤ c) (hl : xs.length ≤ 1048576) :
    Calls Try.prog 28 #[.slice A xs.length c] w fun e w' => e = .returned (.bool b) ∧ Below w.heap.size w w' := by
  have hf := sconf_f xs (xs.length + 1) (by omega) (by omega)
  rw [h.out] at hf
  refine (spec_ConfOk.calls (xs.length + 1) A c xs _ w hr hc hf).mono ?_
  rintro e w' h
  first | exact h | (obtain ⟨rfl, n, rfl⟩ := h; exact ⟨rfl, bl_drewN (Below.refl _ _) n⟩)
theorem slast_C (s t : Int) (A : Option Addr) (c : Nat) (xs : List S87) (w : World) (hs : 0 ≤ s ∧ s ≤ 2000000) (hl : xs.length ≤ 1048576) (hr : Kd.C k87 w A xs.length xs) (hc : xs.length ≤ c) :
    Calls Try.prog 30 #[.agg #[.int .i64 s, .int .i64 t, .slice A xs.length c]] w fun e w' => e = .returned (.tuple #[.int .i64 (s + (xs.length : Int)), .int .i64 (lastT t xs)]) ∧ Below w.heap.size w w' := by
  refine (spec_LogLast.calls s t A c xs _ _ w hr hc (slast_f s t xs hs hl)).mono ?_
  rintro e w' h
  first | exact h | (obtain ⟨rfl, n, rfl⟩ := h; exact ⟨rfl, bl_drewN (Below.refl _ _) n⟩)
theorem riseHS (A : Option Addr) (c : Nat) (xs : List Int) (b : Bool) (w : World) (h : Hid (rises xs 0 xs.length = b)) (hr : Kd.C (Kd.int .i64) w A xs.length xs) (hc : xs.length ≤ c) (hl : xs.length ≤ 1048576) :
    Calls Try.prog 31 #[.slice A xs.length c, .int .i64 1, .int .i64 4] w fun e w' => e = .returned (.bool b) ∧ Below w.heap.size w w' := by
  have hf : spec_l05Rise.f (xs.length + 1) xs 1 4 = some (rises xs 0 xs.length) := rise_l0 xs xs.length (xs.length + 1) 0 (by omega) (by omega) (by omega)
  rw [h.out] at hf
  refine (spec_l05Rise.calls (xs.length + 1) A c xs 1 4 _ w hr hc hf).mono ?_
  rintro e w' h
  first | exact h | (obtain ⟨rfl, n, rfl⟩ := h; exact ⟨rfl, bl_drewN (Below.refl _ _) n⟩)
theorem confOfS_C (n : NF) (A5 : Option Addr) (c5 : Nat) (A8 : Option Addr) (c8 : Nat) (A12 : Option Addr) (c12 : Nat) (A13 : Option Addr) (c13 : Nat) (w : World) (hz : NodeZ n) (h : NodeC n A5 c5 A8 c8 A12 c12 A13 c13 w) (hl : logOkB n.st n.tm n.es = true) :
    Calls Try.prog 33 #[.agg #[.int .i64 n.id, .int .i64 n.term, .int .i64 n.vote, .int .i64 n.role, .int .i64 n.lead, .slice A5 n.cf.length c5, .int .i64 n.st, .int .i64 n.tm, .slice A8 n.es.length c8, .int .i64 n.cm, .int .i64 n.ck, .int .i64 n.lm, .slice A12 n.vs.length c12, .slice A13 n.ps.length c13]] w fun e w' => (∃ v, e = .returned v ∧ Kd.R (Kd.int .i64) 3 w' w.heap.size (fun _ => True) v n.conf) ∧ Below w.heap.size w w' := by
  refine (spec_ConfOf.calls _ n.id n.term n.vote n.role n.lead A5 c5 n.cf n.st n.tm A8 c8 n.es n.cm n.ck n.lm A12 c12 n.vs A13 c13 n.ps _ w h.h5 h.hc5 h.h8 h.hc8 h.h12 h.hc12 h.h13 h.hc13 (confOfS_f n hz.cf hl hz.sh)).mono ?_
  rintro e w' ⟨v, h1, h2, h3⟩
  exact ⟨⟨v, h1, h2⟩, h3⟩
theorem others_C (A : Option Addr) (c : Nat) (xs : List Int) (x : Int) (w : World) (hr : Kd.C (Kd.int .i64) w A xs.length xs) (hc : xs.length ≤ c) (hl : xs.length ≤ 1048576) :
    Calls Try.prog 32 #[.slice A xs.length c, .int .i64 x] w fun e w' => (∃ v, e = .returned v ∧ Kd.R (Kd.int .i64) 3 w' w.heap.size (fun _ => True) v (xs.filter (fun y => y != x))) ∧ Below w.heap.size w w' := by
  refine (spec_l12Others.calls _ A c xs x _ w hr hc (others_f xs x hl)).mono ?_
  rintro e w' ⟨v, h1, h2, h3⟩
  exact ⟨⟨v, h1, h2⟩, h3⟩
theorem term_split {s t : Int} {xs : List S87} (a : Int) (h : logOkB s t xs = true) : inB a (lastT t xs) 100000 = (inB a 0 100000 && decide (lastT t xs ≤ a)) := by
  have := lastT_ge h
  unfold inB
  by_cases h1 : lastT t xs ≤ a <;> by_cases h2 : a ≤ 100000 <;> simp [h1, h2] <;> omega
theorem NF.ok_spec (n : NF) : n.ok = (inB n.id 1 4 && (confOk n.cf && (logOkB n.st n.tm n.es && (inB n.term 0 100000 && (inB n.vote 0 4 && (inB n.lead 0 4 && (inB n.role 0 2 && (decide (lastT n.tm n.es ≤ n.term) && (inB n.cm n.st (n.st + n.es.length) && (inB n.ck 0 20 && (inB n.lm 1 20 && (rises n.vs 0 n.vs.length && ((decide (n.vs.length = 0) || decide (n.role = 1)) && n.peersB))))))))))))) := by
  unfold NF.ok NF.votesB
  cases h : logOkB n.st n.tm n.es with
  | false => simp only [Bool.false_and, Bool.and_false]
  | true =>
    rw [term_split _ h]
    ac_rfl
attribute [local go_sem] flowUpon
set_option maxHeartbeats 4000000 in
set_option maxRecDepth 100000 in
theorem spec_NodeOk_C (n : NF) (A5 : Option Addr) (c5 : Nat) (A8 : Option Addr) (c8 : Nat) (A12 : Option Addr) (c12 : Nat) (A13 : Option Addr) (c13 : Nat) (w : World) (hz : NodeZ n) (h : NodeC n A5 c5 A8 c8 A12 c12 A13 c13 w) :
    Calls Try.prog 7 #[.agg #[.int .i64 n.id, .int .i64 n.term, .int .i64 n.vote, .int .i64 n.role, .int .i64 n.lead, .slice A5 n.cf.length c5, .int .i64 n.st, .int .i64 n.tm, .slice A8 n.es.length c8, .int .i64 n.cm, .int .i64 n.ck, .int .i64 n.lm, .slice A12 n.vs.length c12, .slice A13 n.ps.length c13]] w fun e w' => e = .returned (.bool n.ok) ∧ Below w.heap.size w w' := by
  have H := Lib.hid h
  have hc8 := h.hc8
  have hc13 := h.hc13
  clear h
  obtain ⟨q, hq⟩ : ∃ q, n.ok = q := ⟨_, rfl⟩
  rw [hq]
  rw [NF.ok_spec] at hq
  have hq := Lib.hid hq
  go_enter Try.func7, Try.ntmps7
  go_wp2_with fail
  refine calls_atC (fun W => Blk 36 w.heap.size #[.int .i64 n.id, .int .i64 n.term, .int .i64 n.vote, .int .i64 n.role, .int .i64 n.lead, .slice A5 n.cf.length c5, .int .i64 n.st, .int .i64 n.tm, .slice A8 n.es.length c8, .int .i64 n.cm, .int .i64 n.ck, .int .i64 n.lm, .slice A12 n.vs.length c12, .slice A13 n.ps.length c13] W ∧ Below w.heap.size w W) ⟨Blk.new _ _ w, (by repeat (first | exact Below.refl _ _ | apply bl_alloc | apply bl_drewN | apply bl_drew | refine bl_set ?_ (by simp) | refine bl_then ?_ (by assumption)))⟩ ?_
  rintro W0 ⟨k1, B⟩
  obtain ⟨o, ho⟩ : ∃ o, inB n.id 1 4 = o := ⟨_, rfl⟩
  have Ho := Lib.hid ho
  replace hq := hq.out
  rw [ho] at hq
  clear ho
  refine (inHS _ _ _ _ _ Ho).mono ?_
  rintro e V0 ⟨rfl, hb⟩
  replace k1 := k1.below hb
  replace B := bl_then B hb
  clear  hb W0
  have y0 := k1.cell 0 rfl
  have y1 := k1.cell 1 rfl
  have y2 := k1.cell 2 rfl
  have y3 := k1.cell 3 rfl
  have y4 := k1.cell 4 rfl
  have y5 := k1.cell 5 rfl
  have y6 := k1.cell 6 rfl
  have y7 := k1.cell 7 rfl
  have y8 := k1.cell 8 rfl
  have y9 := k1.cell 9 rfl
  have y10 := k1.cell 10 rfl
  have y11 := k1.cell 11 rfl
  have y12 := k1.cell 12 rfl
  have y13 := k1.cell 13 rfl
  have l1 := k1.lt
  cases o with
  | false =>
    rw [Bool.false_and] at hq
    subst hq
    go_wp2_with fail
    go_ret
    exact ⟨rfl, B⟩
  | true =>
    rw [Bool.true_and] at hq
    replace hq := Lib.hid hq
    clear Ho
    obtain ⟨o, ho⟩ : ∃ o, confOk n.cf = o := ⟨_, rfl⟩
    have Ho := Lib.hid ho
    replace hq := hq.out
    rw [ho] at hq
    clear ho
    go_wp2_with fail
    refine (confHS _ _ n.cf _ _ Ho (H.out.below B).h5 H.out.hc5 hz.cf).mono ?_
    rintro e V1 ⟨rfl, hb⟩
    replace k1 := k1.below hb
    replace B := bl_then B hb
    clear y0 y1 y2 y3 y4 y5 y6 y7 y8 y9 y10 y11 y12 y13 l1 hb V0
    have y0 := k1.cell 0 rfl
    have y1 := k1.cell 1 rfl
    have y2 := k1.cell 2 rfl
    have y3 := k1.cell 3 rfl
    have y4 := k1.cell 4 rfl
    have y5 := k1.cell 5 rfl
    have y6 := k1.cell 6 rfl
    have y7 := k1.cell 7 rfl
    have y8 := k1.cell 8 rfl
    have y9 := k1.cell 9 rfl
    have y10 := k1.cell 10 rfl
    have y11 := k1.cell 11 rfl
    have y12 := k1.cell 12 rfl
    have y13 := k1.cell 13 rfl
    have l1 := k1.lt
    cases o with
    | false =>
      rw [Bool.false_and] at hq
      subst hq
      go_wp2_with fail
      go_ret
      exact ⟨rfl, B⟩
    | true =>
      rw [Bool.true_and] at hq
      replace hq := Lib.hid hq
      have HK := Ho
      clear Ho
      obtain ⟨o, ho⟩ : ∃ o, logOkB n.st n.tm n.es = o := ⟨_, rfl⟩
      have Ho := Lib.hid ho
      replace hq := hq.out
      rw [ho] at hq
      clear ho
      go_wp2_with fail
      refine (spec_LogOkH _ _ _ _ n.es _ _ Ho hz.sh hz.es (H.out.below B).h8 hc8).mono ?_
      rintro e V2 ⟨rfl, hb⟩
      replace k1 := k1.below hb
      replace B := bl_then B hb
      clear y0 y1 y2 y3 y4 y5 y6 y7 y8 y9 y10 y11 y12 y13 l1 hb V1
      have y0 := k1.cell 0 rfl
      have y1 := k1.cell 1 rfl
      have y2 := k1.cell 2 rfl
      have y3 := k1.cell 3 rfl
      have y4 := k1.cell 4 rfl
      have y5 := k1.cell 5 rfl
      have y6 := k1.cell 6 rfl
      have y7 := k1.cell 7 rfl
      have y8 := k1.cell 8 rfl
      have y9 := k1.cell 9 rfl
      have y10 := k1.cell 10 rfl
      have y11 := k1.cell 11 rfl
      have y12 := k1.cell 12 rfl
      have y13 := k1.cell 13 rfl
      have l1 := k1.lt
      cases o with
      | false =>
        rw [Bool.false_and] at hq
        subst hq
        go_wp2_with fail
        go_ret
        exact ⟨rfl, B⟩
      | true =>
        rw [Bool.true_and] at hq
        replace hq := Lib.hid hq
        have HL := Ho
        have hst : 0 ≤ n.st ∧ n.st ≤ 2000000 := by have := (logOkB_parts HL.out).1; omega
        clear Ho
        obtain ⟨o, ho⟩ : ∃ o, inB n.term 0 100000 = o := ⟨_, rfl⟩
        have Ho := Lib.hid ho
        replace hq := hq.out
        rw [ho] at hq
        clear ho
        go_wp2_with fail
        refine (inHS _ _ _ _ _ Ho).mono ?_
        rintro e V3 ⟨rfl, hb⟩
        replace k1 := k1.below hb
        replace B := bl_then B hb
        clear y0 y1 y2 y3 y4 y5 y6 y7 y8 y9 y10 y11 y12 y13 l1 hb V2
        have y0 := k1.cell 0 rfl
        have y1 := k1.cell 1 rfl
        have y2 := k1.cell 2 rfl
        have y3 := k1.cell 3 rfl
        have y4 := k1.cell 4 rfl
        have y5 := k1.cell 5 rfl
        have y6 := k1.cell 6 rfl
        have y7 := k1.cell 7 rfl
        have y8 := k1.cell 8 rfl
        have y9 := k1.cell 9 rfl
        have y10 := k1.cell 10 rfl
        have y11 := k1.cell 11 rfl
        have y12 := k1.cell 12 rfl
        have y13 := k1.cell 13 rfl
        have l1 := k1.lt
        cases o with
        | false =>
          rw [Bool.false_and] at hq
          subst hq
          go_wp2_with fail
          go_ret
          exact ⟨rfl, B⟩
        | true =>
          rw [Bool.true_and] at hq
          replace hq := Lib.hid hq
          clear Ho
          obtain ⟨o, ho⟩ : ∃ o, inB n.vote 0 4 = o := ⟨_, rfl⟩
          have Ho := Lib.hid ho
          replace hq := hq.out
          rw [ho] at hq
          clear ho
          go_wp2_with fail
          refine (inHS _ _ _ _ _ Ho).mono ?_
          rintro e V4 ⟨rfl, hb⟩
          replace k1 := k1.below hb
          replace B := bl_then B hb
          clear y0 y1 y2 y3 y4 y5 y6 y7 y8 y9 y10 y11 y12 y13 l1 hb V3
          have y0 := k1.cell 0 rfl
          have y1 := k1.cell 1 rfl
          have y2 := k1.cell 2 rfl
          have y3 := k1.cell 3 rfl
          have y4 := k1.cell 4 rfl
          have y5 := k1.cell 5 rfl
          have y6 := k1.cell 6 rfl
          have y7 := k1.cell 7 rfl
          have y8 := k1.cell 8 rfl
          have y9 := k1.cell 9 rfl
          have y10 := k1.cell 10 rfl
          have y11 := k1.cell 11 rfl
          have y12 := k1.cell 12 rfl
          have y13 := k1.cell 13 rfl
          have l1 := k1.lt
          cases o with
          | false =>
            rw [Bool.false_and] at hq
            subst hq
            go_wp2_with fail
            go_ret
            exact ⟨rfl, B⟩
          | true =>
            rw [Bool.true_and] at hq
            replace hq := Lib.hid hq
            clear Ho
            obtain ⟨o, ho⟩ : ∃ o, inB n.lead 0 4 = o := ⟨_, rfl⟩
            have Ho := Lib.hid ho
            replace hq := hq.out
            rw [ho] at hq
            clear ho
            go_wp2_with fail
            refine (inHS _ _ _ _ _ Ho).mono ?_
            rintro e V5 ⟨rfl, hb⟩
            replace k1 := k1.below hb
            replace B := bl_then B hb
            clear y0 y1 y2 y3 y4 y5 y6 y7 y8 y9 y10 y11 y12 y13 l1 hb V4
            have y0 := k1.cell 0 rfl
            have y1 := k1.cell 1 rfl
            have y2 := k1.cell 2 rfl
            have y3 := k1.cell 3 rfl
            have y4 := k1.cell 4 rfl
            have y5 := k1.cell 5 rfl
            have y6 := k1.cell 6 rfl
            have y7 := k1.cell 7 rfl
            have y8 := k1.cell 8 rfl
            have y9 := k1.cell 9 rfl
            have y10 := k1.cell 10 rfl
            have y11 := k1.cell 11 rfl
            have y12 := k1.cell 12 rfl
            have y13 := k1.cell 13 rfl
            have l1 := k1.lt
            cases o with
            | false =>
              rw [Bool.false_and] at hq
              subst hq
              go_wp2_with fail
              go_ret
              exact ⟨rfl, B⟩
            | true =>
              rw [Bool.true_and] at hq
              replace hq := Lib.hid hq
              clear Ho
              obtain ⟨o, ho⟩ : ∃ o, inB n.role 0 2 = o := ⟨_, rfl⟩
              have Ho := Lib.hid ho
              replace hq := hq.out
              rw [ho] at hq
              clear ho
              go_wp2_with fail
              refine (inHS _ _ _ _ _ Ho).mono ?_
              rintro e V6 ⟨rfl, hb⟩
              replace k1 := k1.below hb
              replace B := bl_then B hb
              clear y0 y1 y2 y3 y4 y5 y6 y7 y8 y9 y10 y11 y12 y13 l1 hb V5
              have y0 := k1.cell 0 rfl
              have y1 := k1.cell 1 rfl
              have y2 := k1.cell 2 rfl
              have y3 := k1.cell 3 rfl
              have y4 := k1.cell 4 rfl
              have y5 := k1.cell 5 rfl
              have y6 := k1.cell 6 rfl
              have y7 := k1.cell 7 rfl
              have y8 := k1.cell 8 rfl
              have y9 := k1.cell 9 rfl
              have y10 := k1.cell 10 rfl
              have y11 := k1.cell 11 rfl
              have y12 := k1.cell 12 rfl
              have y13 := k1.cell 13 rfl
              have l1 := k1.lt
              cases o with
              | false =>
                rw [Bool.false_and] at hq
                subst hq
                go_wp2_with fail
                go_ret
                exact ⟨rfl, B⟩
              | true =>
                rw [Bool.true_and] at hq
                replace hq := Lib.hid hq
                clear Ho
                go_wp2_with fail
                refine (slast_C _ _ _ _ n.es _ hst hz.es (H.out.below B).h8 hc8).mono ?_
                rintro e V7 ⟨rfl, hb⟩
                replace k1 := k1.below hb
                replace B := bl_then B hb
                clear y0 y1 y2 y3 y4 y5 y6 y7 y8 y9 y10 y11 y12 y13 l1 hb V6
                have y0 := k1.cell 0 rfl
                have y1 := k1.cell 1 rfl
                have y2 := k1.cell 2 rfl
                have y3 := k1.cell 3 rfl
                have y4 := k1.cell 4 rfl
                have y5 := k1.cell 5 rfl
                have y6 := k1.cell 6 rfl
                have y7 := k1.cell 7 rfl
                have y8 := k1.cell 8 rfl
                have y9 := k1.cell 9 rfl
                have y10 := k1.cell 10 rfl
                have y11 := k1.cell 11 rfl
                have y12 := k1.cell 12 rfl
                have y13 := k1.cell 13 rfl
                have l1 := k1.lt
                replace hq := hq.out
                by_cases ho : lastT n.tm n.es ≤ n.term
                rotate_left
                · rw [decide_eq_false ho, Bool.false_and] at hq
                  subst hq
                  have ho2 : n.term < lastT n.tm n.es := by omega
                  clear ho
                  go_wp2_with fail
                  go_ret
                  exact ⟨rfl, B⟩
                rw [decide_eq_true ho, Bool.true_and] at hq
                replace hq := Lib.hid hq
                have ho2 : ¬ n.term < lastT n.tm n.es := by omega
                clear ho
                obtain ⟨o, ho⟩ : ∃ o, inB n.cm n.st (n.st + n.es.length) = o := ⟨_, rfl⟩
                have Ho := Lib.hid ho
                replace hq := hq.out
                rw [ho] at hq
                clear ho
                go_wp2_with fail
                refine (inHS _ _ _ _ _ Ho).mono ?_
                rintro e V9 ⟨rfl, hb⟩
                replace k1 := k1.below hb
                replace B := bl_then B hb
                clear y0 y1 y2 y3 y4 y5 y6 y7 y8 y9 y10 y11 y12 y13 l1 hb V7
                have y0 := k1.cell 0 rfl
                have y1 := k1.cell 1 rfl
                have y2 := k1.cell 2 rfl
                have y3 := k1.cell 3 rfl
                have y4 := k1.cell 4 rfl
                have y5 := k1.cell 5 rfl
                have y6 := k1.cell 6 rfl
                have y7 := k1.cell 7 rfl
                have y8 := k1.cell 8 rfl
                have y9 := k1.cell 9 rfl
                have y10 := k1.cell 10 rfl
                have y11 := k1.cell 11 rfl
                have y12 := k1.cell 12 rfl
                have y13 := k1.cell 13 rfl
                have l1 := k1.lt
                cases o with
                | false =>
                  rw [Bool.false_and] at hq
                  subst hq
                  go_wp2_with fail
                  go_ret
                  exact ⟨rfl, B⟩
                | true =>
                  rw [Bool.true_and] at hq
                  replace hq := Lib.hid hq
                  clear Ho
                  obtain ⟨o, ho⟩ : ∃ o, inB n.ck 0 20 = o := ⟨_, rfl⟩
                  have Ho := Lib.hid ho
                  replace hq := hq.out
                  rw [ho] at hq
                  clear ho
                  go_wp2_with fail
                  refine (inHS _ _ _ _ _ Ho).mono ?_
                  rintro e V10 ⟨rfl, hb⟩
                  replace k1 := k1.below hb
                  replace B := bl_then B hb
                  clear y0 y1 y2 y3 y4 y5 y6 y7 y8 y9 y10 y11 y12 y13 l1 hb V9
                  have y0 := k1.cell 0 rfl
                  have y1 := k1.cell 1 rfl
                  have y2 := k1.cell 2 rfl
                  have y3 := k1.cell 3 rfl
                  have y4 := k1.cell 4 rfl
                  have y5 := k1.cell 5 rfl
                  have y6 := k1.cell 6 rfl
                  have y7 := k1.cell 7 rfl
                  have y8 := k1.cell 8 rfl
                  have y9 := k1.cell 9 rfl
                  have y10 := k1.cell 10 rfl
                  have y11 := k1.cell 11 rfl
                  have y12 := k1.cell 12 rfl
                  have y13 := k1.cell 13 rfl
                  have l1 := k1.lt
                  cases o with
                  | false =>
                    rw [Bool.false_and] at hq
                    subst hq
                    go_wp2_with fail
                    go_ret
                    exact ⟨rfl, B⟩
                  | true =>
                    rw [Bool.true_and] at hq
                    replace hq := Lib.hid hq
                    clear Ho
                    obtain ⟨o, ho⟩ : ∃ o, inB n.lm 1 20 = o := ⟨_, rfl⟩
                    have Ho := Lib.hid ho
                    replace hq := hq.out
                    rw [ho] at hq
                    clear ho
                    go_wp2_with fail
                    refine (inHS _ _ _ _ _ Ho).mono ?_
                    rintro e V11 ⟨rfl, hb⟩
                    replace k1 := k1.below hb
                    replace B := bl_then B hb
                    clear y0 y1 y2 y3 y4 y5 y6 y7 y8 y9 y10 y11 y12 y13 l1 hb V10
                    have y0 := k1.cell 0 rfl
                    have y1 := k1.cell 1 rfl
                    have y2 := k1.cell 2 rfl
                    have y3 := k1.cell 3 rfl
                    have y4 := k1.cell 4 rfl
                    have y5 := k1.cell 5 rfl
                    have y6 := k1.cell 6 rfl
                    have y7 := k1.cell 7 rfl
                    have y8 := k1.cell 8 rfl
                    have y9 := k1.cell 9 rfl
                    have y10 := k1.cell 10 rfl
                    have y11 := k1.cell 11 rfl
                    have y12 := k1.cell 12 rfl
                    have y13 := k1.cell 13 rfl
                    have l1 := k1.lt
                    cases o with
                    | false =>
                      rw [Bool.false_and] at hq
                      subst hq
                      go_wp2_with fail
                      go_ret
                      exact ⟨rfl, B⟩
                    | true =>
                      rw [Bool.true_and] at hq
                      replace hq := Lib.hid hq
                      clear Ho
                      obtain ⟨o, ho⟩ : ∃ o, rises n.vs 0 n.vs.length = o := ⟨_, rfl⟩
                      have Ho := Lib.hid ho
                      replace hq := hq.out
                      rw [ho] at hq
                      clear ho
                      go_wp2_with fail
                      refine (riseHS _ _ n.vs _ _ Ho (H.out.below B).h12 H.out.hc12 hz.vs).mono ?_
                      rintro e V12 ⟨rfl, hb⟩
                      replace k1 := k1.below hb
                      replace B := bl_then B hb
                      clear y0 y1 y2 y3 y4 y5 y6 y7 y8 y9 y10 y11 y12 y13 l1 hb V11
                      have y0 := k1.cell 0 rfl
                      have y1 := k1.cell 1 rfl
                      have y2 := k1.cell 2 rfl
                      have y3 := k1.cell 3 rfl
                      have y4 := k1.cell 4 rfl
                      have y5 := k1.cell 5 rfl
                      have y6 := k1.cell 6 rfl
                      have y7 := k1.cell 7 rfl
                      have y8 := k1.cell 8 rfl
                      have y9 := k1.cell 9 rfl
                      have y10 := k1.cell 10 rfl
                      have y11 := k1.cell 11 rfl
                      have y12 := k1.cell 12 rfl
                      have y13 := k1.cell 13 rfl
                      have l1 := k1.lt
                      cases o with
                      | false =>
                        rw [Bool.false_and] at hq
                        subst hq
                        go_wp2_with fail
                        go_ret
                        exact ⟨rfl, B⟩
                      | true =>
                        rw [Bool.true_and] at hq
                        replace hq := Lib.hid hq
                        clear Ho
                        have HB : Hid (∃ bv, (decide (n.vs.length = 0) || decide (n.role = 1)) = bv) := Lib.hid ⟨_, rfl⟩
                        obtain ⟨bv, hbv⟩ := HB.out
                        replace hq := hq.out
                        rw [hbv] at hq
                        obtain ⟨o1, ho1⟩ : ∃ o, decide ((n.vs.length : Int) > 0) = o := ⟨_, rfl⟩
                        obtain ⟨o2, ho2⟩ : ∃ o, (n.role != 1) = o := ⟨_, rfl⟩
                        obtain rfl : bv = !(o1 && o2) := by rw [← hbv, ← ho1, ← ho2]; by_cases h1 : n.vs.length = 0 <;> by_cases h2 : n.role = 1 <;> simp [h1, h2] <;> omega
                        clear hbv HB
                        replace hq := Lib.hid hq
                        obtain ⟨o9, ho9⟩ : ∃ o, (n.role == 2) = o := ⟨_, rfl⟩
                        have hs : (0 < n.vs.length ∧ o2 = true) ∨ (0 < n.vs.length ∧ o2 = false) ∨ ¬ 0 < n.vs.length := by
                          rcases Nat.eq_zero_or_pos n.vs.length with h | h
                          · exact .inr (.inr (by omega))
                          · cases o2
                            · exact .inr (.inl ⟨h, rfl⟩)
                            · exact .inl ⟨h, rfl⟩
                        rcases hs with ⟨hv, rfl⟩ | hs
                        · obtain rfl : o1 = true := by rw [← ho1]; simp only [decide_eq_true_eq]; omega
                          obtain rfl : q = false := by rw [← hq.out]; rfl
                          clear ho1
                          go_wp2_with fail
                          go_ret
                          exact ⟨rfl, B⟩
                        have HPQ : Hid (n.peersB = q) := Lib.hid (by
                          have ho : (o1 && o2) = false := by
                            rcases hs with ⟨-, rfl⟩ | hv
                            · simp
                            · obtain rfl : o1 = false := by rw [← ho1]; simp only [decide_eq_false_iff_not]; omega
                              rfl
                          have := hq.out
                          rw [ho] at this
                          simpa using this)
                        clear hq ho1
                        rcases hs with ⟨hv, rfl⟩ | hv
                        all_goals
                          go_upto_if 100 with fail
                          refine wp_atC (fun X => Blk 36 w.heap.size #[.int .i64 n.id, .int .i64 n.term, .int .i64 n.vote, .int .i64 n.role, .int .i64 n.lead, .slice A5 n.cf.length c5, .int .i64 n.st, .int .i64 n.tm, .slice A8 n.es.length c8, .int .i64 n.cm, .int .i64 n.ck, .int .i64 n.lm, .slice A12 n.vs.length c12, .slice A13 n.ps.length c13] X ∧ Below w.heap.size w X ∧ Blk 3 V12.heap.size #[] X) ⟨k1.alloc _, bl_alloc B _, Blk.newE _ _ V12 (by simp)⟩ ?_
                          clear k1 B y0 y1 y2 y3 y4 y5 y6 y7 y8 y9 y10 y11 y12 y13 l1
                          rintro X ⟨k1, B, kE⟩
                          go_cut [5] from 101 to 105 (fun v5 wx => ∃ (A3 : Option Addr) (c3 : Nat), v5 = .slice A3 n.want.length c3 ∧ n.want.length ≤ c3 ∧ Kd.C (Kd.int .i64) wx A3 n.want.length n.want ∧ Blk 36 w.heap.size #[.int .i64 n.id, .int .i64 n.term, .int .i64 n.vote, .int .i64 n.role, .int .i64 n.lead, .slice A5 n.cf.length c5, .int .i64 n.st, .int .i64 n.tm, .slice A8 n.es.length c8, .int .i64 n.cm, .int .i64 n.ck, .int .i64 n.lm, .slice A12 n.vs.length c12, .slice A13 n.ps.length c13] wx ∧ Below w.heap.size w wx)
                          case first =>
                            cases o9 with
                            | true =>
                              have hw := Lib.hid (show n.want = n.conf.filter (fun y => y != n.id) from by unfold NF.want; rw [if_pos (by simpa using ho9)])
                              have y0 := k1.cell 0 rfl
                              have y1 := k1.cell 1 rfl
                              have y2 := k1.cell 2 rfl
                              have y3 := k1.cell 3 rfl
                              have y4 := k1.cell 4 rfl
                              have y5 := k1.cell 5 rfl
                              have y6 := k1.cell 6 rfl
                              have y7 := k1.cell 7 rfl
                              have y8 := k1.cell 8 rfl
                              have y9 := k1.cell 9 rfl
                              have y10 := k1.cell 10 rfl
                              have y11 := k1.cell 11 rfl
                              have y12 := k1.cell 12 rfl
                              have y13 := k1.cell 13 rfl
                              have l1 := k1.lt
                              have hcs : 1 ≤ n.conf.length ∧ n.conf.length ≤ 4 := confOk_short (conf_ok HK.out HL.out (n.st + n.es.length))
                              go_upto_region 8 with fail
                              refine wp_region_flow [1] 153 (by kernel_rfl) (by rfl) (by kernel_rfl) (by kernel_rfl) (by kernel_rfl) ?_
                              (refine flow_valE ?_; apply Exists.intro; refine ⟨fun A wq hBq hbq hdq => ?_, ?_⟩; focus (obtain ⟨hcq, hfq⟩ := bcell hBq; (try simp [go_sem, baseF, deps, dep1, Region.binds] at hbq); (try simp [go_sem, baseF, deps, dep1, Region.binds, NewSl] at hdq); go_simp; first | exact ⟨Below.refl _ _, rfl⟩ | (rw [if_neg]; (focus (exact ⟨Below.refl _ _, rfl⟩)); (focus ((try simp only [ByteArray.size_append]); omega))) | (fail)))
                              refine flow_R (fun W u => ∃ A c, u = .slice A n.conf.length c ∧ n.conf.length ≤ c ∧ Kd.C (Kd.int .i64) W A n.conf.length n.conf) (fun W W' u ⟨A, c, h1, h2, h3⟩ hb => ⟨A, c, h1, h2, Kd.C_below h3 hb⟩) (fun A wq hBq hbq hdq => ?_) ?_
                              · (try simp [go_sem, baseF, deps, dep1, Region.binds] at hbq)
                                (try simp [go_sem, baseF, deps, dep1, Region.binds, NewSl] at hdq)
                                go_simp
                                refine (confOfS_C n A5 c5 A8 c8 A12 c12 A13 c13 wq hz (H.out.below (bl_then B hBq)) HL.out).mono ?_
                                rintro e w5 ⟨⟨v, rfl, hR⟩, hb5⟩
                                obtain ⟨A9, c9, rfl, h8, h9⟩ := Kd.R_reads hR
                                exact ⟨_, rfl, hb5, A9, c9, rfl, h8, h9⟩
                              (refine flow_valE ?_; apply Exists.intro; refine ⟨fun A wq hBq hbq hdq => ?_, ?_⟩; focus (obtain ⟨hcq, hfq⟩ := bcell hBq; (try simp [go_sem, baseF, deps, dep1, Region.binds] at hbq); (try simp [go_sem, baseF, deps, dep1, Region.binds, NewSl] at hdq); go_simp; first | exact ⟨Below.refl _ _, rfl⟩ | (rw [if_neg]; (focus (exact ⟨Below.refl _ _, rfl⟩)); (focus ((try simp only [ByteArray.size_append]); omega))) | (fail)))
                              (refine flow_valE ?_; apply Exists.intro; refine ⟨fun A wq hBq hbq hdq => ?_, ?_⟩; focus (obtain ⟨hcq, hfq⟩ := bcell hBq; (try simp [go_sem, baseF, deps, dep1, Region.binds] at hbq); (try simp [go_sem, baseF, deps, dep1, Region.binds, NewSl] at hdq); go_simp; first | exact ⟨Below.refl _ _, rfl⟩ | (rw [if_neg]; (focus (exact ⟨Below.refl _ _, rfl⟩)); (focus ((try simp only [ByteArray.size_append]); omega))) | (fail)))
                              refine flow_R (fun W u => ∃ A c, u = .slice A n.want.length c ∧ n.want.length ≤ c ∧ Kd.C (Kd.int .i64) W A n.want.length n.want) (fun W W' u ⟨A, c, h1, h2, h3⟩ hb => ⟨A, c, h1, h2, Kd.C_below h3 hb⟩) (fun A wq hBq hbq hdq => ?_) ?_
                              · (try simp [go_sem, baseF, deps, dep1, Region.binds] at hbq)
                                (try simp [go_sem, baseF, deps, dep1, Region.binds, NewSl] at hdq)
                                obtain ⟨⟨A9, c9, h1, h2, h3⟩, h4, -⟩ := hdq
                                go_simp
                                refine (others_C A9 c9 n.conf n.id wq h3 h2 (by omega)).mono ?_
                                rintro e w5 ⟨⟨v, rfl, hR⟩, hb5⟩
                                rw [← hw.out] at hR
                                obtain ⟨A9, c9, rfl, h8, h9⟩ := Kd.R_reads hR
                                exact ⟨_, rfl, hb5, A9, c9, rfl, h8, h9⟩
                              refine flow_R (fun W u => ∃ A c, u = .slice A n.want.length c ∧ n.want.length ≤ c ∧ Kd.C (Kd.int .i64) W A n.want.length n.want) (fun W W' u ⟨A, c, h1, h2, h3⟩ hb => ⟨A, c, h1, h2, Kd.C_below h3 hb⟩) (fun A wq hBq hbq hdq => ?_) ?_
                              · (try simp [go_sem, baseF, deps, dep1, Region.binds] at hbq)
                                (try simp [go_sem, baseF, deps, dep1, Region.binds, NewSl] at hdq)
                                obtain ⟨⟨A9, c9, h1, h2, h3⟩, -⟩ := hdq
                                go_simp
                                first | exact ⟨Below.refl _ _, A9, c9, rfl, h2, h3⟩ | exact ⟨Below.refl _ _, A9, c9, h1, h2, h3⟩ | exact ⟨Below.refl _ _, A9, c9, ⟨rfl, rfl⟩, h2, h3⟩ | exact ⟨Below.refl _ _, A9, c9, by simp, h2, h3⟩
                              refine fun x wq hBq hall => ?_
                              simp only [allT] at hall
                              obtain ⟨⟨A9, c9, h8, h9, h10⟩, -⟩ := hall
                              simp [frameOf, Act.put, h8]
                              clear h8
                              go_wp2_with fail
                              go_meet
                              exact ⟨_, _, rfl, h9, h10, k1.below hBq, bl_then B hBq⟩
                            | false =>
                              have hw : n.want = [] := by unfold NF.want; rw [if_neg (by simpa using ho9)]
                              go_wp2_with fail
                              go_meet
                              rw [hw]
                              exact ⟨_, _, rfl, by simp, row_ints [] (by simp) (by simp), k1, B⟩
                          case rest =>
                            obtain ⟨A3, c3, rfl, hcw, hC, m1, B'⟩ := hcut
                            clear k1 B kE
                            have HC := Lib.hid hC
                            clear hC
                            have y0 := m1.cell 0 rfl
                            have y1 := m1.cell 1 rfl
                            have y2 := m1.cell 2 rfl
                            have y3 := m1.cell 3 rfl
                            have y4 := m1.cell 4 rfl
                            have y5 := m1.cell 5 rfl
                            have y6 := m1.cell 6 rfl
                            have y7 := m1.cell 7 rfl
                            have y8 := m1.cell 8 rfl
                            have y9 := m1.cell 9 rfl
                            have y10 := m1.cell 10 rfl
                            have y11 := m1.cell 11 rfl
                            have y12 := m1.cell 12 rfl
                            have y13 := m1.cell 13 rfl
                            have l1 := m1.lt
                            by_cases hlen : n.ps.length = n.want.length
                            · have hne : ((n.ps.length : Int) != (n.want.length : Int)) = false := by simp [hlen]
                              have hr : Hid (peersL n.ps n.want (n.st + n.es.length) 0 n.ps.length = q) := Lib.hid (by rw [← HPQ.out]; unfold NF.peersB; rw [hlen]; simp)
                              clear HPQ
                              have HL2 := Lib.hid hlen
                              clear hlen
                              go_wp2_with fail
                              go_loopg [6, 7] n.ps.length (fun kq v6 v7 w' => ∃ i : Nat, v6 = .int .i64 (i : Int) ∧ i + kq = n.ps.length ∧ Hid (peersL n.ps n.want (n.st + n.es.length) i kq = q) ∧ Blk 36 w.heap.size #[.int .i64 n.id, .int .i64 n.term, .int .i64 n.vote, .int .i64 n.role, .int .i64 n.lead, .slice A5 n.cf.length c5, .int .i64 n.st, .int .i64 n.tm, .slice A8 n.es.length c8, .int .i64 n.cm, .int .i64 n.ck, .int .i64 n.lm, .slice A12 n.vs.length c12, .slice A13 n.ps.length c13] w' ∧ Below w.heap.size w w' ∧ Kd.C (Kd.int .i64) w' A3 n.want.length n.want)
                              case atStart => exact ⟨0, rfl, by omega, hr, m1, B', HC.out⟩
                              case round =>
                                obtain ⟨i, rfl, hik, hix, m1, B, hC⟩ := hrel
                                clear hr y0 y1 y2 y3 y4 y5 y6 y7 y8 y9 y10 y11 y12 y13 l1 HC B'
                                have HC := Lib.hid hC
                                clear hC
                                cases gk with
                                | zero =>
                                  have hlt : ¬ ((i : Int) < (n.want.length : Int)) := by have := HL2.out; omega
                                  have hrv := hix.out
                                  simp only [peersL] at hrv
                                  subst hrv
                                  go_wp2_with fail
                                  go_ret
                                  exact ⟨rfl, B⟩
                                | succ k =>
                                  have hlt : (i : Int) < (n.ps.length : Int) := by omega
                                  have hlw : (i : Int) < (n.want.length : Int) := by have := HL2.out; omega
                                  have hi0 : (0 : Int) ≤ (i : Int) := by omega
                                  have E1 := Lib.hid (show wrap64 ((i : Int) + 1) = ((i + 1 : Nat) : Int) from by have := hz.ps; unfold wrap64; omega)
                                  obtain ⟨ad, e1, x0, x1, x2, x3⟩ := at_T69 (H.out.below B).h13 (i : Int) (by omega) hlt
                                  simp only [Int.toNat_natCast] at x0 x1 x2 x3
                                  have hrv := hix.out
                                  simp only [peersL] at hrv
                                  have z13 := m1.cell 13 rfl
                                  have lz := m1.lt
                                  go_upto_region 15 with fail
                                  obtain ⟨b5, hb5⟩ : ∃ b, b = wr.heap.size := ⟨_, rfl⟩
                                  obtain ⟨p, hp0⟩ : ∃ p, rd_T69 n.ps (i : Int) = p := ⟨_, rfl⟩
                                  rw [hp0] at x0 x1 x2 x3 hrv ⊢
                                  clear hp0
                                  refine wp_atC (fun X => Blk 36 w.heap.size #[.int .i64 n.id, .int .i64 n.term, .int .i64 n.vote, .int .i64 n.role, .int .i64 n.lead, .slice A5 n.cf.length c5, .int .i64 n.st, .int .i64 n.tm, .slice A8 n.es.length c8, .int .i64 n.cm, .int .i64 n.ck, .int .i64 n.lm, .slice A12 n.vs.length c12, .slice A13 n.ps.length c13] X ∧ Below w.heap.size w X ∧ Blk 69 b5 #[.int .i64 p.f0, .int .i64 p.f1, .int .i64 p.f2, .int .i64 p.f3] X ∧ Kd.C (Kd.int .i64) X A3 n.want.length n.want) ⟨m1.alloc _, bl_alloc B _, Blk.newE _ _ wr hb5, Kd.C_below HC.out (bl_alloc (Below.refl _ _) _)⟩ ?_
                                  (try rw [← hb5])
                                  clear hb5 x0 x1 x2 x3 hix m1 B HC z13 lz
                                  rintro Y ⟨m1, B, k5, hC⟩
                                  obtain ⟨ad3, e3, y0⟩ := Kd.at_int hC (i : Int) (by omega) hlw
                                  simp only [Int.toNat_natCast] at y0
                                  have HC := Lib.hid hC
                                  clear hC
                                  have q0 := k5.cell 0 rfl
                                  have q1 := k5.cell 1 rfl
                                  have q2 := k5.cell 2 rfl
                                  have q3 := k5.cell 3 rfl
                                  have lq := k5.lt
                                  have ly := World.block_lt_of_cell? _ _ y0
                                  obtain ⟨o1, ho1⟩ : ∃ o, inB p.f1 1 (n.st + n.es.length + 1) = o := ⟨_, rfl⟩
                                  obtain ⟨o2, ho2⟩ : ∃ o, inB p.f2 0 (p.f1 - 1) = o := ⟨_, rfl⟩
                                  obtain ⟨o3, ho3⟩ : ∃ o, inB p.f3 0 20000 = o := ⟨_, rfl⟩
                                  rw [ho1, ho2, ho3] at hrv
                                  have hwl : IntKind.i64.wrap (n.st + (n.es.length : Int) + 1) = n.st + (n.es.length : Int) + 1 := by have := hz.es; rw [IntKind.wrap_i64]; omega
                                  have H1 := Lib.hid ho1
                                  have H2 := Lib.hid ho2
                                  have H3 := Lib.hid ho3
                                  by_cases hp : p.f0 = rd n.want (i : Int)
                                  · have hp' : (p.f0 != rd n.want (i : Int)) = false := by simp [hp]
                                    rw [decide_eq_true hp] at hrv
                                    clear hp ho1 ho2 ho3
                                    cases o1 with
                                    | false =>
                                      refine wp_region_flowG [3, 5, 6, 7] 153 (by kernel_rfl) (by rfl) (by kernel_rfl) (by kernel_rfl) (by kernel_rfl) ?_
                                      iterate 8 (refine flowG_valE ?_; apply Exists.intro; refine ⟨fun A wq hBq hbq hdq => ?_, ?_⟩; focus (obtain ⟨hcq, hfq⟩ := bcellA hBq; (try simp [go_sem, baseF, deps, dep1, Region.binds] at hbq); (try simp [go_sem, baseF, deps, dep1, Region.binds, NewSl] at hdq); go_simp <;> first | exact ⟨Below.refl _ _, rfl⟩ | (rw [if_neg]; (focus (exact ⟨Below.refl _ _, rfl⟩)); (focus ((try simp only [ByteArray.size_append]); omega))) | (fail)))
                                      iterate 6 (refine flowG_yesE ?_; apply Exists.intro; refine ⟨fun A wq hBq hbq hdq => ⟨?_, ?_⟩, ?_⟩; (focus ((try simp [go_sem, baseF, deps, dep1, Region.binds] at hdq); refine yielded_of rfl ?_; simp [hdq])); focus (obtain ⟨hcq, hfq⟩ := bcellA hBq; (try simp [go_sem, baseF, deps, dep1, Region.binds] at hbq); (try simp [go_sem, baseF, deps, dep1, Region.binds, NewSl] at hdq); go_simp <;> first | exact ⟨Below.refl _ _, rfl⟩ | (rw [if_neg]; (focus (exact ⟨Below.refl _ _, rfl⟩)); (focus ((try simp only [ByteArray.size_append]); omega))) | (first | (go_at_call 27; exact (inHS _ _ _ _ _ H1)))))
                                      iterate 2 (refine flowG_valE ?_; apply Exists.intro; refine ⟨fun A wq hBq hbq hdq => ?_, ?_⟩; focus (obtain ⟨hcq, hfq⟩ := bcellA hBq; (try simp [go_sem, baseF, deps, dep1, Region.binds] at hbq); (try simp [go_sem, baseF, deps, dep1, Region.binds, NewSl] at hdq); go_simp <;> first | exact ⟨Below.refl _ _, rfl⟩ | (rw [if_neg]; (focus (exact ⟨Below.refl _ _, rfl⟩)); (focus ((try simp only [ByteArray.size_append]); omega))) | (fail)))
                                      iterate 7 (refine flowG_no (fun A wq hBq hbq hdq => ?_) ?_; focus ((try simp [go_sem, baseF, deps, dep1, Region.binds] at hdq); refine yielded_of rfl ?_; simp [hdq]))
                                      iterate 2 (refine flowG_valE ?_; apply Exists.intro; refine ⟨fun A wq hBq hbq hdq => ?_, ?_⟩; focus (obtain ⟨hcq, hfq⟩ := bcellA hBq; (try simp [go_sem, baseF, deps, dep1, Region.binds] at hbq); (try simp [go_sem, baseF, deps, dep1, Region.binds, NewSl] at hdq); go_simp <;> first | exact ⟨Below.refl _ _, rfl⟩ | (rw [if_neg]; (focus (exact ⟨Below.refl _ _, rfl⟩)); (focus ((try simp only [ByteArray.size_append]); omega))) | (fail)))
                                      iterate 4 (refine flowG_no (fun A wq hBq hbq hdq => ?_) ?_; focus ((try simp [go_sem, baseF, deps, dep1, Region.binds] at hdq); refine yielded_of rfl ?_; simp [hdq]))
                                      (refine flowG_valE ?_; apply Exists.intro; refine ⟨fun A wq hBq hbq hdq => ?_, ?_⟩; focus (obtain ⟨hcq, hfq⟩ := bcellA hBq; (try simp [go_sem, baseF, deps, dep1, Region.binds] at hbq); (try simp [go_sem, baseF, deps, dep1, Region.binds, NewSl] at hdq); go_simp <;> first | exact ⟨Below.refl _ _, rfl⟩ | (rw [if_neg]; (focus (exact ⟨Below.refl _ _, rfl⟩)); (focus ((try simp only [ByteArray.size_append]); omega))) | (fail)))
                                      refine fun x wq hBq hall => ?_
                                      simp only [allT] at hall
                                      simp [frameOf, Act.put, hall]
                                      clear hall
                                      simp only [Bool.true_and, Bool.false_and] at hrv
                                      subst hrv
                                      go_wp2_with fail
                                      go_ret
                                      exact ⟨rfl, bl_then B hBq⟩
                                    | true =>
                                      have ho1 := H1.out
                                      rw [inB_iff] at ho1
                                      have hwm : IntKind.i64.wrap (p.f1 - 1) = p.f1 - 1 := by have := hz.es; rw [IntKind.wrap_i64]; omega
                                      clear ho1
                                      cases o2 with
                                      | false =>
                                        refine wp_region_flowG [3, 5, 6, 7] 153 (by kernel_rfl) (by rfl) (by kernel_rfl) (by kernel_rfl) (by kernel_rfl) ?_
                                        iterate 8 (refine flowG_valE ?_; apply Exists.intro; refine ⟨fun A wq hBq hbq hdq => ?_, ?_⟩; focus (obtain ⟨hcq, hfq⟩ := bcellA hBq; (try simp [go_sem, baseF, deps, dep1, Region.binds] at hbq); (try simp [go_sem, baseF, deps, dep1, Region.binds, NewSl] at hdq); go_simp <;> first | exact ⟨Below.refl _ _, rfl⟩ | (rw [if_neg]; (focus (exact ⟨Below.refl _ _, rfl⟩)); (focus ((try simp only [ByteArray.size_append]); omega))) | (fail)))
                                        iterate 6 (refine flowG_yesE ?_; apply Exists.intro; refine ⟨fun A wq hBq hbq hdq => ⟨?_, ?_⟩, ?_⟩; (focus ((try simp [go_sem, baseF, deps, dep1, Region.binds] at hdq); refine yielded_of rfl ?_; simp [hdq])); focus (obtain ⟨hcq, hfq⟩ := bcellA hBq; (try simp [go_sem, baseF, deps, dep1, Region.binds] at hbq); (try simp [go_sem, baseF, deps, dep1, Region.binds, NewSl] at hdq); go_simp <;> first | exact ⟨Below.refl _ _, rfl⟩ | (rw [if_neg]; (focus (exact ⟨Below.refl _ _, rfl⟩)); (focus ((try simp only [ByteArray.size_append]); omega))) | (first | (go_at_call 27; exact (inHS _ _ _ _ _ H1)))))
                                        iterate 2 (refine flowG_valE ?_; apply Exists.intro; refine ⟨fun A wq hBq hbq hdq => ?_, ?_⟩; focus (obtain ⟨hcq, hfq⟩ := bcellA hBq; (try simp [go_sem, baseF, deps, dep1, Region.binds] at hbq); (try simp [go_sem, baseF, deps, dep1, Region.binds, NewSl] at hdq); go_simp <;> first | exact ⟨Below.refl _ _, rfl⟩ | (rw [if_neg]; (focus (exact ⟨Below.refl _ _, rfl⟩)); (focus ((try simp only [ByteArray.size_append]); omega))) | (fail)))
                                        iterate 7 (refine flowG_yesE ?_; apply Exists.intro; refine ⟨fun A wq hBq hbq hdq => ⟨?_, ?_⟩, ?_⟩; (focus ((try simp [go_sem, baseF, deps, dep1, Region.binds] at hdq); refine yielded_of rfl ?_; simp [hdq])); focus (obtain ⟨hcq, hfq⟩ := bcellA hBq; (try simp [go_sem, baseF, deps, dep1, Region.binds] at hbq); (try simp [go_sem, baseF, deps, dep1, Region.binds, NewSl] at hdq); go_simp <;> first | exact ⟨Below.refl _ _, rfl⟩ | (rw [if_neg]; (focus (exact ⟨Below.refl _ _, rfl⟩)); (focus ((try simp only [ByteArray.size_append]); omega))) | (first | (go_at_call 27; exact (inHS _ _ _ _ _ H2)))))
                                        iterate 2 (refine flowG_valE ?_; apply Exists.intro; refine ⟨fun A wq hBq hbq hdq => ?_, ?_⟩; focus (obtain ⟨hcq, hfq⟩ := bcellA hBq; (try simp [go_sem, baseF, deps, dep1, Region.binds] at hbq); (try simp [go_sem, baseF, deps, dep1, Region.binds, NewSl] at hdq); go_simp <;> first | exact ⟨Below.refl _ _, rfl⟩ | (rw [if_neg]; (focus (exact ⟨Below.refl _ _, rfl⟩)); (focus ((try simp only [ByteArray.size_append]); omega))) | (fail)))
                                        iterate 4 (refine flowG_no (fun A wq hBq hbq hdq => ?_) ?_; focus ((try simp [go_sem, baseF, deps, dep1, Region.binds] at hdq); refine yielded_of rfl ?_; simp [hdq]))
                                        (refine flowG_valE ?_; apply Exists.intro; refine ⟨fun A wq hBq hbq hdq => ?_, ?_⟩; focus (obtain ⟨hcq, hfq⟩ := bcellA hBq; (try simp [go_sem, baseF, deps, dep1, Region.binds] at hbq); (try simp [go_sem, baseF, deps, dep1, Region.binds, NewSl] at hdq); go_simp <;> first | exact ⟨Below.refl _ _, rfl⟩ | (rw [if_neg]; (focus (exact ⟨Below.refl _ _, rfl⟩)); (focus ((try simp only [ByteArray.size_append]); omega))) | (fail)))
                                        refine fun x wq hBq hall => ?_
                                        simp only [allT] at hall
                                        simp [frameOf, Act.put, hall]
                                        clear hall
                                        simp only [Bool.true_and, Bool.false_and] at hrv
                                        subst hrv
                                        go_wp2_with fail
                                        go_ret
                                        exact ⟨rfl, bl_then B hBq⟩
                                      | true =>
                                        cases o3 with
                                        | false =>
                                          refine wp_region_flowG [3, 5, 6, 7] 153 (by kernel_rfl) (by rfl) (by kernel_rfl) (by kernel_rfl) (by kernel_rfl) ?_
                                          iterate 8 (refine flowG_valE ?_; apply Exists.intro; refine ⟨fun A wq hBq hbq hdq => ?_, ?_⟩; focus (obtain ⟨hcq, hfq⟩ := bcellA hBq; (try simp [go_sem, baseF, deps, dep1, Region.binds] at hbq); (try simp [go_sem, baseF, deps, dep1, Region.binds, NewSl] at hdq); go_simp <;> first | exact ⟨Below.refl _ _, rfl⟩ | (rw [if_neg]; (focus (exact ⟨Below.refl _ _, rfl⟩)); (focus ((try simp only [ByteArray.size_append]); omega))) | (fail)))
                                          iterate 6 (refine flowG_yesE ?_; apply Exists.intro; refine ⟨fun A wq hBq hbq hdq => ⟨?_, ?_⟩, ?_⟩; (focus ((try simp [go_sem, baseF, deps, dep1, Region.binds] at hdq); refine yielded_of rfl ?_; simp [hdq])); focus (obtain ⟨hcq, hfq⟩ := bcellA hBq; (try simp [go_sem, baseF, deps, dep1, Region.binds] at hbq); (try simp [go_sem, baseF, deps, dep1, Region.binds, NewSl] at hdq); go_simp <;> first | exact ⟨Below.refl _ _, rfl⟩ | (rw [if_neg]; (focus (exact ⟨Below.refl _ _, rfl⟩)); (focus ((try simp only [ByteArray.size_append]); omega))) | (first | (go_at_call 27; exact (inHS _ _ _ _ _ H1)))))
                                          iterate 2 (refine flowG_valE ?_; apply Exists.intro; refine ⟨fun A wq hBq hbq hdq => ?_, ?_⟩; focus (obtain ⟨hcq, hfq⟩ := bcellA hBq; (try simp [go_sem, baseF, deps, dep1, Region.binds] at hbq); (try simp [go_sem, baseF, deps, dep1, Region.binds, NewSl] at hdq); go_simp <;> first | exact ⟨Below.refl _ _, rfl⟩ | (rw [if_neg]; (focus (exact ⟨Below.refl _ _, rfl⟩)); (focus ((try simp only [ByteArray.size_append]); omega))) | (fail)))
                                          iterate 7 (refine flowG_yesE ?_; apply Exists.intro; refine ⟨fun A wq hBq hbq hdq => ⟨?_, ?_⟩, ?_⟩; (focus ((try simp [go_sem, baseF, deps, dep1, Region.binds] at hdq); refine yielded_of rfl ?_; simp [hdq])); focus (obtain ⟨hcq, hfq⟩ := bcellA hBq; (try simp [go_sem, baseF, deps, dep1, Region.binds] at hbq); (try simp [go_sem, baseF, deps, dep1, Region.binds, NewSl] at hdq); go_simp <;> first | exact ⟨Below.refl _ _, rfl⟩ | (rw [if_neg]; (focus (exact ⟨Below.refl _ _, rfl⟩)); (focus ((try simp only [ByteArray.size_append]); omega))) | (first | (go_at_call 27; exact (inHS _ _ _ _ _ H2)))))
                                          iterate 2 (refine flowG_valE ?_; apply Exists.intro; refine ⟨fun A wq hBq hbq hdq => ?_, ?_⟩; focus (obtain ⟨hcq, hfq⟩ := bcellA hBq; (try simp [go_sem, baseF, deps, dep1, Region.binds] at hbq); (try simp [go_sem, baseF, deps, dep1, Region.binds, NewSl] at hdq); go_simp <;> first | exact ⟨Below.refl _ _, rfl⟩ | (rw [if_neg]; (focus (exact ⟨Below.refl _ _, rfl⟩)); (focus ((try simp only [ByteArray.size_append]); omega))) | (fail)))
                                          iterate 4 (refine flowG_yesE ?_; apply Exists.intro; refine ⟨fun A wq hBq hbq hdq => ⟨?_, ?_⟩, ?_⟩; (focus ((try simp [go_sem, baseF, deps, dep1, Region.binds] at hdq); refine yielded_of rfl ?_; simp [hdq])); focus (obtain ⟨hcq, hfq⟩ := bcellA hBq; (try simp [go_sem, baseF, deps, dep1, Region.binds] at hbq); (try simp [go_sem, baseF, deps, dep1, Region.binds, NewSl] at hdq); go_simp <;> first | exact ⟨Below.refl _ _, rfl⟩ | (rw [if_neg]; (focus (exact ⟨Below.refl _ _, rfl⟩)); (focus ((try simp only [ByteArray.size_append]); omega))) | (first | (go_at_call 27; exact (inHS _ _ _ _ _ H3)))))
                                          (refine flowG_valE ?_; apply Exists.intro; refine ⟨fun A wq hBq hbq hdq => ?_, ?_⟩; focus (obtain ⟨hcq, hfq⟩ := bcellA hBq; (try simp [go_sem, baseF, deps, dep1, Region.binds] at hbq); (try simp [go_sem, baseF, deps, dep1, Region.binds, NewSl] at hdq); go_simp <;> first | exact ⟨Below.refl _ _, rfl⟩ | (rw [if_neg]; (focus (exact ⟨Below.refl _ _, rfl⟩)); (focus ((try simp only [ByteArray.size_append]); omega))) | (fail)))
                                          refine fun x wq hBq hall => ?_
                                          simp only [allT] at hall
                                          simp [frameOf, Act.put, hall]
                                          clear hall
                                          simp only [Bool.true_and, Bool.false_and] at hrv
                                          subst hrv
                                          go_wp2_with fail
                                          go_ret
                                          exact ⟨rfl, bl_then B hBq⟩
                                        | true =>
                                          refine wp_region_flowG [3, 5, 6, 7] 153 (by kernel_rfl) (by rfl) (by kernel_rfl) (by kernel_rfl) (by kernel_rfl) ?_
                                          iterate 8 (refine flowG_valE ?_; apply Exists.intro; refine ⟨fun A wq hBq hbq hdq => ?_, ?_⟩; focus (obtain ⟨hcq, hfq⟩ := bcellA hBq; (try simp [go_sem, baseF, deps, dep1, Region.binds] at hbq); (try simp [go_sem, baseF, deps, dep1, Region.binds, NewSl] at hdq); go_simp <;> first | exact ⟨Below.refl _ _, rfl⟩ | (rw [if_neg]; (focus (exact ⟨Below.refl _ _, rfl⟩)); (focus ((try simp only [ByteArray.size_append]); omega))) | (fail)))
                                          iterate 6 (refine flowG_yesE ?_; apply Exists.intro; refine ⟨fun A wq hBq hbq hdq => ⟨?_, ?_⟩, ?_⟩; (focus ((try simp [go_sem, baseF, deps, dep1, Region.binds] at hdq); refine yielded_of rfl ?_; simp [hdq])); focus (obtain ⟨hcq, hfq⟩ := bcellA hBq; (try simp [go_sem, baseF, deps, dep1, Region.binds] at hbq); (try simp [go_sem, baseF, deps, dep1, Region.binds, NewSl] at hdq); go_simp <;> first | exact ⟨Below.refl _ _, rfl⟩ | (rw [if_neg]; (focus (exact ⟨Below.refl _ _, rfl⟩)); (focus ((try simp only [ByteArray.size_append]); omega))) | (first | (go_at_call 27; exact (inHS _ _ _ _ _ H1)))))
                                          iterate 2 (refine flowG_valE ?_; apply Exists.intro; refine ⟨fun A wq hBq hbq hdq => ?_, ?_⟩; focus (obtain ⟨hcq, hfq⟩ := bcellA hBq; (try simp [go_sem, baseF, deps, dep1, Region.binds] at hbq); (try simp [go_sem, baseF, deps, dep1, Region.binds, NewSl] at hdq); go_simp <;> first | exact ⟨Below.refl _ _, rfl⟩ | (rw [if_neg]; (focus (exact ⟨Below.refl _ _, rfl⟩)); (focus ((try simp only [ByteArray.size_append]); omega))) | (fail)))
                                          iterate 7 (refine flowG_yesE ?_; apply Exists.intro; refine ⟨fun A wq hBq hbq hdq => ⟨?_, ?_⟩, ?_⟩; (focus ((try simp [go_sem, baseF, deps, dep1, Region.binds] at hdq); refine yielded_of rfl ?_; simp [hdq])); focus (obtain ⟨hcq, hfq⟩ := bcellA hBq; (try simp [go_sem, baseF, deps, dep1, Region.binds] at hbq); (try simp [go_sem, baseF, deps, dep1, Region.binds, NewSl] at hdq); go_simp <;> first | exact ⟨Below.refl _ _, rfl⟩ | (rw [if_neg]; (focus (exact ⟨Below.refl _ _, rfl⟩)); (focus ((try simp only [ByteArray.size_append]); omega))) | (first | (go_at_call 27; exact (inHS _ _ _ _ _ H2)))))
                                          iterate 2 (refine flowG_valE ?_; apply Exists.intro; refine ⟨fun A wq hBq hbq hdq => ?_, ?_⟩; focus (obtain ⟨hcq, hfq⟩ := bcellA hBq; (try simp [go_sem, baseF, deps, dep1, Region.binds] at hbq); (try simp [go_sem, baseF, deps, dep1, Region.binds, NewSl] at hdq); go_simp <;> first | exact ⟨Below.refl _ _, rfl⟩ | (rw [if_neg]; (focus (exact ⟨Below.refl _ _, rfl⟩)); (focus ((try simp only [ByteArray.size_append]); omega))) | (fail)))
                                          iterate 4 (refine flowG_yesE ?_; apply Exists.intro; refine ⟨fun A wq hBq hbq hdq => ⟨?_, ?_⟩, ?_⟩; (focus ((try simp [go_sem, baseF, deps, dep1, Region.binds] at hdq); refine yielded_of rfl ?_; simp [hdq])); focus (obtain ⟨hcq, hfq⟩ := bcellA hBq; (try simp [go_sem, baseF, deps, dep1, Region.binds] at hbq); (try simp [go_sem, baseF, deps, dep1, Region.binds, NewSl] at hdq); go_simp <;> first | exact ⟨Below.refl _ _, rfl⟩ | (rw [if_neg]; (focus (exact ⟨Below.refl _ _, rfl⟩)); (focus ((try simp only [ByteArray.size_append]); omega))) | (first | (go_at_call 27; exact (inHS _ _ _ _ _ H3)))))
                                          (refine flowG_valE ?_; apply Exists.intro; refine ⟨fun A wq hBq hbq hdq => ?_, ?_⟩; focus (obtain ⟨hcq, hfq⟩ := bcellA hBq; (try simp [go_sem, baseF, deps, dep1, Region.binds] at hbq); (try simp [go_sem, baseF, deps, dep1, Region.binds, NewSl] at hdq); go_simp <;> first | exact ⟨Below.refl _ _, rfl⟩ | (rw [if_neg]; (focus (exact ⟨Below.refl _ _, rfl⟩)); (focus ((try simp only [ByteArray.size_append]); omega))) | (fail)))
                                          refine fun x wq hBq hall => ?_
                                          simp only [allT] at hall
                                          simp [frameOf, Act.put, hall]
                                          clear hall
                                          simp only [Bool.true_and] at hrv
                                          have hrw := Lib.hid hrv
                                          clear hrv
                                          have m2 := m1.below hBq
                                          have B2 := bl_then B hBq
                                          have HC2 := Lib.hid (Kd.C_below HC.out hBq)
                                          clear m1 B HC hBq q0 q1 q2 q3 y0 lq ly
                                          go_wp2_with fail
                                          go_roundg k
                                          case measure => omega
                                          case rel => exact ⟨i + 1, by first | rfl | (rw [E1.out]), by omega, hrw, m2, B2, HC2.out⟩
                                  · have hp' : (p.f0 != rd n.want (i : Int)) = true := by simp [hp]
                                    rw [decide_eq_false hp] at hrv
                                    clear hp
                                    refine wp_region_flowG [3, 5, 6, 7] 153 (by kernel_rfl) (by rfl) (by kernel_rfl) (by kernel_rfl) (by kernel_rfl) ?_
                                    iterate 8 (refine flowG_valE ?_; apply Exists.intro; refine ⟨fun A wq hBq hbq hdq => ?_, ?_⟩; focus (obtain ⟨hcq, hfq⟩ := bcellA hBq; (try simp [go_sem, baseF, deps, dep1, Region.binds] at hbq); (try simp [go_sem, baseF, deps, dep1, Region.binds, NewSl] at hdq); go_simp <;> first | exact ⟨Below.refl _ _, rfl⟩ | (rw [if_neg]; (focus (exact ⟨Below.refl _ _, rfl⟩)); (focus ((try simp only [ByteArray.size_append]); omega))) | (fail)))
                                    iterate 6 (refine flowG_no (fun A wq hBq hbq hdq => ?_) ?_; focus ((try simp [go_sem, baseF, deps, dep1, Region.binds] at hdq); refine yielded_of rfl ?_; simp [hdq]))
                                    iterate 2 (refine flowG_valE ?_; apply Exists.intro; refine ⟨fun A wq hBq hbq hdq => ?_, ?_⟩; focus (obtain ⟨hcq, hfq⟩ := bcellA hBq; (try simp [go_sem, baseF, deps, dep1, Region.binds] at hbq); (try simp [go_sem, baseF, deps, dep1, Region.binds, NewSl] at hdq); go_simp <;> first | exact ⟨Below.refl _ _, rfl⟩ | (rw [if_neg]; (focus (exact ⟨Below.refl _ _, rfl⟩)); (focus ((try simp only [ByteArray.size_append]); omega))) | (fail)))
                                    iterate 7 (refine flowG_no (fun A wq hBq hbq hdq => ?_) ?_; focus ((try simp [go_sem, baseF, deps, dep1, Region.binds] at hdq); refine yielded_of rfl ?_; simp [hdq]))
                                    iterate 2 (refine flowG_valE ?_; apply Exists.intro; refine ⟨fun A wq hBq hbq hdq => ?_, ?_⟩; focus (obtain ⟨hcq, hfq⟩ := bcellA hBq; (try simp [go_sem, baseF, deps, dep1, Region.binds] at hbq); (try simp [go_sem, baseF, deps, dep1, Region.binds, NewSl] at hdq); go_simp <;> first | exact ⟨Below.refl _ _, rfl⟩ | (rw [if_neg]; (focus (exact ⟨Below.refl _ _, rfl⟩)); (focus ((try simp only [ByteArray.size_append]); omega))) | (fail)))
                                    iterate 4 (refine flowG_no (fun A wq hBq hbq hdq => ?_) ?_; focus ((try simp [go_sem, baseF, deps, dep1, Region.binds] at hdq); refine yielded_of rfl ?_; simp [hdq]))
                                    (refine flowG_valE ?_; apply Exists.intro; refine ⟨fun A wq hBq hbq hdq => ?_, ?_⟩; focus (obtain ⟨hcq, hfq⟩ := bcellA hBq; (try simp [go_sem, baseF, deps, dep1, Region.binds] at hbq); (try simp [go_sem, baseF, deps, dep1, Region.binds, NewSl] at hdq); go_simp <;> first | exact ⟨Below.refl _ _, rfl⟩ | (rw [if_neg]; (focus (exact ⟨Below.refl _ _, rfl⟩)); (focus ((try simp only [ByteArray.size_append]); omega))) | (fail)))
                                    refine fun x wq hBq hall => ?_
                                    simp only [allT] at hall
                                    simp [frameOf, Act.put, hall]
                                    clear hall
                                    simp only [Bool.true_and, Bool.false_and] at hrv
                                    subst hrv
                                    go_wp2_with fail
                                    go_ret
                                    exact ⟨rfl, bl_then B hBq⟩
                            · have hne : ((n.ps.length : Int) != (n.want.length : Int)) = true := by
                                have : ¬ ((n.ps.length : Int) = (n.want.length : Int)) := by omega
                                simp [this]
                              obtain rfl : q = false := by rw [← HPQ.out]; unfold NF.peersB; simp [hlen]
                              clear HPQ
                              clear hlen
                              go_wp2_with fail
                              go_ret
                              exact ⟨rfl, B'⟩
end Go.Proofs.Ytallakebnoighaa.PFnExactSettle
end

section
namespace Go.Proofs.Ytallakebnoighaa.PFnExactSettle
open Go.RowKit Go.Proofs.YtallakebnoighaaW.PrintWords
set_option linter.unusedSimpArgs false
set_option linter.unusedVariables false
theorem append_emptyS (W : World) (b base : Nat) (hb : Blk 87 b #[] W) (hbase : base ≤ b) (A : Option Addr) (c : Nat) (ys : List S87) (hC : Kd.C k87 W A ys.length ys) (hl : ys.length ≤ 1000) :
    ∃ v1 w1, (Builtin.append_ #[31, 31] 31 #[.slice (some ⟨b, 0, none⟩) 0 0, .slice A ys.length c]).run Try.prog W = .ok v1 w1 ∧ Kd.R k87 87 w1 base (fun k => base ≤ k) v1 ys ∧ Below W.heap.size W w1 := by
  have ht : Try.prog.underlying 31 = some (.slice 87) := Try.underlying31
  have hinfo : (Try.prog.info? 87).map (fun i => (i.zero, i.size, i.bytes)) = some (some (.agg #[.int .i64 0, .int .i64 0, .string ⟨#[]⟩]), 3, 32) := by kernel_rfl
  have hbl := hb.lt
  cases hi : Try.prog.info? 87 with
  | none => rw [hi] at hinfo; simp at hinfo
  | some i =>
    rw [hi] at hinfo
    simp only [Option.map_some, Option.some.injEq, Prod.mk.injEq] at hinfo
    obtain ⟨i1, i2, i3⟩ := hinfo
    rcases Nat.eq_zero_or_pos ys.length with h0 | h0
    · obtain rfl : ys = [] := List.eq_nil_of_length_eq_zero h0
      refine ⟨.slice (some ⟨b, 0, none⟩) 0 0, W, ?_, ⟨fun k hk => ?_, [], ⟨by simp, .inr ⟨b, 0, #[], rfl, hbase, hb, Nat.le_refl _, by simp [maxLen], by simp, by simp⟩⟩, Reps.none _ _⟩, Below.refl _ _⟩
      · cases A <;> simp [Builtin.append_, run_underlying ht, sizeOf, typeInfo, hi, Builtin.lenOf, Builtin.firstCells, loadCells, loadCellsFrom, storeCells]
      · have : b = k := by simpa [Value.ownBlock] using hk
        omega
    · obtain ⟨ad, rfl, -⟩ := hC.2.2 h0
      obtain ⟨news, hnr, hnc⟩ := ReadsRow.inner_ hC
      have hlen : news.length = ys.length * i.size := by rw [i2]; exact hnr.1
      have hr := run_append_grow (P := Try.prog) W 31 31 87 i _ ht hi i1 ⟨b, 0, none⟩ 0 0 [] (by simp) (by simp) ad ys.length c news hlen hnc (by omega) (by omega) (growslice_fits (by omega) (by rw [i3]; omega))
      have hge := grownCap_ge W (0 + ys.length) 0 87
      have hcm : grownCap W (0 + ys.length) 0 87 ≤ maxLen := grownCap_le_maxLen W (0 + ys.length) 0 87 (by simp [maxLen]; omega)
      have hB : Below W.heap.size W (W.drew.alloc (.cells (([] : List Value).toArray ++ news.toArray ++ Builtin.zeroCells (Value.agg #[.int .i64 0, .int .i64 0, .string ⟨#[]⟩]).cells (grownCap W (0 + ys.length) 0 87 - (0 + ys.length))) 87)) := bl_alloc (bl_drew (Below.refl _ _)) _
      refine ⟨_, _, hr, ⟨fun k hk => ?_, news, ?_, ?_⟩, hB⟩
      · have : W.heap.size = k := by simpa [Value.ownBlock] using hk
        omega
      · refine ⟨by rw [hlen, i2]; rfl, .inr ⟨W.heap.size, grownCap W (0 + ys.length) 0 87, _, by rw [Nat.zero_add], by omega, heap_alloc_new W.drew _, by omega, hcm, ?_, ?_⟩⟩
        · have hz : (Value.agg #[.int .i64 0, .int .i64 0, .string ⟨#[]⟩]).cells.size = 3 := by decide
          obtain ⟨G, hG⟩ : ∃ G, G = grownCap W (0 + ys.length) 0 87 := ⟨_, rfl⟩
          rw [← hG] at hge ⊢
          simp only [Array.size_append, List.size_toArray, size_zeroCells, hz, hlen, i2, List.length_nil, Nat.zero_add]
          rw [← Nat.add_mul, show ys.length + (G - ys.length) = G from by omega]
          rfl
        · simp only [Array.toList_append, List.nil_append]
          rw [show ys.length * k87.sz = news.length from by rw [hlen, i2]; rfl]
          exact List.take_left
      · exact hnr.imp_ (fun x cs hx => by rw [k87_open hx]; exact k87_mkM _ _ _ x)
theorem wpList_appendH {P : Program} {ops : Array Oper} {rest : List Oper} {o : Oper} {a : Act} {W w1 : World} {Q : Exit → Act → World → Prop} {v u v1 : Value} (s x : Operand) (t : TypeId) (hgd : o.guard = none) (ho : o.op = .call { callee := .builtin .append, args := #[s, x], argTypes := #[t, t] }) (hs : a.eval s = v) (hx : a.eval x = u)
    (hr : (Builtin.append_ #[t, t] o.type #[v, u]).run P W = .ok v1 w1) (h : wpList P ops Q rest (a.put o.dst v1) w1) : wpList P ops Q (o :: rest) a W := by
  refine wpList_plain hgd fun K hK => ?_
  unfold Oper.wp execOp
  simp only [ho, resolve, invoke, builtin, Sem.run_bind, Sem.run_pure, Result.andThen_ok, List.map_toArray, List.map_cons, List.map_nil, hs, hx, hr]
  exact hK _ _ h
theorem slastH (s t : Int) (A : Option Addr) (c : Nat) (xs : List S87) (w : World) (hs : 0 ≤ s ∧ s ≤ 2000000) (hl : xs.length ≤ 1048576) (hr : Kd.C k87 w A xs.length xs) (hc : xs.length ≤ c) :
    Calls Try.prog 81 #[.agg #[.int .i64 s, .int .i64 t, .slice A xs.length c]] w fun e w' => e = .returned (.int .i64 (s + (xs.length : Int))) ∧ Below w.heap.size w w' := by
  have h := spec_l06Last.calls s t A c xs _ w hr hc rfl
  rw [show wrap64 (s + (xs.length : Int)) = s + (xs.length : Int) from by unfold wrap64; omega] at h
  refine h.mono ?_
  rintro e w' h
  first | exact h | (obtain ⟨rfl, n, rfl⟩ := h; exact ⟨rfl, bl_drewN (Below.refl _ _) n⟩)
attribute [local go_sem] flowUpon
set_option maxHeartbeats 4000000 in
set_option maxRecDepth 100000 in
theorem sbeh_C (st tm : Int) (A : Option Addr) (c : Nat) (es : List S87) (i t : Int) (w : World) (ht : Hid (termAt st tm es i = t)) (hok : logOkB st tm es = true) (hS : ShortE es) (hi : st ≤ i ∧ i ≤ st + es.length) (hr : Kd.C k87 w A es.length es) (hc : es.length ≤ c) (hnil : A = none → c = 0) :
    Calls Try.prog 48 #[.agg #[.int .i64 st, .int .i64 tm, .slice A es.length c], .int .i64 i, .int .i64 t] w fun e w' => (∃ v, e = .returned (.agg #[.int .i64 i, .int .i64 t, v]) ∧ Kd.R k87 87 w' w.heap.size (fun k => w.heap.size ≤ k) v (es.drop (i - st).toNat)) ∧ Below w.heap.size w w' := by
  have HC := Lib.hid hr
  clear hr
  have hts := (logOkB_parts hok)
  have hs : 0 ≤ st ∧ st ≤ 2000000 := by omega
  have hl : es.length ≤ 1048576 := by omega
  have HO := Lib.hid hok
  have hin := Lib.hid (show inB i st (st + es.length) = true from by rw [inB_iff]; exact hi)
  clear hts hok
  obtain ⟨d, hd⟩ : ∃ d : List S87, es.drop (i - st).toNat = d := ⟨_, rfl⟩
  rw [hd]
  have Hd := Lib.hid hd
  clear hd
  go_enter Try.func48, Try.ntmps48
  go_upto_region 2 with fail
  refine wp_atC (fun X => Blk 33 w.heap.size #[.int .i64 st, .int .i64 tm, .slice A es.length c] X ∧ Blk 33 (w.heap.size + 1) #[.int .i64 0, .int .i64 0, .slice none 0 0] X ∧ Blk 33 (w.heap.size + 1 + 1) #[.int .i64 i, .int .i64 t, .slice none 0 0] X ∧ Below w.heap.size w X) ⟨((Blk.new _ _ w).alloc _).alloc _, (Blk.newE _ _ (w.alloc _) (by simp)).alloc _, Blk.newE _ _ ((w.alloc _).alloc _) (by simp), bl_alloc (bl_alloc (bl_alloc (Below.refl _ _) _) _) _⟩ ?_
  rintro X ⟨k1, k2, k3, B⟩
  have y0 := k1.cell 0 rfl
  have y1 := k1.cell 1 rfl
  have y2 := k1.cell 2 rfl
  have l1 := k1.lt
  refine wp_region_flowG [1, 2, 3] 39 (by kernel_rfl) (by rfl) (by kernel_rfl) (by kernel_rfl) (by kernel_rfl) ?_
  (refine flowG_valE ?_; apply Exists.intro; refine ⟨fun A wq hBq hbq hdq => ?_, ?_⟩; focus (obtain ⟨hcq, hfq⟩ := bcellA hBq; (try simp [go_sem, baseF, deps, dep1, Region.binds] at hbq); (try simp [go_sem, baseF, deps, dep1, Region.binds, NewSl] at hdq); go_simp <;> first | exact ⟨Below.refl _ _, rfl⟩ | (rw [if_neg]; (focus (exact ⟨Below.refl _ _, rfl⟩)); (focus ((try simp only [ByteArray.size_append]); omega))) | (fail)))
  (refine flowG_valE ?_; apply Exists.intro; refine ⟨fun A wq hBq hbq hdq => ?_, ?_⟩; focus (obtain ⟨hcq, hfq⟩ := bcellA hBq; (try simp [go_sem, baseF, deps, dep1, Region.binds] at hbq); (try simp [go_sem, baseF, deps, dep1, Region.binds, NewSl] at hdq); go_simp <;> first | exact ⟨Below.refl _ _, rfl⟩ | (rw [if_neg]; (focus (exact ⟨Below.refl _ _, rfl⟩)); (focus ((try simp only [ByteArray.size_append]); omega))) | (first | (go_at_call 29; exact (spec_LogOkH _ _ _ _ es _ _ HO hS hl (Kd.C_below HC.out (bl_then B hBq)) hc)))))
  (refine flowG_valE ?_; apply Exists.intro; refine ⟨fun A wq hBq hbq hdq => ?_, ?_⟩; focus (obtain ⟨hcq, hfq⟩ := bcellA hBq; (try simp [go_sem, baseF, deps, dep1, Region.binds] at hbq); (try simp [go_sem, baseF, deps, dep1, Region.binds, NewSl] at hdq); go_simp <;> first | exact ⟨Below.refl _ _, rfl⟩ | (rw [if_neg]; (focus (exact ⟨Below.refl _ _, rfl⟩)); (focus ((try simp only [ByteArray.size_append]); omega))) | (fail)))
  iterate 6 (refine flowG_yesE ?_; apply Exists.intro; refine ⟨fun A wq hBq hbq hdq => ⟨?_, ?_⟩, ?_⟩; (focus ((try simp [go_sem, baseF, deps, dep1, Region.binds] at hdq); refine yielded_of rfl ?_; simp [hdq])); focus (obtain ⟨hcq, hfq⟩ := bcellA hBq; (try simp [go_sem, baseF, deps, dep1, Region.binds] at hbq); (try simp [go_sem, baseF, deps, dep1, Region.binds, NewSl] at hdq); go_simp <;> first | exact ⟨Below.refl _ _, rfl⟩ | (rw [if_neg]; (focus (exact ⟨Below.refl _ _, rfl⟩)); (focus ((try simp only [ByteArray.size_append]); omega))) | (first | (go_at_call 81; exact (slastH _ _ _ _ es _ hs hl (Kd.C_below HC.out (bl_then B hBq)) hc)) | (go_at_call 27; exact (inHS _ _ _ _ _ hin)))))
  iterate 2 (refine flowG_valE ?_; apply Exists.intro; refine ⟨fun A wq hBq hbq hdq => ?_, ?_⟩; focus (obtain ⟨hcq, hfq⟩ := bcellA hBq; (try simp [go_sem, baseF, deps, dep1, Region.binds] at hbq); (try simp [go_sem, baseF, deps, dep1, Region.binds, NewSl] at hdq); go_simp <;> first | exact ⟨Below.refl _ _, rfl⟩ | (rw [if_neg]; (focus (exact ⟨Below.refl _ _, rfl⟩)); (focus ((try simp only [ByteArray.size_append]); omega))) | (fail)))
  iterate 5 (refine flowG_yesE ?_; apply Exists.intro; refine ⟨fun A wq hBq hbq hdq => ⟨?_, ?_⟩, ?_⟩; (focus ((try simp [go_sem, baseF, deps, dep1, Region.binds] at hdq); refine yielded_of rfl ?_; simp [hdq])); focus (obtain ⟨hcq, hfq⟩ := bcellA hBq; (try simp [go_sem, baseF, deps, dep1, Region.binds] at hbq); (try simp [go_sem, baseF, deps, dep1, Region.binds, NewSl] at hdq); go_simp <;> first | exact ⟨Below.refl _ _, rfl⟩ | (rw [if_neg]; (focus (exact ⟨Below.refl _ _, rfl⟩)); (focus ((try simp only [ByteArray.size_append]); omega))) | (first | (go_at_call 49; exact (stermH _ _ _ _ es _ _ _ ht hs hl hi (Kd.C_below HC.out (bl_then B hBq)) hc)))))
  (refine flowG_valE ?_; apply Exists.intro; refine ⟨fun A wq hBq hbq hdq => ?_, ?_⟩; focus (obtain ⟨hcq, hfq⟩ := bcellA hBq; (try simp [go_sem, baseF, deps, dep1, Region.binds] at hbq); (try simp [go_sem, baseF, deps, dep1, Region.binds, NewSl] at hdq); go_simp <;> first | exact ⟨Below.refl _ _, rfl⟩ | (rw [if_neg]; (focus (exact ⟨Below.refl _ _, rfl⟩)); (focus ((try simp only [ByteArray.size_append]); omega))) | (fail)))
  refine fun x wq hBq hall => ?_
  simp only [allT] at hall
  simp [frameOf, Act.put, hall]
  clear hall
  have m1 := k1.below hBq
  have m2 := k2.below hBq
  have m3 := k3.below hBq
  have B2 := bl_then B hBq
  clear k1 k2 k3 B hBq y0 y1 y2 l1
  have y0 := m1.cell 0 rfl
  have y1 := m1.cell 1 rfl
  have y2 := m1.cell 2 rfl
  have l1 := m1.lt
  obtain ⟨i0, hi0, hz0⟩ : ∃ i, Try.prog.info? 87 = some i ∧ i.size = 3 := by
    have h : (Try.prog.info? 87).map (·.size) = some 3 := by kernel_rfl
    exact Option.map_eq_some_iff.1 h
  have hd := Hd.out
  obtain ⟨A', hA'⟩ : ∃ A', (if c = (i - st).toNat then A else A.map (·.add ((i - st).toNat * 3))) = A' := ⟨_, rfl⟩
  have hcut : ∀ W : World, (Instr.slice 31 (.slice A es.length c) (some (.int .i64 (i - st))) none none).run Try.prog W = .ok (.slice A' d.length (c - (i - st).toNat)) W := by
    rw [← hd, List.length_drop, ← hA']
    exact cut_from (P := Try.prog) 31 87 .i64 Try.underlying31 hi0 3 hz0 A es.length c (i - st) (by omega) (by omega)
  have hd0 : Kd.C k87 wq A' d.length d := by
    have := Kd.C_drop (m := (i - st).toNat) (Kd.C_below HC.out B2) (by omega) hc
    rw [← hd, ← hA']
    exact this
  have hdl : d.length ≤ c - (i - st).toNat := by rw [← hd, List.length_drop]; omega
  have hdn : A' = none → c - (i - st).toNat = 0 := by
    intro h
    rw [← hA'] at h
    split at h
    · omega
    · rw [hnil (by simpa using h)]; omega
  have hdm : d.length ≤ 1048576 := by rw [← hd, List.length_drop]; omega
  have hw : IntKind.i64.wrap (i - st) = i - st := by rw [IntKind.wrap_i64]; omega
  have HD := Lib.hid hd0
  clear hA' hd hd0 hi0 hz0
  have hsm : d.length ≤ 1000 := by rw [← Hd.out, List.length_drop]; have := (logOkB_parts HO.out).2.2.1; omega
  obtain ⟨v, W1, hrun, hR, hb⟩ := append_emptyS (wq.alloc (.cells #[] 87)) wq.heap.size wq.heap.size (Blk.new _ _ wq) (Nat.le_refl _) A' (c - (i - st).toNat) d (Kd.C_below HD.out (bl_alloc (Below.refl _ _) _)) hsm
  have hq2 := m3.lt
  have he : Kd.R k87 87 W1 w.heap.size (fun k => w.heap.size + 1 + 1 < k) v d := Kd.R_mono (Kd.R_lower hR B2.size) (fun k hk => by have : wq.heap.size ≤ k := hk; omega)
  replace m2 := (m2.alloc (.cells #[] 87)).below hb
  replace m3 := (m3.alloc (.cells #[] 87)).below hb
  replace B2 := bl_then (bl_alloc B2 (.cells #[] 87)) hb
  obtain ⟨A9, c9, rfl, -, -⟩ := Kd.R_reads hR
  have HE := Lib.hid he
  have HU := Lib.hid hrun
  clear he hR hb hq2 m1 hrun
  have z0 := m2.cell 0 rfl
  have z1 := m2.cell 1 rfl
  have z2 := m2.cell 2 rfl
  have zf := fun o => m2.free o
  have lz := m2.lt
  have x0 := m3.cell 0 rfl
  have x1 := m3.cell 1 rfl
  have x2 := m3.cell 2 rfl
  have xf := fun o => m3.free o
  have lx := m3.lt
  go_wp2_with (at_builtin; refine wpList_appendH _ _ _ rfl rfl rfl rfl HU.out ?_)
  refine bodyPost_ret (v := .agg #[.int .i64 i, .int .i64 t, .slice A9 d.length c9]) ?_ rfl ⟨⟨_, rfl, ?_⟩, ?_⟩
  · simp only [results, Try.results48]
    go_simp
  · refine Kd.R_mono (ok := fun k => w.heap.size + 1 + 1 < k) ?_ (fun k hk => by omega)
    iterate 4 refine own_far ?_ (fun k hk => by omega)
    exact HE.out
  · iterate 3 refine bl_set ?_ (Nat.le_succ _)
    refine bl_set ?_ (by show w.heap.size ≤ w.heap.size + 1 + 1; omega)
    exact B2
end Go.Proofs.Ytallakebnoighaa.PFnExactSettle
end
