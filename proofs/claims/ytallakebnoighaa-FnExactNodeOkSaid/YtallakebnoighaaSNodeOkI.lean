import Derived.Test.YtallakebnoighaaSNodeOkH
import Derived.Test.YtallakebnoighaaSNodeOkA

section
namespace Go.Proofs.Ytallakebnoighaa.PFnExactSettle
open Go.RowKit Go.Proofs.YtallakebnoighaaW.PrintWords
set_option linter.unusedSimpArgs false
set_option linter.unusedVariables false
theorem inHS (n lo hi : Int) (b : Bool) (w : World) (h : Hid (inB n lo hi = b)) :
    Calls Try.prog 27 #[.int .i64 n, .int .i64 lo, .int .i64 hi] w fun e w' => e = .returned (.bool b) ∧ Below w.heap.size w w' := by
  have := spec_l01In n lo hi w
  rw [h.out] at this
  exact this.mono (by rintro e w' ⟨rfl, rfl⟩; exact ⟨rfl, Below.refl _ _⟩)
theorem confHS (A : Option Addr) (c : Nat) (xs : List Int) (b : Bool) (w : World) (h : Hid (confOk xs = b)) (hr : Kd.C (Kd.int .i64) w A xs.length xs) (hc : xs.length ≤ c) (hl : xs.length ≤ 1048576) :
    Calls Try.prog 28 #[.slice A xs.length c] w fun e w' => e = .returned (.bool b) ∧ Below w.heap.size w w' := by
  have hf := sconf_f xs (xs.length + 1) (by omega) (by omega)
  rw [h.out] at hf
  refine (spec_ConfOk.calls (xs.length + 1) A c xs _ w hr hc hf).mono ?_
  rintro e w' h
  first | exact h | (obtain ⟨rfl, n, rfl⟩ := h; exact ⟨rfl, bl_drewN (Below.refl _ _) n⟩)
theorem slast_C (s t : Int) (A : Option Addr) (c : Nat) (xs : List S87) (w : World) (hs : 0 ≤ s ∧ s ≤ 2000000) (hl : xs.length ≤ 1048576) (hr : Kd.C k87 w A xs.length xs) (hc : xs.length ≤ c) :
    Calls Try.prog 30 #[.agg #[.int .i64 s, .int .i64 t, .slice A xs.length c]] w fun e w' => e = .returned (.tuple #[.int .i64 (s + (xs.length : Int)), .int .i64 (lastT t xs)]) ∧ Below w.heap.size w w' := by
  refine (spec_LogLast.calls s t A c xs _ _ w hr hc (slast_f s t xs hs hl)).mono ?_
  rintro e w' h
  first | exact h | (obtain ⟨rfl, n, rfl⟩ := h; exact ⟨rfl, bl_drewN (Below.refl _ _) n⟩)
theorem riseHS (A : Option Addr) (c : Nat) (xs : List Int) (b : Bool) (w : World) (h : Hid (rises xs 0 xs.length = b)) (hr : Kd.C (Kd.int .i64) w A xs.length xs) (hc : xs.length ≤ c) (hl : xs.length ≤ 1048576) :
    Calls Try.prog 31 #[.slice A xs.length c, .int .i64 1, .int .i64 4] w fun e w' => e = .returned (.bool b) ∧ Below w.heap.size w w' := by
  have hf : spec_l05Rise.f (xs.length + 1) xs 1 4 = some (rises xs 0 xs.length) := rise_l0 xs xs.length (xs.length + 1) 0 (by omega) (by omega) (by omega)
  rw [h.out] at hf
  refine (spec_l05Rise.calls (xs.length + 1) A c xs 1 4 _ w hr hc hf).mono ?_
  rintro e w' h
  first | exact h | (obtain ⟨rfl, n, rfl⟩ := h; exact ⟨rfl, bl_drewN (Below.refl _ _) n⟩)
theorem confOfS_C (n : NF) (A5 : Option Addr) (c5 : Nat) (A8 : Option Addr) (c8 : Nat) (A12 : Option Addr) (c12 : Nat) (A13 : Option Addr) (c13 : Nat) (w : World) (hz : NodeZ n) (h : NodeC n A5 c5 A8 c8 A12 c12 A13 c13 w) (hl : logOkB n.st n.tm n.es = true) :
    Calls Try.prog 33 #[.agg #[.int .i64 n.id, .int .i64 n.term, .int .i64 n.vote, .int .i64 n.role, .int .i64 n.lead, .slice A5 n.cf.length c5, .int .i64 n.st, .int .i64 n.tm, .slice A8 n.es.length c8, .int .i64 n.cm, .int .i64 n.ck, .int .i64 n.lm, .slice A12 n.vs.length c12, .slice A13 n.ps.length c13]] w fun e w' => (∃ v, e = .returned v ∧ Kd.R (Kd.int .i64) 3 w' w.heap.size (fun _ => True) v n.conf) ∧ Below w.heap.size w w' := by
  refine (spec_ConfOf.calls _ n.id n.term n.vote n.role n.lead A5 c5 n.cf n.st n.tm A8 c8 n.es n.cm n.ck n.lm A12 c12 n.vs A13 c13 n.ps _ w h.h5 h.hc5 h.h8 h.hc8 h.h12 h.hc12 h.h13 h.hc13 (confOfS_f n hz.cf hl hz.sh)).mono ?_
  rintro e w' ⟨v, h1, h2, h3⟩
  exact ⟨⟨v, h1, h2⟩, h3⟩
theorem others_C (A : Option Addr) (c : Nat) (xs : List Int) (x : Int) (w : World) (hr : Kd.C (Kd.int .i64) w A xs.length xs) (hc : xs.length ≤ c) (hl : xs.length ≤ 1048576) :
    Calls Try.prog 32 #[.slice A xs.length c, .int .i64 x] w fun e w' => (∃ v, e = .returned v ∧ Kd.R (Kd.int .i64) 3 w' w.heap.size (fun _ => True) v (xs.filter (fun y => y != x))) ∧ Below w.heap.size w w' := by
  refine (spec_l12Others.calls _ A c xs x _ w hr hc (others_f xs x hl)).mono ?_
  rintro e w' ⟨v, h1, h2, h3⟩
  exact ⟨⟨v, h1, h2⟩, h3⟩
theorem term_split {s t : Int} {xs : List S87} (a : Int) (h : logOkB s t xs = true) : inB a (lastT t xs) 100000 = (inB a 0 100000 && decide (lastT t xs ≤ a)) := by
  have := lastT_ge h
  unfold inB
  by_cases h1 : lastT t xs ≤ a <;> by_cases h2 : a ≤ 100000 <;> simp [h1, h2] <;> omega
theorem NF.ok_spec (n : NF) : n.ok = (inB n.id 1 4 && (confOk n.cf && (logOkB n.st n.tm n.es && (inB n.term 0 100000 && (inB n.vote 0 4 && (inB n.lead 0 4 && (inB n.role 0 2 && (decide (lastT n.tm n.es ≤ n.term) && (inB n.cm n.st (n.st + n.es.length) && (inB n.ck 0 20 && (inB n.lm 1 20 && (rises n.vs 0 n.vs.length && ((decide (n.vs.length = 0) || decide (n.role = 1)) && n.peersB))))))))))))) := by
  unfold NF.ok NF.votesB
  cases h : logOkB n.st n.tm n.es with
  | false => simp only [Bool.false_and, Bool.and_false]
  | true =>
    rw [term_split _ h]
    ac_rfl
attribute [local go_sem] flowUpon
set_option maxHeartbeats 4000000 in
set_option maxRecDepth 100000 in
theorem spec_NodeOk_C (n : NF) (A5 : Option Addr) (c5 : Nat) (A8 : Option Addr) (c8 : Nat) (A12 : Option Addr) (c12 : Nat) (A13 : Option Addr) (c13 : Nat) (w : World) (hz : NodeZ n) (h : NodeC n A5 c5 A8 c8 A12 c12 A13 c13 w) :
    Calls Try.prog 7 #[.agg #[.int .i64 n.id, .int .i64 n.term, .int .i64 n.vote, .int .i64 n.role, .int .i64 n.lead, .slice A5 n.cf.length c5, .int .i64 n.st, .int .i64 n.tm, .slice A8 n.es.length c8, .int .i64 n.cm, .int .i64 n.ck, .int .i64 n.lm, .slice A12 n.vs.length c12, .slice A13 n.ps.length c13]] w fun e w' => e = .returned (.bool n.ok) ∧ Below w.heap.size w w' := by
  have H := Lib.hid h
  have hc8 := h.hc8
  have hc13 := h.hc13
  clear h
  obtain ⟨q, hq⟩ : ∃ q, n.ok = q := ⟨_, rfl⟩
  rw [hq]
  rw [NF.ok_spec] at hq
  have hq := Lib.hid hq
  go_enter Try.func7, Try.ntmps7
  go_wp2_with fail
  refine calls_atC (fun W => Blk 36 w.heap.size #[.int .i64 n.id, .int .i64 n.term, .int .i64 n.vote, .int .i64 n.role, .int .i64 n.lead, .slice A5 n.cf.length c5, .int .i64 n.st, .int .i64 n.tm, .slice A8 n.es.length c8, .int .i64 n.cm, .int .i64 n.ck, .int .i64 n.lm, .slice A12 n.vs.length c12, .slice A13 n.ps.length c13] W ∧ Below w.heap.size w W) ⟨Blk.new _ _ w, (by repeat (first | exact Below.refl _ _ | apply bl_alloc | apply bl_drewN | apply bl_drew | refine bl_set ?_ (by simp) | refine bl_then ?_ (by assumption)))⟩ ?_
  rintro W0 ⟨k1, B⟩
  obtain ⟨o, ho⟩ : ∃ o, inB n.id 1 4 = o := ⟨_, rfl⟩
  have Ho := Lib.hid ho
  replace hq := hq.out
  rw [ho] at hq
  clear ho
  refine (inHS _ _ _ _ _ Ho).mono ?_
  rintro e V0 ⟨rfl, hb⟩
  replace k1 := k1.below hb
  replace B := bl_then B hb
  clear  hb W0
  have y0 := k1.cell 0 rfl
  have y1 := k1.cell 1 rfl
  have y2 := k1.cell 2 rfl
  have y3 := k1.cell 3 rfl
  have y4 := k1.cell 4 rfl
  have y5 := k1.cell 5 rfl
  have y6 := k1.cell 6 rfl
  have y7 := k1.cell 7 rfl
  have y8 := k1.cell 8 rfl
  have y9 := k1.cell 9 rfl
  have y10 := k1.cell 10 rfl
  have y11 := k1.cell 11 rfl
  have y12 := k1.cell 12 rfl
  have y13 := k1.cell 13 rfl
  have l1 := k1.lt
  cases o with
  | false =>
    rw [Bool.false_and] at hq
    subst hq
    go_wp2_with fail
    go_ret
    exact ⟨rfl, B⟩
  | true =>
    rw [Bool.true_and] at hq
    replace hq := Lib.hid hq
    clear Ho
    obtain ⟨o, ho⟩ : ∃ o, confOk n.cf = o := ⟨_, rfl⟩
    have Ho := Lib.hid ho
    replace hq := hq.out
    rw [ho] at hq
    clear ho
    go_wp2_with fail
    refine (confHS _ _ n.cf _ _ Ho (H.out.below B).h5 H.out.hc5 hz.cf).mono ?_
    rintro e V1 ⟨rfl, hb⟩
    replace k1 := k1.below hb
    replace B := bl_then B hb
    clear y0 y1 y2 y3 y4 y5 y6 y7 y8 y9 y10 y11 y12 y13 l1 hb V0
    have y0 := k1.cell 0 rfl
    have y1 := k1.cell 1 rfl
    have y2 := k1.cell 2 rfl
    have y3 := k1.cell 3 rfl
    have y4 := k1.cell 4 rfl
    have y5 := k1.cell 5 rfl
    have y6 := k1.cell 6 rfl
    have y7 := k1.cell 7 rfl
    have y8 := k1.cell 8 rfl
    have y9 := k1.cell 9 rfl
    have y10 := k1.cell 10 rfl
    have y11 := k1.cell 11 rfl
    have y12 := k1.cell 12 rfl
    have y13 := k1.cell 13 rfl
    have l1 := k1.lt
    cases o with
    | false =>
      rw [Bool.false_and] at hq
      subst hq
      go_wp2_with fail
      go_ret
      exact ⟨rfl, B⟩
    | true =>
      rw [Bool.true_and] at hq
      replace hq := Lib.hid hq
      have HK := Ho
      clear Ho
      obtain ⟨o, ho⟩ : ∃ o, logOkB n.st n.tm n.es = o := ⟨_, rfl⟩
      have Ho := Lib.hid ho
      replace hq := hq.out
      rw [ho] at hq
      clear ho
      go_wp2_with fail
      refine (spec_LogOkH _ _ _ _ n.es _ _ Ho hz.sh hz.es (H.out.below B).h8 hc8).mono ?_
      rintro e V2 ⟨rfl, hb⟩
      replace k1 := k1.below hb
      replace B := bl_then B hb
      clear y0 y1 y2 y3 y4 y5 y6 y7 y8 y9 y10 y11 y12 y13 l1 hb V1
      have y0 := k1.cell 0 rfl
      have y1 := k1.cell 1 rfl
      have y2 := k1.cell 2 rfl
      have y3 := k1.cell 3 rfl
      have y4 := k1.cell 4 rfl
      have y5 := k1.cell 5 rfl
      have y6 := k1.cell 6 rfl
      have y7 := k1.cell 7 rfl
      have y8 := k1.cell 8 rfl
      have y9 := k1.cell 9 rfl
      have y10 := k1.cell 10 rfl
      have y11 := k1.cell 11 rfl
      have y12 := k1.cell 12 rfl
      have y13 := k1.cell 13 rfl
      have l1 := k1.lt
      cases o with
      | false =>
        rw [Bool.false_and] at hq
        subst hq
        go_wp2_with fail
        go_ret
        exact ⟨rfl, B⟩
      | true =>
        rw [Bool.true_and] at hq
        replace hq := Lib.hid hq
        have HL := Ho
        have hst : 0 ≤ n.st ∧ n.st ≤ 2000000 := by have := (logOkB_parts HL.out).1; omega
        clear Ho
        obtain ⟨o, ho⟩ : ∃ o, inB n.term 0 100000 = o := ⟨_, rfl⟩
        have Ho := Lib.hid ho
        replace hq := hq.out
        rw [ho] at hq
        clear ho
        go_wp2_with fail
        refine (inHS _ _ _ _ _ Ho).mono ?_
        rintro e V3 ⟨rfl, hb⟩
        replace k1 := k1.below hb
        replace B := bl_then B hb
        clear y0 y1 y2 y3 y4 y5 y6 y7 y8 y9 y10 y11 y12 y13 l1 hb V2
        have y0 := k1.cell 0 rfl
        have y1 := k1.cell 1 rfl
        have y2 := k1.cell 2 rfl
        have y3 := k1.cell 3 rfl
        have y4 := k1.cell 4 rfl
        have y5 := k1.cell 5 rfl
        have y6 := k1.cell 6 rfl
        have y7 := k1.cell 7 rfl
        have y8 := k1.cell 8 rfl
        have y9 := k1.cell 9 rfl
        have y10 := k1.cell 10 rfl
        have y11 := k1.cell 11 rfl
        have y12 := k1.cell 12 rfl
        have y13 := k1.cell 13 rfl
        have l1 := k1.lt
        cases o with
        | false =>
          rw [Bool.false_and] at hq
          subst hq
          go_wp2_with fail
          go_ret
          exact ⟨rfl, B⟩
        | true =>
          rw [Bool.true_and] at hq
          replace hq := Lib.hid hq
          clear Ho
          obtain ⟨o, ho⟩ : ∃ o, inB n.vote 0 4 = o := ⟨_, rfl⟩
          have Ho := Lib.hid ho
          replace hq := hq.out
          rw [ho] at hq
          clear ho
          go_wp2_with fail
          refine (inHS _ _ _ _ _ Ho).mono ?_
          rintro e V4 ⟨rfl, hb⟩
          replace k1 := k1.below hb
          replace B := bl_then B hb
          clear y0 y1 y2 y3 y4 y5 y6 y7 y8 y9 y10 y11 y12 y13 l1 hb V3
          have y0 := k1.cell 0 rfl
          have y1 := k1.cell 1 rfl
          have y2 := k1.cell 2 rfl
          have y3 := k1.cell 3 rfl
          have y4 := k1.cell 4 rfl
          have y5 := k1.cell 5 rfl
          have y6 := k1.cell 6 rfl
          have y7 := k1.cell 7 rfl
          have y8 := k1.cell 8 rfl
          have y9 := k1.cell 9 rfl
          have y10 := k1.cell 10 rfl
          have y11 := k1.cell 11 rfl
          have y12 := k1.cell 12 rfl
          have y13 := k1.cell 13 rfl
          have l1 := k1.lt
          cases o with
          | false =>
            rw [Bool.false_and] at hq
            subst hq
            go_wp2_with fail
            go_ret
            exact ⟨rfl, B⟩
          | true =>
            rw [Bool.true_and] at hq
            replace hq := Lib.hid hq
            clear Ho
            obtain ⟨o, ho⟩ : ∃ o, inB n.lead 0 4 = o := ⟨_, rfl⟩
            have Ho := Lib.hid ho
            replace hq := hq.out
            rw [ho] at hq
            clear ho
            go_wp2_with fail
            refine (inHS _ _ _ _ _ Ho).mono ?_
            rintro e V5 ⟨rfl, hb⟩
            replace k1 := k1.below hb
            replace B := bl_then B hb
            clear y0 y1 y2 y3 y4 y5 y6 y7 y8 y9 y10 y11 y12 y13 l1 hb V4
            have y0 := k1.cell 0 rfl
            have y1 := k1.cell 1 rfl
            have y2 := k1.cell 2 rfl
            have y3 := k1.cell 3 rfl
            have y4 := k1.cell 4 rfl
            have y5 := k1.cell 5 rfl
            have y6 := k1.cell 6 rfl
            have y7 := k1.cell 7 rfl
            have y8 := k1.cell 8 rfl
            have y9 := k1.cell 9 rfl
            have y10 := k1.cell 10 rfl
            have y11 := k1.cell 11 rfl
            have y12 := k1.cell 12 rfl
            have y13 := k1.cell 13 rfl
            have l1 := k1.lt
            cases o with
            | false =>
              rw [Bool.false_and] at hq
              subst hq
              go_wp2_with fail
              go_ret
              exact ⟨rfl, B⟩
            | true =>
              rw [Bool.true_and] at hq
              replace hq := Lib.hid hq
              clear Ho
              obtain ⟨o, ho⟩ : ∃ o, inB n.role 0 2 = o := ⟨_, rfl⟩
              have Ho := Lib.hid ho
              replace hq := hq.out
              rw [ho] at hq
              clear ho
              go_wp2_with fail
              refine (inHS _ _ _ _ _ Ho).mono ?_
              rintro e V6 ⟨rfl, hb⟩
              replace k1 := k1.below hb
              replace B := bl_then B hb
              clear y0 y1 y2 y3 y4 y5 y6 y7 y8 y9 y10 y11 y12 y13 l1 hb V5
              have y0 := k1.cell 0 rfl
              have y1 := k1.cell 1 rfl
              have y2 := k1.cell 2 rfl
              have y3 := k1.cell 3 rfl
              have y4 := k1.cell 4 rfl
              have y5 := k1.cell 5 rfl
              have y6 := k1.cell 6 rfl
              have y7 := k1.cell 7 rfl
              have y8 := k1.cell 8 rfl
              have y9 := k1.cell 9 rfl
              have y10 := k1.cell 10 rfl
              have y11 := k1.cell 11 rfl
              have y12 := k1.cell 12 rfl
              have y13 := k1.cell 13 rfl
              have l1 := k1.lt
              cases o with
              | false =>
                rw [Bool.false_and] at hq
                subst hq
                go_wp2_with fail
                go_ret
                exact ⟨rfl, B⟩
              | true =>
                rw [Bool.true_and] at hq
                replace hq := Lib.hid hq
                clear Ho
                go_wp2_with fail
                refine (slast_C _ _ _ _ n.es _ hst hz.es (H.out.below B).h8 hc8).mono ?_
                rintro e V7 ⟨rfl, hb⟩
                replace k1 := k1.below hb
                replace B := bl_then B hb
                clear y0 y1 y2 y3 y4 y5 y6 y7 y8 y9 y10 y11 y12 y13 l1 hb V6
                have y0 := k1.cell 0 rfl
                have y1 := k1.cell 1 rfl
                have y2 := k1.cell 2 rfl
                have y3 := k1.cell 3 rfl
                have y4 := k1.cell 4 rfl
                have y5 := k1.cell 5 rfl
                have y6 := k1.cell 6 rfl
                have y7 := k1.cell 7 rfl
                have y8 := k1.cell 8 rfl
                have y9 := k1.cell 9 rfl
                have y10 := k1.cell 10 rfl
                have y11 := k1.cell 11 rfl
                have y12 := k1.cell 12 rfl
                have y13 := k1.cell 13 rfl
                have l1 := k1.lt
                replace hq := hq.out
                by_cases ho : lastT n.tm n.es ≤ n.term
                rotate_left
                · rw [decide_eq_false ho, Bool.false_and] at hq
                  subst hq
                  have ho2 : n.term < lastT n.tm n.es := by omega
                  clear ho
                  go_wp2_with fail
                  go_ret
                  exact ⟨rfl, B⟩
                rw [decide_eq_true ho, Bool.true_and] at hq
                replace hq := Lib.hid hq
                have ho2 : ¬ n.term < lastT n.tm n.es := by omega
                clear ho
                obtain ⟨o, ho⟩ : ∃ o, inB n.cm n.st (n.st + n.es.length) = o := ⟨_, rfl⟩
                have Ho := Lib.hid ho
                replace hq := hq.out
                rw [ho] at hq
                clear ho
                go_wp2_with fail
                refine (inHS _ _ _ _ _ Ho).mono ?_
                rintro e V9 ⟨rfl, hb⟩
                replace k1 := k1.below hb
                replace B := bl_then B hb
                clear y0 y1 y2 y3 y4 y5 y6 y7 y8 y9 y10 y11 y12 y13 l1 hb V7
                have y0 := k1.cell 0 rfl
                have y1 := k1.cell 1 rfl
                have y2 := k1.cell 2 rfl
                have y3 := k1.cell 3 rfl
                have y4 := k1.cell 4 rfl
                have y5 := k1.cell 5 rfl
                have y6 := k1.cell 6 rfl
                have y7 := k1.cell 7 rfl
                have y8 := k1.cell 8 rfl
                have y9 := k1.cell 9 rfl
                have y10 := k1.cell 10 rfl
                have y11 := k1.cell 11 rfl
                have y12 := k1.cell 12 rfl
                have y13 := k1.cell 13 rfl
                have l1 := k1.lt
                cases o with
                | false =>
                  rw [Bool.false_and] at hq
                  subst hq
                  go_wp2_with fail
                  go_ret
                  exact ⟨rfl, B⟩
                | true =>
                  rw [Bool.true_and] at hq
                  replace hq := Lib.hid hq
                  clear Ho
                  obtain ⟨o, ho⟩ : ∃ o, inB n.ck 0 20 = o := ⟨_, rfl⟩
                  have Ho := Lib.hid ho
                  replace hq := hq.out
                  rw [ho] at hq
                  clear ho
                  go_wp2_with fail
                  refine (inHS _ _ _ _ _ Ho).mono ?_
                  rintro e V10 ⟨rfl, hb⟩
                  replace k1 := k1.below hb
                  replace B := bl_then B hb
                  clear y0 y1 y2 y3 y4 y5 y6 y7 y8 y9 y10 y11 y12 y13 l1 hb V9
                  have y0 := k1.cell 0 rfl
                  have y1 := k1.cell 1 rfl
                  have y2 := k1.cell 2 rfl
                  have y3 := k1.cell 3 rfl
                  have y4 := k1.cell 4 rfl
                  have y5 := k1.cell 5 rfl
                  have y6 := k1.cell 6 rfl
                  have y7 := k1.cell 7 rfl
                  have y8 := k1.cell 8 rfl
                  have y9 := k1.cell 9 rfl
                  have y10 := k1.cell 10 rfl
                  have y11 := k1.cell 11 rfl
                  have y12 := k1.cell 12 rfl
                  have y13 := k1.cell 13 rfl
                  have l1 := k1.lt
                  cases o with
                  | false =>
                    rw [Bool.false_and] at hq
                    subst hq
                    go_wp2_with fail
                    go_ret
                    exact ⟨rfl, B⟩
                  | true =>
                    rw [Bool.true_and] at hq
                    replace hq := Lib.hid hq
                    clear Ho
                    obtain ⟨o, ho⟩ : ∃ o, inB n.lm 1 20 = o := ⟨_, rfl⟩
                    have Ho := Lib.hid ho
                    replace hq := hq.out
                    rw [ho] at hq
                    clear ho
                    go_wp2_with fail
                    refine (inHS _ _ _ _ _ Ho).mono ?_
                    rintro e V11 ⟨rfl, hb⟩
                    replace k1 := k1.below hb
                    replace B := bl_then B hb
                    clear y0 y1 y2 y3 y4 y5 y6 y7 y8 y9 y10 y11 y12 y13 l1 hb V10
                    have y0 := k1.cell 0 rfl
                    have y1 := k1.cell 1 rfl
                    have y2 := k1.cell 2 rfl
                    have y3 := k1.cell 3 rfl
                    have y4 := k1.cell 4 rfl
                    have y5 := k1.cell 5 rfl
                    have y6 := k1.cell 6 rfl
                    have y7 := k1.cell 7 rfl
                    have y8 := k1.cell 8 rfl
                    have y9 := k1.cell 9 rfl
                    have y10 := k1.cell 10 rfl
                    have y11 := k1.cell 11 rfl
                    have y12 := k1.cell 12 rfl
                    have y13 := k1.cell 13 rfl
                    have l1 := k1.lt
                    cases o with
                    | false =>
                      rw [Bool.false_and] at hq
                      subst hq
                      go_wp2_with fail
                      go_ret
                      exact ⟨rfl, B⟩
                    | true =>
                      rw [Bool.true_and] at hq
                      replace hq := Lib.hid hq
                      clear Ho
                      obtain ⟨o, ho⟩ : ∃ o, rises n.vs 0 n.vs.length = o := ⟨_, rfl⟩
                      have Ho := Lib.hid ho
                      replace hq := hq.out
                      rw [ho] at hq
                      clear ho
                      go_wp2_with fail
                      refine (riseHS _ _ n.vs _ _ Ho (H.out.below B).h12 H.out.hc12 hz.vs).mono ?_
                      rintro e V12 ⟨rfl, hb⟩
                      replace k1 := k1.below hb
                      replace B := bl_then B hb
                      clear y0 y1 y2 y3 y4 y5 y6 y7 y8 y9 y10 y11 y12 y13 l1 hb V11
                      have y0 := k1.cell 0 rfl
                      have y1 := k1.cell 1 rfl
                      have y2 := k1.cell 2 rfl
                      have y3 := k1.cell 3 rfl
                      have y4 := k1.cell 4 rfl
                      have y5 := k1.cell 5 rfl
                      have y6 := k1.cell 6 rfl
                      have y7 := k1.cell 7 rfl
                      have y8 := k1.cell 8 rfl
                      have y9 := k1.cell 9 rfl
                      have y10 := k1.cell 10 rfl
                      have y11 := k1.cell 11 rfl
                      have y12 := k1.cell 12 rfl
                      have y13 := k1.cell 13 rfl
                      have l1 := k1.lt
                      cases o with
                      | false =>
                        rw [Bool.false_and] at hq
                        subst hq
                        go_wp2_with fail
                        go_ret
                        exact ⟨rfl, B⟩
                      | true =>
                        rw [Bool.true_and] at hq
                        replace hq := Lib.hid hq
                        clear Ho
                        have HB : Hid (∃ bv, (decide (n.vs.length = 0) || decide (n.role = 1)) = bv) := Lib.hid ⟨_, rfl⟩
                        obtain ⟨bv, hbv⟩ := HB.out
                        replace hq := hq.out
                        rw [hbv] at hq
                        obtain ⟨o1, ho1⟩ : ∃ o, decide ((n.vs.length : Int) > 0) = o := ⟨_, rfl⟩
                        obtain ⟨o2, ho2⟩ : ∃ o, (n.role != 1) = o := ⟨_, rfl⟩
                        obtain rfl : bv = !(o1 && o2) := by rw [← hbv, ← ho1, ← ho2]; by_cases h1 : n.vs.length = 0 <;> by_cases h2 : n.role = 1 <;> simp [h1, h2] <;> omega
                        clear hbv HB
                        replace hq := Lib.hid hq
                        obtain ⟨o9, ho9⟩ : ∃ o, (n.role == 2) = o := ⟨_, rfl⟩
                        have hs : (0 < n.vs.length ∧ o2 = true) ∨ (0 < n.vs.length ∧ o2 = false) ∨ ¬ 0 < n.vs.length := by
                          rcases Nat.eq_zero_or_pos n.vs.length with h | h
                          · exact .inr (.inr (by omega))
                          · cases o2
                            · exact .inr (.inl ⟨h, rfl⟩)
                            · exact .inl ⟨h, rfl⟩
                        rcases hs with ⟨hv, rfl⟩ | hs
                        · obtain rfl : o1 = true := by rw [← ho1]; simp only [decide_eq_true_eq]; omega
                          obtain rfl : q = false := by rw [← hq.out]; rfl
                          clear ho1
                          go_wp2_with fail
                          go_ret
                          exact ⟨rfl, B⟩
                        have HPQ : Hid (n.peersB = q) := Lib.hid (by
                          have ho : (o1 && o2) = false := by
                            rcases hs with ⟨-, rfl⟩ | hv
                            · simp
                            · obtain rfl : o1 = false := by rw [← ho1]; simp only [decide_eq_false_iff_not]; omega
                              rfl
                          have := hq.out
                          rw [ho] at this
                          simpa using this)
                        clear hq ho1
                        rcases hs with ⟨hv, rfl⟩ | hv
                        all_goals
                          go_upto_if 100 with fail
                          refine wp_atC (fun X => Blk 36 w.heap.size #[.int .i64 n.id, .int .i64 n.term, .int .i64 n.vote, .int .i64 n.role, .int .i64 n.lead, .slice A5 n.cf.length c5, .int .i64 n.st, .int .i64 n.tm, .slice A8 n.es.length c8, .int .i64 n.cm, .int .i64 n.ck, .int .i64 n.lm, .slice A12 n.vs.length c12, .slice A13 n.ps.length c13] X ∧ Below w.heap.size w X ∧ Blk 3 V12.heap.size #[] X) ⟨k1.alloc _, bl_alloc B _, Blk.newE _ _ V12 (by simp)⟩ ?_
                          clear k1 B y0 y1 y2 y3 y4 y5 y6 y7 y8 y9 y10 y11 y12 y13 l1
                          rintro X ⟨k1, B, kE⟩
                          go_cut [5] from 101 to 105 (fun v5 wx => ∃ (A3 : Option Addr) (c3 : Nat), v5 = .slice A3 n.want.length c3 ∧ n.want.length ≤ c3 ∧ Kd.C (Kd.int .i64) wx A3 n.want.length n.want ∧ Blk 36 w.heap.size #[.int .i64 n.id, .int .i64 n.term, .int .i64 n.vote, .int .i64 n.role, .int .i64 n.lead, .slice A5 n.cf.length c5, .int .i64 n.st, .int .i64 n.tm, .slice A8 n.es.length c8, .int .i64 n.cm, .int .i64 n.ck, .int .i64 n.lm, .slice A12 n.vs.length c12, .slice A13 n.ps.length c13] wx ∧ Below w.heap.size w wx)
                          case first =>
                            cases o9 with
                            | true =>
                              have hw := Lib.hid (show n.want = n.conf.filter (fun y => y != n.id) from by unfold NF.want; rw [if_pos (by simpa using ho9)])
                              have y0 := k1.cell 0 rfl
                              have y1 := k1.cell 1 rfl
                              have y2 := k1.cell 2 rfl
                              have y3 := k1.cell 3 rfl
                              have y4 := k1.cell 4 rfl
                              have y5 := k1.cell 5 rfl
                              have y6 := k1.cell 6 rfl
                              have y7 := k1.cell 7 rfl
                              have y8 := k1.cell 8 rfl
                              have y9 := k1.cell 9 rfl
                              have y10 := k1.cell 10 rfl
                              have y11 := k1.cell 11 rfl
                              have y12 := k1.cell 12 rfl
                              have y13 := k1.cell 13 rfl
                              have l1 := k1.lt
                              have hcs : 1 ≤ n.conf.length ∧ n.conf.length ≤ 4 := confOk_short (conf_ok HK.out HL.out (n.st + n.es.length))
                              go_upto_region 8 with fail
                              refine wp_region_flow [1] 153 (by kernel_rfl) (by rfl) (by kernel_rfl) (by kernel_rfl) (by kernel_rfl) ?_
                              (refine flow_valE ?_; apply Exists.intro; refine ⟨fun A wq hBq hbq hdq => ?_, ?_⟩; focus (obtain ⟨hcq, hfq⟩ := bcell hBq; (try simp [go_sem, baseF, deps, dep1, Region.binds] at hbq); (try simp [go_sem, baseF, deps, dep1, Region.binds, NewSl] at hdq); go_simp; first | exact ⟨Below.refl _ _, rfl⟩ | (rw [if_neg]; (focus (exact ⟨Below.refl _ _, rfl⟩)); (focus ((try simp only [ByteArray.size_append]); omega))) | (fail)))
                              refine flow_R (fun W u => ∃ A c, u = .slice A n.conf.length c ∧ n.conf.length ≤ c ∧ Kd.C (Kd.int .i64) W A n.conf.length n.conf) (fun W W' u ⟨A, c, h1, h2, h3⟩ hb => ⟨A, c, h1, h2, Kd.C_below h3 hb⟩) (fun A wq hBq hbq hdq => ?_) ?_
                              · (try simp [go_sem, baseF, deps, dep1, Region.binds] at hbq)
                                (try simp [go_sem, baseF, deps, dep1, Region.binds, NewSl] at hdq)
                                go_simp
                                refine (confOfS_C n A5 c5 A8 c8 A12 c12 A13 c13 wq hz (H.out.below (bl_then B hBq)) HL.out).mono ?_
                                rintro e w5 ⟨⟨v, rfl, hR⟩, hb5⟩
                                obtain ⟨A9, c9, rfl, h8, h9⟩ := Kd.R_reads hR
                                exact ⟨_, rfl, hb5, A9, c9, rfl, h8, h9⟩
                              (refine flow_valE ?_; apply Exists.intro; refine ⟨fun A wq hBq hbq hdq => ?_, ?_⟩; focus (obtain ⟨hcq, hfq⟩ := bcell hBq; (try simp [go_sem, baseF, deps, dep1, Region.binds] at hbq); (try simp [go_sem, baseF, deps, dep1, Region.binds, NewSl] at hdq); go_simp; first | exact ⟨Below.refl _ _, rfl⟩ | (rw [if_neg]; (focus (exact ⟨Below.refl _ _, rfl⟩)); (focus ((try simp only [ByteArray.size_append]); omega))) | (fail)))
                              (refine flow_valE ?_; apply Exists.intro; refine ⟨fun A wq hBq hbq hdq => ?_, ?_⟩; focus (obtain ⟨hcq, hfq⟩ := bcell hBq; (try simp [go_sem, baseF, deps, dep1, Region.binds] at hbq); (try simp [go_sem, baseF, deps, dep1, Region.binds, NewSl] at hdq); go_simp; first | exact ⟨Below.refl _ _, rfl⟩ | (rw [if_neg]; (focus (exact ⟨Below.refl _ _, rfl⟩)); (focus ((try simp only [ByteArray.size_append]); omega))) | (fail)))
                              refine flow_R (fun W u => ∃ A c, u = .slice A n.want.length c ∧ n.want.length ≤ c ∧ Kd.C (Kd.int .i64) W A n.want.length n.want) (fun W W' u ⟨A, c, h1, h2, h3⟩ hb => ⟨A, c, h1, h2, Kd.C_below h3 hb⟩) (fun A wq hBq hbq hdq => ?_) ?_
                              · (try simp [go_sem, baseF, deps, dep1, Region.binds] at hbq)
                                (try simp [go_sem, baseF, deps, dep1, Region.binds, NewSl] at hdq)
                                obtain ⟨⟨A9, c9, h1, h2, h3⟩, h4, -⟩ := hdq
                                go_simp
                                refine (others_C A9 c9 n.conf n.id wq h3 h2 (by omega)).mono ?_
                                rintro e w5 ⟨⟨v, rfl, hR⟩, hb5⟩
                                rw [← hw.out] at hR
                                obtain ⟨A9, c9, rfl, h8, h9⟩ := Kd.R_reads hR
                                exact ⟨_, rfl, hb5, A9, c9, rfl, h8, h9⟩
                              refine flow_R (fun W u => ∃ A c, u = .slice A n.want.length c ∧ n.want.length ≤ c ∧ Kd.C (Kd.int .i64) W A n.want.length n.want) (fun W W' u ⟨A, c, h1, h2, h3⟩ hb => ⟨A, c, h1, h2, Kd.C_below h3 hb⟩) (fun A wq hBq hbq hdq => ?_) ?_
                              · (try simp [go_sem, baseF, deps, dep1, Region.binds] at hbq)
                                (try simp [go_sem, baseF, deps, dep1, Region.binds, NewSl] at hdq)
                                obtain ⟨⟨A9, c9, h1, h2, h3⟩, -⟩ := hdq
                                go_simp
                                first | exact ⟨Below.refl _ _, A9, c9, rfl, h2, h3⟩ | exact ⟨Below.refl _ _, A9, c9, h1, h2, h3⟩ | exact ⟨Below.refl _ _, A9, c9, ⟨rfl, rfl⟩, h2, h3⟩ | exact ⟨Below.refl _ _, A9, c9, by simp, h2, h3⟩
                              refine fun x wq hBq hall => ?_
                              simp only [allT] at hall
                              obtain ⟨⟨A9, c9, h8, h9, h10⟩, -⟩ := hall
                              simp [frameOf, Act.put, h8]
                              clear h8
                              go_wp2_with fail
                              go_meet
                              exact ⟨_, _, rfl, h9, h10, k1.below hBq, bl_then B hBq⟩
                            | false =>
                              have hw : n.want = [] := by unfold NF.want; rw [if_neg (by simpa using ho9)]
                              go_wp2_with fail
                              go_meet
                              rw [hw]
                              exact ⟨_, _, rfl, by simp, row_ints [] (by simp) (by simp), k1, B⟩
                          case rest =>
                            obtain ⟨A3, c3, rfl, hcw, hC, m1, B'⟩ := hcut
                            clear k1 B kE
                            have HC := Lib.hid hC
                            clear hC
                            have y0 := m1.cell 0 rfl
                            have y1 := m1.cell 1 rfl
                            have y2 := m1.cell 2 rfl
                            have y3 := m1.cell 3 rfl
                            have y4 := m1.cell 4 rfl
                            have y5 := m1.cell 5 rfl
                            have y6 := m1.cell 6 rfl
                            have y7 := m1.cell 7 rfl
                            have y8 := m1.cell 8 rfl
                            have y9 := m1.cell 9 rfl
                            have y10 := m1.cell 10 rfl
                            have y11 := m1.cell 11 rfl
                            have y12 := m1.cell 12 rfl
                            have y13 := m1.cell 13 rfl
                            have l1 := m1.lt
                            by_cases hlen : n.ps.length = n.want.length
                            · have hne : ((n.ps.length : Int) != (n.want.length : Int)) = false := by simp [hlen]
                              have hr : Hid (peersL n.ps n.want (n.st + n.es.length) 0 n.ps.length = q) := Lib.hid (by rw [← HPQ.out]; unfold NF.peersB; rw [hlen]; simp)
                              clear HPQ
                              have HL2 := Lib.hid hlen
                              clear hlen
                              go_wp2_with fail
                              go_loopg [6, 7] n.ps.length (fun kq v6 v7 w' => ∃ i : Nat, v6 = .int .i64 (i : Int) ∧ i + kq = n.ps.length ∧ Hid (peersL n.ps n.want (n.st + n.es.length) i kq = q) ∧ Blk 36 w.heap.size #[.int .i64 n.id, .int .i64 n.term, .int .i64 n.vote, .int .i64 n.role, .int .i64 n.lead, .slice A5 n.cf.length c5, .int .i64 n.st, .int .i64 n.tm, .slice A8 n.es.length c8, .int .i64 n.cm, .int .i64 n.ck, .int .i64 n.lm, .slice A12 n.vs.length c12, .slice A13 n.ps.length c13] w' ∧ Below w.heap.size w w' ∧ Kd.C (Kd.int .i64) w' A3 n.want.length n.want)
                              case atStart => exact ⟨0, rfl, by omega, hr, m1, B', HC.out⟩
                              case round =>
                                obtain ⟨i, rfl, hik, hix, m1, B, hC⟩ := hrel
                                clear hr y0 y1 y2 y3 y4 y5 y6 y7 y8 y9 y10 y11 y12 y13 l1 HC B'
                                have HC := Lib.hid hC
                                clear hC
                                cases gk with
                                | zero =>
                                  have hlt : ¬ ((i : Int) < (n.want.length : Int)) := by have := HL2.out; omega
                                  have hrv := hix.out
                                  simp only [peersL] at hrv
                                  subst hrv
                                  go_wp2_with fail
                                  go_ret
                                  exact ⟨rfl, B⟩
                                | succ k =>
                                  have hlt : (i : Int) < (n.ps.length : Int) := by omega
                                  have hlw : (i : Int) < (n.want.length : Int) := by have := HL2.out; omega
                                  have hi0 : (0 : Int) ≤ (i : Int) := by omega
                                  have E1 := Lib.hid (show wrap64 ((i : Int) + 1) = ((i + 1 : Nat) : Int) from by have := hz.ps; unfold wrap64; omega)
                                  obtain ⟨ad, e1, x0, x1, x2, x3⟩ := at_T69 (H.out.below B).h13 (i : Int) (by omega) hlt
                                  simp only [Int.toNat_natCast] at x0 x1 x2 x3
                                  have hrv := hix.out
                                  simp only [peersL] at hrv
                                  have z13 := m1.cell 13 rfl
                                  have lz := m1.lt
                                  go_upto_region 15 with fail
                                  obtain ⟨b5, hb5⟩ : ∃ b, b = wr.heap.size := ⟨_, rfl⟩
                                  obtain ⟨p, hp0⟩ : ∃ p, rd_T69 n.ps (i : Int) = p := ⟨_, rfl⟩
                                  rw [hp0] at x0 x1 x2 x3 hrv ⊢
                                  clear hp0
                                  refine wp_atC (fun X => Blk 36 w.heap.size #[.int .i64 n.id, .int .i64 n.term, .int .i64 n.vote, .int .i64 n.role, .int .i64 n.lead, .slice A5 n.cf.length c5, .int .i64 n.st, .int .i64 n.tm, .slice A8 n.es.length c8, .int .i64 n.cm, .int .i64 n.ck, .int .i64 n.lm, .slice A12 n.vs.length c12, .slice A13 n.ps.length c13] X ∧ Below w.heap.size w X ∧ Blk 69 b5 #[.int .i64 p.f0, .int .i64 p.f1, .int .i64 p.f2, .int .i64 p.f3] X ∧ Kd.C (Kd.int .i64) X A3 n.want.length n.want) ⟨m1.alloc _, bl_alloc B _, Blk.newE _ _ wr hb5, Kd.C_below HC.out (bl_alloc (Below.refl _ _) _)⟩ ?_
                                  (try rw [← hb5])
                                  clear hb5 x0 x1 x2 x3 hix m1 B HC z13 lz
                                  rintro Y ⟨m1, B, k5, hC⟩
                                  obtain ⟨ad3, e3, y0⟩ := Kd.at_int hC (i : Int) (by omega) hlw
                                  simp only [Int.toNat_natCast] at y0
                                  have HC := Lib.hid hC
                                  clear hC
                                  have q0 := k5.cell 0 rfl
                                  have q1 := k5.cell 1 rfl
                                  have q2 := k5.cell 2 rfl
                                  have q3 := k5.cell 3 rfl
                                  have lq := k5.lt
                                  have ly := World.block_lt_of_cell? _ _ y0
                                  obtain ⟨o1, ho1⟩ : ∃ o, inB p.f1 1 (n.st + n.es.length + 1) = o := ⟨_, rfl⟩
                                  obtain ⟨o2, ho2⟩ : ∃ o, inB p.f2 0 (p.f1 - 1) = o := ⟨_, rfl⟩
                                  obtain ⟨o3, ho3⟩ : ∃ o, inB p.f3 0 20000 = o := ⟨_, rfl⟩
                                  rw [ho1, ho2, ho3] at hrv
                                  have hwl : IntKind.i64.wrap (n.st + (n.es.length : Int) + 1) = n.st + (n.es.length : Int) + 1 := by have := hz.es; rw [IntKind.wrap_i64]; omega
                                  have H1 := Lib.hid ho1
                                  have H2 := Lib.hid ho2
                                  have H3 := Lib.hid ho3
                                  by_cases hp : p.f0 = rd n.want (i : Int)
                                  · have hp' : (p.f0 != rd n.want (i : Int)) = false := by simp [hp]
                                    rw [decide_eq_true hp] at hrv
                                    clear hp ho1 ho2 ho3
                                    cases o1 with
                                    | false =>
                                      refine wp_region_flowG [3, 5, 6, 7] 153 (by kernel_rfl) (by rfl) (by kernel_rfl) (by kernel_rfl) (by kernel_rfl) ?_
                                      iterate 8 (refine flowG_valE ?_; apply Exists.intro; refine ⟨fun A wq hBq hbq hdq => ?_, ?_⟩; focus (obtain ⟨hcq, hfq⟩ := bcellA hBq; (try simp [go_sem, baseF, deps, dep1, Region.binds] at hbq); (try simp [go_sem, baseF, deps, dep1, Region.binds, NewSl] at hdq); go_simp <;> first | exact ⟨Below.refl _ _, rfl⟩ | (rw [if_neg]; (focus (exact ⟨Below.refl _ _, rfl⟩)); (focus ((try simp only [ByteArray.size_append]); omega))) | (fail)))
                                      iterate 6 (refine flowG_yesE ?_; apply Exists.intro; refine ⟨fun A wq hBq hbq hdq => ⟨?_, ?_⟩, ?_⟩; (focus ((try simp [go_sem, baseF, deps, dep1, Region.binds] at hdq); refine yielded_of rfl ?_; simp [hdq])); focus (obtain ⟨hcq, hfq⟩ := bcellA hBq; (try simp [go_sem, baseF, deps, dep1, Region.binds] at hbq); (try simp [go_sem, baseF, deps, dep1, Region.binds, NewSl] at hdq); go_simp <;> first | exact ⟨Below.refl _ _, rfl⟩ | (rw [if_neg]; (focus (exact ⟨Below.refl _ _, rfl⟩)); (focus ((try simp only [ByteArray.size_append]); omega))) | (first | (go_at_call 27; exact (inHS _ _ _ _ _ H1)))))
                                      iterate 2 (refine flowG_valE ?_; apply Exists.intro; refine ⟨fun A wq hBq hbq hdq => ?_, ?_⟩; focus (obtain ⟨hcq, hfq⟩ := bcellA hBq; (try simp [go_sem, baseF, deps, dep1, Region.binds] at hbq); (try simp [go_sem, baseF, deps, dep1, Region.binds, NewSl] at hdq); go_simp <;> first | exact ⟨Below.refl _ _, rfl⟩ | (rw [if_neg]; (focus (exact ⟨Below.refl _ _, rfl⟩)); (focus ((try simp only [ByteArray.size_append]); omega))) | (fail)))
                                      iterate 7 (refine flowG_no (fun A wq hBq hbq hdq => ?_) ?_; focus ((try simp [go_sem, baseF, deps, dep1, Region.binds] at hdq); refine yielded_of rfl ?_; simp [hdq]))
                                      iterate 2 (refine flowG_valE ?_; apply Exists.intro; refine ⟨fun A wq hBq hbq hdq => ?_, ?_⟩; focus (obtain ⟨hcq, hfq⟩ := bcellA hBq; (try simp [go_sem, baseF, deps, dep1, Region.binds] at hbq); (try simp [go_sem, baseF, deps, dep1, Region.binds, NewSl] at hdq); go_simp <;> first | exact ⟨Below.refl _ _, rfl⟩ | (rw [if_neg]; (focus (exact ⟨Below.refl _ _, rfl⟩)); (focus ((try simp only [ByteArray.size_append]); omega))) | (fail)))
                                      iterate 4 (refine flowG_no (fun A wq hBq hbq hdq => ?_) ?_; focus ((try simp [go_sem, baseF, deps, dep1, Region.binds] at hdq); refine yielded_of rfl ?_; simp [hdq]))
                                      (refine flowG_valE ?_; apply Exists.intro; refine ⟨fun A wq hBq hbq hdq => ?_, ?_⟩; focus (obtain ⟨hcq, hfq⟩ := bcellA hBq; (try simp [go_sem, baseF, deps, dep1, Region.binds] at hbq); (try simp [go_sem, baseF, deps, dep1, Region.binds, NewSl] at hdq); go_simp <;> first | exact ⟨Below.refl _ _, rfl⟩ | (rw [if_neg]; (focus (exact ⟨Below.refl _ _, rfl⟩)); (focus ((try simp only [ByteArray.size_append]); omega))) | (fail)))
                                      refine fun x wq hBq hall => ?_
                                      simp only [allT] at hall
                                      simp [frameOf, Act.put, hall]
                                      clear hall
                                      simp only [Bool.true_and, Bool.false_and] at hrv
                                      subst hrv
                                      go_wp2_with fail
                                      go_ret
                                      exact ⟨rfl, bl_then B hBq⟩
                                    | true =>
                                      have ho1 := H1.out
                                      rw [inB_iff] at ho1
                                      have hwm : IntKind.i64.wrap (p.f1 - 1) = p.f1 - 1 := by have := hz.es; rw [IntKind.wrap_i64]; omega
                                      clear ho1
                                      cases o2 with
                                      | false =>
                                        refine wp_region_flowG [3, 5, 6, 7] 153 (by kernel_rfl) (by rfl) (by kernel_rfl) (by kernel_rfl) (by kernel_rfl) ?_
                                        iterate 8 (refine flowG_valE ?_; apply Exists.intro; refine ⟨fun A wq hBq hbq hdq => ?_, ?_⟩; focus (obtain ⟨hcq, hfq⟩ := bcellA hBq; (try simp [go_sem, baseF, deps, dep1, Region.binds] at hbq); (try simp [go_sem, baseF, deps, dep1, Region.binds, NewSl] at hdq); go_simp <;> first | exact ⟨Below.refl _ _, rfl⟩ | (rw [if_neg]; (focus (exact ⟨Below.refl _ _, rfl⟩)); (focus ((try simp only [ByteArray.size_append]); omega))) | (fail)))
                                        iterate 6 (refine flowG_yesE ?_; apply Exists.intro; refine ⟨fun A wq hBq hbq hdq => ⟨?_, ?_⟩, ?_⟩; (focus ((try simp [go_sem, baseF, deps, dep1, Region.binds] at hdq); refine yielded_of rfl ?_; simp [hdq])); focus (obtain ⟨hcq, hfq⟩ := bcellA hBq; (try simp [go_sem, baseF, deps, dep1, Region.binds] at hbq); (try simp [go_sem, baseF, deps, dep1, Region.binds, NewSl] at hdq); go_simp <;> first | exact ⟨Below.refl _ _, rfl⟩ | (rw [if_neg]; (focus (exact ⟨Below.refl _ _, rfl⟩)); (focus ((try simp only [ByteArray.size_append]); omega))) | (first | (go_at_call 27; exact (inHS _ _ _ _ _ H1)))))
                                        iterate 2 (refine flowG_valE ?_; apply Exists.intro; refine ⟨fun A wq hBq hbq hdq => ?_, ?_⟩; focus (obtain ⟨hcq, hfq⟩ := bcellA hBq; (try simp [go_sem, baseF, deps, dep1, Region.binds] at hbq); (try simp [go_sem, baseF, deps, dep1, Region.binds, NewSl] at hdq); go_simp <;> first | exact ⟨Below.refl _ _, rfl⟩ | (rw [if_neg]; (focus (exact ⟨Below.refl _ _, rfl⟩)); (focus ((try simp only [ByteArray.size_append]); omega))) | (fail)))
                                        iterate 7 (refine flowG_yesE ?_; apply Exists.intro; refine ⟨fun A wq hBq hbq hdq => ⟨?_, ?_⟩, ?_⟩; (focus ((try simp [go_sem, baseF, deps, dep1, Region.binds] at hdq); refine yielded_of rfl ?_; simp [hdq])); focus (obtain ⟨hcq, hfq⟩ := bcellA hBq; (try simp [go_sem, baseF, deps, dep1, Region.binds] at hbq); (try simp [go_sem, baseF, deps, dep1, Region.binds, NewSl] at hdq); go_simp <;> first | exact ⟨Below.refl _ _, rfl⟩ | (rw [if_neg]; (focus (exact ⟨Below.refl _ _, rfl⟩)); (focus ((try simp only [ByteArray.size_append]); omega))) | (first | (go_at_call 27; exact (inHS _ _ _ _ _ H2)))))
                                        iterate 2 (refine flowG_valE ?_; apply Exists.intro; refine ⟨fun A wq hBq hbq hdq => ?_, ?_⟩; focus (obtain ⟨hcq, hfq⟩ := bcellA hBq; (try simp [go_sem, baseF, deps, dep1, Region.binds] at hbq); (try simp [go_sem, baseF, deps, dep1, Region.binds, NewSl] at hdq); go_simp <;> first | exact ⟨Below.refl _ _, rfl⟩ | (rw [if_neg]; (focus (exact ⟨Below.refl _ _, rfl⟩)); (focus ((try simp only [ByteArray.size_append]); omega))) | (fail)))
                                        iterate 4 (refine flowG_no (fun A wq hBq hbq hdq => ?_) ?_; focus ((try simp [go_sem, baseF, deps, dep1, Region.binds] at hdq); refine yielded_of rfl ?_; simp [hdq]))
                                        (refine flowG_valE ?_; apply Exists.intro; refine ⟨fun A wq hBq hbq hdq => ?_, ?_⟩; focus (obtain ⟨hcq, hfq⟩ := bcellA hBq; (try simp [go_sem, baseF, deps, dep1, Region.binds] at hbq); (try simp [go_sem, baseF, deps, dep1, Region.binds, NewSl] at hdq); go_simp <;> first | exact ⟨Below.refl _ _, rfl⟩ | (rw [if_neg]; (focus (exact ⟨Below.refl _ _, rfl⟩)); (focus ((try simp only [ByteArray.size_append]); omega))) | (fail)))
                                        refine fun x wq hBq hall => ?_
                                        simp only [allT] at hall
                                        simp [frameOf, Act.put, hall]
                                        clear hall
                                        simp only [Bool.true_and, Bool.false_and] at hrv
                                        subst hrv
                                        go_wp2_with fail
                                        go_ret
                                        exact ⟨rfl, bl_then B hBq⟩
                                      | true =>
                                        cases o3 with
                                        | false =>
                                          refine wp_region_flowG [3, 5, 6, 7] 153 (by kernel_rfl) (by rfl) (by kernel_rfl) (by kernel_rfl) (by kernel_rfl) ?_
                                          iterate 8 (refine flowG_valE ?_; apply Exists.intro; refine ⟨fun A wq hBq hbq hdq => ?_, ?_⟩; focus (obtain ⟨hcq, hfq⟩ := bcellA hBq; (try simp [go_sem, baseF, deps, dep1, Region.binds] at hbq); (try simp [go_sem, baseF, deps, dep1, Region.binds, NewSl] at hdq); go_simp <;> first | exact ⟨Below.refl _ _, rfl⟩ | (rw [if_neg]; (focus (exact ⟨Below.refl _ _, rfl⟩)); (focus ((try simp only [ByteArray.size_append]); omega))) | (fail)))
                                          iterate 6 (refine flowG_yesE ?_; apply Exists.intro; refine ⟨fun A wq hBq hbq hdq => ⟨?_, ?_⟩, ?_⟩; (focus ((try simp [go_sem, baseF, deps, dep1, Region.binds] at hdq); refine yielded_of rfl ?_; simp [hdq])); focus (obtain ⟨hcq, hfq⟩ := bcellA hBq; (try simp [go_sem, baseF, deps, dep1, Region.binds] at hbq); (try simp [go_sem, baseF, deps, dep1, Region.binds, NewSl] at hdq); go_simp <;> first | exact ⟨Below.refl _ _, rfl⟩ | (rw [if_neg]; (focus (exact ⟨Below.refl _ _, rfl⟩)); (focus ((try simp only [ByteArray.size_append]); omega))) | (first | (go_at_call 27; exact (inHS _ _ _ _ _ H1)))))
                                          iterate 2 (refine flowG_valE ?_; apply Exists.intro; refine ⟨fun A wq hBq hbq hdq => ?_, ?_⟩; focus (obtain ⟨hcq, hfq⟩ := bcellA hBq; (try simp [go_sem, baseF, deps, dep1, Region.binds] at hbq); (try simp [go_sem, baseF, deps, dep1, Region.binds, NewSl] at hdq); go_simp <;> first | exact ⟨Below.refl _ _, rfl⟩ | (rw [if_neg]; (focus (exact ⟨Below.refl _ _, rfl⟩)); (focus ((try simp only [ByteArray.size_append]); omega))) | (fail)))
                                          iterate 7 (refine flowG_yesE ?_; apply Exists.intro; refine ⟨fun A wq hBq hbq hdq => ⟨?_, ?_⟩, ?_⟩; (focus ((try simp [go_sem, baseF, deps, dep1, Region.binds] at hdq); refine yielded_of rfl ?_; simp [hdq])); focus (obtain ⟨hcq, hfq⟩ := bcellA hBq; (try simp [go_sem, baseF, deps, dep1, Region.binds] at hbq); (try simp [go_sem, baseF, deps, dep1, Region.binds, NewSl] at hdq); go_simp <;> first | exact ⟨Below.refl _ _, rfl⟩ | (rw [if_neg]; (focus (exact ⟨Below.refl _ _, rfl⟩)); (focus ((try simp only [ByteArray.size_append]); omega))) | (first | (go_at_call 27; exact (inHS _ _ _ _ _ H2)))))
                                          iterate 2 (refine flowG_valE ?_; apply Exists.intro; refine ⟨fun A wq hBq hbq hdq => ?_, ?_⟩; focus (obtain ⟨hcq, hfq⟩ := bcellA hBq; (try simp [go_sem, baseF, deps, dep1, Region.binds] at hbq); (try simp [go_sem, baseF, deps, dep1, Region.binds, NewSl] at hdq); go_simp <;> first | exact ⟨Below.refl _ _, rfl⟩ | (rw [if_neg]; (focus (exact ⟨Below.refl _ _, rfl⟩)); (focus ((try simp only [ByteArray.size_append]); omega))) | (fail)))
                                          iterate 4 (refine flowG_yesE ?_; apply Exists.intro; refine ⟨fun A wq hBq hbq hdq => ⟨?_, ?_⟩, ?_⟩; (focus ((try simp [go_sem, baseF, deps, dep1, Region.binds] at hdq); refine yielded_of rfl ?_; simp [hdq])); focus (obtain ⟨hcq, hfq⟩ := bcellA hBq; (try simp [go_sem, baseF, deps, dep1, Region.binds] at hbq); (try simp [go_sem, baseF, deps, dep1, Region.binds, NewSl] at hdq); go_simp <;> first | exact ⟨Below.refl _ _, rfl⟩ | (rw [if_neg]; (focus (exact ⟨Below.refl _ _, rfl⟩)); (focus ((try simp only [ByteArray.size_append]); omega))) | (first | (go_at_call 27; exact (inHS _ _ _ _ _ H3)))))
                                          (refine flowG_valE ?_; apply Exists.intro; refine ⟨fun A wq hBq hbq hdq => ?_, ?_⟩; focus (obtain ⟨hcq, hfq⟩ := bcellA hBq; (try simp [go_sem, baseF, deps, dep1, Region.binds] at hbq); (try simp [go_sem, baseF, deps, dep1, Region.binds, NewSl] at hdq); go_simp <;> first | exact ⟨Below.refl _ _, rfl⟩ | (rw [if_neg]; (focus (exact ⟨Below.refl _ _, rfl⟩)); (focus ((try simp only [ByteArray.size_append]); omega))) | (fail)))
                                          refine fun x wq hBq hall => ?_
                                          simp only [allT] at hall
                                          simp [frameOf, Act.put, hall]
                                          clear hall
                                          simp only [Bool.true_and, Bool.false_and] at hrv
                                          subst hrv
                                          go_wp2_with fail
                                          go_ret
                                          exact ⟨rfl, bl_then B hBq⟩
                                        | true =>
                                          refine wp_region_flowG [3, 5, 6, 7] 153 (by kernel_rfl) (by rfl) (by kernel_rfl) (by kernel_rfl) (by kernel_rfl) ?_
                                          iterate 8 (refine flowG_valE ?_; apply Exists.intro; refine ⟨fun A wq hBq hbq hdq => ?_, ?_⟩; focus (obtain ⟨hcq, hfq⟩ := bcellA hBq; (try simp [go_sem, baseF, deps, dep1, Region.binds] at hbq); (try simp [go_sem, baseF, deps, dep1, Region.binds, NewSl] at hdq); go_simp <;> first | exact ⟨Below.refl _ _, rfl⟩ | (rw [if_neg]; (focus (exact ⟨Below.refl _ _, rfl⟩)); (focus ((try simp only [ByteArray.size_append]); omega))) | (fail)))
                                          iterate 6 (refine flowG_yesE ?_; apply Exists.intro; refine ⟨fun A wq hBq hbq hdq => ⟨?_, ?_⟩, ?_⟩; (focus ((try simp [go_sem, baseF, deps, dep1, Region.binds] at hdq); refine yielded_of rfl ?_; simp [hdq])); focus (obtain ⟨hcq, hfq⟩ := bcellA hBq; (try simp [go_sem, baseF, deps, dep1, Region.binds] at hbq); (try simp [go_sem, baseF, deps, dep1, Region.binds, NewSl] at hdq); go_simp <;> first | exact ⟨Below.refl _ _, rfl⟩ | (rw [if_neg]; (focus (exact ⟨Below.refl _ _, rfl⟩)); (focus ((try simp only [ByteArray.size_append]); omega))) | (first | (go_at_call 27; exact (inHS _ _ _ _ _ H1)))))
                                          iterate 2 (refine flowG_valE ?_; apply Exists.intro; refine ⟨fun A wq hBq hbq hdq => ?_, ?_⟩; focus (obtain ⟨hcq, hfq⟩ := bcellA hBq; (try simp [go_sem, baseF, deps, dep1, Region.binds] at hbq); (try simp [go_sem, baseF, deps, dep1, Region.binds, NewSl] at hdq); go_simp <;> first | exact ⟨Below.refl _ _, rfl⟩ | (rw [if_neg]; (focus (exact ⟨Below.refl _ _, rfl⟩)); (focus ((try simp only [ByteArray.size_append]); omega))) | (fail)))
                                          iterate 7 (refine flowG_yesE ?_; apply Exists.intro; refine ⟨fun A wq hBq hbq hdq => ⟨?_, ?_⟩, ?_⟩; (focus ((try simp [go_sem, baseF, deps, dep1, Region.binds] at hdq); refine yielded_of rfl ?_; simp [hdq])); focus (obtain ⟨hcq, hfq⟩ := bcellA hBq; (try simp [go_sem, baseF, deps, dep1, Region.binds] at hbq); (try simp [go_sem, baseF, deps, dep1, Region.binds, NewSl] at hdq); go_simp <;> first | exact ⟨Below.refl _ _, rfl⟩ | (rw [if_neg]; (focus (exact ⟨Below.refl _ _, rfl⟩)); (focus ((try simp only [ByteArray.size_append]); omega))) | (first | (go_at_call 27; exact (inHS _ _ _ _ _ H2)))))
                                          iterate 2 (refine flowG_valE ?_; apply Exists.intro; refine ⟨fun A wq hBq hbq hdq => ?_, ?_⟩; focus (obtain ⟨hcq, hfq⟩ := bcellA hBq; (try simp [go_sem, baseF, deps, dep1, Region.binds] at hbq); (try simp [go_sem, baseF, deps, dep1, Region.binds, NewSl] at hdq); go_simp <;> first | exact ⟨Below.refl _ _, rfl⟩ | (rw [if_neg]; (focus (exact ⟨Below.refl _ _, rfl⟩)); (focus ((try simp only [ByteArray.size_append]); omega))) | (fail)))
                                          iterate 4 (refine flowG_yesE ?_; apply Exists.intro; refine ⟨fun A wq hBq hbq hdq => ⟨?_, ?_⟩, ?_⟩; (focus ((try simp [go_sem, baseF, deps, dep1, Region.binds] at hdq); refine yielded_of rfl ?_; simp [hdq])); focus (obtain ⟨hcq, hfq⟩ := bcellA hBq; (try simp [go_sem, baseF, deps, dep1, Region.binds] at hbq); (try simp [go_sem, baseF, deps, dep1, Region.binds, NewSl] at hdq); go_simp <;> first | exact ⟨Below.refl _ _, rfl⟩ | (rw [if_neg]; (focus (exact ⟨Below.refl _ _, rfl⟩)); (focus ((try simp only [ByteArray.size_append]); omega))) | (first | (go_at_call 27; exact (inHS _ _ _ _ _ H3)))))
                                          (refine flowG_valE ?_; apply Exists.intro; refine ⟨fun A wq hBq hbq hdq => ?_, ?_⟩; focus (obtain ⟨hcq, hfq⟩ := bcellA hBq; (try simp [go_sem, baseF, deps, dep1, Region.binds] at hbq); (try simp [go_sem, baseF, deps, dep1, Region.binds, NewSl] at hdq); go_simp <;> first | exact ⟨Below.refl _ _, rfl⟩ | (rw [if_neg]; (focus (exact ⟨Below.refl _ _, rfl⟩)); (focus ((try simp only [ByteArray.size_append]); omega))) | (fail)))
                                          refine fun x wq hBq hall => ?_
                                          simp only [allT] at hall
                                          simp [frameOf, Act.put, hall]
                                          clear hall
                                          simp only [Bool.true_and] at hrv
                                          have hrw := Lib.hid hrv
                                          clear hrv
                                          have m2 := m1.below hBq
                                          have B2 := bl_then B hBq
                                          have HC2 := Lib.hid (Kd.C_below HC.out hBq)
                                          clear m1 B HC hBq q0 q1 q2 q3 y0 lq ly
                                          go_wp2_with fail
                                          go_roundg k
                                          case measure => omega
                                          case rel => exact ⟨i + 1, by first | rfl | (rw [E1.out]), by omega, hrw, m2, B2, HC2.out⟩
                                  · have hp' : (p.f0 != rd n.want (i : Int)) = true := by simp [hp]
                                    rw [decide_eq_false hp] at hrv
                                    clear hp
                                    refine wp_region_flowG [3, 5, 6, 7] 153 (by kernel_rfl) (by rfl) (by kernel_rfl) (by kernel_rfl) (by kernel_rfl) ?_
                                    iterate 8 (refine flowG_valE ?_; apply Exists.intro; refine ⟨fun A wq hBq hbq hdq => ?_, ?_⟩; focus (obtain ⟨hcq, hfq⟩ := bcellA hBq; (try simp [go_sem, baseF, deps, dep1, Region.binds] at hbq); (try simp [go_sem, baseF, deps, dep1, Region.binds, NewSl] at hdq); go_simp <;> first | exact ⟨Below.refl _ _, rfl⟩ | (rw [if_neg]; (focus (exact ⟨Below.refl _ _, rfl⟩)); (focus ((try simp only [ByteArray.size_append]); omega))) | (fail)))
                                    iterate 6 (refine flowG_no (fun A wq hBq hbq hdq => ?_) ?_; focus ((try simp [go_sem, baseF, deps, dep1, Region.binds] at hdq); refine yielded_of rfl ?_; simp [hdq]))
                                    iterate 2 (refine flowG_valE ?_; apply Exists.intro; refine ⟨fun A wq hBq hbq hdq => ?_, ?_⟩; focus (obtain ⟨hcq, hfq⟩ := bcellA hBq; (try simp [go_sem, baseF, deps, dep1, Region.binds] at hbq); (try simp [go_sem, baseF, deps, dep1, Region.binds, NewSl] at hdq); go_simp <;> first | exact ⟨Below.refl _ _, rfl⟩ | (rw [if_neg]; (focus (exact ⟨Below.refl _ _, rfl⟩)); (focus ((try simp only [ByteArray.size_append]); omega))) | (fail)))
                                    iterate 7 (refine flowG_no (fun A wq hBq hbq hdq => ?_) ?_; focus ((try simp [go_sem, baseF, deps, dep1, Region.binds] at hdq); refine yielded_of rfl ?_; simp [hdq]))
                                    iterate 2 (refine flowG_valE ?_; apply Exists.intro; refine ⟨fun A wq hBq hbq hdq => ?_, ?_⟩; focus (obtain ⟨hcq, hfq⟩ := bcellA hBq; (try simp [go_sem, baseF, deps, dep1, Region.binds] at hbq); (try simp [go_sem, baseF, deps, dep1, Region.binds, NewSl] at hdq); go_simp <;> first | exact ⟨Below.refl _ _, rfl⟩ | (rw [if_neg]; (focus (exact ⟨Below.refl _ _, rfl⟩)); (focus ((try simp only [ByteArray.size_append]); omega))) | (fail)))
                                    iterate 4 (refine flowG_no (fun A wq hBq hbq hdq => ?_) ?_; focus ((try simp [go_sem, baseF, deps, dep1, Region.binds] at hdq); refine yielded_of rfl ?_; simp [hdq]))
                                    (refine flowG_valE ?_; apply Exists.intro; refine ⟨fun A wq hBq hbq hdq => ?_, ?_⟩; focus (obtain ⟨hcq, hfq⟩ := bcellA hBq; (try simp [go_sem, baseF, deps, dep1, Region.binds] at hbq); (try simp [go_sem, baseF, deps, dep1, Region.binds, NewSl] at hdq); go_simp <;> first | exact ⟨Below.refl _ _, rfl⟩ | (rw [if_neg]; (focus (exact ⟨Below.refl _ _, rfl⟩)); (focus ((try simp only [ByteArray.size_append]); omega))) | (fail)))
                                    refine fun x wq hBq hall => ?_
                                    simp only [allT] at hall
                                    simp [frameOf, Act.put, hall]
                                    clear hall
                                    simp only [Bool.true_and, Bool.false_and] at hrv
                                    subst hrv
                                    go_wp2_with fail
                                    go_ret
                                    exact ⟨rfl, bl_then B hBq⟩
                            · have hne : ((n.ps.length : Int) != (n.want.length : Int)) = true := by
                                have : ¬ ((n.ps.length : Int) = (n.want.length : Int)) := by omega
                                simp [this]
                              obtain rfl : q = false := by rw [← HPQ.out]; unfold NF.peersB; simp [hlen]
                              clear HPQ
                              clear hlen
                              go_wp2_with fail
                              go_ret
                              exact ⟨rfl, B'⟩
end Go.Proofs.Ytallakebnoighaa.PFnExactSettle
end

section
namespace Go.Proofs.Ytallakebnoighaa.PFnExactSettle
open Go.RowKit Go.Proofs.YtallakebnoighaaW.PrintWords Go.Proofs.YtallakebnoighaaW.PrintLast Go.Proofs.YtallakebnoighaaW.PrintMore
set_option linter.unusedVariables false
set_option linter.unusedSimpArgs false
def laws_szIntS.f (l0 : List Int) (a1 : Int) : Option (Int) := if (wrap64 (a1 - (l0.length : Int))) < 0 then (some (-1)) else (some (wrap64 (a1 - (l0.length : Int))))
set_option maxHeartbeats 8000000 in
set_option maxRecDepth 100000 in
theorem laws_szIntS.calls (A0 : Option Addr) (c0 : Nat) (l0 : List Int) (a1 : Int) (r : Int) (w : World) (hr0 : Kd.C (Kd.int .i64) w A0 l0.length l0) (hc0 : l0.length ≤ c0) (h : laws_szIntS.f l0 a1 = some r) :
    Calls Try.prog 24 #[.slice A0 l0.length c0, .int .i64 a1] w fun e w' => e = .returned (.int .i64 r) ∧ Drawn0 w w' := by
  have HR0 := Aside0.mk hr0
  have HC0 := Aside0.mk hc0
  clear hr0 hc0
  have H : (if (wrap64 (a1 - (l0.length : Int))) < 0 then (some (-1)) else (some (wrap64 (a1 - (l0.length : Int))))) = some r := h
  clear h
  by_cases c3 : (wrap64 (a1 - (l0.length : Int))) < 0
  · rw [if_pos c3] at H
    have c3b0 : decide ((wrap64 (a1 - (l0.length : Int))) < 0) = true := decide_eq_true c3
    clear c3
    obtain rfl := Option.some.inj H
    go_enter Try.func24, Try.ntmps24
    go_wp2
    go_ret
    exact ⟨by first | rfl | (simp; done) | (simp [*]; done), by repeat (first | exact Drawn0.refl _ | apply Drawn0.step)⟩
  · rw [if_neg c3] at H
    have c3b0 : decide ((wrap64 (a1 - (l0.length : Int))) < 0) = false := decide_eq_false c3
    clear c3
    obtain rfl := Option.some.inj H
    go_enter Try.func24, Try.ntmps24
    go_wp2
    go_ret
    exact ⟨by first | rfl | (simp; done) | (simp [*]; done), by repeat (first | exact Drawn0.refl _ | apply Drawn0.step)⟩
end Go.Proofs.Ytallakebnoighaa.PFnExactSettle
end

section
namespace Go.Proofs.Ytallakebnoighaa.PFnExactSettle
open Go.RowKit Go.Proofs.YtallakebnoighaaW.PrintWords Go.Proofs.YtallakebnoighaaW.PrintLast Go.Proofs.YtallakebnoighaaW.PrintMore
set_option linter.unusedVariables false
set_option linter.unusedSimpArgs false
def laws_szEntry.f (a0_0 : Int) (a0_1 : Int) (a0_2 : ByteArray) (a1 : Int) : Option (Int) := if (wrap64 (a1 - (a0_2.size : Int))) < 0 then (some (-1)) else (some (wrap64 (a1 - (a0_2.size : Int))))
set_option maxHeartbeats 8000000 in
set_option maxRecDepth 100000 in
theorem laws_szEntry.calls (a0_0 : Int) (a0_1 : Int) (a0_2 : ByteArray) (a1 : Int) (r : Int) (w : World) (h : laws_szEntry.f a0_0 a0_1 a0_2 a1 = some r) :
    Calls Try.prog 99 #[.agg #[.int .i64 a0_0, .int .i64 a0_1, .string a0_2], .int .i64 a1] w fun e w' => e = .returned (.int .i64 r) ∧ Below w.heap.size w w' := by
  have hu122 := Try.underlying122
  have HB := Aside0.mk (Below.refl w.heap.size w)
  have H : (if (wrap64 (a1 - (a0_2.size : Int))) < 0 then (some (-1)) else (some (wrap64 (a1 - (a0_2.size : Int))))) = some r := h
  clear h
  by_cases c3 : (wrap64 (a1 - (a0_2.size : Int))) < 0
  · rw [if_pos c3] at H
    have c3b0 : decide ((wrap64 (a1 - (a0_2.size : Int))) < 0) = true := decide_eq_true c3
    clear c3
    obtain rfl := Option.some.inj H
    go_enter Try.func99, Try.ntmps99
    go_wp2_with (first | ((with_reducible refine gate_dst (N := 2) rfl ?_); refine box_event ?hg (N := 2) ?hd (cs := #[.int .i64 a0_0, .int .i64 a0_1, .string a0_2]) (t := 122) ?hr ?_; (case hd => rfl); (case hg => rfl); (case hr => first | (go_simp; done) | (go_simp; rfl)); intro gb101 hg w4 hbox hb; have n0_ := Aside0.mk (below_step (by repeat (first | (with_reducible first | exact HB.out | apply below_alloc | apply pw_below_drewN | apply below_drew1) | exact HB.out)) hb); have n1_ := Aside0.mk (hbox); have n2_ := Aside0.mk ((by rw [hg]; exact (below_size (by repeat (first | (with_reducible first | exact HB.out | apply below_alloc | apply pw_below_drewN | apply below_drew1) | exact HB.out))) : w.heap.size ≤ gb101)); have n3_ := Aside0.mk ((by rw [hg]; exact (below_size (by repeat (first | (with_reducible first | exact HB.out | apply below_alloc | apply pw_below_drewN | apply below_drew1) | exact HB.out))) : w.heap.size ≤ gb101)); clear HB; have HB := n0_; have BK101 := n1_; have GW101 := n2_; have GE101 := n3_; clear n0_ n1_ n2_ n3_; clear hb hbox hg; have hcz5_0 : w4.cell? ⟨gb101, 0, none⟩ = some (.int .i64 a0_0) := (blk_cell BK101.out 0).trans rfl; have hcz5_1 : w4.cell? ⟨gb101, 1, none⟩ = some (.int .i64 a0_1) := (blk_cell BK101.out 1).trans rfl; have hcz5_2 : w4.cell? ⟨gb101, 2, none⟩ = some (.string a0_2) := (blk_cell BK101.out 2).trans rfl; have hfz5_0 := blk_frozen BK101.out 0; have hfz5_1 := blk_frozen BK101.out 1; have hfz5_2 := blk_frozen BK101.out 2))
    go_ret
    exact ⟨by first | rfl | (simp [errW_none, errW_some] <;> rfl) | (simp [*, errW_none, errW_some] <;> rfl), by repeat (first | (with_reducible first | exact HB.out | apply below_alloc | apply pw_below_drewN | apply below_drew1 | refine below_set ?_ GE101.out) | exact HB.out)⟩
  · rw [if_neg c3] at H
    have c3b0 : decide ((wrap64 (a1 - (a0_2.size : Int))) < 0) = false := decide_eq_false c3
    clear c3
    obtain rfl := Option.some.inj H
    go_enter Try.func99, Try.ntmps99
    go_wp2_with (first | ((with_reducible refine gate_dst (N := 2) rfl ?_); refine box_event ?hg (N := 2) ?hd (cs := #[.int .i64 a0_0, .int .i64 a0_1, .string a0_2]) (t := 122) ?hr ?_; (case hd => rfl); (case hg => rfl); (case hr => first | (go_simp; done) | (go_simp; rfl)); intro gb101 hg w6 hbox hb; have n0_ := Aside0.mk (below_step (by repeat (first | (with_reducible first | exact HB.out | apply below_alloc | apply pw_below_drewN | apply below_drew1) | exact HB.out)) hb); have n1_ := Aside0.mk (hbox); have n2_ := Aside0.mk ((by rw [hg]; exact (below_size (by repeat (first | (with_reducible first | exact HB.out | apply below_alloc | apply pw_below_drewN | apply below_drew1) | exact HB.out))) : w.heap.size ≤ gb101)); have n3_ := Aside0.mk ((by rw [hg]; exact (below_size (by repeat (first | (with_reducible first | exact HB.out | apply below_alloc | apply pw_below_drewN | apply below_drew1) | exact HB.out))) : w.heap.size ≤ gb101)); clear HB; have HB := n0_; have BK101 := n1_; have GW101 := n2_; have GE101 := n3_; clear n0_ n1_ n2_ n3_; clear hb hbox hg; have hcz7_0 : w6.cell? ⟨gb101, 0, none⟩ = some (.int .i64 a0_0) := (blk_cell BK101.out 0).trans rfl; have hcz7_1 : w6.cell? ⟨gb101, 1, none⟩ = some (.int .i64 a0_1) := (blk_cell BK101.out 1).trans rfl; have hcz7_2 : w6.cell? ⟨gb101, 2, none⟩ = some (.string a0_2) := (blk_cell BK101.out 2).trans rfl; have hfz7_0 := blk_frozen BK101.out 0; have hfz7_1 := blk_frozen BK101.out 1; have hfz7_2 := blk_frozen BK101.out 2))
    go_ret
    exact ⟨by first | rfl | (simp [errW_none, errW_some] <;> rfl) | (simp [*, errW_none, errW_some] <;> rfl), by repeat (first | (with_reducible first | exact HB.out | apply below_alloc | apply pw_below_drewN | apply below_drew1 | refine below_set ?_ GE101.out) | exact HB.out)⟩
end Go.Proofs.Ytallakebnoighaa.PFnExactSettle
end

section
namespace Go.Proofs.Ytallakebnoighaa.PFnExactSettle
open Go.RowKit Go.Proofs.YtallakebnoighaaW.PrintWords Go.Proofs.YtallakebnoighaaW.PrintLast Go.Proofs.YtallakebnoighaaW.PrintMore
set_option linter.unusedVariables false
set_option linter.unusedSimpArgs false
def laws_szEntryS.l0 : Nat → List (S122) → Int → Int → Option (Int)
  | 0, _, _, _ => none
  | k + 1, x0, x1, x5 => if x5 < (x0.length : Int) then (if 0 ≤ x5 then ((laws_szEntry.f ((rd_T122 x0 x5).f0) ((rd_T122 x0 x5).f1) ((rd_T122 x0 x5).f2) x1).bind fun t103 => (if t103 < 0 then (some (-1)) else (laws_szEntryS.l0 k x0 t103 (wrap64 (x5 + 1))))) else (none)) else (some x1)
def laws_szEntryS.f (k : Nat) (l0 : List (S122)) (a1 : Int) : Option (Int) := if (wrap64 (a1 - (l0.length : Int))) < 0 then (some (-1)) else (laws_szEntryS.l0 k l0 (wrap64 (a1 - (l0.length : Int))) 0)
theorem laws_szEntryS.mono_l : ∀ k, (∀ y0 y1 y2, LeO (laws_szEntryS.l0 k y0 y1 y2) (laws_szEntryS.l0 (k + 1) y0 y1 y2))
  | 0 => fun _ _ _ r h => by simp [laws_szEntryS.l0] at h
  | k + 1 => by
    have ih0 := laws_szEntryS.mono_l k
    · intro y0 y1 y2
      unfold laws_szEntryS.l0
      repeat' first
      | (with_reducible exact ih0 _ _ _)
      | (with_reducible exact LeO.refl _)
      | (with_reducible exact LeO.none _)
      | (with_reducible refine LeO.ite ?_ ?_)
      | (with_reducible refine LeO.bind ?_ (fun _ => ?_))
      | exact ih0 _ _ _
      | exact LeO.none _
      | refine LeO.ite ?_ ?_
      | refine LeO.bind ?_ (fun _ => ?_)
theorem laws_szEntryS.mono : ∀ a0 a1 k, LeO (laws_szEntryS.f k a0 a1) (laws_szEntryS.f (k + 1) a0 a1) := by
  intro a0 a1 k
  have ih0 := laws_szEntryS.mono_l k
  unfold laws_szEntryS.f
  repeat' first
      | (with_reducible exact ih0 _ _ _)
      | (with_reducible exact LeO.refl _)
      | (with_reducible exact LeO.none _)
      | (with_reducible refine LeO.ite ?_ ?_)
      | (with_reducible refine LeO.bind ?_ (fun _ => ?_))
      | exact ih0 _ _ _
      | exact LeO.none _
      | refine LeO.ite ?_ ?_
      | refine LeO.bind ?_ (fun _ => ?_)
set_option maxHeartbeats 8000000 in
set_option maxRecDepth 100000 in
theorem laws_szEntryS.calls (k : Nat) (A0 : Option Addr) (c0 : Nat) (l0 : List (S122)) (a1 : Int) (r : Int) (w : World) (hr0 : Kd.C k122 w A0 l0.length l0) (hc0 : l0.length ≤ c0) (h : laws_szEntryS.f k l0 a1 = some r) :
    Calls Try.prog 72 #[.slice A0 l0.length c0, .int .i64 a1] w fun e w' => e = .returned (.int .i64 r) ∧ Below w.heap.size w w' := by
  have hu122 := Try.underlying122
  have HR0 := Aside0.mk hr0
  have HC0 := Aside0.mk hc0
  clear hr0 hc0
  have HB := Aside0.mk (Below.refl w.heap.size w)
  have H : (if (wrap64 (a1 - (l0.length : Int))) < 0 then (some (-1)) else (laws_szEntryS.l0 k l0 (wrap64 (a1 - (l0.length : Int))) 0)) = some r := h
  clear h
  by_cases c3 : (wrap64 (a1 - (l0.length : Int))) < 0
  · rw [if_pos c3] at H
    have c3b0 : decide ((wrap64 (a1 - (l0.length : Int))) < 0) = true := decide_eq_true c3
    clear c3
    obtain rfl := Option.some.inj H
    go_enter Try.func72, Try.ntmps72
    go_wp2
    go_ret
    exact ⟨by first | rfl | (simp [errW_none, errW_some] <;> rfl) | (simp [*, errW_none, errW_some] <;> rfl), by repeat (first | (with_reducible first | exact HB.out | apply below_alloc | apply pw_below_drewN | apply below_drew1) | exact HB.out)⟩
  · rw [if_neg c3] at H
    have c3b0 : decide ((wrap64 (a1 - (l0.length : Int))) < 0) = false := decide_eq_false c3
    clear c3
    have H' := Aside0.mk H
    clear H
    go_enter Try.func72, Try.ntmps72
    go_wp2
    go_loopg [1, 5] k (fun kq v1 v5 w' => ∃ (x1_1 : Int) (x5_1 : Int), v1 = .int .i64 x1_1 ∧ v5 = .int .i64 x5_1 ∧ Aside0 (laws_szEntryS.l0 kq l0 x1_1 x5_1 = some r) ∧ Aside0 (kq ≤ k) ∧ Aside0 (Below w.heap.size w w'))
    case atStart => exact ⟨(wrap64 (a1 - (l0.length : Int))), (0), (by first | rfl | (simp; done) | (simp [*]; done)), (by first | rfl | (simp; done) | (simp [*]; done)), H', ⟨Nat.le_refl _⟩, ⟨by repeat (first | (with_reducible first | exact HB.out | apply below_alloc | apply pw_below_drewN | apply below_drew1) | exact HB.out)⟩⟩
    case round =>
      clear H'
      try clear p2
      try clear c3
      try clear c3b0
      obtain ⟨x1_1, x5_1, rfl, rfl, HA, HK1, HB⟩ := hrel
      cases gk with
      | zero => exact absurd HA.out (by simp [laws_szEntryS.l0])
      | succ k1 =>
        have H := HA.out
        clear HA
        simp only [laws_szEntryS.l0] at H
        by_cases c4 : x5_1 < (l0.length : Int)
        · rw [if_pos c4] at H
          have c4b0 : decide (x5_1 < (l0.length : Int)) = true := decide_eq_true c4
          clear c4
          by_cases c5 : 0 ≤ x5_1
          · rw [if_pos c5] at H
            have c5b0 : decide (0 ≤ x5_1) = true := decide_eq_true c5
            clear c5
            replace H := Option.bind_eq_some_iff.mp H
            obtain ⟨t103, A60, H⟩ := H
            replace H : (if t103 < 0 then (some (-1)) else (laws_szEntryS.l0 k1 l0 t103 (wrap64 (x5_1 + 1)))) = some r := H
            have A6 := Aside0.mk A60
            clear A60
            by_cases c7 : t103 < 0
            · rw [if_pos c7] at H
              have c7b0 : decide (t103 < 0) = true := decide_eq_true c7
              clear c7
              obtain rfl := Option.some.inj H
              have p102 : 0 ≤ (x5_1 : Int) := of_decide_eq_true (by first | (with_reducible assumption) | assumption)
              have q102 : x5_1 < (l0.length : Int) := of_decide_eq_true (by first | (with_reducible assumption) | assumption)
              obtain ⟨ad102, e102, hx102_0, hx102_1, hx102_2⟩ := at_T122 HR0.out x5_1 p102 q102
              cases e102
              replace hx102_0 := (HB.out.cell (World.block_lt_of_cell? w _ hx102_0)).trans hx102_0
              replace hx102_1 := (HB.out.cell (World.block_lt_of_cell? w _ hx102_1)).trans hx102_1
              replace hx102_2 := (HB.out.cell (World.block_lt_of_cell? w _ hx102_2)).trans hx102_2
              replace p102 := eq_true p102
              replace q102 := eq_true q102
              go_wp2_with (first | ((with_reducible refine gate_callee (f := 99) rfl ?_); refine goesL_ (some 23) rfl rfl Try.func99 (by kernel_rfl) rfl #[.agg #[.int .i64 ((rd_T122 l0 x5_1).f0), .int .i64 ((rd_T122 l0 x5_1).f1), .string ((rd_T122 l0 x5_1).f2)], .int .i64 x1_1] rfl (by (try simp only [List.map_toArray, List.map_cons, List.map_nil]); first | done | rfl | (simp only [List.length_drop, List.length_take]; rfl)) ?_; (with_reducible refine (laws_szEntry.calls ((rd_T122 l0 x5_1).f0) ((rd_T122 l0 x5_1).f1) ((rd_T122 l0 x5_1).f2) x1_1 t103 _ A6.out).mono ?_); rintro e w8 ⟨rfl, hb⟩; refine ⟨_, rfl, ?_⟩; have n0_ := Aside0.mk (below_step (by repeat (first | (with_reducible first | exact HB.out | apply below_alloc | apply pw_below_drewN | apply below_drew1) | exact HB.out)) hb); clear HB; have HB := n0_; clear n0_; (try clear hb); (try clear hb2); (try clear hk); (try clear hi)))
              go_ret
              exact ⟨by first | rfl | (simp [errW_none, errW_some] <;> rfl) | (simp [*, errW_none, errW_some] <;> rfl), by repeat (first | (with_reducible first | exact HB.out | apply below_alloc | apply pw_below_drewN | apply below_drew1) | exact HB.out)⟩
            · rw [if_neg c7] at H
              have c7b0 : decide (t103 < 0) = false := decide_eq_false c7
              clear c7
              have H' := Aside0.mk H
              clear H
              have p102 : 0 ≤ (x5_1 : Int) := of_decide_eq_true (by first | (with_reducible assumption) | assumption)
              have q102 : x5_1 < (l0.length : Int) := of_decide_eq_true (by first | (with_reducible assumption) | assumption)
              obtain ⟨ad102, e102, hx102_0, hx102_1, hx102_2⟩ := at_T122 HR0.out x5_1 p102 q102
              cases e102
              replace hx102_0 := (HB.out.cell (World.block_lt_of_cell? w _ hx102_0)).trans hx102_0
              replace hx102_1 := (HB.out.cell (World.block_lt_of_cell? w _ hx102_1)).trans hx102_1
              replace hx102_2 := (HB.out.cell (World.block_lt_of_cell? w _ hx102_2)).trans hx102_2
              replace p102 := eq_true p102
              replace q102 := eq_true q102
              go_wp2_with (first | ((with_reducible refine gate_callee (f := 99) rfl ?_); refine goesL_ (some 23) rfl rfl Try.func99 (by kernel_rfl) rfl #[.agg #[.int .i64 ((rd_T122 l0 x5_1).f0), .int .i64 ((rd_T122 l0 x5_1).f1), .string ((rd_T122 l0 x5_1).f2)], .int .i64 x1_1] rfl (by (try simp only [List.map_toArray, List.map_cons, List.map_nil]); first | done | rfl | (simp only [List.length_drop, List.length_take]; rfl)) ?_; (with_reducible refine (laws_szEntry.calls ((rd_T122 l0 x5_1).f0) ((rd_T122 l0 x5_1).f1) ((rd_T122 l0 x5_1).f2) x1_1 t103 _ A6.out).mono ?_); rintro e w9 ⟨rfl, hb⟩; refine ⟨_, rfl, ?_⟩; have n0_ := Aside0.mk (below_step (by repeat (first | (with_reducible first | exact HB.out | apply below_alloc | apply pw_below_drewN | apply below_drew1) | exact HB.out)) hb); clear HB; have HB := n0_; clear n0_; (try clear hb); (try clear hb2); (try clear hk); (try clear hi)))
              go_roundg k1
              case measure => have := HK1.out; omega
              case rel => exact ⟨(t103), (wrap64 (x5_1 + 1)), (by first | rfl | (simp; done) | (simp [*]; done)), (by first | rfl | (simp; done) | (simp [*]; done)), H', ⟨by have := HK1.out; omega⟩, ⟨by repeat (first | (with_reducible first | exact HB.out | apply below_alloc | apply pw_below_drewN | apply below_drew1) | exact HB.out)⟩⟩
          · rw [if_neg c5] at H
            exact absurd H (by simp)
        · rw [if_neg c4] at H
          have c4b0 : decide (x5_1 < (l0.length : Int)) = false := decide_eq_false c4
          clear c4
          obtain rfl := Option.some.inj H
          go_wp2
          go_ret
          exact ⟨by first | rfl | (simp [errW_none, errW_some] <;> rfl) | (simp [*, errW_none, errW_some] <;> rfl), by repeat (first | (with_reducible first | exact HB.out | apply below_alloc | apply pw_below_drewN | apply below_drew1) | exact HB.out)⟩
end Go.Proofs.Ytallakebnoighaa.PFnExactSettle
end

section
namespace Go.Proofs.Ytallakebnoighaa.PFnExactSettle
open Go.RowKit Go.Proofs.YtallakebnoighaaW.PrintWords Go.Proofs.YtallakebnoighaaW.PrintLast Go.Proofs.YtallakebnoighaaW.PrintMore
set_option linter.unusedVariables false
set_option linter.unusedSimpArgs false
def laws_szLog.f (k : Nat) (a0_0 : Int) (a0_1 : Int) (l0_2 : List (S122)) (a1 : Int) : Option (Int) := (laws_szEntryS.f k l0_2 a1).bind fun t105 => (if t105 < 0 then (some (-1)) else (some t105))
theorem laws_szLog.mono : ∀ a0 a1 a2 a3 k, LeO (laws_szLog.f k a0 a1 a2 a3) (laws_szLog.f (k + 1) a0 a1 a2 a3) := by
  intro a0 a1 a2 a3 k
  unfold laws_szLog.f
  repeat' first
      | (with_reducible exact laws_szEntryS.mono _ _ _)
      | (with_reducible exact LeO.refl _)
      | (with_reducible exact LeO.none _)
      | (with_reducible refine LeO.ite ?_ ?_)
      | (with_reducible refine LeO.bind ?_ (fun _ => ?_))
      | exact laws_szEntryS.mono _ _ _
      | exact LeO.none _
      | refine LeO.ite ?_ ?_
      | refine LeO.bind ?_ (fun _ => ?_)
set_option maxHeartbeats 8000000 in
set_option maxRecDepth 100000 in
theorem laws_szLog.calls (k : Nat) (a0_0 : Int) (a0_1 : Int) (A0_2 : Option Addr) (c0_2 : Nat) (l0_2 : List (S122)) (a1 : Int) (r : Int) (w : World) (hr0_2 : Kd.C k122 w A0_2 l0_2.length l0_2) (hc0_2 : l0_2.length ≤ c0_2) (h : laws_szLog.f k a0_0 a0_1 l0_2 a1 = some r) :
    Calls Try.prog 25 #[.agg #[.int .i64 a0_0, .int .i64 a0_1, .slice A0_2 l0_2.length c0_2], .int .i64 a1] w fun e w' => e = .returned (.int .i64 r) ∧ Below w.heap.size w w' := by
  have hu25 := Try.underlying25
  have HR0_2 := Aside0.mk hr0_2
  have HC0_2 := Aside0.mk hc0_2
  clear hr0_2 hc0_2
  have HB := Aside0.mk (Below.refl w.heap.size w)
  have H : ((laws_szEntryS.f k l0_2 a1).bind fun t105 => (if t105 < 0 then (some (-1)) else (some t105))) = some r := h
  clear h
  replace H := Option.bind_eq_some_iff.mp H
  obtain ⟨t105, A30, H⟩ := H
  replace H : (if t105 < 0 then (some (-1)) else (some t105)) = some r := H
  have A3 := Aside0.mk A30
  clear A30
  by_cases c4 : t105 < 0
  · rw [if_pos c4] at H
    have c4b0 : decide (t105 < 0) = true := decide_eq_true c4
    clear c4
    obtain rfl := Option.some.inj H
    go_enter Try.func25, Try.ntmps25
    go_wp2_with (first | ((with_reducible refine gate_dst (N := 2) rfl ?_); refine box_event ?hg (N := 2) ?hd (cs := #[.int .i64 a0_0, .int .i64 a0_1, .slice A0_2 l0_2.length c0_2]) (t := 25) ?hr ?_; (case hd => rfl); (case hg => rfl); (case hr => first | (go_simp; done) | (go_simp; rfl)); intro gb104 hg w5 hbox hb; have n0_ := Aside0.mk (below_step (by repeat (first | (with_reducible first | exact HB.out | apply below_alloc | apply pw_below_drewN | apply below_drew1) | exact HB.out)) hb); have n1_ := Aside0.mk (hbox); have n2_ := Aside0.mk ((by rw [hg]; exact (below_size (by repeat (first | (with_reducible first | exact HB.out | apply below_alloc | apply pw_below_drewN | apply below_drew1) | exact HB.out))) : w.heap.size ≤ gb104)); have n3_ := Aside0.mk ((by rw [hg]; exact (below_size (by repeat (first | (with_reducible first | exact HB.out | apply below_alloc | apply pw_below_drewN | apply below_drew1) | exact HB.out))) : w.heap.size ≤ gb104)); clear HB; have HB := n0_; have BK104 := n1_; have GW104 := n2_; have GE104 := n3_; clear n0_ n1_ n2_ n3_; clear hb hbox hg; have hcz6_0 : w5.cell? ⟨gb104, 0, none⟩ = some (.int .i64 a0_0) := (blk_cell BK104.out 0).trans rfl; have hcz6_1 : w5.cell? ⟨gb104, 1, none⟩ = some (.int .i64 a0_1) := (blk_cell BK104.out 1).trans rfl; have hcz6_2 : w5.cell? ⟨gb104, 2, none⟩ = some (.slice A0_2 l0_2.length c0_2) := (blk_cell BK104.out 2).trans rfl; have hfz6_0 := blk_frozen BK104.out 0; have hfz6_1 := blk_frozen BK104.out 1; have hfz6_2 := blk_frozen BK104.out 2) | ((with_reducible refine gate_callee (f := 72) rfl ?_); refine goesL_ (some 8) rfl rfl Try.func72 (by kernel_rfl) rfl #[.slice A0_2 l0_2.length c0_2, .int .i64 a1] rfl (by (try simp only [List.map_toArray, List.map_cons, List.map_nil]); first | done | rfl | (simp only [List.length_drop, List.length_take]; rfl)) ?_; (with_reducible refine (laws_szEntryS.calls k _ _ l0_2 a1 t105 _ ?side1 ?side2 A3.out).mono ?_); (case side1 => repeat (first | exact (Kd.C_below HR0_2.out HB.out) | (with_reducible refine Kd.C_alloc ?_ _) | (with_reducible refine Kd.C_drewN ?_ _) | (with_reducible refine Kd.C_drew ?_))); (case side2 => exact HC0_2.out); rintro e w7 ⟨rfl, hb⟩; refine ⟨_, rfl, ?_⟩; have n0_ := Aside0.mk (blk_below (g := gb104) (o := .cells #[.int .i64 a0_0, .int .i64 a0_1, .slice A0_2 l0_2.length c0_2] 25 (0, 0)) (by (with_reducible repeat (first | refine blk_drewN ?_ _ | refine blk_drew ?_ | refine blk_alloc ?_ _)); exact BK104.out) hb); have n1_ := Aside0.mk (below_step (by repeat (first | (with_reducible first | exact HB.out | apply below_alloc | apply pw_below_drewN | apply below_drew1 | refine below_set ?_ GE104.out) | exact HB.out)) hb); clear BK104; clear HB; have BK104 := n0_; have HB := n1_; clear n0_ n1_; (try clear hb); (try clear hb2); (try clear hk); (try clear hi)))
    go_ret
    exact ⟨by first | rfl | (simp [errW_none, errW_some] <;> rfl) | (simp [*, errW_none, errW_some] <;> rfl), by repeat (first | (with_reducible first | exact HB.out | apply below_alloc | apply pw_below_drewN | apply below_drew1 | refine below_set ?_ GE104.out) | exact HB.out)⟩
  · rw [if_neg c4] at H
    have c4b0 : decide (t105 < 0) = false := decide_eq_false c4
    clear c4
    obtain rfl := Option.some.inj H
    go_enter Try.func25, Try.ntmps25
    go_wp2_with (first | ((with_reducible refine gate_dst (N := 2) rfl ?_); refine box_event ?hg (N := 2) ?hd (cs := #[.int .i64 a0_0, .int .i64 a0_1, .slice A0_2 l0_2.length c0_2]) (t := 25) ?hr ?_; (case hd => rfl); (case hg => rfl); (case hr => first | (go_simp; done) | (go_simp; rfl)); intro gb104 hg w8 hbox hb; have n0_ := Aside0.mk (below_step (by repeat (first | (with_reducible first | exact HB.out | apply below_alloc | apply pw_below_drewN | apply below_drew1) | exact HB.out)) hb); have n1_ := Aside0.mk (hbox); have n2_ := Aside0.mk ((by rw [hg]; exact (below_size (by repeat (first | (with_reducible first | exact HB.out | apply below_alloc | apply pw_below_drewN | apply below_drew1) | exact HB.out))) : w.heap.size ≤ gb104)); have n3_ := Aside0.mk ((by rw [hg]; exact (below_size (by repeat (first | (with_reducible first | exact HB.out | apply below_alloc | apply pw_below_drewN | apply below_drew1) | exact HB.out))) : w.heap.size ≤ gb104)); clear HB; have HB := n0_; have BK104 := n1_; have GW104 := n2_; have GE104 := n3_; clear n0_ n1_ n2_ n3_; clear hb hbox hg; have hcz9_0 : w8.cell? ⟨gb104, 0, none⟩ = some (.int .i64 a0_0) := (blk_cell BK104.out 0).trans rfl; have hcz9_1 : w8.cell? ⟨gb104, 1, none⟩ = some (.int .i64 a0_1) := (blk_cell BK104.out 1).trans rfl; have hcz9_2 : w8.cell? ⟨gb104, 2, none⟩ = some (.slice A0_2 l0_2.length c0_2) := (blk_cell BK104.out 2).trans rfl; have hfz9_0 := blk_frozen BK104.out 0; have hfz9_1 := blk_frozen BK104.out 1; have hfz9_2 := blk_frozen BK104.out 2) | ((with_reducible refine gate_callee (f := 72) rfl ?_); refine goesL_ (some 8) rfl rfl Try.func72 (by kernel_rfl) rfl #[.slice A0_2 l0_2.length c0_2, .int .i64 a1] rfl (by (try simp only [List.map_toArray, List.map_cons, List.map_nil]); first | done | rfl | (simp only [List.length_drop, List.length_take]; rfl)) ?_; (with_reducible refine (laws_szEntryS.calls k _ _ l0_2 a1 t105 _ ?side1 ?side2 A3.out).mono ?_); (case side1 => repeat (first | exact (Kd.C_below HR0_2.out HB.out) | (with_reducible refine Kd.C_alloc ?_ _) | (with_reducible refine Kd.C_drewN ?_ _) | (with_reducible refine Kd.C_drew ?_))); (case side2 => exact HC0_2.out); rintro e w10 ⟨rfl, hb⟩; refine ⟨_, rfl, ?_⟩; have n0_ := Aside0.mk (blk_below (g := gb104) (o := .cells #[.int .i64 a0_0, .int .i64 a0_1, .slice A0_2 l0_2.length c0_2] 25 (0, 0)) (by (with_reducible repeat (first | refine blk_drewN ?_ _ | refine blk_drew ?_ | refine blk_alloc ?_ _)); exact BK104.out) hb); have n1_ := Aside0.mk (below_step (by repeat (first | (with_reducible first | exact HB.out | apply below_alloc | apply pw_below_drewN | apply below_drew1 | refine below_set ?_ GE104.out) | exact HB.out)) hb); clear BK104; clear HB; have BK104 := n0_; have HB := n1_; clear n0_ n1_; (try clear hb); (try clear hb2); (try clear hk); (try clear hi)))
    go_ret
    exact ⟨by first | rfl | (simp [errW_none, errW_some] <;> rfl) | (simp [*, errW_none, errW_some] <;> rfl), by repeat (first | (with_reducible first | exact HB.out | apply below_alloc | apply pw_below_drewN | apply below_drew1 | refine below_set ?_ GE104.out) | exact HB.out)⟩
end Go.Proofs.Ytallakebnoighaa.PFnExactSettle
end

section
namespace Go.Proofs.Ytallakebnoighaa.PFnExactSettle
open Go.RowKit Go.Proofs.YtallakebnoighaaW.PrintWords Go.Proofs.YtallakebnoighaaW.PrintLast Go.Proofs.YtallakebnoighaaW.PrintMore
set_option linter.unusedVariables false
set_option linter.unusedSimpArgs false
def laws_szPeerS.f (l0 : List (S98)) (a1 : Int) : Option (Int) := if (wrap64 (a1 - (l0.length : Int))) < 0 then (some (-1)) else (some (wrap64 (a1 - (l0.length : Int))))
set_option maxHeartbeats 8000000 in
set_option maxRecDepth 100000 in
theorem laws_szPeerS.calls (A0 : Option Addr) (c0 : Nat) (l0 : List (S98)) (a1 : Int) (r : Int) (w : World) (hr0 : Kd.C k98 w A0 l0.length l0) (hc0 : l0.length ≤ c0) (h : laws_szPeerS.f l0 a1 = some r) :
    Calls Try.prog 26 #[.slice A0 l0.length c0, .int .i64 a1] w fun e w' => e = .returned (.int .i64 r) ∧ Drawn0 w w' := by
  have HR0 := Aside0.mk hr0
  have HC0 := Aside0.mk hc0
  clear hr0 hc0
  have H : (if (wrap64 (a1 - (l0.length : Int))) < 0 then (some (-1)) else (some (wrap64 (a1 - (l0.length : Int))))) = some r := h
  clear h
  by_cases c3 : (wrap64 (a1 - (l0.length : Int))) < 0
  · rw [if_pos c3] at H
    have c3b0 : decide ((wrap64 (a1 - (l0.length : Int))) < 0) = true := decide_eq_true c3
    clear c3
    obtain rfl := Option.some.inj H
    go_enter Try.func26, Try.ntmps26
    go_wp2
    go_ret
    exact ⟨by first | rfl | (simp; done) | (simp [*]; done), by repeat (first | exact Drawn0.refl _ | apply Drawn0.step)⟩
  · rw [if_neg c3] at H
    have c3b0 : decide ((wrap64 (a1 - (l0.length : Int))) < 0) = false := decide_eq_false c3
    clear c3
    obtain rfl := Option.some.inj H
    go_enter Try.func26, Try.ntmps26
    go_wp2
    go_ret
    exact ⟨by first | rfl | (simp; done) | (simp [*]; done), by repeat (first | exact Drawn0.refl _ | apply Drawn0.step)⟩
end Go.Proofs.Ytallakebnoighaa.PFnExactSettle
end
