import Derived.Test.YtallakebnoighaaSSEE
import Derived.Deep.Cut

section
namespace Go.Proofs.Ytallakebnoighaa.PFnExactSettle
open Go.RowKit Go.Proofs.YtallakebnoighaaW.PrintWords
set_option linter.unusedSimpArgs false
set_option linter.unusedVariables false
structure NodeC (n : NF) (A5 : Option Addr) (c5 : Nat) (A8 : Option Addr) (c8 : Nat) (A12 : Option Addr) (c12 : Nat) (A13 : Option Addr) (c13 : Nat) (w : World) : Prop where
  h5 : Kd.C (Kd.int .i64) w A5 n.cf.length n.cf
  hc5 : n.cf.length ≤ c5
  hn5 : A5 = none → c5 = 0
  h8 : Kd.C k87 w A8 n.es.length n.es
  hc8 : n.es.length ≤ c8
  hn8 : A8 = none → c8 = 0
  h12 : Kd.C (Kd.int .i64) w A12 n.vs.length n.vs
  hc12 : n.vs.length ≤ c12
  hn12 : A12 = none → c12 = 0
  h13 : Kd.C k69 w A13 n.ps.length n.ps
  hc13 : n.ps.length ≤ c13
  hn13 : A13 = none → c13 = 0
theorem NodeC.below {n : NF} {A5 A8 A12 A13 : Option Addr} {c5 c8 c12 c13 : Nat} {w w' : World} (h : NodeC n A5 c5 A8 c8 A12 c12 A13 c13 w) (hb : Below w.heap.size w w') : NodeC n A5 c5 A8 c8 A12 c12 A13 c13 w' :=
  ⟨Kd.C_below h.h5 hb, h.hc5, h.hn5, Kd.C_below h.h8 hb, h.hc8, h.hn8, Kd.C_below h.h12 hb, h.hc12, h.hn12, Kd.C_below h.h13 hb, h.hc13, h.hn13⟩
structure NodeZ (n : NF) : Prop where
  cf : n.cf.length ≤ 1048576
  es : n.es.length ≤ 1048576
  sh : ShortE n.es
  vs : n.vs.length ≤ 1048576
  ps : n.ps.length ≤ 1048576
theorem confUp_ok {cf : List Int} {st idx : Int} {es : List S87} (hcf : confOk cf = true) : ∀ (n : Nat), (∀ j : Nat, j < n → entryOk (rd_T87 es (j : Int)).f0 (rd_T87 es (j : Int)).f1 (rd_T87 es (j : Int)).f2 = true) → confOk (confUp cf st idx es n).1 = true
  | 0, _ => hcf
  | n + 1, h => by
    unfold confUp
    split
    · rename_i hh
      have h1 := h n (by omega)
      unfold entryOk at h1
      rw [hh.1] at h1
      simp only [Bool.and_eq_true, decide_eq_true_eq, show ¬ ((2 : Int) = 1) from by decide, if_false, if_true] at h1
      have h2 := h1.2
      unfold readConf at h2 ⊢
      split
      · assumption
      · rename_i hn; rw [if_neg hn] at h2; simp at h2
    · exact confUp_ok hcf n fun j hj => h j (by omega)
theorem conf_ok {n : NF} (h1 : confOk n.cf = true) (h2 : logOkB n.st n.tm n.es = true) (idx : Int) : confOk (confAt n.cf n.st idx n.es) = true := by
  obtain ⟨-, -, -, -, h5⟩ := logOkB_parts h2
  exact confUp_ok h1 _ fun j hj => (logEnts_all _ 0 _ h5 j (Nat.zero_le _) (by omega)).1
theorem lastOf_C (s t : Int) (A : Option Addr) (c : Nat) (xs : List S87) (w : World) (hs : 0 ≤ s ∧ s ≤ 2000000) (hl : xs.length ≤ 1048576) (hr : Kd.C k87 w A xs.length xs) (hc : xs.length ≤ c) :
    Calls Try.prog 66 #[.agg #[.int .i64 s, .int .i64 t, .slice A xs.length c]] w fun e w' => e = .returned (.int .i64 (s + (xs.length : Int))) ∧ Below w.heap.size w w' := by
  have h := impl_lastOf.calls s t A c xs _ w hr hc rfl
  rw [show wrap64 (s + (xs.length : Int)) = s + (xs.length : Int) from by unfold wrap64; omega] at h
  refine h.mono ?_
  rintro e w' h
  first | exact h | (obtain ⟨rfl, n, rfl⟩ := h; exact ⟨rfl, bl_drewN (Below.refl _ _) n⟩)
attribute [local go_sem] flowUpon
set_option maxHeartbeats 4000000 in
set_option maxRecDepth 100000 in
theorem confOf_C (n : NF) (A5 : Option Addr) (c5 : Nat) (A8 : Option Addr) (c8 : Nat) (A12 : Option Addr) (c12 : Nat) (A13 : Option Addr) (c13 : Nat) (w : World) (hz : NodeZ n) (h : NodeC n A5 c5 A8 c8 A12 c12 A13 c13 w) (hst : 0 ≤ n.st ∧ n.st ≤ 2000000) (hel : n.es.length ≤ 1000000) :
    Calls Try.prog 22 #[.agg #[.int .i64 n.id, .int .i64 n.term, .int .i64 n.vote, .int .i64 n.role, .int .i64 n.lead, .slice A5 n.cf.length c5, .int .i64 n.st, .int .i64 n.tm, .slice A8 n.es.length c8, .int .i64 n.cm, .int .i64 n.ck, .int .i64 n.lm, .slice A12 n.vs.length c12, .slice A13 n.ps.length c13]] w fun e w' => (∃ v, e = .returned v ∧ Kd.R (Kd.int .i64) 3 w' w.heap.size (fun k => w.heap.size ≤ k) v n.conf) ∧ Below w.heap.size w w' := by
  have H := Lib.hid h
  have hc8 := h.hc8
  clear h
  go_enter Try.func22, Try.ntmps22
  go_upto_region 1 with fail
  refine wp_atC (fun X => Blk 36 w.heap.size #[.int .i64 n.id, .int .i64 n.term, .int .i64 n.vote, .int .i64 n.role, .int .i64 n.lead, .slice A5 n.cf.length c5, .int .i64 n.st, .int .i64 n.tm, .slice A8 n.es.length c8, .int .i64 n.cm, .int .i64 n.ck, .int .i64 n.lm, .slice A12 n.vs.length c12, .slice A13 n.ps.length c13] X ∧ Below w.heap.size w X) ⟨Blk.new _ _ w, bl_alloc (Below.refl _ _) _⟩ ?_
  rintro X ⟨k1, B⟩
  have x0 := k1.cell 0 rfl
  have x1 := k1.cell 1 rfl
  have x2 := k1.cell 2 rfl
  have x3 := k1.cell 3 rfl
  have x4 := k1.cell 4 rfl
  have x5 := k1.cell 5 rfl
  have x6 := k1.cell 6 rfl
  have x7 := k1.cell 7 rfl
  have x8 := k1.cell 8 rfl
  have x9 := k1.cell 9 rfl
  have x10 := k1.cell 10 rfl
  have x11 := k1.cell 11 rfl
  have x12 := k1.cell 12 rfl
  have x13 := k1.cell 13 rfl
  have l1 := k1.lt
  refine wp_region_flow [1] 14 (by kernel_rfl) (by rfl) (by kernel_rfl) (by kernel_rfl) (by kernel_rfl) ?_
  iterate 3 (refine flow_valE ?_; apply Exists.intro; refine ⟨fun A wq hBq hbq hdq => ?_, ?_⟩; focus (obtain ⟨hcq, hfq⟩ := bcell hBq; (try simp [go_sem, baseF, deps, dep1, Region.binds] at hbq); (try simp [go_sem, baseF, deps, dep1, Region.binds, NewSl] at hdq); go_simp; first | exact ⟨Below.refl _ _, rfl⟩ | (rw [if_neg]; (focus (exact ⟨Below.refl _ _, rfl⟩)); (focus ((try simp only [ByteArray.size_append]); omega))) | (fail)))
  (refine flow_valE ?_; apply Exists.intro; refine ⟨fun A wq hBq hbq hdq => ?_, ?_⟩; focus (obtain ⟨hcq, hfq⟩ := bcell hBq; (try simp [go_sem, baseF, deps, dep1, Region.binds] at hbq); (try simp [go_sem, baseF, deps, dep1, Region.binds, NewSl] at hdq); go_simp; first | exact ⟨Below.refl _ _, rfl⟩ | (rw [if_neg]; (focus (exact ⟨Below.refl _ _, rfl⟩)); (focus ((try simp only [ByteArray.size_append]); omega))) | ((go_at_call 66; exact (lastOf_C _ _ _ _ n.es _ hst hz.es (Kd.C_below H.out.h8 (bl_then B hBq)) hc8)))))
  refine flow_R (fun W u => ∃ v, u = .tuple #[v, .int .i64 (confUp n.cf n.st (n.st + n.es.length) n.es n.es.length).2] ∧ Kd.R (Kd.int .i64) 3 W X.heap.size (fun k => X.heap.size ≤ k) v n.conf) (fun W W' u ⟨v, h1, h2⟩ hb => ⟨v, h1, Kd.R_below h2 hb⟩) (fun A wq hBq hbq hdq => ?_) ?_
  · (try simp [go_sem, baseF, deps, dep1, Region.binds] at hbq)
    (try simp [go_sem, baseF, deps, dep1, Region.binds, NewSl] at hdq)
    go_simp
    refine (confIn_C n.id n.term n.vote n.role n.lead A5 c5 n.cf n.st n.tm A8 c8 n.es n.cm n.ck n.lm A12 n.vs.length c12 A13 n.ps.length c13 _ wq (Kd.C_below H.out.h5 (bl_then B hBq)) H.out.hc5 hz.cf H.out.hn5 (Kd.C_below H.out.h8 (bl_then B hBq)) hc8 hz.sh hel hst).mono ?_
    rintro e w5 ⟨⟨v, rfl, hR⟩, hb5⟩
    have hzz := hBq.size
    have R9 := Kd.R_mono (Kd.R_lower hR hzz) (ok' := fun k => X.heap.size ≤ k) (fun k hk => Nat.le_trans hzz hk)
    first | exact ⟨_, rfl, hb5, v, rfl, R9⟩ | exact ⟨hb5, v, rfl, R9⟩
  refine flow_R (fun W u => ∃ v, u = .tuple #[v, .int .i64 (confUp n.cf n.st (n.st + n.es.length) n.es n.es.length).2] ∧ Kd.R (Kd.int .i64) 3 W X.heap.size (fun k => X.heap.size ≤ k) v n.conf) (fun W W' u ⟨v, h1, h2⟩ hb => ⟨v, h1, Kd.R_below h2 hb⟩) (fun A wq hBq hbq hdq => ?_) ?_
  · (try simp [go_sem, baseF, deps, dep1, Region.binds] at hbq)
    (try simp [go_sem, baseF, deps, dep1, Region.binds, NewSl] at hdq)
    obtain ⟨v, h1, h2⟩ := hdq
    go_simp
    first | exact Below.refl _ _ | exact ⟨Below.refl _ _, h2⟩
  refine flow_R (fun W u => Kd.R (Kd.int .i64) 3 W X.heap.size (fun k => X.heap.size ≤ k) u n.conf) (fun W W' u h hb => Kd.R_below h hb) (fun A wq hBq hbq hdq => ?_) ?_
  · (try simp [go_sem, baseF, deps, dep1, Region.binds] at hbq)
    (try simp [go_sem, baseF, deps, dep1, Region.binds, NewSl] at hdq)
    obtain ⟨v, h1, h2⟩ := hdq
    go_simp
    first | exact Below.refl _ _ | exact ⟨Below.refl _ _, h2⟩
  refine flow_valE ⟨.int .i64 (confUp n.cf n.st (n.st + n.es.length) n.es n.es.length).2, fun A wq hBq hbq hdq => ?_, ?_⟩
  · (try simp [go_sem, baseF, deps, dep1, Region.binds] at hbq)
    (try simp [go_sem, baseF, deps, dep1, Region.binds, NewSl] at hdq)
    obtain ⟨v, h1, h2⟩ := hdq
    go_simp
    first | exact Below.refl _ _ | exact ⟨Below.refl _ _, rfl⟩
  refine flow_R (fun W u => Kd.R (Kd.int .i64) 3 W X.heap.size (fun k => X.heap.size ≤ k) u n.conf) (fun W W' u h hb => Kd.R_below h hb) (fun A wq hBq hbq hdq => ?_) ?_
  · (try simp [go_sem, baseF, deps, dep1, Region.binds] at hbq)
    (try simp [go_sem, baseF, deps, dep1, Region.binds, NewSl] at hdq)
    obtain ⟨h11, -⟩ := hdq
    go_simp
    first | exact Below.refl _ _ | exact ⟨Below.refl _ _, h11⟩
  (refine flow_valE ?_; apply Exists.intro; refine ⟨fun A wq hBq hbq hdq => ?_, ?_⟩; focus (obtain ⟨hcq, hfq⟩ := bcell hBq; (try simp [go_sem, baseF, deps, dep1, Region.binds] at hbq); (try simp [go_sem, baseF, deps, dep1, Region.binds, NewSl] at hdq); go_simp; first | exact ⟨Below.refl _ _, rfl⟩ | (rw [if_neg]; (focus (exact ⟨Below.refl _ _, rfl⟩)); (focus ((try simp only [ByteArray.size_append]); omega))) | (fail)))
  refine fun x wq hBq hall => ?_
  simp only [allT] at hall
  obtain ⟨-, hR, -⟩ := hall
  obtain ⟨A9, c9, h8, -, -⟩ := Kd.R_reads hR
  rw [h8] at hR
  have HR := Lib.hid hR
  clear hR
  simp [frameOf, Act.put, h8]
  clear h8
  go_wp2_with fail
  go_ret
  exact ⟨⟨_, rfl, Kd.R_mono (Kd.R_lower HR.out B.size) (fun k hk => Nat.le_trans B.size hk)⟩, bl_then B hBq⟩
end Go.Proofs.Ytallakebnoighaa.PFnExactSettle
end

section
namespace Go.Proofs.Ytallakebnoighaa.PFnExactSettle
open Go.RowKit Go.Proofs.YtallakebnoighaaW.PrintWords
set_option linter.unusedSimpArgs false
set_option linter.unusedVariables false
theorem inH (n lo hi : Int) (b : Bool) (w : World) (h : Hid (inB n lo hi = b)) :
    Calls Try.prog 37 #[.int .i64 n, .int .i64 lo, .int .i64 hi] w fun e w' => e = .returned (.bool b) ∧ Below w.heap.size w w' := by
  have := impl_in n lo hi w
  rw [h.out] at this
  exact this.mono (by rintro e w' ⟨rfl, rfl⟩; exact ⟨rfl, Below.refl _ _⟩)
theorem ret_bool {a b : Bool} (h : a = b) : Ending.returned (.bool a) = .returned (.bool b) := by rw [h]
theorem flt_conf (n : NF) : flt n.conf n.id n.conf.length = n.conf.filter (fun x => x != n.id) := by simp [flt]
attribute [local go_sem] flowUpon
set_option maxHeartbeats 4000000 in
set_option maxRecDepth 100000 in
theorem peersOk_C (n : NF) (A5 : Option Addr) (c5 : Nat) (A8 : Option Addr) (c8 : Nat) (A12 : Option Addr) (c12 : Nat) (A13 : Option Addr) (c13 : Nat) (w : World) (hz : NodeZ n) (h : NodeC n A5 c5 A8 c8 A12 c12 A13 c13 w) (hst : 0 ≤ n.st ∧ n.st ≤ 2000000) (hel : n.es.length ≤ 1000000) (hcf : confOk n.conf = true) :
    Calls Try.prog 42 #[.agg #[.int .i64 n.id, .int .i64 n.term, .int .i64 n.vote, .int .i64 n.role, .int .i64 n.lead, .slice A5 n.cf.length c5, .int .i64 n.st, .int .i64 n.tm, .slice A8 n.es.length c8, .int .i64 n.cm, .int .i64 n.ck, .int .i64 n.lm, .slice A12 n.vs.length c12, .slice A13 n.ps.length c13]] w fun e w' => e = .returned (.bool n.peersB) ∧ Below w.heap.size w w' := by
  have H := Lib.hid h
  have hc8 := h.hc8
  have hc13 := h.hc13
  have hcs := confOk_short hcf
  have hmf : ∀ (fn : Fn) (first cap : Array Value) (w : World), (Instr.makeFunc fn first cap).run Try.prog w = .ok (.func fn first cap) w := fun _ _ _ _ => rfl
  clear h
  obtain ⟨q, hq⟩ : ∃ q, n.peersB = q := ⟨_, rfl⟩
  rw [hq]
  go_enter Try.func42, Try.ntmps42
  go_upto_region 2 with fail
  refine wp_atC (fun X => Blk 36 w.heap.size #[.int .i64 n.id, .int .i64 n.term, .int .i64 n.vote, .int .i64 n.role, .int .i64 n.lead, .slice A5 n.cf.length c5, .int .i64 n.st, .int .i64 n.tm, .slice A8 n.es.length c8, .int .i64 n.cm, .int .i64 n.ck, .int .i64 n.lm, .slice A12 n.vs.length c12, .slice A13 n.ps.length c13] X ∧ Below w.heap.size w X ∧ Blk 3 (w.heap.size + 1) #[] X) ⟨(Blk.new _ _ w).alloc _, bl_alloc (bl_alloc (Below.refl _ _) _) _, Blk.newE _ _ (w.alloc _) (by simp)⟩ ?_
  rintro X ⟨k1, B, kE⟩
  have x3 := k1.cell 3 rfl
  have l1 := k1.lt
  obtain ⟨o9, ho9⟩ : ∃ o, (n.role == 2) = o := ⟨_, rfl⟩
  go_upto_if 9 with fail
  go_cut [3] from 10 to 13 (fun v3 wx => ∃ (A3 : Option Addr) (c3 : Nat), v3 = .slice A3 n.want.length c3 ∧ n.want.length ≤ c3 ∧ Kd.C (Kd.int .i64) wx A3 n.want.length n.want ∧ Blk 36 w.heap.size #[.int .i64 n.id, .int .i64 n.term, .int .i64 n.vote, .int .i64 n.role, .int .i64 n.lead, .slice A5 n.cf.length c5, .int .i64 n.st, .int .i64 n.tm, .slice A8 n.es.length c8, .int .i64 n.cm, .int .i64 n.ck, .int .i64 n.lm, .slice A12 n.vs.length c12, .slice A13 n.ps.length c13] wx ∧ Below w.heap.size w wx)
  case first =>
    cases o9 with
    | true =>
      have hw : n.want = flt n.conf n.id n.conf.length := by unfold NF.want; rw [if_pos (by simpa using ho9), flt_conf]
      have y0 := k1.cell 0 rfl
      have y1 := k1.cell 1 rfl
      have y2 := k1.cell 2 rfl
      have y3 := k1.cell 3 rfl
      have y4 := k1.cell 4 rfl
      have y5 := k1.cell 5 rfl
      have y6 := k1.cell 6 rfl
      have y7 := k1.cell 7 rfl
      have y8 := k1.cell 8 rfl
      have y9 := k1.cell 9 rfl
      have y10 := k1.cell 10 rfl
      have y11 := k1.cell 11 rfl
      have y12 := k1.cell 12 rfl
      have y13 := k1.cell 13 rfl
      go_wp2_with fail
      refine (confOf_C n A5 c5 A8 c8 A12 c12 A13 c13 X hz (H.out.below B) hst hel).mono ?_
      rintro e W1 ⟨⟨v, rfl, hR⟩, hb1⟩
      obtain ⟨A1, c1, rfl, -, -⟩ := Kd.R_reads hR
      rcases R_blk hR with ⟨-, ⟨rfl, he, -⟩ | ⟨g, cs, rfl, kB, hge, hsz, hlc, hcm, hcs'⟩⟩
      · rw [he] at hcs; simp at hcs
      have K1 := k1.below hb1
      have B1 := bl_then B hb1
      clear y0 y1 y2 y3 y4 y5 y6 y7 y8 y9 y10 y11 y12 y13 hR hb1
      go_wp2_with fail
      refine (delFn_C g c1 cs n.conf w.heap.size n.id W1 kB hsz hcs' hlc hcm (by omega) (K1.cell 0 rfl) K1.lt (by omega)).mono ?_
      rintro e W2 ⟨⟨rfl, hC⟩, hU⟩
      rw [← hw] at hC ⊢
      have hwl : n.want.length ≤ c1 := by rw [hw]; exact Nat.le_trans (flt_le _ _ _) hlc
      have K2 := K1.upd hU (by omega)
      have B2 := hU.below B1 (by omega)
      go_wp2_with fail
      go_meet
      exact ⟨_, _, by first | rfl | rw [hw], hwl, hC, K2, B2⟩
    | false =>
      have hw : n.want = [] := by unfold NF.want; rw [if_neg (by simpa using ho9)]
      go_wp2_with fail
      go_meet
      rw [hw]
      exact ⟨_, _, rfl, by simp, row_ints [] (by simp) (by simp), k1, B⟩
  case rest =>
    obtain ⟨A3, c3, rfl, hcw, hC, m1, B'⟩ := hcut
    clear x3 l1 k1 B kE
    have HC := Lib.hid hC
    clear hC
    have x13 := m1.cell 13 rfl
    have l1 := m1.lt
    by_cases hlen : n.ps.length = n.want.length
    · have hne : ((n.ps.length : Int) != (n.want.length : Int)) = false := by simp [hlen]
      have hr : Hid (peersL n.ps n.want (n.st + n.es.length) 0 n.ps.length = q) := Lib.hid (by rw [← hq]; unfold NF.peersB; rw [hlen]; simp)
      clear hq
      have HL := Lib.hid hlen
      clear hlen
      go_wp2_with fail
      go_loopg [4, 5, 23] n.ps.length (fun kq v4 v5 v23 w' => ∃ i : Nat, v23 = .int .i64 (i : Int) ∧ i + kq = n.ps.length ∧ Hid (peersL n.ps n.want (n.st + n.es.length) i kq = q) ∧ Blk 36 w.heap.size #[.int .i64 n.id, .int .i64 n.term, .int .i64 n.vote, .int .i64 n.role, .int .i64 n.lead, .slice A5 n.cf.length c5, .int .i64 n.st, .int .i64 n.tm, .slice A8 n.es.length c8, .int .i64 n.cm, .int .i64 n.ck, .int .i64 n.lm, .slice A12 n.vs.length c12, .slice A13 n.ps.length c13] w' ∧ Below w.heap.size w w' ∧ Kd.C (Kd.int .i64) w' A3 n.want.length n.want)
      case atStart => exact ⟨0, rfl, by omega, hr, m1, B', HC.out⟩
      case round =>
        obtain ⟨i, rfl, hik, hix, m1, B, hC⟩ := hrel
        clear hr x13 l1 HC B'
        have HC := Lib.hid hC
        clear hC
        cases gk with
        | zero =>
          have hlt : ¬ ((i : Int) < (n.ps.length : Int)) := by omega
          have hrv := hix.out
          simp only [peersL] at hrv
          subst hrv
          go_wp2_with fail
          go_ret
          exact ⟨rfl, B⟩
        | succ k =>
          have hlt : (i : Int) < (n.ps.length : Int) := by omega
          have hlw : (i : Int) < (n.want.length : Int) := by have := HL.out; omega
          have hi0 : (0 : Int) ≤ (i : Int) := by omega
          have E1 := Lib.hid (show wrap64 ((i : Int) + 1) = ((i + 1 : Nat) : Int) from by have := hz.ps; unfold wrap64; omega)
          obtain ⟨ad, e1, x0, x1, x2, x3⟩ := at_T69 (H.out.below B).h13 (i : Int) (by omega) hlt
          simp only [Int.toNat_natCast] at x0 x1 x2 x3
          have hrv := hix.out
          simp only [peersL] at hrv
          go_upto_region 9 with fail
          obtain ⟨b5, hb5⟩ : ∃ b, b = wr.heap.size := ⟨_, rfl⟩
          obtain ⟨p, hp0⟩ : ∃ p, rd_T69 n.ps (i : Int) = p := ⟨_, rfl⟩
          rw [hp0] at x0 x1 x2 x3 hrv ⊢
          clear hp0
          refine wp_atC (fun X => Blk 36 w.heap.size #[.int .i64 n.id, .int .i64 n.term, .int .i64 n.vote, .int .i64 n.role, .int .i64 n.lead, .slice A5 n.cf.length c5, .int .i64 n.st, .int .i64 n.tm, .slice A8 n.es.length c8, .int .i64 n.cm, .int .i64 n.ck, .int .i64 n.lm, .slice A12 n.vs.length c12, .slice A13 n.ps.length c13] X ∧ Below w.heap.size w X ∧ Blk 69 b5 #[.int .i64 p.f0, .int .i64 p.f1, .int .i64 p.f2, .int .i64 p.f3] X ∧ Kd.C (Kd.int .i64) X A3 n.want.length n.want) ⟨m1.alloc _, bl_alloc B _, Blk.newE _ _ wr hb5, Kd.C_below HC.out (bl_alloc (Below.refl _ _) _)⟩ ?_
          (try rw [← hb5])
          clear hb5 x0 x1 x2 x3 hix m1 B HC
          rintro Y ⟨m1, B, k5, hC⟩
          obtain ⟨ad3, e3, y0⟩ := Kd.at_int hC (i : Int) (by omega) hlw
          simp only [Int.toNat_natCast] at y0
          have HC := Lib.hid hC
          clear hC
          have z6 := m1.cell 6 rfl
          have z7 := m1.cell 7 rfl
          have z8 := m1.cell 8 rfl
          have lz := m1.lt
          have q0 := k5.cell 0 rfl
          have q1 := k5.cell 1 rfl
          have q2 := k5.cell 2 rfl
          have q3 := k5.cell 3 rfl
          have lq := k5.lt
          have ly := World.block_lt_of_cell? _ _ y0
          obtain ⟨o1, ho1⟩ : ∃ o, inB p.f1 1 (n.st + n.es.length + 1) = o := ⟨_, rfl⟩
          obtain ⟨o2, ho2⟩ : ∃ o, inB p.f2 0 (p.f1 - 1) = o := ⟨_, rfl⟩
          obtain ⟨o3, ho3⟩ : ∃ o, inB p.f3 0 20000 = o := ⟨_, rfl⟩
          rw [ho1, ho2, ho3] at hrv
          have hwl : IntKind.i64.wrap (n.st + (n.es.length : Int) + 1) = n.st + (n.es.length : Int) + 1 := by have := hz.es; rw [IntKind.wrap_i64]; omega
          have hlC : ∀ wq, Below Y.heap.size Y wq → Calls Try.prog 66 #[.agg #[.int .i64 n.st, .int .i64 n.tm, .slice A8 n.es.length c8]] wq fun e w' => e = .returned (.int .i64 (n.st + (n.es.length : Int))) ∧ Below wq.heap.size wq w' := fun wq hb => lastOf_C _ _ _ _ _ _ hst hz.es (H.out.below (bl_then B hb)).h8 hc8
          have H1 := Lib.hid ho1
          have H2 := Lib.hid ho2
          have H3 := Lib.hid ho3
          by_cases hp : p.f0 = rd n.want (i : Int)
          · have hp' : (p.f0 != rd n.want (i : Int)) = false := by simp [hp]
            rw [decide_eq_true hp] at hrv
            have HP := Lib.hid hp
            clear hp ho1 ho2 ho3
            cases o1 with
            | false =>
              refine wp_region_flowG [1, 3, 4, 5] 61 (by kernel_rfl) (by rfl) (by kernel_rfl) (by kernel_rfl) (by kernel_rfl) ?_
              iterate 8 (refine flowG_valE ?_; apply Exists.intro; refine ⟨fun A wq hBq hbq hdq => ?_, ?_⟩; focus (obtain ⟨hcq, hfq⟩ := bcellA hBq; (try simp [go_sem, baseF, deps, dep1, Region.binds] at hbq); (try simp [go_sem, baseF, deps, dep1, Region.binds, NewSl] at hdq); go_simp <;> first | exact ⟨Below.refl _ _, rfl⟩ | (rw [if_neg]; (focus (exact ⟨Below.refl _ _, rfl⟩)); (focus ((try simp only [ByteArray.size_append]); omega))) | (fail)))
              iterate 8 (refine flowG_yesE ?_; apply Exists.intro; refine ⟨fun A wq hBq hbq hdq => ⟨?_, ?_⟩, ?_⟩; (focus ((try simp [go_sem, baseF, deps, dep1, Region.binds] at hdq); refine yielded_of rfl ?_; simp [hdq])); focus (obtain ⟨hcq, hfq⟩ := bcellA hBq; (try simp [go_sem, baseF, deps, dep1, Region.binds] at hbq); (try simp [go_sem, baseF, deps, dep1, Region.binds, NewSl] at hdq); go_simp <;> first | exact ⟨Below.refl _ _, rfl⟩ | (rw [if_neg]; (focus (exact ⟨Below.refl _ _, rfl⟩)); (focus ((try simp only [ByteArray.size_append]); omega))) | (first | (go_at_call 66; exact (hlC _ hBq)) | (go_at_call 37; exact (inH _ _ _ _ _ H1)))))
              iterate 2 (refine flowG_valE ?_; apply Exists.intro; refine ⟨fun A wq hBq hbq hdq => ?_, ?_⟩; focus (obtain ⟨hcq, hfq⟩ := bcellA hBq; (try simp [go_sem, baseF, deps, dep1, Region.binds] at hbq); (try simp [go_sem, baseF, deps, dep1, Region.binds, NewSl] at hdq); go_simp <;> first | exact ⟨Below.refl _ _, rfl⟩ | (rw [if_neg]; (focus (exact ⟨Below.refl _ _, rfl⟩)); (focus ((try simp only [ByteArray.size_append]); omega))) | (fail)))
              iterate 7 (refine flowG_no (fun A wq hBq hbq hdq => ?_) ?_; focus ((try simp [go_sem, baseF, deps, dep1, Region.binds] at hdq); refine yielded_of rfl ?_; simp [hdq]))
              iterate 2 (refine flowG_valE ?_; apply Exists.intro; refine ⟨fun A wq hBq hbq hdq => ?_, ?_⟩; focus (obtain ⟨hcq, hfq⟩ := bcellA hBq; (try simp [go_sem, baseF, deps, dep1, Region.binds] at hbq); (try simp [go_sem, baseF, deps, dep1, Region.binds, NewSl] at hdq); go_simp <;> first | exact ⟨Below.refl _ _, rfl⟩ | (rw [if_neg]; (focus (exact ⟨Below.refl _ _, rfl⟩)); (focus ((try simp only [ByteArray.size_append]); omega))) | (fail)))
              iterate 4 (refine flowG_no (fun A wq hBq hbq hdq => ?_) ?_; focus ((try simp [go_sem, baseF, deps, dep1, Region.binds] at hdq); refine yielded_of rfl ?_; simp [hdq]))
              (refine flowG_valE ?_; apply Exists.intro; refine ⟨fun A wq hBq hbq hdq => ?_, ?_⟩; focus (obtain ⟨hcq, hfq⟩ := bcellA hBq; (try simp [go_sem, baseF, deps, dep1, Region.binds] at hbq); (try simp [go_sem, baseF, deps, dep1, Region.binds, NewSl] at hdq); go_simp <;> first | exact ⟨Below.refl _ _, rfl⟩ | (rw [if_neg]; (focus (exact ⟨Below.refl _ _, rfl⟩)); (focus ((try simp only [ByteArray.size_append]); omega))) | (fail)))
              refine fun x wq hBq hall => ?_
              simp only [allT] at hall
              simp [frameOf, Act.put, hall]
              clear hall
              simp only [Bool.true_and, Bool.false_and] at hrv
              subst hrv
              go_wp2_with fail
              go_ret
              exact ⟨rfl, bl_then B hBq⟩
            | true =>
              have ho1 := H1.out
              rw [inB_iff] at ho1
              have hwm : IntKind.i64.wrap (p.f1 - 1) = p.f1 - 1 := by have := hz.es; rw [IntKind.wrap_i64]; omega
              clear ho1
              cases o2 with
              | false =>
                refine wp_region_flowG [1, 3, 4, 5] 61 (by kernel_rfl) (by rfl) (by kernel_rfl) (by kernel_rfl) (by kernel_rfl) ?_
                iterate 8 (refine flowG_valE ?_; apply Exists.intro; refine ⟨fun A wq hBq hbq hdq => ?_, ?_⟩; focus (obtain ⟨hcq, hfq⟩ := bcellA hBq; (try simp [go_sem, baseF, deps, dep1, Region.binds] at hbq); (try simp [go_sem, baseF, deps, dep1, Region.binds, NewSl] at hdq); go_simp <;> first | exact ⟨Below.refl _ _, rfl⟩ | (rw [if_neg]; (focus (exact ⟨Below.refl _ _, rfl⟩)); (focus ((try simp only [ByteArray.size_append]); omega))) | (fail)))
                iterate 8 (refine flowG_yesE ?_; apply Exists.intro; refine ⟨fun A wq hBq hbq hdq => ⟨?_, ?_⟩, ?_⟩; (focus ((try simp [go_sem, baseF, deps, dep1, Region.binds] at hdq); refine yielded_of rfl ?_; simp [hdq])); focus (obtain ⟨hcq, hfq⟩ := bcellA hBq; (try simp [go_sem, baseF, deps, dep1, Region.binds] at hbq); (try simp [go_sem, baseF, deps, dep1, Region.binds, NewSl] at hdq); go_simp <;> first | exact ⟨Below.refl _ _, rfl⟩ | (rw [if_neg]; (focus (exact ⟨Below.refl _ _, rfl⟩)); (focus ((try simp only [ByteArray.size_append]); omega))) | (first | (go_at_call 66; exact (hlC _ hBq)) | (go_at_call 37; exact (inH _ _ _ _ _ H1)))))
                iterate 2 (refine flowG_valE ?_; apply Exists.intro; refine ⟨fun A wq hBq hbq hdq => ?_, ?_⟩; focus (obtain ⟨hcq, hfq⟩ := bcellA hBq; (try simp [go_sem, baseF, deps, dep1, Region.binds] at hbq); (try simp [go_sem, baseF, deps, dep1, Region.binds, NewSl] at hdq); go_simp <;> first | exact ⟨Below.refl _ _, rfl⟩ | (rw [if_neg]; (focus (exact ⟨Below.refl _ _, rfl⟩)); (focus ((try simp only [ByteArray.size_append]); omega))) | (fail)))
                iterate 7 (refine flowG_yesE ?_; apply Exists.intro; refine ⟨fun A wq hBq hbq hdq => ⟨?_, ?_⟩, ?_⟩; (focus ((try simp [go_sem, baseF, deps, dep1, Region.binds] at hdq); refine yielded_of rfl ?_; simp [hdq])); focus (obtain ⟨hcq, hfq⟩ := bcellA hBq; (try simp [go_sem, baseF, deps, dep1, Region.binds] at hbq); (try simp [go_sem, baseF, deps, dep1, Region.binds, NewSl] at hdq); go_simp <;> first | exact ⟨Below.refl _ _, rfl⟩ | (rw [if_neg]; (focus (exact ⟨Below.refl _ _, rfl⟩)); (focus ((try simp only [ByteArray.size_append]); omega))) | (first | (go_at_call 37; exact (inH _ _ _ _ _ H2)))))
                iterate 2 (refine flowG_valE ?_; apply Exists.intro; refine ⟨fun A wq hBq hbq hdq => ?_, ?_⟩; focus (obtain ⟨hcq, hfq⟩ := bcellA hBq; (try simp [go_sem, baseF, deps, dep1, Region.binds] at hbq); (try simp [go_sem, baseF, deps, dep1, Region.binds, NewSl] at hdq); go_simp <;> first | exact ⟨Below.refl _ _, rfl⟩ | (rw [if_neg]; (focus (exact ⟨Below.refl _ _, rfl⟩)); (focus ((try simp only [ByteArray.size_append]); omega))) | (fail)))
                iterate 4 (refine flowG_no (fun A wq hBq hbq hdq => ?_) ?_; focus ((try simp [go_sem, baseF, deps, dep1, Region.binds] at hdq); refine yielded_of rfl ?_; simp [hdq]))
                (refine flowG_valE ?_; apply Exists.intro; refine ⟨fun A wq hBq hbq hdq => ?_, ?_⟩; focus (obtain ⟨hcq, hfq⟩ := bcellA hBq; (try simp [go_sem, baseF, deps, dep1, Region.binds] at hbq); (try simp [go_sem, baseF, deps, dep1, Region.binds, NewSl] at hdq); go_simp <;> first | exact ⟨Below.refl _ _, rfl⟩ | (rw [if_neg]; (focus (exact ⟨Below.refl _ _, rfl⟩)); (focus ((try simp only [ByteArray.size_append]); omega))) | (fail)))
                refine fun x wq hBq hall => ?_
                simp only [allT] at hall
                simp [frameOf, Act.put, hall]
                clear hall
                simp only [Bool.true_and, Bool.false_and] at hrv
                subst hrv
                go_wp2_with fail
                go_ret
                exact ⟨rfl, bl_then B hBq⟩
              | true =>
                cases o3 with
                | false =>
                  refine wp_region_flowG [1, 3, 4, 5] 61 (by kernel_rfl) (by rfl) (by kernel_rfl) (by kernel_rfl) (by kernel_rfl) ?_
                  iterate 8 (refine flowG_valE ?_; apply Exists.intro; refine ⟨fun A wq hBq hbq hdq => ?_, ?_⟩; focus (obtain ⟨hcq, hfq⟩ := bcellA hBq; (try simp [go_sem, baseF, deps, dep1, Region.binds] at hbq); (try simp [go_sem, baseF, deps, dep1, Region.binds, NewSl] at hdq); go_simp <;> first | exact ⟨Below.refl _ _, rfl⟩ | (rw [if_neg]; (focus (exact ⟨Below.refl _ _, rfl⟩)); (focus ((try simp only [ByteArray.size_append]); omega))) | (fail)))
                  iterate 8 (refine flowG_yesE ?_; apply Exists.intro; refine ⟨fun A wq hBq hbq hdq => ⟨?_, ?_⟩, ?_⟩; (focus ((try simp [go_sem, baseF, deps, dep1, Region.binds] at hdq); refine yielded_of rfl ?_; simp [hdq])); focus (obtain ⟨hcq, hfq⟩ := bcellA hBq; (try simp [go_sem, baseF, deps, dep1, Region.binds] at hbq); (try simp [go_sem, baseF, deps, dep1, Region.binds, NewSl] at hdq); go_simp <;> first | exact ⟨Below.refl _ _, rfl⟩ | (rw [if_neg]; (focus (exact ⟨Below.refl _ _, rfl⟩)); (focus ((try simp only [ByteArray.size_append]); omega))) | (first | (go_at_call 66; exact (hlC _ hBq)) | (go_at_call 37; exact (inH _ _ _ _ _ H1)))))
                  iterate 2 (refine flowG_valE ?_; apply Exists.intro; refine ⟨fun A wq hBq hbq hdq => ?_, ?_⟩; focus (obtain ⟨hcq, hfq⟩ := bcellA hBq; (try simp [go_sem, baseF, deps, dep1, Region.binds] at hbq); (try simp [go_sem, baseF, deps, dep1, Region.binds, NewSl] at hdq); go_simp <;> first | exact ⟨Below.refl _ _, rfl⟩ | (rw [if_neg]; (focus (exact ⟨Below.refl _ _, rfl⟩)); (focus ((try simp only [ByteArray.size_append]); omega))) | (fail)))
                  iterate 7 (refine flowG_yesE ?_; apply Exists.intro; refine ⟨fun A wq hBq hbq hdq => ⟨?_, ?_⟩, ?_⟩; (focus ((try simp [go_sem, baseF, deps, dep1, Region.binds] at hdq); refine yielded_of rfl ?_; simp [hdq])); focus (obtain ⟨hcq, hfq⟩ := bcellA hBq; (try simp [go_sem, baseF, deps, dep1, Region.binds] at hbq); (try simp [go_sem, baseF, deps, dep1, Region.binds, NewSl] at hdq); go_simp <;> first | exact ⟨Below.refl _ _, rfl⟩ | (rw [if_neg]; (focus (exact ⟨Below.refl _ _, rfl⟩)); (focus ((try simp only [ByteArray.size_append]); omega))) | (first | (go_at_call 37; exact (inH _ _ _ _ _ H2)))))
                  iterate 2 (refine flowG_valE ?_; apply Exists.intro; refine ⟨fun A wq hBq hbq hdq => ?_, ?_⟩; focus (obtain ⟨hcq, hfq⟩ := bcellA hBq; (try simp [go_sem, baseF, deps, dep1, Region.binds] at hbq); (try simp [go_sem, baseF, deps, dep1, Region.binds, NewSl] at hdq); go_simp <;> first | exact ⟨Below.refl _ _, rfl⟩ | (rw [if_neg]; (focus (exact ⟨Below.refl _ _, rfl⟩)); (focus ((try simp only [ByteArray.size_append]); omega))) | (fail)))
                  iterate 4 (refine flowG_yesE ?_; apply Exists.intro; refine ⟨fun A wq hBq hbq hdq => ⟨?_, ?_⟩, ?_⟩; (focus ((try simp [go_sem, baseF, deps, dep1, Region.binds] at hdq); refine yielded_of rfl ?_; simp [hdq])); focus (obtain ⟨hcq, hfq⟩ := bcellA hBq; (try simp [go_sem, baseF, deps, dep1, Region.binds] at hbq); (try simp [go_sem, baseF, deps, dep1, Region.binds, NewSl] at hdq); go_simp <;> first | exact ⟨Below.refl _ _, rfl⟩ | (rw [if_neg]; (focus (exact ⟨Below.refl _ _, rfl⟩)); (focus ((try simp only [ByteArray.size_append]); omega))) | (first | (go_at_call 37; exact (inH _ _ _ _ _ H3)))))
                  (refine flowG_valE ?_; apply Exists.intro; refine ⟨fun A wq hBq hbq hdq => ?_, ?_⟩; focus (obtain ⟨hcq, hfq⟩ := bcellA hBq; (try simp [go_sem, baseF, deps, dep1, Region.binds] at hbq); (try simp [go_sem, baseF, deps, dep1, Region.binds, NewSl] at hdq); go_simp <;> first | exact ⟨Below.refl _ _, rfl⟩ | (rw [if_neg]; (focus (exact ⟨Below.refl _ _, rfl⟩)); (focus ((try simp only [ByteArray.size_append]); omega))) | (fail)))
                  refine fun x wq hBq hall => ?_
                  simp only [allT] at hall
                  simp [frameOf, Act.put, hall]
                  clear hall
                  simp only [Bool.true_and, Bool.false_and] at hrv
                  subst hrv
                  go_wp2_with fail
                  go_ret
                  exact ⟨rfl, bl_then B hBq⟩
                | true =>
                  refine wp_region_flowG [1, 3, 4, 5] 61 (by kernel_rfl) (by rfl) (by kernel_rfl) (by kernel_rfl) (by kernel_rfl) ?_
                  iterate 8 (refine flowG_valE ?_; apply Exists.intro; refine ⟨fun A wq hBq hbq hdq => ?_, ?_⟩; focus (obtain ⟨hcq, hfq⟩ := bcellA hBq; (try simp [go_sem, baseF, deps, dep1, Region.binds] at hbq); (try simp [go_sem, baseF, deps, dep1, Region.binds, NewSl] at hdq); go_simp <;> first | exact ⟨Below.refl _ _, rfl⟩ | (rw [if_neg]; (focus (exact ⟨Below.refl _ _, rfl⟩)); (focus ((try simp only [ByteArray.size_append]); omega))) | (fail)))
                  iterate 8 (refine flowG_yesE ?_; apply Exists.intro; refine ⟨fun A wq hBq hbq hdq => ⟨?_, ?_⟩, ?_⟩; (focus ((try simp [go_sem, baseF, deps, dep1, Region.binds] at hdq); refine yielded_of rfl ?_; simp [hdq])); focus (obtain ⟨hcq, hfq⟩ := bcellA hBq; (try simp [go_sem, baseF, deps, dep1, Region.binds] at hbq); (try simp [go_sem, baseF, deps, dep1, Region.binds, NewSl] at hdq); go_simp <;> first | exact ⟨Below.refl _ _, rfl⟩ | (rw [if_neg]; (focus (exact ⟨Below.refl _ _, rfl⟩)); (focus ((try simp only [ByteArray.size_append]); omega))) | (first | (go_at_call 66; exact (hlC _ hBq)) | (go_at_call 37; exact (inH _ _ _ _ _ H1)))))
                  iterate 2 (refine flowG_valE ?_; apply Exists.intro; refine ⟨fun A wq hBq hbq hdq => ?_, ?_⟩; focus (obtain ⟨hcq, hfq⟩ := bcellA hBq; (try simp [go_sem, baseF, deps, dep1, Region.binds] at hbq); (try simp [go_sem, baseF, deps, dep1, Region.binds, NewSl] at hdq); go_simp <;> first | exact ⟨Below.refl _ _, rfl⟩ | (rw [if_neg]; (focus (exact ⟨Below.refl _ _, rfl⟩)); (focus ((try simp only [ByteArray.size_append]); omega))) | (fail)))
                  iterate 7 (refine flowG_yesE ?_; apply Exists.intro; refine ⟨fun A wq hBq hbq hdq => ⟨?_, ?_⟩, ?_⟩; (focus ((try simp [go_sem, baseF, deps, dep1, Region.binds] at hdq); refine yielded_of rfl ?_; simp [hdq])); focus (obtain ⟨hcq, hfq⟩ := bcellA hBq; (try simp [go_sem, baseF, deps, dep1, Region.binds] at hbq); (try simp [go_sem, baseF, deps, dep1, Region.binds, NewSl] at hdq); go_simp <;> first | exact ⟨Below.refl _ _, rfl⟩ | (rw [if_neg]; (focus (exact ⟨Below.refl _ _, rfl⟩)); (focus ((try simp only [ByteArray.size_append]); omega))) | (first | (go_at_call 37; exact (inH _ _ _ _ _ H2)))))
                  iterate 2 (refine flowG_valE ?_; apply Exists.intro; refine ⟨fun A wq hBq hbq hdq => ?_, ?_⟩; focus (obtain ⟨hcq, hfq⟩ := bcellA hBq; (try simp [go_sem, baseF, deps, dep1, Region.binds] at hbq); (try simp [go_sem, baseF, deps, dep1, Region.binds, NewSl] at hdq); go_simp <;> first | exact ⟨Below.refl _ _, rfl⟩ | (rw [if_neg]; (focus (exact ⟨Below.refl _ _, rfl⟩)); (focus ((try simp only [ByteArray.size_append]); omega))) | (fail)))
                  iterate 4 (refine flowG_yesE ?_; apply Exists.intro; refine ⟨fun A wq hBq hbq hdq => ⟨?_, ?_⟩, ?_⟩; (focus ((try simp [go_sem, baseF, deps, dep1, Region.binds] at hdq); refine yielded_of rfl ?_; simp [hdq])); focus (obtain ⟨hcq, hfq⟩ := bcellA hBq; (try simp [go_sem, baseF, deps, dep1, Region.binds] at hbq); (try simp [go_sem, baseF, deps, dep1, Region.binds, NewSl] at hdq); go_simp <;> first | exact ⟨Below.refl _ _, rfl⟩ | (rw [if_neg]; (focus (exact ⟨Below.refl _ _, rfl⟩)); (focus ((try simp only [ByteArray.size_append]); omega))) | (first | (go_at_call 37; exact (inH _ _ _ _ _ H3)))))
                  (refine flowG_valE ?_; apply Exists.intro; refine ⟨fun A wq hBq hbq hdq => ?_, ?_⟩; focus (obtain ⟨hcq, hfq⟩ := bcellA hBq; (try simp [go_sem, baseF, deps, dep1, Region.binds] at hbq); (try simp [go_sem, baseF, deps, dep1, Region.binds, NewSl] at hdq); go_simp <;> first | exact ⟨Below.refl _ _, rfl⟩ | (rw [if_neg]; (focus (exact ⟨Below.refl _ _, rfl⟩)); (focus ((try simp only [ByteArray.size_append]); omega))) | (fail)))
                  refine fun x wq hBq hall => ?_
                  simp only [allT] at hall
                  simp [frameOf, Act.put, hall]
                  clear hall
                  simp only [Bool.true_and] at hrv
                  have hrw := Lib.hid hrv
                  clear hrv
                  have m2 := m1.below hBq
                  have B2 := bl_then B hBq
                  have HC2 := Lib.hid (Kd.C_below HC.out hBq)
                  clear m1 B HC hBq z6 z7 z8 q0 q1 q2 q3 y0 lz lq ly
                  go_wp2_with fail
                  go_roundg k
                  case measure => omega
                  case rel => exact ⟨i + 1, by first | rfl | (rw [E1.out]), by omega, hrw, m2, B2, HC2.out⟩
          · have hp' : (p.f0 != rd n.want (i : Int)) = true := by simp [hp]
            rw [decide_eq_false hp] at hrv
            clear hp
            refine wp_region_flowG [1, 3, 4, 5] 61 (by kernel_rfl) (by rfl) (by kernel_rfl) (by kernel_rfl) (by kernel_rfl) ?_
            iterate 8 (refine flowG_valE ?_; apply Exists.intro; refine ⟨fun A wq hBq hbq hdq => ?_, ?_⟩; focus (obtain ⟨hcq, hfq⟩ := bcellA hBq; (try simp [go_sem, baseF, deps, dep1, Region.binds] at hbq); (try simp [go_sem, baseF, deps, dep1, Region.binds, NewSl] at hdq); go_simp <;> first | exact ⟨Below.refl _ _, rfl⟩ | (rw [if_neg]; (focus (exact ⟨Below.refl _ _, rfl⟩)); (focus ((try simp only [ByteArray.size_append]); omega))) | (fail)))
            iterate 8 (refine flowG_no (fun A wq hBq hbq hdq => ?_) ?_; focus ((try simp [go_sem, baseF, deps, dep1, Region.binds] at hdq); refine yielded_of rfl ?_; simp [hdq]))
            iterate 2 (refine flowG_valE ?_; apply Exists.intro; refine ⟨fun A wq hBq hbq hdq => ?_, ?_⟩; focus (obtain ⟨hcq, hfq⟩ := bcellA hBq; (try simp [go_sem, baseF, deps, dep1, Region.binds] at hbq); (try simp [go_sem, baseF, deps, dep1, Region.binds, NewSl] at hdq); go_simp <;> first | exact ⟨Below.refl _ _, rfl⟩ | (rw [if_neg]; (focus (exact ⟨Below.refl _ _, rfl⟩)); (focus ((try simp only [ByteArray.size_append]); omega))) | (fail)))
            iterate 7 (refine flowG_no (fun A wq hBq hbq hdq => ?_) ?_; focus ((try simp [go_sem, baseF, deps, dep1, Region.binds] at hdq); refine yielded_of rfl ?_; simp [hdq]))
            iterate 2 (refine flowG_valE ?_; apply Exists.intro; refine ⟨fun A wq hBq hbq hdq => ?_, ?_⟩; focus (obtain ⟨hcq, hfq⟩ := bcellA hBq; (try simp [go_sem, baseF, deps, dep1, Region.binds] at hbq); (try simp [go_sem, baseF, deps, dep1, Region.binds, NewSl] at hdq); go_simp <;> first | exact ⟨Below.refl _ _, rfl⟩ | (rw [if_neg]; (focus (exact ⟨Below.refl _ _, rfl⟩)); (focus ((try simp only [ByteArray.size_append]); omega))) | (fail)))
            iterate 4 (refine flowG_no (fun A wq hBq hbq hdq => ?_) ?_; focus ((try simp [go_sem, baseF, deps, dep1, Region.binds] at hdq); refine yielded_of rfl ?_; simp [hdq]))
            (refine flowG_valE ?_; apply Exists.intro; refine ⟨fun A wq hBq hbq hdq => ?_, ?_⟩; focus (obtain ⟨hcq, hfq⟩ := bcellA hBq; (try simp [go_sem, baseF, deps, dep1, Region.binds] at hbq); (try simp [go_sem, baseF, deps, dep1, Region.binds, NewSl] at hdq); go_simp <;> first | exact ⟨Below.refl _ _, rfl⟩ | (rw [if_neg]; (focus (exact ⟨Below.refl _ _, rfl⟩)); (focus ((try simp only [ByteArray.size_append]); omega))) | (fail)))
            refine fun x wq hBq hall => ?_
            simp only [allT] at hall
            simp [frameOf, Act.put, hall]
            clear hall
            simp only [Bool.true_and, Bool.false_and] at hrv
            subst hrv
            go_wp2_with fail
            go_ret
            exact ⟨rfl, bl_then B hBq⟩
    · have hne : ((n.ps.length : Int) != (n.want.length : Int)) = true := by
        have : ¬ ((n.ps.length : Int) = (n.want.length : Int)) := by omega
        simp [this]
      obtain rfl : q = false := by rw [← hq]; unfold NF.peersB; simp [hlen]
      clear hq
      clear hlen
      go_wp2_with fail
      go_ret
      exact ⟨rfl, B'⟩
end Go.Proofs.Ytallakebnoighaa.PFnExactSettle
end
