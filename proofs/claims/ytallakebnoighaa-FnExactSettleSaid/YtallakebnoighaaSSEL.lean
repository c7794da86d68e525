import Derived.Test.YtallakebnoighaaSSEI
import Derived.Test.YtallakebnoighaaSSEJ
import Derived.Test.YtallakebnoighaaSSEK
import Derived.Test.YtallakebnoighaaSSEG
import Derived.Test.YtallakebnoighaaSSEA

section
namespace Go.Proofs.Ytallakebnoighaa.PFnExactSettle
open Go.RowKit Go.Proofs.YtallakebnoighaaW.PrintWords
set_option linter.unusedSimpArgs false
set_option linter.unusedVariables false
theorem l12Copy_C (n : NF) (A5 : Option Addr) (c5 : Nat) (A8 : Option Addr) (c8 : Nat) (A12 : Option Addr) (c12 : Nat) (A13 : Option Addr) (c13 : Nat) (w : World) (hz : NodeZ n) (h : NodeC n A5 c5 A8 c8 A12 c12 A13 c13 w) :
    Calls Try.prog 46 #[.agg #[.int .i64 n.id, .int .i64 n.term, .int .i64 n.vote, .int .i64 n.role, .int .i64 n.lead, .slice A5 n.cf.length c5, .int .i64 n.st, .int .i64 n.tm, .slice A8 n.es.length c8, .int .i64 n.cm, .int .i64 n.ck, .int .i64 n.lm, .slice A12 n.vs.length c12, .slice A13 n.ps.length c13]] w fun e w' => (∃ v5 v8 v12 v13, e = .returned (.agg #[.int .i64 n.id, .int .i64 n.term, .int .i64 n.vote, .int .i64 n.role, .int .i64 n.lead, v5, .int .i64 n.st, .int .i64 n.tm, v8, .int .i64 n.cm, .int .i64 n.ck, .int .i64 n.lm, v12, v13]) ∧ Kd.R (Kd.int .i64) 3 w' w.heap.size (fun k => w.heap.size ≤ k) v5 n.cf ∧ Kd.R k87 87 w' w.heap.size (fun k => w.heap.size ≤ k) v8 n.es ∧ Kd.R (Kd.int .i64) 3 w' w.heap.size (fun k => w.heap.size ≤ k) v12 n.vs ∧ Kd.R k69 69 w' w.heap.size (fun k => w.heap.size ≤ k) v13 n.ps) ∧ Below w.heap.size w w' := by
  refine (spec_l12Copy.calls n.id n.term n.vote n.role n.lead A5 c5 n.cf n.st n.tm A8 c8 n.es n.cm n.ck n.lm A12 c12 n.vs A13 c13 n.ps n.id n.term n.vote n.role n.lead n.cf n.st n.tm n.es n.cm n.ck n.lm n.vs n.ps w h.h5 h.hc5 h.h8 h.hc8 h.h12 h.hc12 h.h13 h.hc13 ?_).mono ?_
  · have := hz.cf
    have := hz.es
    have := hz.vs
    have := hz.ps
    unfold spec_l12Copy.f
    simp only [Option.bind_some, List.nil_append, List.length_nil]
    rw [if_pos (by omega), if_pos (by omega), if_pos (by omega), if_pos (by omega)]
  · rintro e w' ⟨v5, v8, v12, v13, rfl, h5, h8, h12, h13, hb⟩
    exact ⟨⟨v5, v8, v12, v13, rfl, Kd.R_mono (Kd.R_bound h5) (fun k hk => hk.2.1), Kd.R_mono (Kd.R_bound h8) (fun k hk => hk.2.1), Kd.R_mono (Kd.R_bound h12) (fun k hk => hk.2.1), Kd.R_mono (Kd.R_bound h13) (fun k hk => hk.2.1)⟩, hb⟩
theorem confAtS_f (m : NF) (idx : Int) (hcf : m.cf.length ≤ 1048576) (h2 : logOkB m.st m.tm m.es = true) (hS : ShortE m.es) : spec_ConfAt.f 4400000 m.id m.term m.vote m.role m.lead m.cf m.st m.tm m.es m.cm m.ck m.lm m.vs m.ps idx = some (confAt m.cf m.st idx m.es) := by
  obtain ⟨h3, -, h4, h6, h5⟩ := logOkB_parts h2
  have hst : 0 ≤ m.st ∧ m.st ≤ 2000000 := by omega
  have hok : ∀ j : Nat, j < m.es.length → entryOk (rd_T87 m.es (j : Int)).f0 (rd_T87 m.es (j : Int)).f1 (rd_T87 m.es (j : Int)).f2 = true := fun j hj => (logEnts_all _ 0 _ h5 j (Nat.zero_le _) (by omega)).1
  unfold spec_ConfAt.f
  rw [Option.bind_some, if_pos (by simp only [List.length_nil]; omega)]
  have := confAt_l0 m idx hst (by omega) hS hok m.es.length 4400000 0 (by omega) (by omega)
  simp only [confUp, Int.natCast_zero] at this
  simp only [List.nil_append]
  exact this
theorem sconfAt_C (idx : Int) (n : NF) (A5 : Option Addr) (c5 : Nat) (A8 : Option Addr) (c8 : Nat) (A12 : Option Addr) (c12 : Nat) (A13 : Option Addr) (c13 : Nat) (w : World) (hz : NodeZ n) (h : NodeC n A5 c5 A8 c8 A12 c12 A13 c13 w) (hl : logOkB n.st n.tm n.es = true) :
    Calls Try.prog 47 #[.agg #[.int .i64 n.id, .int .i64 n.term, .int .i64 n.vote, .int .i64 n.role, .int .i64 n.lead, .slice A5 n.cf.length c5, .int .i64 n.st, .int .i64 n.tm, .slice A8 n.es.length c8, .int .i64 n.cm, .int .i64 n.ck, .int .i64 n.lm, .slice A12 n.vs.length c12, .slice A13 n.ps.length c13], .int .i64 idx] w fun e w' => (∃ v, e = .returned v ∧ Kd.R (Kd.int .i64) 3 w' w.heap.size (fun k => w.heap.size ≤ k) v (confAt n.cf n.st idx n.es)) ∧ Below w.heap.size w w' := by
  refine (spec_ConfAt.calls _ n.id n.term n.vote n.role n.lead A5 c5 n.cf n.st n.tm A8 c8 n.es n.cm n.ck n.lm A12 c12 n.vs A13 c13 n.ps idx _ w h.h5 h.hc5 h.h8 h.hc8 h.h12 h.hc12 h.h13 h.hc13 (confAtS_f n idx hz.cf hl hz.sh)).mono ?_
  rintro e w' ⟨v, h1, h2, h3⟩
  exact ⟨⟨v, h1, Kd.R_mono (Kd.R_bound h2) (fun k hk => hk.2.1)⟩, h3⟩
set_option maxHeartbeats 4000000 in
set_option maxRecDepth 100000 in
theorem spec_Settle_no (n : NF) (idx : Int) (A5 : Option Addr) (c5 : Nat) (A8 : Option Addr) (c8 : Nat) (A12 : Option Addr) (c12 : Nat) (A13 : Option Addr) (c13 : Nat) (w : World) (hz : NodeZ n) (h : NodeC n A5 c5 A8 c8 A12 c12 A13 c13 w) (hno : n.settleB idx = false) :
    Calls Try.prog 11 #[.agg #[.int .i64 n.id, .int .i64 n.term, .int .i64 n.vote, .int .i64 n.role, .int .i64 n.lead, .slice A5 n.cf.length c5, .int .i64 n.st, .int .i64 n.tm, .slice A8 n.es.length c8, .int .i64 n.cm, .int .i64 n.ck, .int .i64 n.lm, .slice A12 n.vs.length c12, .slice A13 n.ps.length c13], .int .i64 idx] w fun e w' => e = .returned (.tuple #[.agg #[.int .i64 0, .int .i64 0, .int .i64 0, .int .i64 0, .int .i64 0, .slice none 0 0, .int .i64 0, .int .i64 0, .slice none 0 0, .int .i64 0, .int .i64 0, .int .i64 0, .slice none 0 0, .slice none 0 0], .bool false]) ∧ Below w.heap.size w w' := by
  have H := Lib.hid h
  clear h
  obtain ⟨o1, ho1⟩ : ∃ o, n.ok = o := ⟨_, rfl⟩
  obtain ⟨o2, ho2⟩ : ∃ o, inB idx n.st n.cm = o := ⟨_, rfl⟩
  unfold NF.settleB at hno
  rw [ho1, ho2] at hno
  have H2 := Lib.hid ho2
  clear ho2
  go_enter Try.func11, Try.ntmps11
  go_wp2_with fail
  refine calls_atC (fun X => Blk 36 w.heap.size #[.int .i64 n.id, .int .i64 n.term, .int .i64 n.vote, .int .i64 n.role, .int .i64 n.lead, .slice A5 n.cf.length c5, .int .i64 n.st, .int .i64 n.tm, .slice A8 n.es.length c8, .int .i64 n.cm, .int .i64 n.ck, .int .i64 n.lm, .slice A12 n.vs.length c12, .slice A13 n.ps.length c13] X ∧ Blk 36 (w.heap.size + 1) #[.int .i64 0, .int .i64 0, .int .i64 0, .int .i64 0, .int .i64 0, .slice none 0 0, .int .i64 0, .int .i64 0, .slice none 0 0, .int .i64 0, .int .i64 0, .int .i64 0, .slice none 0 0, .slice none 0 0] X ∧ Below w.heap.size w X) ⟨(Blk.new _ _ w).alloc _, Blk.newE _ _ (w.alloc _) (by simp), bl_alloc (bl_alloc (Below.refl _ _) _) _⟩ ?_
  rintro X0 ⟨k1, k2, B⟩
  have hN := spec_NodeOk_C n A5 c5 A8 c8 A12 c12 A13 c13 X0 hz (H.out.below B)
  rw [ho1] at hN
  refine hN.mono ?_
  rintro e X1 ⟨rfl, hb⟩
  replace k1 := k1.below hb
  replace k2 := k2.below hb
  replace B := bl_then B hb
  clear hb hN ho1 X0
  have y0 := k1.cell 0 rfl
  have y1 := k1.cell 1 rfl
  have y2 := k1.cell 2 rfl
  have y3 := k1.cell 3 rfl
  have y4 := k1.cell 4 rfl
  have y5 := k1.cell 5 rfl
  have y6 := k1.cell 6 rfl
  have y7 := k1.cell 7 rfl
  have y8 := k1.cell 8 rfl
  have y9 := k1.cell 9 rfl
  have y10 := k1.cell 10 rfl
  have y11 := k1.cell 11 rfl
  have y12 := k1.cell 12 rfl
  have y13 := k1.cell 13 rfl
  have ly := k1.lt
  have fy := fun o => k1.free o
  have z0 := k2.cell 0 rfl
  have z1 := k2.cell 1 rfl
  have z2 := k2.cell 2 rfl
  have z3 := k2.cell 3 rfl
  have z4 := k2.cell 4 rfl
  have z5 := k2.cell 5 rfl
  have z6 := k2.cell 6 rfl
  have z7 := k2.cell 7 rfl
  have z8 := k2.cell 8 rfl
  have z9 := k2.cell 9 rfl
  have z10 := k2.cell 10 rfl
  have z11 := k2.cell 11 rfl
  have z12 := k2.cell 12 rfl
  have z13 := k2.cell 13 rfl
  have lz := k2.lt
  have fz := fun o => k2.free o
  cases o1 with
  | false =>
    go_wp2_with fail
    refine bodyPost_ret (v := .tuple #[.agg #[.int .i64 0, .int .i64 0, .int .i64 0, .int .i64 0, .int .i64 0, .slice none 0 0, .int .i64 0, .int .i64 0, .slice none 0 0, .int .i64 0, .int .i64 0, .int .i64 0, .slice none 0 0, .slice none 0 0], .bool false]) ?_ rfl ⟨rfl, ?_⟩
    · simp only [results, Try.results11]
      go_simp
    · iterate 14 refine bl_set ?_ (Nat.le_succ _)
      exact B
  | true =>
    obtain rfl : o2 = false := by simpa using hno
    go_wp2_with fail
    refine (inHS _ _ _ _ _ H2).mono ?_
    rintro e X2 ⟨rfl, hb⟩
    replace k1 := k1.below hb
    replace k2 := k2.below hb
    replace B := bl_then B hb
    clear y0 y1 y2 y3 y4 y5 y6 y7 y8 y9 y10 y11 y12 y13 ly fy z0 z1 z2 z3 z4 z5 z6 z7 z8 z9 z10 z11 z12 z13 lz fz hb X1
    have y0 := k1.cell 0 rfl
    have y1 := k1.cell 1 rfl
    have y2 := k1.cell 2 rfl
    have y3 := k1.cell 3 rfl
    have y4 := k1.cell 4 rfl
    have y5 := k1.cell 5 rfl
    have y6 := k1.cell 6 rfl
    have y7 := k1.cell 7 rfl
    have y8 := k1.cell 8 rfl
    have y9 := k1.cell 9 rfl
    have y10 := k1.cell 10 rfl
    have y11 := k1.cell 11 rfl
    have y12 := k1.cell 12 rfl
    have y13 := k1.cell 13 rfl
    have ly := k1.lt
    have fy := fun o => k1.free o
    have z0 := k2.cell 0 rfl
    have z1 := k2.cell 1 rfl
    have z2 := k2.cell 2 rfl
    have z3 := k2.cell 3 rfl
    have z4 := k2.cell 4 rfl
    have z5 := k2.cell 5 rfl
    have z6 := k2.cell 6 rfl
    have z7 := k2.cell 7 rfl
    have z8 := k2.cell 8 rfl
    have z9 := k2.cell 9 rfl
    have z10 := k2.cell 10 rfl
    have z11 := k2.cell 11 rfl
    have z12 := k2.cell 12 rfl
    have z13 := k2.cell 13 rfl
    have lz := k2.lt
    have fz := fun o => k2.free o
    go_wp2_with fail
    refine bodyPost_ret (v := .tuple #[.agg #[.int .i64 0, .int .i64 0, .int .i64 0, .int .i64 0, .int .i64 0, .slice none 0 0, .int .i64 0, .int .i64 0, .slice none 0 0, .int .i64 0, .int .i64 0, .int .i64 0, .slice none 0 0, .slice none 0 0], .bool false]) ?_ rfl ⟨rfl, ?_⟩
    · simp only [results, Try.results11]
      go_simp
    · iterate 14 refine bl_set ?_ (Nat.le_succ _)
      exact B
attribute [local go_sem] flowUpon flowUponL
set_option maxHeartbeats 4000000 in
set_option maxRecDepth 100000 in
theorem spec_Settle_yes (n : NF) (idx t : Int) (A5 : Option Addr) (c5 : Nat) (A8 : Option Addr) (c8 : Nat) (A12 : Option Addr) (c12 : Nat) (A13 : Option Addr) (c13 : Nat) (w : World) (hz : NodeZ n) (h : NodeC n A5 c5 A8 c8 A12 c12 A13 c13 w) (hok : n.ok = true) (hlog : logOkB n.st n.tm n.es = true) (hin : inB idx n.st n.cm = true) (hcm : n.cm ≤ n.st + n.es.length) (ht : Hid (termAt n.st n.tm n.es idx = t)) :
    Calls Try.prog 11 #[.agg #[.int .i64 n.id, .int .i64 n.term, .int .i64 n.vote, .int .i64 n.role, .int .i64 n.lead, .slice A5 n.cf.length c5, .int .i64 n.st, .int .i64 n.tm, .slice A8 n.es.length c8, .int .i64 n.cm, .int .i64 n.ck, .int .i64 n.lm, .slice A12 n.vs.length c12, .slice A13 n.ps.length c13], .int .i64 idx] w fun e w' => (∃ g v5 v8 v12 v13, w.heap.size + 1 < g ∧ e = .returned (.tuple #[.agg #[.int .i64 n.id, .int .i64 n.term, .int .i64 n.vote, .int .i64 n.role, .int .i64 n.lead, v5, .int .i64 idx, .int .i64 t, v8, .int .i64 n.cm, .int .i64 n.ck, .int .i64 n.lm, v12, v13], .bool true]) ∧ Kd.R (Kd.int .i64) 3 w' w.heap.size (fun k => g < k) v5 (confAt n.cf n.st idx n.es) ∧ Kd.R k87 87 w' w.heap.size (fun k => w.heap.size + 1 < k) v8 (n.es.drop (idx - n.st).toNat) ∧ Kd.R (Kd.int .i64) 3 w' w.heap.size (fun k => w.heap.size + 1 < k ∧ k < g) v12 n.vs ∧ Kd.R k69 69 w' w.heap.size (fun k => w.heap.size + 1 < k) v13 n.ps) ∧ Below w.heap.size w w' := by
  have H := Lib.hid h
  clear h
  have H2 := Lib.hid hin
  have HL := Lib.hid hlog
  have hix : n.st ≤ idx ∧ idx ≤ n.st + n.es.length := by rw [inB_iff] at hin; omega
  have hst : 0 ≤ n.st ∧ n.st ≤ 2000000 := by have := (logOkB_parts hlog).1; omega
  have hel : n.es.length ≤ 1000000 := by have := (logOkB_parts hlog).2.2.1; omega
  clear hin hlog hcm
  obtain ⟨d, hd⟩ : ∃ d : List S87, n.es.drop (idx - n.st).toNat = d := ⟨_, rfl⟩
  rw [hd]
  have Hd := Lib.hid hd
  clear hd
  go_enter Try.func11, Try.ntmps11
  go_wp2_with fail
  refine calls_atC (fun X => Blk 36 w.heap.size #[.int .i64 n.id, .int .i64 n.term, .int .i64 n.vote, .int .i64 n.role, .int .i64 n.lead, .slice A5 n.cf.length c5, .int .i64 n.st, .int .i64 n.tm, .slice A8 n.es.length c8, .int .i64 n.cm, .int .i64 n.ck, .int .i64 n.lm, .slice A12 n.vs.length c12, .slice A13 n.ps.length c13] X ∧ Blk 36 (w.heap.size + 1) #[.int .i64 0, .int .i64 0, .int .i64 0, .int .i64 0, .int .i64 0, .slice none 0 0, .int .i64 0, .int .i64 0, .slice none 0 0, .int .i64 0, .int .i64 0, .int .i64 0, .slice none 0 0, .slice none 0 0] X ∧ Below w.heap.size w X) ⟨(Blk.new _ _ w).alloc _, Blk.newE _ _ (w.alloc _) (by simp), bl_alloc (bl_alloc (Below.refl _ _) _) _⟩ ?_
  rintro X0 ⟨k1, k2, B⟩
  have hN := spec_NodeOk_C n A5 c5 A8 c8 A12 c12 A13 c13 X0 hz (H.out.below B)
  rw [hok] at hN
  refine hN.mono ?_
  rintro e X1 ⟨rfl, hb⟩
  replace k1 := k1.below hb
  replace k2 := k2.below hb
  replace B := bl_then B hb
  clear hb hN hok X0
  have y0 := k1.cell 0 rfl
  have y1 := k1.cell 1 rfl
  have y2 := k1.cell 2 rfl
  have y3 := k1.cell 3 rfl
  have y4 := k1.cell 4 rfl
  have y5 := k1.cell 5 rfl
  have y6 := k1.cell 6 rfl
  have y7 := k1.cell 7 rfl
  have y8 := k1.cell 8 rfl
  have y9 := k1.cell 9 rfl
  have y10 := k1.cell 10 rfl
  have y11 := k1.cell 11 rfl
  have y12 := k1.cell 12 rfl
  have y13 := k1.cell 13 rfl
  have ly := k1.lt
  have fy := fun o => k1.free o
  go_wp2_with fail
  refine (inHS _ _ _ _ _ H2).mono ?_
  rintro e X2 ⟨rfl, hb⟩
  replace k1 := k1.below hb
  replace k2 := k2.below hb
  replace B := bl_then B hb
  clear y0 y1 y2 y3 y4 y5 y6 y7 y8 y9 y10 y11 y12 y13 ly fy hb X1
  have y0 := k1.cell 0 rfl
  have y1 := k1.cell 1 rfl
  have y2 := k1.cell 2 rfl
  have y3 := k1.cell 3 rfl
  have y4 := k1.cell 4 rfl
  have y5 := k1.cell 5 rfl
  have y6 := k1.cell 6 rfl
  have y7 := k1.cell 7 rfl
  have y8 := k1.cell 8 rfl
  have y9 := k1.cell 9 rfl
  have y10 := k1.cell 10 rfl
  have y11 := k1.cell 11 rfl
  have y12 := k1.cell 12 rfl
  have y13 := k1.cell 13 rfl
  have ly := k1.lt
  have fy := fun o => k1.free o
  go_wp2_with fail
  refine (l12Copy_C n A5 c5 A8 c8 A12 c12 A13 c13 X2 hz (H.out.below B)).mono ?_
  rintro e X3 ⟨⟨v5, v8, v12, v13, rfl, R5, R8, R12, R13⟩, hb⟩
  have l0 := k2.lt
  obtain ⟨g, hg⟩ : ∃ g, g = X3.heap.size := ⟨_, rfl⟩
  have HR := Lib.hid (And.intro (Kd.R_mono (ok' := fun k => w.heap.size + 1 < k ∧ k < g) (Kd.R_bound (Kd.R_lower R12 B.size)) (fun k hk => ⟨by have := hk.1; omega, by rw [hg]; exact hk.2.2.1⟩)) (Kd.R_mono (ok' := fun k => w.heap.size + 1 < k ∧ k < g) (Kd.R_bound (Kd.R_lower R13 B.size)) (fun k hk => ⟨by have := hk.1; omega, by rw [hg]; exact hk.2.2.1⟩)))
  obtain ⟨B5, b5, rfl, -, -⟩ := Kd.R_reads R5
  obtain ⟨B8, b8, rfl, -, -⟩ := Kd.R_reads R8
  obtain ⟨B12, b12, rfl, -, -⟩ := Kd.R_reads R12
  obtain ⟨B13, b13, rfl, -, -⟩ := Kd.R_reads R13
  replace k1 := k1.below hb
  replace k2 := k2.below hb
  replace B := bl_then B hb
  clear y0 y1 y2 y3 y4 y5 y6 y7 y8 y9 y10 y11 y12 y13 ly fy hb R5 R8 R12 R13 l0 X2
  have y0 := k1.cell 0 rfl
  have y1 := k1.cell 1 rfl
  have y2 := k1.cell 2 rfl
  have y3 := k1.cell 3 rfl
  have y4 := k1.cell 4 rfl
  have y5 := k1.cell 5 rfl
  have y6 := k1.cell 6 rfl
  have y7 := k1.cell 7 rfl
  have y8 := k1.cell 8 rfl
  have y9 := k1.cell 9 rfl
  have y10 := k1.cell 10 rfl
  have y11 := k1.cell 11 rfl
  have y12 := k1.cell 12 rfl
  have y13 := k1.cell 13 rfl
  have ly := k1.lt
  have fy := fun o => k1.free o
  go_wp2_with fail
  refine calls_atC (fun X => Blk 36 w.heap.size #[.int .i64 n.id, .int .i64 n.term, .int .i64 n.vote, .int .i64 n.role, .int .i64 n.lead, .slice A5 n.cf.length c5, .int .i64 n.st, .int .i64 n.tm, .slice A8 n.es.length c8, .int .i64 n.cm, .int .i64 n.ck, .int .i64 n.lm, .slice A12 n.vs.length c12, .slice A13 n.ps.length c13] X ∧ Blk 36 (w.heap.size + 1) #[.int .i64 0, .int .i64 0, .int .i64 0, .int .i64 0, .int .i64 0, .slice none 0 0, .int .i64 0, .int .i64 0, .slice none 0 0, .int .i64 0, .int .i64 0, .int .i64 0, .slice none 0 0, .slice none 0 0] X ∧ Blk 36 g #[.int .i64 n.id, .int .i64 n.term, .int .i64 n.vote, .int .i64 n.role, .int .i64 n.lead, .slice B5 n.cf.length b5, .int .i64 n.st, .int .i64 n.tm, .slice B8 n.es.length b8, .int .i64 n.cm, .int .i64 n.ck, .int .i64 n.lm, .slice B12 n.vs.length b12, .slice B13 n.ps.length b13] X ∧ Below w.heap.size w X ∧ (Kd.R (Kd.int .i64) 3 X w.heap.size (fun k => w.heap.size + 1 < k ∧ k < g) (.slice B12 n.vs.length b12) n.vs ∧ Kd.R k69 69 X w.heap.size (fun k => w.heap.size + 1 < k ∧ k < g) (.slice B13 n.ps.length b13) n.ps)) ⟨k1.alloc _, k2.alloc _, Blk.newE _ _ X3 hg, bl_alloc B _, Kd.R_below HR.out.1 (bl_alloc (Below.refl _ _) _), Kd.R_below HR.out.2 (bl_alloc (Below.refl _ _) _)⟩ ?_
  have hgl : w.heap.size + 1 < g := by rw [hg]; exact k2.lt
  (try rw [← hg])
  clear y0 y1 y2 y3 y4 y5 y6 y7 y8 y9 y10 y11 y12 y13 ly fy k1 k2 B HR hg
  rintro X4 ⟨k1, k2, k3, B, hR⟩
  have HR := Lib.hid hR
  clear hR
  have l3 := k3.lt
  refine (sconfAt_C idx n A5 c5 A8 c8 A12 c12 A13 c13 X4 hz (H.out.below B) HL.out).mono ?_
  rintro e X5 ⟨⟨v, rfl, R5⟩, hb⟩
  have HC := Lib.hid (Kd.R_mono (ok' := fun k => g < k) (Kd.R_lower R5 B.size) (fun k hk => by have : X4.heap.size ≤ k := hk; omega))
  obtain ⟨D5, d5, rfl, -, -⟩ := Kd.R_reads R5
  replace k1 := k1.below hb
  replace k2 := k2.below hb
  replace k3 := k3.below hb
  replace B := bl_then B hb
  replace HR := Lib.hid (And.intro (Kd.R_below HR.out.1 hb) (Kd.R_below HR.out.2 hb))
  clear R5 hb l3 X4
  have y0 := k1.cell 0 rfl
  have y1 := k1.cell 1 rfl
  have y2 := k1.cell 2 rfl
  have y3 := k1.cell 3 rfl
  have y4 := k1.cell 4 rfl
  have y5 := k1.cell 5 rfl
  have y6 := k1.cell 6 rfl
  have y7 := k1.cell 7 rfl
  have y8 := k1.cell 8 rfl
  have y9 := k1.cell 9 rfl
  have y10 := k1.cell 10 rfl
  have y11 := k1.cell 11 rfl
  have y12 := k1.cell 12 rfl
  have y13 := k1.cell 13 rfl
  have ly := k1.lt
  have fy := fun o => k1.free o
  have z0 := k3.cell 0 rfl
  have z1 := k3.cell 1 rfl
  have z2 := k3.cell 2 rfl
  have z3 := k3.cell 3 rfl
  have z4 := k3.cell 4 rfl
  have z5 := k3.cell 5 rfl
  have z6 := k3.cell 6 rfl
  have z7 := k3.cell 7 rfl
  have z8 := k3.cell 8 rfl
  have z9 := k3.cell 9 rfl
  have z10 := k3.cell 10 rfl
  have z11 := k3.cell 11 rfl
  have z12 := k3.cell 12 rfl
  have z13 := k3.cell 13 rfl
  have lz := k3.lt
  have fz := fun o => k3.free o
  go_wp2_with fail
  clear y0 y1 y2 y3 y4 y5 y6 y7 y8 y9 y10 y11 y12 y13 ly fy z0 z1 z2 z3 z4 z5 z6 z7 z8 z9 z10 z11 z12 z13 lz fz
  refine wp_atC (fun X => Blk 36 w.heap.size #[.int .i64 n.id, .int .i64 n.term, .int .i64 n.vote, .int .i64 n.role, .int .i64 n.lead, .slice A5 n.cf.length c5, .int .i64 n.st, .int .i64 n.tm, .slice A8 n.es.length c8, .int .i64 n.cm, .int .i64 n.ck, .int .i64 n.lm, .slice A12 n.vs.length c12, .slice A13 n.ps.length c13] X ∧ Blk 36 (w.heap.size + 1) #[.int .i64 0, .int .i64 0, .int .i64 0, .int .i64 0, .int .i64 0, .slice none 0 0, .int .i64 0, .int .i64 0, .slice none 0 0, .int .i64 0, .int .i64 0, .int .i64 0, .slice none 0 0, .slice none 0 0] X ∧ Blk 36 g #[.int .i64 n.id, .int .i64 n.term, .int .i64 n.vote, .int .i64 n.role, .int .i64 n.lead, .slice D5 (confAt n.cf n.st idx n.es).length d5, .int .i64 n.st, .int .i64 n.tm, .slice B8 n.es.length b8, .int .i64 n.cm, .int .i64 n.ck, .int .i64 n.lm, .slice B12 n.vs.length b12, .slice B13 n.ps.length b13] X ∧ Below w.heap.size w X ∧ (Kd.R (Kd.int .i64) 3 X w.heap.size (fun k => w.heap.size + 1 < k ∧ k < g) (.slice B12 n.vs.length b12) n.vs ∧ Kd.R k69 69 X w.heap.size (fun k => w.heap.size + 1 < k ∧ k < g) (.slice B13 n.ps.length b13) n.ps ∧ Kd.R (Kd.int .i64) 3 X w.heap.size (fun k => g < k) (.slice D5 (confAt n.cf n.st idx n.es).length d5) (confAt n.cf n.st idx n.es))) ⟨k1.far (a := ⟨g, 5, none⟩) (by show w.heap.size ≠ g; omega) _, k2.far (a := ⟨g, 5, none⟩) (by show w.heap.size + 1 ≠ g; omega) _, k3.set 5 _ rfl, bl_set B (by show w.heap.size ≤ g; omega), own_far HR.out.1 (fun k hk => by omega), own_far HR.out.2 (fun k hk => by omega), own_far HC.out (fun k hk => by omega)⟩ ?_
  clear k1 k2 k3 B HR HC
  rintro Y ⟨k1, k2, k3, B, hR⟩
  have HR := Lib.hid hR
  clear hR
  have l1 := k1.lt
  have l3 := k3.lt
  refine wp_region_flowT (L := fun A B => Below A.heap.size A B) (M := fun A B => Below A.heap.size A B) (J := fun _ => True) (J1 := fun _ => True) 100 trivial (fun _ _ _ _ => trivial) (fun _ _ _ _ => trivial) (fun a b h => h) (fun w => bl_drew (Below.refl _ _)) (fun a b c h k => bl_then h k) [1, 2, 6] 37 9 (by kernel_rfl) (by rfl) (by kernel_rfl) (by kernel_rfl) (by kernel_rfl) (by kernel_rfl) ?_
  (refine flowT_valE (by decide) ?_; apply Exists.intro; refine ⟨fun A wq hLq hbq hdq => ?_, ?_⟩; focus ((try simp [go_sem, baseF, deps, dep1, Region.binds] at hbq); (try simp [go_sem, baseF, deps, dep1, Region.binds] at hdq); go_simp; first | exact ⟨Below.refl _ _, rfl⟩ | (fail)))
  refine flowT_valE (by decide) ⟨.agg #[.int .i64 n.st, .int .i64 n.tm, .slice A8 n.es.length c8], fun A wq hLq hbq hdq => ?_, ?_⟩
  · have kq := k1.below hLq
    have q6 := kq.cell 6 rfl
    have q7 := kq.cell 7 rfl
    have q8 := kq.cell 8 rfl
    (try simp [go_sem, baseF, deps, dep1, Region.binds] at hbq)
    (try simp [go_sem, baseF, deps, dep1, Region.binds] at hdq)
    go_simp
    first | exact Below.refl _ _ | exact ⟨Below.refl _ _, rfl⟩
  iterate 2 (refine flowT_valE (by decide) ?_; apply Exists.intro; refine ⟨fun A wq hLq hbq hdq => ?_, ?_⟩; focus ((try simp [go_sem, baseF, deps, dep1, Region.binds] at hbq); (try simp [go_sem, baseF, deps, dep1, Region.binds] at hdq); go_simp; first | exact ⟨Below.refl _ _, rfl⟩ | (fail)))
  refine flowT_valE (by decide) ⟨.agg #[.int .i64 n.st, .int .i64 n.tm, .slice A8 n.es.length c8], fun A wq hLq hbq hdq => ?_, ?_⟩
  · have kq := k1.below hLq
    have q6 := kq.cell 6 rfl
    have q7 := kq.cell 7 rfl
    have q8 := kq.cell 8 rfl
    (try simp [go_sem, baseF, deps, dep1, Region.binds] at hbq)
    (try simp [go_sem, baseF, deps, dep1, Region.binds] at hdq)
    go_simp
    first | exact Below.refl _ _ | exact ⟨Below.refl _ _, rfl⟩
  (refine flowT_valE (by decide) ?_; apply Exists.intro; refine ⟨fun A wq hLq hbq hdq => ?_, ?_⟩; focus ((try simp [go_sem, baseF, deps, dep1, Region.binds] at hbq); (try simp [go_sem, baseF, deps, dep1, Region.binds] at hdq); go_simp; first | exact ⟨Below.refl _ _, rfl⟩ | (fail)))
  refine flowT_valE (by decide) ⟨.int .i64 t, fun A wq hLq hbq hdq => ?_, ?_⟩
  · (try simp [go_sem, baseF, deps, dep1, Region.binds] at hbq)
    (try simp [go_sem, baseF, deps, dep1, Region.binds] at hdq)
    go_simp
    exact stermH _ _ _ _ n.es _ _ _ ht hst hz.es hix (H.out.below (bl_then B hLq)).h8 H.out.hc8
  refine flowT_R (by decide) (fun W u => ∃ v, u = .agg #[.int .i64 idx, .int .i64 t, v] ∧ Kd.R k87 87 W w.heap.size (fun k => w.heap.size + 1 < k ∧ g < k) v d) (fun _ _ _ ⟨v, h1, h⟩ u => ⟨v, h1, Kd.R_below h u⟩) (fun A wq hLq hbq hdq => ?_) ?_
  · (try simp [go_sem, baseF, deps, dep1, Region.binds] at hbq)
    (try simp [go_sem, baseF, deps, dep1, Region.binds] at hdq)
    go_simp
    refine (sbeh_C n.st n.tm A8 c8 n.es idx t wq ht HL.out hz.sh hix (H.out.below (bl_then B hLq)).h8 H.out.hc8 H.out.hn8).mono ?_
    rintro e w5 ⟨⟨v, rfl, hR⟩, hb5⟩
    rw [Hd.out] at hR
    have hzq := hLq.size
    have R9 := Kd.R_mono (Kd.R_lower hR (Nat.le_trans B.size hzq)) (ok' := fun k => w.heap.size + 1 < k ∧ g < k) (fun k hk => by have : wq.heap.size ≤ k := hk; omega)
    first | exact ⟨_, rfl, hb5, v, rfl, R9⟩ | exact ⟨hb5, v, rfl, R9⟩
  (refine flowT_valE (by decide) ?_; apply Exists.intro; refine ⟨fun A wq hLq hbq hdq => ?_, ?_⟩; focus ((try simp [go_sem, baseF, deps, dep1, Region.binds] at hbq); (try simp [go_sem, baseF, deps, dep1, Region.binds] at hdq); go_simp; first | exact ⟨Below.refl _ _, rfl⟩ | (fail)))
  with_reducible refine flowT_tail ?_
  intro x wq hLq hall hJ1
  simp only [allT] at hall
  obtain ⟨h8, ⟨v8, h7, R8⟩, -⟩ := hall
  obtain ⟨D8, d8, rfl, -, -⟩ := Kd.R_reads R8
  have m2 := k2.below hLq
  have m3 := k3.below hLq
  have B2 := bl_then B hLq
  have HS := Lib.hid (And.intro (Kd.R_below HR.out.2.2 hLq) (And.intro R8 (And.intro (Kd.R_below HR.out.1 hLq) (Kd.R_below HR.out.2.1 hLq))))
  clear R8 k1 k2 k3 B HR
  have y0 := m2.cell 0 rfl
  have y1 := m2.cell 1 rfl
  have y2 := m2.cell 2 rfl
  have y3 := m2.cell 3 rfl
  have y4 := m2.cell 4 rfl
  have y5 := m2.cell 5 rfl
  have y6 := m2.cell 6 rfl
  have y7 := m2.cell 7 rfl
  have y8 := m2.cell 8 rfl
  have y9 := m2.cell 9 rfl
  have y10 := m2.cell 10 rfl
  have y11 := m2.cell 11 rfl
  have y12 := m2.cell 12 rfl
  have y13 := m2.cell 13 rfl
  have ly := m2.lt
  have fy := fun o => m2.free o
  have z0 := m3.cell 0 rfl
  have z1 := m3.cell 1 rfl
  have z2 := m3.cell 2 rfl
  have z3 := m3.cell 3 rfl
  have z4 := m3.cell 4 rfl
  have z5 := m3.cell 5 rfl
  have z6 := m3.cell 6 rfl
  have z7 := m3.cell 7 rfl
  have z8 := m3.cell 8 rfl
  have z9 := m3.cell 9 rfl
  have z10 := m3.cell 10 rfl
  have z11 := m3.cell 11 rfl
  have z12 := m3.cell 12 rfl
  have z13 := m3.cell 13 rfl
  have lz := m3.lt
  have fz := fun o => m3.free o
  refine ⟨?_⟩
  simp [frameOf, Act.put, List.take, h8, h7]
  clear h8 h7
  refine seq_skip (by go_simp; rfl) ?_
  refine seq_at (fun W => Blk 36 (w.heap.size + 1) #[.int .i64 0, .int .i64 0, .int .i64 0, .int .i64 0, .int .i64 0, .slice none 0 0, .int .i64 0, .int .i64 0, .slice none 0 0, .int .i64 0, .int .i64 0, .int .i64 0, .slice none 0 0, .slice none 0 0] W ∧ Blk 36 g #[.int .i64 n.id, .int .i64 n.term, .int .i64 n.vote, .int .i64 n.role, .int .i64 n.lead, .slice D5 (confAt n.cf n.st idx n.es).length d5, .int .i64 idx, .int .i64 t, .slice D8 d.length d8, .int .i64 n.cm, .int .i64 n.ck, .int .i64 n.lm, .slice B12 n.vs.length b12, .slice B13 n.ps.length b13] W ∧ Below w.heap.size w W ∧ (Kd.R (Kd.int .i64) 3 W w.heap.size (fun k => g < k) (.slice D5 (confAt n.cf n.st idx n.es).length d5) (confAt n.cf n.st idx n.es) ∧ Kd.R k87 87 W w.heap.size (fun k => w.heap.size + 1 < k ∧ g < k) (.slice D8 d.length d8) d ∧ Kd.R (Kd.int .i64) 3 W w.heap.size (fun k => w.heap.size + 1 < k ∧ k < g) (.slice B12 n.vs.length b12) n.vs ∧ Kd.R k69 69 W w.heap.size (fun k => w.heap.size + 1 < k ∧ k < g) (.slice B13 n.ps.length b13) n.ps)) ⟨((m2.far (a := ⟨g, 6, none⟩) (by show w.heap.size + 1 ≠ g; omega) (.int .i64 idx)).far (a := ⟨g, 7, none⟩) (by show w.heap.size + 1 ≠ g; omega) (.int .i64 t)).far (a := ⟨g, 8, none⟩) (by show w.heap.size + 1 ≠ g; omega) _, ((m3.set 6 (.int .i64 idx) rfl).set 7 (.int .i64 t) rfl).set 8 (.slice D8 d.length d8) rfl, bl_set (bl_set (bl_set B2 (by show w.heap.size ≤ g; omega)) (by show w.heap.size ≤ g; omega)) (by show w.heap.size ≤ g; omega), own_far (own_far (own_far HS.out.1 (fun k hk => by omega)) (fun k hk => by omega)) (fun k hk => by omega), own_far (own_far (own_far HS.out.2.1 (fun k hk => by omega)) (fun k hk => by omega)) (fun k hk => by omega), own_far (own_far (own_far HS.out.2.2.1 (fun k hk => by omega)) (fun k hk => by omega)) (fun k hk => by omega), own_far (own_far (own_far HS.out.2.2.2 (fun k hk => by omega)) (fun k hk => by omega)) (fun k hk => by omega)⟩ ?_
  clear m2 m3 B2 HS y0 y1 y2 y3 y4 y5 y6 y7 y8 y9 y10 y11 y12 y13 ly fy z0 z1 z2 z3 z4 z5 z6 z7 z8 z9 z10 z11 z12 z13 lz fz
  rintro W4 ⟨m2, m3, B2, hR⟩
  have HR := Lib.hid hR
  clear hR
  have y0 := m2.cell 0 rfl
  have y1 := m2.cell 1 rfl
  have y2 := m2.cell 2 rfl
  have y3 := m2.cell 3 rfl
  have y4 := m2.cell 4 rfl
  have y5 := m2.cell 5 rfl
  have y6 := m2.cell 6 rfl
  have y7 := m2.cell 7 rfl
  have y8 := m2.cell 8 rfl
  have y9 := m2.cell 9 rfl
  have y10 := m2.cell 10 rfl
  have y11 := m2.cell 11 rfl
  have y12 := m2.cell 12 rfl
  have y13 := m2.cell 13 rfl
  have ly := m2.lt
  have fy := fun o => m2.free o
  have z0 := m3.cell 0 rfl
  have z1 := m3.cell 1 rfl
  have z2 := m3.cell 2 rfl
  have z3 := m3.cell 3 rfl
  have z4 := m3.cell 4 rfl
  have z5 := m3.cell 5 rfl
  have z6 := m3.cell 6 rfl
  have z7 := m3.cell 7 rfl
  have z8 := m3.cell 8 rfl
  have z9 := m3.cell 9 rfl
  have z10 := m3.cell 10 rfl
  have z11 := m3.cell 11 rfl
  have z12 := m3.cell 12 rfl
  have z13 := m3.cell 13 rfl
  have lz := m3.lt
  have fz := fun o => m3.free o
  refine seq_nil ?_
  simp only [Act.put]
  go_wp2_with fail
  have hR := HR.out
  refine bodyPost_ret (v := .tuple #[.agg #[.int .i64 n.id, .int .i64 n.term, .int .i64 n.vote, .int .i64 n.role, .int .i64 n.lead, .slice D5 (confAt n.cf n.st idx n.es).length d5, .int .i64 idx, .int .i64 t, .slice D8 d.length d8, .int .i64 n.cm, .int .i64 n.ck, .int .i64 n.lm, .slice B12 n.vs.length b12, .slice B13 n.ps.length b13], .bool true]) ?_ rfl ⟨⟨g, _, _, _, _, hgl, rfl, ?_, ?_, ?_, ?_⟩, ?_⟩
  · simp only [results, Try.results11]
    go_simp
  · iterate 14 refine own_far ?_ (fun k hk => by omega)
    exact hR.1
  · refine Kd.R_mono (ok := fun k => w.heap.size + 1 < k ∧ g < k) ?_ (fun k hk => hk.1)
    iterate 14 refine own_far ?_ (fun k hk => by omega)
    exact hR.2.1
  · iterate 14 refine own_far ?_ (fun k hk => by omega)
    exact hR.2.2.1
  · refine Kd.R_mono (ok := fun k => w.heap.size + 1 < k ∧ k < g) ?_ (fun k hk => hk.1)
    iterate 14 refine own_far ?_ (fun k hk => by omega)
    exact hR.2.2.2
  · iterate 14 refine bl_set ?_ (Nat.le_succ _)
    exact B2
end Go.Proofs.Ytallakebnoighaa.PFnExactSettle
end

section
namespace Go.Proofs.Ytallakebnoighaa.PFnExactSettle
open Go.RowKit Go.Proofs.YtallakebnoighaaW.PrintWords Go.Proofs.YtallakebnoighaaW.PrintLast Go.Proofs.YtallakebnoighaaW.PrintMore
set_option linter.unusedVariables false
set_option linter.unusedSimpArgs false
def laws_szIntS.f (l0 : List Int) (a1 : Int) : Option (Int) := if (wrap64 (a1 - (l0.length : Int))) < 0 then (some (-1)) else (some (wrap64 (a1 - (l0.length : Int))))
set_option maxHeartbeats 8000000 in
set_option maxRecDepth 100000 in
theorem laws_szIntS.calls (A0 : Option Addr) (c0 : Nat) (l0 : List Int) (a1 : Int) (r : Int) (w : World) (hr0 : Kd.C (Kd.int .i64) w A0 l0.length l0) (hc0 : l0.length ≤ c0) (h : laws_szIntS.f l0 a1 = some r) :
    Calls Try.prog 24 #[.slice A0 l0.length c0, .int .i64 a1] w fun e w' => e = .returned (.int .i64 r) ∧ Drawn0 w w' := by
  have HR0 := Aside0.mk hr0
  have HC0 := Aside0.mk hc0
  clear hr0 hc0
  have H : (if (wrap64 (a1 - (l0.length : Int))) < 0 then (some (-1)) else (some (wrap64 (a1 - (l0.length : Int))))) = some r := h
  clear h
  by_cases c3 : (wrap64 (a1 - (l0.length : Int))) < 0
  · rw [if_pos c3] at H
    have c3b0 : decide ((wrap64 (a1 - (l0.length : Int))) < 0) = true := decide_eq_true c3
    clear c3
    obtain rfl := Option.some.inj H
    go_enter Try.func24, Try.ntmps24
    go_wp2
    go_ret
    exact ⟨by first | rfl | (simp; done) | (simp [*]; done), by repeat (first | exact Drawn0.refl _ | apply Drawn0.step)⟩
  · rw [if_neg c3] at H
    have c3b0 : decide ((wrap64 (a1 - (l0.length : Int))) < 0) = false := decide_eq_false c3
    clear c3
    obtain rfl := Option.some.inj H
    go_enter Try.func24, Try.ntmps24
    go_wp2
    go_ret
    exact ⟨by first | rfl | (simp; done) | (simp [*]; done), by repeat (first | exact Drawn0.refl _ | apply Drawn0.step)⟩
end Go.Proofs.Ytallakebnoighaa.PFnExactSettle
end

section
namespace Go.Proofs.Ytallakebnoighaa.PFnExactSettle
open Go.RowKit Go.Proofs.YtallakebnoighaaW.PrintWords Go.Proofs.YtallakebnoighaaW.PrintLast Go.Proofs.YtallakebnoighaaW.PrintMore
set_option linter.unusedVariables false
set_option linter.unusedSimpArgs false
def laws_szEntry.f (a0_0 : Int) (a0_1 : Int) (a0_2 : ByteArray) (a1 : Int) : Option (Int) := if (wrap64 (a1 - (a0_2.size : Int))) < 0 then (some (-1)) else (some (wrap64 (a1 - (a0_2.size : Int))))
set_option maxHeartbeats 8000000 in
set_option maxRecDepth 100000 in
theorem laws_szEntry.calls (a0_0 : Int) (a0_1 : Int) (a0_2 : ByteArray) (a1 : Int) (r : Int) (w : World) (h : laws_szEntry.f a0_0 a0_1 a0_2 a1 = some r) :
    Calls Try.prog 99 #[.agg #[.int .i64 a0_0, .int .i64 a0_1, .string a0_2], .int .i64 a1] w fun e w' => e = .returned (.int .i64 r) ∧ Below w.heap.size w w' := by
  have hu122 := Try.underlying122
  have HB := Aside0.mk (Below.refl w.heap.size w)
  have H : (if (wrap64 (a1 - (a0_2.size : Int))) < 0 then (some (-1)) else (some (wrap64 (a1 - (a0_2.size : Int))))) = some r := h
  clear h
  by_cases c3 : (wrap64 (a1 - (a0_2.size : Int))) < 0
  · rw [if_pos c3] at H
    have c3b0 : decide ((wrap64 (a1 - (a0_2.size : Int))) < 0) = true := decide_eq_true c3
    clear c3
    obtain rfl := Option.some.inj H
    go_enter Try.func99, Try.ntmps99
    go_wp2_with (first | ((with_reducible refine gate_dst (N := 2) rfl ?_); refine box_event ?hg (N := 2) ?hd (cs := #[.int .i64 a0_0, .int .i64 a0_1, .string a0_2]) (t := 122) ?hr ?_; (case hd => rfl); (case hg => rfl); (case hr => first | (go_simp; done) | (go_simp; rfl)); intro gb101 hg w4 hbox hb; have n0_ := Aside0.mk (below_step (by repeat (first | (with_reducible first | exact HB.out | apply below_alloc | apply pw_below_drewN | apply below_drew1) | exact HB.out)) hb); have n1_ := Aside0.mk (hbox); have n2_ := Aside0.mk ((by rw [hg]; exact (below_size (by repeat (first | (with_reducible first | exact HB.out | apply below_alloc | apply pw_below_drewN | apply below_drew1) | exact HB.out))) : w.heap.size ≤ gb101)); have n3_ := Aside0.mk ((by rw [hg]; exact (below_size (by repeat (first | (with_reducible first | exact HB.out | apply below_alloc | apply pw_below_drewN | apply below_drew1) | exact HB.out))) : w.heap.size ≤ gb101)); clear HB; have HB := n0_; have BK101 := n1_; have GW101 := n2_; have GE101 := n3_; clear n0_ n1_ n2_ n3_; clear hb hbox hg; have hcz5_0 : w4.cell? ⟨gb101, 0, none⟩ = some (.int .i64 a0_0) := (blk_cell BK101.out 0).trans rfl; have hcz5_1 : w4.cell? ⟨gb101, 1, none⟩ = some (.int .i64 a0_1) := (blk_cell BK101.out 1).trans rfl; have hcz5_2 : w4.cell? ⟨gb101, 2, none⟩ = some (.string a0_2) := (blk_cell BK101.out 2).trans rfl; have hfz5_0 := blk_frozen BK101.out 0; have hfz5_1 := blk_frozen BK101.out 1; have hfz5_2 := blk_frozen BK101.out 2))
    go_ret
    exact ⟨by first | rfl | (simp [errW_none, errW_some] <;> rfl) | (simp [*, errW_none, errW_some] <;> rfl), by repeat (first | (with_reducible first | exact HB.out | apply below_alloc | apply pw_below_drewN | apply below_drew1 | refine below_set ?_ GE101.out) | exact HB.out)⟩
  · rw [if_neg c3] at H
    have c3b0 : decide ((wrap64 (a1 - (a0_2.size : Int))) < 0) = false := decide_eq_false c3
    clear c3
    obtain rfl := Option.some.inj H
    go_enter Try.func99, Try.ntmps99
    go_wp2_with (first | ((with_reducible refine gate_dst (N := 2) rfl ?_); refine box_event ?hg (N := 2) ?hd (cs := #[.int .i64 a0_0, .int .i64 a0_1, .string a0_2]) (t := 122) ?hr ?_; (case hd => rfl); (case hg => rfl); (case hr => first | (go_simp; done) | (go_simp; rfl)); intro gb101 hg w6 hbox hb; have n0_ := Aside0.mk (below_step (by repeat (first | (with_reducible first | exact HB.out | apply below_alloc | apply pw_below_drewN | apply below_drew1) | exact HB.out)) hb); have n1_ := Aside0.mk (hbox); have n2_ := Aside0.mk ((by rw [hg]; exact (below_size (by repeat (first | (with_reducible first | exact HB.out | apply below_alloc | apply pw_below_drewN | apply below_drew1) | exact HB.out))) : w.heap.size ≤ gb101)); have n3_ := Aside0.mk ((by rw [hg]; exact (below_size (by repeat (first | (with_reducible first | exact HB.out | apply below_alloc | apply pw_below_drewN | apply below_drew1) | exact HB.out))) : w.heap.size ≤ gb101)); clear HB; have HB := n0_; have BK101 := n1_; have GW101 := n2_; have GE101 := n3_; clear n0_ n1_ n2_ n3_; clear hb hbox hg; have hcz7_0 : w6.cell? ⟨gb101, 0, none⟩ = some (.int .i64 a0_0) := (blk_cell BK101.out 0).trans rfl; have hcz7_1 : w6.cell? ⟨gb101, 1, none⟩ = some (.int .i64 a0_1) := (blk_cell BK101.out 1).trans rfl; have hcz7_2 : w6.cell? ⟨gb101, 2, none⟩ = some (.string a0_2) := (blk_cell BK101.out 2).trans rfl; have hfz7_0 := blk_frozen BK101.out 0; have hfz7_1 := blk_frozen BK101.out 1; have hfz7_2 := blk_frozen BK101.out 2))
    go_ret
    exact ⟨by first | rfl | (simp [errW_none, errW_some] <;> rfl) | (simp [*, errW_none, errW_some] <;> rfl), by repeat (first | (with_reducible first | exact HB.out | apply below_alloc | apply pw_below_drewN | apply below_drew1 | refine below_set ?_ GE101.out) | exact HB.out)⟩
end Go.Proofs.Ytallakebnoighaa.PFnExactSettle
end

section
namespace Go.Proofs.Ytallakebnoighaa.PFnExactSettle
open Go.RowKit Go.Proofs.YtallakebnoighaaW.PrintWords Go.Proofs.YtallakebnoighaaW.PrintLast Go.Proofs.YtallakebnoighaaW.PrintMore
set_option linter.unusedVariables false
set_option linter.unusedSimpArgs false
def laws_szEntryS.l0 : Nat → List (S122) → Int → Int → Option (Int)
  | 0, _, _, _ => none
  | k + 1, x0, x1, x5 => if x5 < (x0.length : Int) then (if 0 ≤ x5 then ((laws_szEntry.f ((rd_T122 x0 x5).f0) ((rd_T122 x0 x5).f1) ((rd_T122 x0 x5).f2) x1).bind fun t103 => (if t103 < 0 then (some (-1)) else (laws_szEntryS.l0 k x0 t103 (wrap64 (x5 + 1))))) else (none)) else (some x1)
def laws_szEntryS.f (k : Nat) (l0 : List (S122)) (a1 : Int) : Option (Int) := if (wrap64 (a1 - (l0.length : Int))) < 0 then (some (-1)) else (laws_szEntryS.l0 k l0 (wrap64 (a1 - (l0.length : Int))) 0)
theorem laws_szEntryS.mono_l : ∀ k, (∀ y0 y1 y2, LeO (laws_szEntryS.l0 k y0 y1 y2) (laws_szEntryS.l0 (k + 1) y0 y1 y2))
  | 0 => fun _ _ _ r h => by simp [laws_szEntryS.l0] at h
  | k + 1 => by
    have ih0 := laws_szEntryS.mono_l k
    · intro y0 y1 y2
      unfold laws_szEntryS.l0
      repeat' first
      | (with_reducible exact ih0 _ _ _)
      | (with_reducible exact LeO.refl _)
      | (with_reducible exact LeO.none _)
      | (with_reducible refine LeO.ite ?_ ?_)
      | (with_reducible refine LeO.bind ?_ (fun _ => ?_))
      | exact ih0 _ _ _
      | exact LeO.none _
      | refine LeO.ite ?_ ?_
      | refine LeO.bind ?_ (fun _ => ?_)
theorem laws_szEntryS.mono : ∀ a0 a1 k, LeO (laws_szEntryS.f k a0 a1) (laws_szEntryS.f (k + 1) a0 a1) := by
  intro a0 a1 k
  have ih0 := laws_szEntryS.mono_l k
  unfold laws_szEntryS.f
  repeat' first
      | (with_reducible exact ih0 _ _ _)
      | (with_reducible exact LeO.refl _)
      | (with_reducible exact LeO.none _)
      | (with_reducible refine LeO.ite ?_ ?_)
      | (with_reducible refine LeO.bind ?_ (fun _ => ?_))
      | exact ih0 _ _ _
      | exact LeO.none _
      | refine LeO.ite ?_ ?_
      | refine LeO.bind ?_ (fun _ => ?_)
set_option maxHeartbeats 8000000 in
set_option maxRecDepth 100000 in
theorem laws_szEntryS.calls (k : Nat) (A0 : Option Addr) (c0 : Nat) (l0 : List (S122)) (a1 : Int) (r : Int) (w : World) (hr0 : Kd.C k122 w A0 l0.length l0) (hc0 : l0.length ≤ c0) (h : laws_szEntryS.f k l0 a1 = some r) :
    Calls Try.prog 72 #[.slice A0 l0.length c0, .int .i64 a1] w fun e w' => e = .returned (.int .i64 r) ∧ Below w.heap.size w w' := by
  have hu122 := Try.underlying122
  have HR0 := Aside0.mk hr0
  have HC0 := Aside0.mk hc0
  clear hr0 hc0
  have HB := Aside0.mk (Below.refl w.heap.size w)
  have H : (if (wrap64 (a1 - (l0.length : Int))) < 0 then (some (-1)) else (laws_szEntryS.l0 k l0 (wrap64 (a1 - (l0.length : Int))) 0)) = some r := h
  clear h
  by_cases c3 : (wrap64 (a1 - (l0.length : Int))) < 0
  · rw [if_pos c3] at H
    have c3b0 : decide ((wrap64 (a1 - (l0.length : Int))) < 0) = true := decide_eq_true c3
    clear c3
    obtain rfl := Option.some.inj H
    go_enter Try.func72, Try.ntmps72
    go_wp2
    go_ret
    exact ⟨by first | rfl | (simp [errW_none, errW_some] <;> rfl) | (simp [*, errW_none, errW_some] <;> rfl), by repeat (first | (with_reducible first | exact HB.out | apply below_alloc | apply pw_below_drewN | apply below_drew1) | exact HB.out)⟩
  · rw [if_neg c3] at H
    have c3b0 : decide ((wrap64 (a1 - (l0.length : Int))) < 0) = false := decide_eq_false c3
    clear c3
    have H' := Aside0.mk H
    clear H
    go_enter Try.func72, Try.ntmps72
    go_wp2
    go_loopg [1, 5] k (fun kq v1 v5 w' => ∃ (x1_1 : Int) (x5_1 : Int), v1 = .int .i64 x1_1 ∧ v5 = .int .i64 x5_1 ∧ Aside0 (laws_szEntryS.l0 kq l0 x1_1 x5_1 = some r) ∧ Aside0 (kq ≤ k) ∧ Aside0 (Below w.heap.size w w'))
    case atStart => exact ⟨(wrap64 (a1 - (l0.length : Int))), (0), (by first | rfl | (simp; done) | (simp [*]; done)), (by first | rfl | (simp; done) | (simp [*]; done)), H', ⟨Nat.le_refl _⟩, ⟨by repeat (first | (with_reducible first | exact HB.out | apply below_alloc | apply pw_below_drewN | apply below_drew1) | exact HB.out)⟩⟩
    case round =>
      clear H'
      try clear p2
      try clear c3
      try clear c3b0
      obtain ⟨x1_1, x5_1, rfl, rfl, HA, HK1, HB⟩ := hrel
      cases gk with
      | zero => exact absurd HA.out (by simp [laws_szEntryS.l0])
      | succ k1 =>
        have H := HA.out
        clear HA
        simp only [laws_szEntryS.l0] at H
        by_cases c4 : x5_1 < (l0.length : Int)
        · rw [if_pos c4] at H
          have c4b0 : decide (x5_1 < (l0.length : Int)) = true := decide_eq_true c4
          clear c4
          by_cases c5 : 0 ≤ x5_1
          · rw [if_pos c5] at H
            have c5b0 : decide (0 ≤ x5_1) = true := decide_eq_true c5
            clear c5
            replace H := Option.bind_eq_some_iff.mp H
            obtain ⟨t103, A60, H⟩ := H
            replace H : (if t103 < 0 then (some (-1)) else (laws_szEntryS.l0 k1 l0 t103 (wrap64 (x5_1 + 1)))) = some r := H
            have A6 := Aside0.mk A60
            clear A60
            by_cases c7 : t103 < 0
            · rw [if_pos c7] at H
              have c7b0 : decide (t103 < 0) = true := decide_eq_true c7
              clear c7
              obtain rfl := Option.some.inj H
              have p102 : 0 ≤ (x5_1 : Int) := of_decide_eq_true (by first | (with_reducible assumption) | assumption)
              have q102 : x5_1 < (l0.length : Int) := of_decide_eq_true (by first | (with_reducible assumption) | assumption)
              obtain ⟨ad102, e102, hx102_0, hx102_1, hx102_2⟩ := at_T122 HR0.out x5_1 p102 q102
              cases e102
              replace hx102_0 := (HB.out.cell (World.block_lt_of_cell? w _ hx102_0)).trans hx102_0
              replace hx102_1 := (HB.out.cell (World.block_lt_of_cell? w _ hx102_1)).trans hx102_1
              replace hx102_2 := (HB.out.cell (World.block_lt_of_cell? w _ hx102_2)).trans hx102_2
              replace p102 := eq_true p102
              replace q102 := eq_true q102
              go_wp2_with (first | ((with_reducible refine gate_callee (f := 99) rfl ?_); refine goesL_ (some 23) rfl rfl Try.func99 (by kernel_rfl) rfl #[.agg #[.int .i64 ((rd_T122 l0 x5_1).f0), .int .i64 ((rd_T122 l0 x5_1).f1), .string ((rd_T122 l0 x5_1).f2)], .int .i64 x1_1] rfl (by (try simp only [List.map_toArray, List.map_cons, List.map_nil]); first | done | rfl | (simp only [List.length_drop, List.length_take]; rfl)) ?_; (with_reducible refine (laws_szEntry.calls ((rd_T122 l0 x5_1).f0) ((rd_T122 l0 x5_1).f1) ((rd_T122 l0 x5_1).f2) x1_1 t103 _ A6.out).mono ?_); rintro e w8 ⟨rfl, hb⟩; refine ⟨_, rfl, ?_⟩; have n0_ := Aside0.mk (below_step (by repeat (first | (with_reducible first | exact HB.out | apply below_alloc | apply pw_below_drewN | apply below_drew1) | exact HB.out)) hb); clear HB; have HB := n0_; clear n0_; (try clear hb); (try clear hb2); (try clear hk); (try clear hi)))
              go_ret
              exact ⟨by first | rfl | (simp [errW_none, errW_some] <;> rfl) | (simp [*, errW_none, errW_some] <;> rfl), by repeat (first | (with_reducible first | exact HB.out | apply below_alloc | apply pw_below_drewN | apply below_drew1) | exact HB.out)⟩
            · rw [if_neg c7] at H
              have c7b0 : decide (t103 < 0) = false := decide_eq_false c7
              clear c7
              have H' := Aside0.mk H
              clear H
              have p102 : 0 ≤ (x5_1 : Int) := of_decide_eq_true (by first | (with_reducible assumption) | assumption)
              have q102 : x5_1 < (l0.length : Int) := of_decide_eq_true (by first | (with_reducible assumption) | assumption)
              obtain ⟨ad102, e102, hx102_0, hx102_1, hx102_2⟩ := at_T122 HR0.out x5_1 p102 q102
              cases e102
              replace hx102_0 := (HB.out.cell (World.block_lt_of_cell? w _ hx102_0)).trans hx102_0
              replace hx102_1 := (HB.out.cell (World.block_lt_of_cell? w _ hx102_1)).trans hx102_1
              replace hx102_2 := (HB.out.cell (World.block_lt_of_cell? w _ hx102_2)).trans hx102_2
              replace p102 := eq_true p102
              replace q102 := eq_true q102
              go_wp2_with (first | ((with_reducible refine gate_callee (f := 99) rfl ?_); refine goesL_ (some 23) rfl rfl Try.func99 (by kernel_rfl) rfl #[.agg #[.int .i64 ((rd_T122 l0 x5_1).f0), .int .i64 ((rd_T122 l0 x5_1).f1), .string ((rd_T122 l0 x5_1).f2)], .int .i64 x1_1] rfl (by (try simp only [List.map_toArray, List.map_cons, List.map_nil]); first | done | rfl | (simp only [List.length_drop, List.length_take]; rfl)) ?_; (with_reducible refine (laws_szEntry.calls ((rd_T122 l0 x5_1).f0) ((rd_T122 l0 x5_1).f1) ((rd_T122 l0 x5_1).f2) x1_1 t103 _ A6.out).mono ?_); rintro e w9 ⟨rfl, hb⟩; refine ⟨_, rfl, ?_⟩; have n0_ := Aside0.mk (below_step (by repeat (first | (with_reducible first | exact HB.out | apply below_alloc | apply pw_below_drewN | apply below_drew1) | exact HB.out)) hb); clear HB; have HB := n0_; clear n0_; (try clear hb); (try clear hb2); (try clear hk); (try clear hi)))
              go_roundg k1
              case measure => have := HK1.out; omega
              case rel => exact ⟨(t103), (wrap64 (x5_1 + 1)), (by first | rfl | (simp; done) | (simp [*]; done)), (by first | rfl | (simp; done) | (simp [*]; done)), H', ⟨by have := HK1.out; omega⟩, ⟨by repeat (first | (with_reducible first | exact HB.out | apply below_alloc | apply pw_below_drewN | apply below_drew1) | exact HB.out)⟩⟩
          · rw [if_neg c5] at H
            exact absurd H (by simp)
        · rw [if_neg c4] at H
          have c4b0 : decide (x5_1 < (l0.length : Int)) = false := decide_eq_false c4
          clear c4
          obtain rfl := Option.some.inj H
          go_wp2
          go_ret
          exact ⟨by first | rfl | (simp [errW_none, errW_some] <;> rfl) | (simp [*, errW_none, errW_some] <;> rfl), by repeat (first | (with_reducible first | exact HB.out | apply below_alloc | apply pw_below_drewN | apply below_drew1) | exact HB.out)⟩
end Go.Proofs.Ytallakebnoighaa.PFnExactSettle
end

section
namespace Go.Proofs.Ytallakebnoighaa.PFnExactSettle
open Go.RowKit Go.Proofs.YtallakebnoighaaW.PrintWords Go.Proofs.YtallakebnoighaaW.PrintLast Go.Proofs.YtallakebnoighaaW.PrintMore
set_option linter.unusedVariables false
set_option linter.unusedSimpArgs false
def laws_szLog.f (k : Nat) (a0_0 : Int) (a0_1 : Int) (l0_2 : List (S122)) (a1 : Int) : Option (Int) := (laws_szEntryS.f k l0_2 a1).bind fun t105 => (if t105 < 0 then (some (-1)) else (some t105))
theorem laws_szLog.mono : ∀ a0 a1 a2 a3 k, LeO (laws_szLog.f k a0 a1 a2 a3) (laws_szLog.f (k + 1) a0 a1 a2 a3) := by
  intro a0 a1 a2 a3 k
  unfold laws_szLog.f
  repeat' first
      | (with_reducible exact laws_szEntryS.mono _ _ _)
      | (with_reducible exact LeO.refl _)
      | (with_reducible exact LeO.none _)
      | (with_reducible refine LeO.ite ?_ ?_)
      | (with_reducible refine LeO.bind ?_ (fun _ => ?_))
      | exact laws_szEntryS.mono _ _ _
      | exact LeO.none _
      | refine LeO.ite ?_ ?_
      | refine LeO.bind ?_ (fun _ => ?_)
set_option maxHeartbeats 8000000 in
set_option maxRecDepth 100000 in
theorem laws_szLog.calls (k : Nat) (a0_0 : Int) (a0_1 : Int) (A0_2 : Option Addr) (c0_2 : Nat) (l0_2 : List (S122)) (a1 : Int) (r : Int) (w : World) (hr0_2 : Kd.C k122 w A0_2 l0_2.length l0_2) (hc0_2 : l0_2.length ≤ c0_2) (h : laws_szLog.f k a0_0 a0_1 l0_2 a1 = some r) :
    Calls Try.prog 25 #[.agg #[.int .i64 a0_0, .int .i64 a0_1, .slice A0_2 l0_2.length c0_2], .int .i64 a1] w fun e w' => e = .returned (.int .i64 r) ∧ Below w.heap.size w w' := by
  have hu25 := Try.underlying25
  have HR0_2 := Aside0.mk hr0_2
  have HC0_2 := Aside0.mk hc0_2
  clear hr0_2 hc0_2
  have HB := Aside0.mk (Below.refl w.heap.size w)
  have H : ((laws_szEntryS.f k l0_2 a1).bind fun t105 => (if t105 < 0 then (some (-1)) else (some t105))) = some r := h
  clear h
  replace H := Option.bind_eq_some_iff.mp H
  obtain ⟨t105, A30, H⟩ := H
  replace H : (if t105 < 0 then (some (-1)) else (some t105)) = some r := H
  have A3 := Aside0.mk A30
  clear A30
  by_cases c4 : t105 < 0
  · rw [if_pos c4] at H
    have c4b0 : decide (t105 < 0) = true := decide_eq_true c4
    clear c4
    obtain rfl := Option.some.inj H
    go_enter Try.func25, Try.ntmps25
    go_wp2_with (first | ((with_reducible refine gate_dst (N := 2) rfl ?_); refine box_event ?hg (N := 2) ?hd (cs := #[.int .i64 a0_0, .int .i64 a0_1, .slice A0_2 l0_2.length c0_2]) (t := 25) ?hr ?_; (case hd => rfl); (case hg => rfl); (case hr => first | (go_simp; done) | (go_simp; rfl)); intro gb104 hg w5 hbox hb; have n0_ := Aside0.mk (below_step (by repeat (first | (with_reducible first | exact HB.out | apply below_alloc | apply pw_below_drewN | apply below_drew1) | exact HB.out)) hb); have n1_ := Aside0.mk (hbox); have n2_ := Aside0.mk ((by rw [hg]; exact (below_size (by repeat (first | (with_reducible first | exact HB.out | apply below_alloc | apply pw_below_drewN | apply below_drew1) | exact HB.out))) : w.heap.size ≤ gb104)); have n3_ := Aside0.mk ((by rw [hg]; exact (below_size (by repeat (first | (with_reducible first | exact HB.out | apply below_alloc | apply pw_below_drewN | apply below_drew1) | exact HB.out))) : w.heap.size ≤ gb104)); clear HB; have HB := n0_; have BK104 := n1_; have GW104 := n2_; have GE104 := n3_; clear n0_ n1_ n2_ n3_; clear hb hbox hg; have hcz6_0 : w5.cell? ⟨gb104, 0, none⟩ = some (.int .i64 a0_0) := (blk_cell BK104.out 0).trans rfl; have hcz6_1 : w5.cell? ⟨gb104, 1, none⟩ = some (.int .i64 a0_1) := (blk_cell BK104.out 1).trans rfl; have hcz6_2 : w5.cell? ⟨gb104, 2, none⟩ = some (.slice A0_2 l0_2.length c0_2) := (blk_cell BK104.out 2).trans rfl; have hfz6_0 := blk_frozen BK104.out 0; have hfz6_1 := blk_frozen BK104.out 1; have hfz6_2 := blk_frozen BK104.out 2) | ((with_reducible refine gate_callee (f := 72) rfl ?_); refine goesL_ (some 8) rfl rfl Try.func72 (by kernel_rfl) rfl #[.slice A0_2 l0_2.length c0_2, .int .i64 a1] rfl (by (try simp only [List.map_toArray, List.map_cons, List.map_nil]); first | done | rfl | (simp only [List.length_drop, List.length_take]; rfl)) ?_; (with_reducible refine (laws_szEntryS.calls k _ _ l0_2 a1 t105 _ ?side1 ?side2 A3.out).mono ?_); (case side1 => repeat (first | exact (Kd.C_below HR0_2.out HB.out) | (with_reducible refine Kd.C_alloc ?_ _) | (with_reducible refine Kd.C_drewN ?_ _) | (with_reducible refine Kd.C_drew ?_))); (case side2 => exact HC0_2.out); rintro e w7 ⟨rfl, hb⟩; refine ⟨_, rfl, ?_⟩; have n0_ := Aside0.mk (blk_below (g := gb104) (o := .cells #[.int .i64 a0_0, .int .i64 a0_1, .slice A0_2 l0_2.length c0_2] 25 (0, 0)) (by (with_reducible repeat (first | refine blk_drewN ?_ _ | refine blk_drew ?_ | refine blk_alloc ?_ _)); exact BK104.out) hb); have n1_ := Aside0.mk (below_step (by repeat (first | (with_reducible first | exact HB.out | apply below_alloc | apply pw_below_drewN | apply below_drew1 | refine below_set ?_ GE104.out) | exact HB.out)) hb); clear BK104; clear HB; have BK104 := n0_; have HB := n1_; clear n0_ n1_; (try clear hb); (try clear hb2); (try clear hk); (try clear hi)))
    go_ret
    exact ⟨by first | rfl | (simp [errW_none, errW_some] <;> rfl) | (simp [*, errW_none, errW_some] <;> rfl), by repeat (first | (with_reducible first | exact HB.out | apply below_alloc | apply pw_below_drewN | apply below_drew1 | refine below_set ?_ GE104.out) | exact HB.out)⟩
  · rw [if_neg c4] at H
    have c4b0 : decide (t105 < 0) = false := decide_eq_false c4
    clear c4
    obtain rfl := Option.some.inj H
    go_enter Try.func25, Try.ntmps25
    go_wp2_with (first | ((with_reducible refine gate_dst (N := 2) rfl ?_); refine box_event ?hg (N := 2) ?hd (cs := #[.int .i64 a0_0, .int .i64 a0_1, .slice A0_2 l0_2.length c0_2]) (t := 25) ?hr ?_; (case hd => rfl); (case hg => rfl); (case hr => first | (go_simp; done) | (go_simp; rfl)); intro gb104 hg w8 hbox hb; have n0_ := Aside0.mk (below_step (by repeat (first | (with_reducible first | exact HB.out | apply below_alloc | apply pw_below_drewN | apply below_drew1) | exact HB.out)) hb); have n1_ := Aside0.mk (hbox); have n2_ := Aside0.mk ((by rw [hg]; exact (below_size (by repeat (first | (with_reducible first | exact HB.out | apply below_alloc | apply pw_below_drewN | apply below_drew1) | exact HB.out))) : w.heap.size ≤ gb104)); have n3_ := Aside0.mk ((by rw [hg]; exact (below_size (by repeat (first | (with_reducible first | exact HB.out | apply below_alloc | apply pw_below_drewN | apply below_drew1) | exact HB.out))) : w.heap.size ≤ gb104)); clear HB; have HB := n0_; have BK104 := n1_; have GW104 := n2_; have GE104 := n3_; clear n0_ n1_ n2_ n3_; clear hb hbox hg; have hcz9_0 : w8.cell? ⟨gb104, 0, none⟩ = some (.int .i64 a0_0) := (blk_cell BK104.out 0).trans rfl; have hcz9_1 : w8.cell? ⟨gb104, 1, none⟩ = some (.int .i64 a0_1) := (blk_cell BK104.out 1).trans rfl; have hcz9_2 : w8.cell? ⟨gb104, 2, none⟩ = some (.slice A0_2 l0_2.length c0_2) := (blk_cell BK104.out 2).trans rfl; have hfz9_0 := blk_frozen BK104.out 0; have hfz9_1 := blk_frozen BK104.out 1; have hfz9_2 := blk_frozen BK104.out 2) | ((with_reducible refine gate_callee (f := 72) rfl ?_); refine goesL_ (some 8) rfl rfl Try.func72 (by kernel_rfl) rfl #[.slice A0_2 l0_2.length c0_2, .int .i64 a1] rfl (by (try simp only [List.map_toArray, List.map_cons, List.map_nil]); first | done | rfl | (simp only [List.length_drop, List.length_take]; rfl)) ?_; (with_reducible refine (laws_szEntryS.calls k _ _ l0_2 a1 t105 _ ?side1 ?side2 A3.out).mono ?_); (case side1 => repeat (first | exact (Kd.C_below HR0_2.out HB.out) | (with_reducible refine Kd.C_alloc ?_ _) | (with_reducible refine Kd.C_drewN ?_ _) | (with_reducible refine Kd.C_drew ?_))); (case side2 => exact HC0_2.out); rintro e w10 ⟨rfl, hb⟩; refine ⟨_, rfl, ?_⟩; have n0_ := Aside0.mk (blk_below (g := gb104) (o := .cells #[.int .i64 a0_0, .int .i64 a0_1, .slice A0_2 l0_2.length c0_2] 25 (0, 0)) (by (with_reducible repeat (first | refine blk_drewN ?_ _ | refine blk_drew ?_ | refine blk_alloc ?_ _)); exact BK104.out) hb); have n1_ := Aside0.mk (below_step (by repeat (first | (with_reducible first | exact HB.out | apply below_alloc | apply pw_below_drewN | apply below_drew1 | refine below_set ?_ GE104.out) | exact HB.out)) hb); clear BK104; clear HB; have BK104 := n0_; have HB := n1_; clear n0_ n1_; (try clear hb); (try clear hb2); (try clear hk); (try clear hi)))
    go_ret
    exact ⟨by first | rfl | (simp [errW_none, errW_some] <;> rfl) | (simp [*, errW_none, errW_some] <;> rfl), by repeat (first | (with_reducible first | exact HB.out | apply below_alloc | apply pw_below_drewN | apply below_drew1 | refine below_set ?_ GE104.out) | exact HB.out)⟩
end Go.Proofs.Ytallakebnoighaa.PFnExactSettle
end

section
namespace Go.Proofs.Ytallakebnoighaa.PFnExactSettle
open Go.RowKit Go.Proofs.YtallakebnoighaaW.PrintWords Go.Proofs.YtallakebnoighaaW.PrintLast Go.Proofs.YtallakebnoighaaW.PrintMore
set_option linter.unusedVariables false
set_option linter.unusedSimpArgs false
def laws_szPeerS.f (l0 : List (S98)) (a1 : Int) : Option (Int) := if (wrap64 (a1 - (l0.length : Int))) < 0 then (some (-1)) else (some (wrap64 (a1 - (l0.length : Int))))
set_option maxHeartbeats 8000000 in
set_option maxRecDepth 100000 in
theorem laws_szPeerS.calls (A0 : Option Addr) (c0 : Nat) (l0 : List (S98)) (a1 : Int) (r : Int) (w : World) (hr0 : Kd.C k98 w A0 l0.length l0) (hc0 : l0.length ≤ c0) (h : laws_szPeerS.f l0 a1 = some r) :
    Calls Try.prog 26 #[.slice A0 l0.length c0, .int .i64 a1] w fun e w' => e = .returned (.int .i64 r) ∧ Drawn0 w w' := by
  have HR0 := Aside0.mk hr0
  have HC0 := Aside0.mk hc0
  clear hr0 hc0
  have H : (if (wrap64 (a1 - (l0.length : Int))) < 0 then (some (-1)) else (some (wrap64 (a1 - (l0.length : Int))))) = some r := h
  clear h
  by_cases c3 : (wrap64 (a1 - (l0.length : Int))) < 0
  · rw [if_pos c3] at H
    have c3b0 : decide ((wrap64 (a1 - (l0.length : Int))) < 0) = true := decide_eq_true c3
    clear c3
    obtain rfl := Option.some.inj H
    go_enter Try.func26, Try.ntmps26
    go_wp2
    go_ret
    exact ⟨by first | rfl | (simp; done) | (simp [*]; done), by repeat (first | exact Drawn0.refl _ | apply Drawn0.step)⟩
  · rw [if_neg c3] at H
    have c3b0 : decide ((wrap64 (a1 - (l0.length : Int))) < 0) = false := decide_eq_false c3
    clear c3
    obtain rfl := Option.some.inj H
    go_enter Try.func26, Try.ntmps26
    go_wp2
    go_ret
    exact ⟨by first | rfl | (simp; done) | (simp [*]; done), by repeat (first | exact Drawn0.refl _ | apply Drawn0.step)⟩
end Go.Proofs.Ytallakebnoighaa.PFnExactSettle
end
