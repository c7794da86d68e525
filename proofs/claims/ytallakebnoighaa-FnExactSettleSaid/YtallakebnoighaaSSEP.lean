import Derived.Test.YtallakebnoighaaSSEH
import Derived.Test.YtallakebnoighaaSSEO
import Derived.Test.YtallakebnoighaaSSEA
import Derived.Test.YtallakebnoighaaSSEM
import Derived.Test.YtallakebnoighaaSSEWWords

section
namespace Go.Proofs.Ytallakebnoighaa.PFnExactSettle
open Go.RowKit Go.Proofs.YtallakebnoighaaW.PrintWords Go.Proofs.Ytallakebnoighaa
set_option linter.unusedSimpArgs false
set_option linter.unusedVariables false
attribute [local go_sem] flowUpon
theorem eqEnt_C (x y : Int) (s : ByteArray) (w : World) : Calls Try.prog 102 #[.agg #[.int .i64 x, .int .i64 y, .string s], .agg #[.int .i64 x, .int .i64 y, .string s]] w fun e w' => e = .returned (.bool true) ∧ Below w.heap.size w w' := by
  go_enter Try.func102, Try.ntmps102
  go_wp2
  all_goals
    go_ret
    exact ⟨rfl, (by repeat (first | exact Below.refl _ _ | apply bl_alloc | apply bl_drewN | apply bl_drew | refine bl_set ?_ (by simp) | refine bl_then ?_ (by assumption)))⟩
theorem eqPeer_C (x y z u : Int) (w : World) : Calls Try.prog 79 #[.agg #[.int .i64 x, .int .i64 y, .int .i64 z, .int .i64 u], .agg #[.int .i64 x, .int .i64 y, .int .i64 z, .int .i64 u]] w fun e w' => e = .returned (.bool true) ∧ Below w.heap.size w w' := by
  go_enter Try.func79, Try.ntmps79
  go_wp2
  all_goals
    go_ret
    exact ⟨rfl, (by repeat (first | exact Below.refl _ _ | apply bl_alloc | apply bl_drewN | apply bl_drew | refine bl_set ?_ (by simp) | refine bl_then ?_ (by assumption)))⟩
set_option maxHeartbeats 1000000 in
set_option maxRecDepth 100000 in
theorem eqEntS_C (A : Option Addr) (a : Nat) (B : Option Addr) (b : Nat) (xs : List S87) (w : World) (hl : xs.length ≤ 1048576) (ha : xs.length ≤ a) (hb : xs.length ≤ b) (hA : Kd.C k87 w A xs.length xs) (hB : Kd.C k87 w B xs.length xs) :
    Calls Try.prog 78 #[.slice A xs.length a, .slice B xs.length b] w fun e w' => e = .returned (.bool true) ∧ Below w.heap.size w w' := by
  have HR := Lib.hid (And.intro hA hB)
  clear hA hB
  go_enter Try.func78, Try.ntmps78
  go_wp2_with fail
  go_loopg [5] xs.length (fun kq v5 w' => ∃ i : Nat, v5 = .int .i64 (i : Int) ∧ i + kq = xs.length ∧ Below w.heap.size w w')
  case atStart => exact ⟨0, rfl, by omega, (by repeat (first | exact Below.refl _ _ | apply bl_alloc | apply bl_drewN | apply bl_drew | refine bl_set ?_ (by simp) | refine bl_then ?_ (by assumption)))⟩
  case round =>
    obtain ⟨i, rfl, hik, hB1⟩ := hrel
    cases gk with
    | zero =>
      have hlt : ¬ ((i : Int) < (xs.length : Int)) := by omega
      go_wp2_with fail
      go_ret
      exact ⟨rfl, (by repeat (first | exact Below.refl _ _ | apply bl_alloc | apply bl_drewN | apply bl_drew | refine bl_set ?_ (by simp) | refine bl_then ?_ (by assumption)))⟩
    | succ n =>
      have hlt : (i : Int) < (xs.length : Int) := by omega
      obtain ⟨ad, rfl, x0, x1, x2⟩ := at_T87 (Kd.C_below HR.out.1 hB1) i (by omega) hlt
      obtain ⟨bd, rfl, y0, y1, y2⟩ := at_T87 (Kd.C_below HR.out.2 hB1) i (by omega) hlt
      simp only [Int.toNat_natCast] at x0 x1 x2 y0 y1 y2
      have e1 : wrap64 ((i : Int) + 1) = ((i + 1 : Nat) : Int) := by unfold wrap64; omega
      have E1 := Lib.hid e1
      clear e1
      have hlt2 : i < xs.length := by omega
      have hbx := World.block_lt_of_cell? wr _ x0
      have hby := World.block_lt_of_cell? wr _ y0
      go_wp2_with fail
      refine wp_region_flow [0, 1, 5] 27 (by kernel_rfl) (by rfl) (by kernel_rfl) (by kernel_rfl) (by kernel_rfl) ?_
      iterate 3 (refine flow_valE ?_; apply Exists.intro; refine ⟨fun A wq hBq hbq hdq => ?_, ?_⟩; focus (obtain ⟨hcq, hfq⟩ := bcell hBq; (try simp [go_sem, baseF, deps, dep1, Region.binds] at hbq); (try simp [go_sem, baseF, deps, dep1, Region.binds, NewSl] at hdq); go_simp; first | exact ⟨Below.refl _ _, rfl⟩ | (rw [if_neg]; (focus (exact ⟨Below.refl _ _, rfl⟩)); (focus ((try simp only [ByteArray.size_append]); omega))) | (fail)))
      refine flow_valE ?_
      refine ⟨.agg #[.int .i64 (rd_T87 xs (i : Int)).f0, .int .i64 (rd_T87 xs (i : Int)).f1, .string (rd_T87 xs (i : Int)).f2], fun A wq hBq hbq hdq => ?_, ?_⟩
      · have q0 := (hBq.cell hbx).trans x0
        have q1 := (hBq.cell (p := ⟨_, _, none⟩) hbx).trans x1
        have q2 := (hBq.cell (p := ⟨_, _, none⟩) hbx).trans x2
        (try simp [go_sem, baseF, deps, dep1, Region.binds] at hbq)
        (try simp [go_sem, baseF, deps, dep1, Region.binds, NewSl] at hdq)
        go_simp
        first | exact ⟨Below.refl _ _, rfl⟩ | exact Below.refl _ _
      iterate 3 (refine flow_valE ?_; apply Exists.intro; refine ⟨fun A wq hBq hbq hdq => ?_, ?_⟩; focus (obtain ⟨hcq, hfq⟩ := bcell hBq; (try simp [go_sem, baseF, deps, dep1, Region.binds] at hbq); (try simp [go_sem, baseF, deps, dep1, Region.binds, NewSl] at hdq); go_simp; first | exact ⟨Below.refl _ _, rfl⟩ | (rw [if_neg]; (focus (exact ⟨Below.refl _ _, rfl⟩)); (focus ((try simp only [ByteArray.size_append]); omega))) | (fail)))
      refine flow_valE ?_
      refine ⟨.agg #[.int .i64 (rd_T87 xs (i : Int)).f0, .int .i64 (rd_T87 xs (i : Int)).f1, .string (rd_T87 xs (i : Int)).f2], fun A wq hBq hbq hdq => ?_, ?_⟩
      · have q0 := (hBq.cell hby).trans y0
        have q1 := (hBq.cell (p := ⟨_, _, none⟩) hby).trans y1
        have q2 := (hBq.cell (p := ⟨_, _, none⟩) hby).trans y2
        (try simp [go_sem, baseF, deps, dep1, Region.binds] at hbq)
        (try simp [go_sem, baseF, deps, dep1, Region.binds, NewSl] at hdq)
        go_simp
        first | exact ⟨Below.refl _ _, rfl⟩ | exact Below.refl _ _
      iterate 2 (refine flow_valE ?_; apply Exists.intro; refine ⟨fun A wq hBq hbq hdq => ?_, ?_⟩; focus (obtain ⟨hcq, hfq⟩ := bcell hBq; (try simp [go_sem, baseF, deps, dep1, Region.binds] at hbq); (try simp [go_sem, baseF, deps, dep1, Region.binds, NewSl] at hdq); go_simp; first | exact ⟨Below.refl _ _, rfl⟩ | (rw [if_neg]; (focus (exact ⟨Below.refl _ _, rfl⟩)); (focus ((try simp only [ByteArray.size_append]); omega))) | (first | (go_at_call 102; exact (eqEnt_C _ _ _ _)))))
      refine fun x wq hBq hall => ?_
      simp only [allT] at hall
      simp [frameOf, Act.put, hall]
      clear hall
      go_wp2_with fail
      go_roundg n
      case measure => omega
      case rel => exact ⟨i + 1, by first | rfl | (rw [E1.out]), by omega, (by repeat (first | exact Below.refl _ _ | apply bl_alloc | apply bl_drewN | apply bl_drew | refine bl_set ?_ (by simp) | refine bl_then ?_ (by assumption)))⟩
set_option maxHeartbeats 1000000 in
set_option maxRecDepth 100000 in
theorem eqPeerS_C (A : Option Addr) (a : Nat) (B : Option Addr) (b : Nat) (xs : List S69) (w : World) (hl : xs.length ≤ 1048576) (ha : xs.length ≤ a) (hb : xs.length ≤ b) (hA : Kd.C k69 w A xs.length xs) (hB : Kd.C k69 w B xs.length xs) :
    Calls Try.prog 45 #[.slice A xs.length a, .slice B xs.length b] w fun e w' => e = .returned (.bool true) ∧ Below w.heap.size w w' := by
  have HR := Lib.hid (And.intro hA hB)
  clear hA hB
  go_enter Try.func45, Try.ntmps45
  go_wp2_with fail
  go_loopg [5] xs.length (fun kq v5 w' => ∃ i : Nat, v5 = .int .i64 (i : Int) ∧ i + kq = xs.length ∧ Below w.heap.size w w')
  case atStart => exact ⟨0, rfl, by omega, (by repeat (first | exact Below.refl _ _ | apply bl_alloc | apply bl_drewN | apply bl_drew | refine bl_set ?_ (by simp) | refine bl_then ?_ (by assumption)))⟩
  case round =>
    obtain ⟨i, rfl, hik, hB1⟩ := hrel
    cases gk with
    | zero =>
      have hlt : ¬ ((i : Int) < (xs.length : Int)) := by omega
      go_wp2_with fail
      go_ret
      exact ⟨rfl, (by repeat (first | exact Below.refl _ _ | apply bl_alloc | apply bl_drewN | apply bl_drew | refine bl_set ?_ (by simp) | refine bl_then ?_ (by assumption)))⟩
    | succ n =>
      have hlt : (i : Int) < (xs.length : Int) := by omega
      obtain ⟨ad, rfl, x0, x1, x2, x3⟩ := at_T69 (Kd.C_below HR.out.1 hB1) i (by omega) hlt
      obtain ⟨bd, rfl, y0, y1, y2, y3⟩ := at_T69 (Kd.C_below HR.out.2 hB1) i (by omega) hlt
      simp only [Int.toNat_natCast] at x0 x1 x2 x3 y0 y1 y2 y3
      have e1 : wrap64 ((i : Int) + 1) = ((i + 1 : Nat) : Int) := by unfold wrap64; omega
      have E1 := Lib.hid e1
      clear e1
      have hlt2 : i < xs.length := by omega
      have hbx := World.block_lt_of_cell? wr _ x0
      have hby := World.block_lt_of_cell? wr _ y0
      go_wp2_with fail
      refine wp_region_flow [0, 1, 5] 27 (by kernel_rfl) (by rfl) (by kernel_rfl) (by kernel_rfl) (by kernel_rfl) ?_
      iterate 3 (refine flow_valE ?_; apply Exists.intro; refine ⟨fun A wq hBq hbq hdq => ?_, ?_⟩; focus (obtain ⟨hcq, hfq⟩ := bcell hBq; (try simp [go_sem, baseF, deps, dep1, Region.binds] at hbq); (try simp [go_sem, baseF, deps, dep1, Region.binds, NewSl] at hdq); go_simp; first | exact ⟨Below.refl _ _, rfl⟩ | (rw [if_neg]; (focus (exact ⟨Below.refl _ _, rfl⟩)); (focus ((try simp only [ByteArray.size_append]); omega))) | (fail)))
      refine flow_valE ?_
      refine ⟨.agg #[.int .i64 (rd_T69 xs (i : Int)).f0, .int .i64 (rd_T69 xs (i : Int)).f1, .int .i64 (rd_T69 xs (i : Int)).f2, .int .i64 (rd_T69 xs (i : Int)).f3], fun A wq hBq hbq hdq => ?_, ?_⟩
      · have q0 := (hBq.cell hbx).trans x0
        have q1 := (hBq.cell (p := ⟨_, _, none⟩) hbx).trans x1
        have q2 := (hBq.cell (p := ⟨_, _, none⟩) hbx).trans x2
        have q3 := (hBq.cell (p := ⟨_, _, none⟩) hbx).trans x3
        (try simp [go_sem, baseF, deps, dep1, Region.binds] at hbq)
        (try simp [go_sem, baseF, deps, dep1, Region.binds, NewSl] at hdq)
        go_simp
        first | exact ⟨Below.refl _ _, rfl⟩ | exact Below.refl _ _
      iterate 3 (refine flow_valE ?_; apply Exists.intro; refine ⟨fun A wq hBq hbq hdq => ?_, ?_⟩; focus (obtain ⟨hcq, hfq⟩ := bcell hBq; (try simp [go_sem, baseF, deps, dep1, Region.binds] at hbq); (try simp [go_sem, baseF, deps, dep1, Region.binds, NewSl] at hdq); go_simp; first | exact ⟨Below.refl _ _, rfl⟩ | (rw [if_neg]; (focus (exact ⟨Below.refl _ _, rfl⟩)); (focus ((try simp only [ByteArray.size_append]); omega))) | (fail)))
      refine flow_valE ?_
      refine ⟨.agg #[.int .i64 (rd_T69 xs (i : Int)).f0, .int .i64 (rd_T69 xs (i : Int)).f1, .int .i64 (rd_T69 xs (i : Int)).f2, .int .i64 (rd_T69 xs (i : Int)).f3], fun A wq hBq hbq hdq => ?_, ?_⟩
      · have q0 := (hBq.cell hby).trans y0
        have q1 := (hBq.cell (p := ⟨_, _, none⟩) hby).trans y1
        have q2 := (hBq.cell (p := ⟨_, _, none⟩) hby).trans y2
        have q3 := (hBq.cell (p := ⟨_, _, none⟩) hby).trans y3
        (try simp [go_sem, baseF, deps, dep1, Region.binds] at hbq)
        (try simp [go_sem, baseF, deps, dep1, Region.binds, NewSl] at hdq)
        go_simp
        first | exact ⟨Below.refl _ _, rfl⟩ | exact Below.refl _ _
      iterate 2 (refine flow_valE ?_; apply Exists.intro; refine ⟨fun A wq hBq hbq hdq => ?_, ?_⟩; focus (obtain ⟨hcq, hfq⟩ := bcell hBq; (try simp [go_sem, baseF, deps, dep1, Region.binds] at hbq); (try simp [go_sem, baseF, deps, dep1, Region.binds, NewSl] at hdq); go_simp; first | exact ⟨Below.refl _ _, rfl⟩ | (rw [if_neg]; (focus (exact ⟨Below.refl _ _, rfl⟩)); (focus ((try simp only [ByteArray.size_append]); omega))) | (first | (go_at_call 79; exact (eqPeer_C _ _ _ _ _)))))
      refine fun x wq hBq hall => ?_
      simp only [allT] at hall
      simp [frameOf, Act.put, hall]
      clear hall
      go_wp2_with fail
      go_roundg n
      case measure => omega
      case rel => exact ⟨i + 1, by first | rfl | (rw [E1.out]), by omega, (by repeat (first | exact Below.refl _ _ | apply bl_alloc | apply bl_drewN | apply bl_drew | refine bl_set ?_ (by simp) | refine bl_then ?_ (by assumption)))⟩
theorem eqI_l0 (xs : List Int) : ∀ (n k i : Nat), n + i = xs.length → n < k → xs.length < 4611686018427387904 → laws_eqIntS.l0 k xs xs i = some true
  | 0, 0, _, _, hk, _ => by omega
  | 0, k + 1, i, h, hk, hl => by
    unfold laws_eqIntS.l0
    rw [if_neg (by omega)]
  | n + 1, 0, _, _, hk, _ => by omega
  | n + 1, k + 1, i, h, hk, hl => by
    have e1 : wrap64 ((i : Int) + 1) = ((i + 1 : Nat) : Int) := by unfold wrap64; omega
    unfold laws_eqIntS.l0
    rw [if_pos (by omega), if_pos (by omega), if_pos (by omega), if_pos rfl, e1]
    clear e1
    exact eqI_l0 xs n k (i + 1) (by omega) (by omega) hl
theorem eqIntS_C (A : Option Addr) (a : Nat) (B : Option Addr) (b : Nat) (xs : List Int) (w : World) (hl : xs.length ≤ 1048576) (ha : xs.length ≤ a) (hb : xs.length ≤ b) (hA : Kd.C (Kd.int .i64) w A xs.length xs) (hB : Kd.C (Kd.int .i64) w B xs.length xs) :
    Calls Try.prog 43 #[.slice A xs.length a, .slice B xs.length b] w fun e w' => e = .returned (.bool true) ∧ Below w.heap.size w w' := by
  refine (laws_eqIntS.calls 1048577 A a xs B b xs true w hA ha hB hb (by unfold laws_eqIntS.f; rw [if_pos rfl]; exact eqI_l0 xs xs.length 1048577 0 (by omega) (by omega) (by omega))).mono ?_
  rintro e w' h
  first | exact h | (obtain ⟨rfl, n, rfl⟩ := h; exact ⟨rfl, bl_drewN (Below.refl _ _) n⟩)
theorem eqLog_C (s t : Int) (A : Option Addr) (a : Nat) (B : Option Addr) (b : Nat) (xs : List S87) (w : World) (hl : xs.length ≤ 1048576) (ha : xs.length ≤ a) (hb : xs.length ≤ b) (hA : Kd.C k87 w A xs.length xs) (hB : Kd.C k87 w B xs.length xs) :
    Calls Try.prog 44 #[.agg #[.int .i64 s, .int .i64 t, .slice A xs.length a], .agg #[.int .i64 s, .int .i64 t, .slice B xs.length b]] w fun e w' => e = .returned (.bool true) ∧ Below w.heap.size w w' := by
  have HR := Lib.hid (And.intro hA hB)
  clear hA hB
  go_enter Try.func44, Try.ntmps44
  go_wp2_with (first | (go_at_call 78; refine (eqEntS_C _ _ _ _ xs _ hl ha hb (Kd.C_below HR.out.1 (by repeat (first | exact Below.refl _ _ | apply bl_alloc | apply bl_drewN | apply bl_drew | refine bl_set ?_ (by simp) | refine bl_then ?_ (by assumption)))) (Kd.C_below HR.out.2 (by repeat (first | exact Below.refl _ _ | apply bl_alloc | apply bl_drewN | apply bl_drew | refine bl_set ?_ (by simp) | refine bl_then ?_ (by assumption))))).mono ?_; rintro e w' ⟨rfl, hb⟩; obtain ⟨hc, hf⟩ := bcell hb))
  all_goals
    go_ret
    exact ⟨rfl, (by repeat (first | exact Below.refl _ _ | apply bl_alloc | apply bl_drewN | apply bl_drew | refine bl_set ?_ (by simp) | refine bl_then ?_ (by assumption)))⟩
end Go.Proofs.Ytallakebnoighaa.PFnExactSettle
namespace Go.Proofs.Ytallakebnoighaa
open Go.RowKit Go.Proofs.YtallakebnoighaaW.PrintWords PFnExactSettle
set_option maxHeartbeats 4000000 in
set_option maxRecDepth 100000 in
theorem eqN_C (n : NF) (hz : NodeZ n) (A5 : Option Addr) (c5 : Nat) (A8 : Option Addr) (c8 : Nat) (A12 : Option Addr) (c12 : Nat) (A13 : Option Addr) (c13 : Nat) (D5 : Option Addr) (d5 : Nat) (D8 : Option Addr) (d8 : Nat) (D12 : Option Addr) (d12 : Nat) (D13 : Option Addr) (d13 : Nat) (w : World) (h : NodeC n A5 c5 A8 c8 A12 c12 A13 c13 w) (g : NodeC n D5 d5 D8 d8 D12 d12 D13 d13 w) :
    Calls Try.prog 10 #[.agg #[.int .i64 n.id, .int .i64 n.term, .int .i64 n.vote, .int .i64 n.role, .int .i64 n.lead, .slice A5 n.cf.length c5, .int .i64 n.st, .int .i64 n.tm, .slice A8 n.es.length c8, .int .i64 n.cm, .int .i64 n.ck, .int .i64 n.lm, .slice A12 n.vs.length c12, .slice A13 n.ps.length c13], .agg #[.int .i64 n.id, .int .i64 n.term, .int .i64 n.vote, .int .i64 n.role, .int .i64 n.lead, .slice D5 n.cf.length d5, .int .i64 n.st, .int .i64 n.tm, .slice D8 n.es.length d8, .int .i64 n.cm, .int .i64 n.ck, .int .i64 n.lm, .slice D12 n.vs.length d12, .slice D13 n.ps.length d13]] w fun e w' => e = .returned (.bool true) ∧ Below w.heap.size w w' := by
  have H := Lib.hid (And.intro h g)
  have q5 := hz.cf
  have q8 := hz.es
  have q12 := hz.vs
  have q13 := hz.ps
  clear h g hz
  go_enter Try.func10, Try.ntmps10
  go_wp2_with fail
  refine calls_atC (fun X => Blk 36 w.heap.size #[.int .i64 n.id, .int .i64 n.term, .int .i64 n.vote, .int .i64 n.role, .int .i64 n.lead, .slice A5 n.cf.length c5, .int .i64 n.st, .int .i64 n.tm, .slice A8 n.es.length c8, .int .i64 n.cm, .int .i64 n.ck, .int .i64 n.lm, .slice A12 n.vs.length c12, .slice A13 n.ps.length c13] X ∧ Blk 36 (w.heap.size + 1) #[.int .i64 n.id, .int .i64 n.term, .int .i64 n.vote, .int .i64 n.role, .int .i64 n.lead, .slice D5 n.cf.length d5, .int .i64 n.st, .int .i64 n.tm, .slice D8 n.es.length d8, .int .i64 n.cm, .int .i64 n.ck, .int .i64 n.lm, .slice D12 n.vs.length d12, .slice D13 n.ps.length d13] X ∧ Below w.heap.size w X) ⟨(Blk.new _ _ w).alloc _, Blk.newE _ _ (w.alloc _) (by simp), (by repeat (first | exact Below.refl _ _ | apply bl_alloc | apply bl_drewN | apply bl_drew | refine bl_set ?_ (by simp) | refine bl_then ?_ (by assumption)))⟩ ?_
  rintro X0 ⟨k1, k2, B⟩
  refine (eqIntS_C _ _ _ _ n.cf _ q5 H.out.1.hc5 H.out.2.hc5 (H.out.1.below B).h5 (H.out.2.below B).h5).mono ?_
  rintro e X1 ⟨rfl, hb⟩
  replace k1 := k1.below hb
  replace k2 := k2.below hb
  replace B := bl_then B hb
  clear hb X0
  have y0 := k1.cell 0 rfl
  have y1 := k1.cell 1 rfl
  have y2 := k1.cell 2 rfl
  have y3 := k1.cell 3 rfl
  have y4 := k1.cell 4 rfl
  have y5 := k1.cell 5 rfl
  have y6 := k1.cell 6 rfl
  have y7 := k1.cell 7 rfl
  have y8 := k1.cell 8 rfl
  have y9 := k1.cell 9 rfl
  have y10 := k1.cell 10 rfl
  have y11 := k1.cell 11 rfl
  have y12 := k1.cell 12 rfl
  have y13 := k1.cell 13 rfl
  have ly := k1.lt
  have z0 := k2.cell 0 rfl
  have z1 := k2.cell 1 rfl
  have z2 := k2.cell 2 rfl
  have z3 := k2.cell 3 rfl
  have z4 := k2.cell 4 rfl
  have z5 := k2.cell 5 rfl
  have z6 := k2.cell 6 rfl
  have z7 := k2.cell 7 rfl
  have z8 := k2.cell 8 rfl
  have z9 := k2.cell 9 rfl
  have z10 := k2.cell 10 rfl
  have z11 := k2.cell 11 rfl
  have z12 := k2.cell 12 rfl
  have z13 := k2.cell 13 rfl
  have lz := k2.lt
  go_wp2_with fail
  refine (eqLog_C _ _ _ _ _ _ n.es _ q8 H.out.1.hc8 H.out.2.hc8 (H.out.1.below B).h8 (H.out.2.below B).h8).mono ?_
  rintro e X2 ⟨rfl, hb⟩
  replace k1 := k1.below hb
  replace k2 := k2.below hb
  replace B := bl_then B hb
  clear y0 y1 y2 y3 y4 y5 y6 y7 y8 y9 y10 y11 y12 y13 ly z0 z1 z2 z3 z4 z5 z6 z7 z8 z9 z10 z11 z12 z13 lz hb X1
  have y0 := k1.cell 0 rfl
  have y1 := k1.cell 1 rfl
  have y2 := k1.cell 2 rfl
  have y3 := k1.cell 3 rfl
  have y4 := k1.cell 4 rfl
  have y5 := k1.cell 5 rfl
  have y6 := k1.cell 6 rfl
  have y7 := k1.cell 7 rfl
  have y8 := k1.cell 8 rfl
  have y9 := k1.cell 9 rfl
  have y10 := k1.cell 10 rfl
  have y11 := k1.cell 11 rfl
  have y12 := k1.cell 12 rfl
  have y13 := k1.cell 13 rfl
  have ly := k1.lt
  have z0 := k2.cell 0 rfl
  have z1 := k2.cell 1 rfl
  have z2 := k2.cell 2 rfl
  have z3 := k2.cell 3 rfl
  have z4 := k2.cell 4 rfl
  have z5 := k2.cell 5 rfl
  have z6 := k2.cell 6 rfl
  have z7 := k2.cell 7 rfl
  have z8 := k2.cell 8 rfl
  have z9 := k2.cell 9 rfl
  have z10 := k2.cell 10 rfl
  have z11 := k2.cell 11 rfl
  have z12 := k2.cell 12 rfl
  have z13 := k2.cell 13 rfl
  have lz := k2.lt
  go_wp2_with fail
  refine (eqIntS_C _ _ _ _ n.vs _ q12 H.out.1.hc12 H.out.2.hc12 (H.out.1.below B).h12 (H.out.2.below B).h12).mono ?_
  rintro e X3 ⟨rfl, hb⟩
  replace k1 := k1.below hb
  replace k2 := k2.below hb
  replace B := bl_then B hb
  clear y0 y1 y2 y3 y4 y5 y6 y7 y8 y9 y10 y11 y12 y13 ly z0 z1 z2 z3 z4 z5 z6 z7 z8 z9 z10 z11 z12 z13 lz hb X2
  have y0 := k1.cell 0 rfl
  have y1 := k1.cell 1 rfl
  have y2 := k1.cell 2 rfl
  have y3 := k1.cell 3 rfl
  have y4 := k1.cell 4 rfl
  have y5 := k1.cell 5 rfl
  have y6 := k1.cell 6 rfl
  have y7 := k1.cell 7 rfl
  have y8 := k1.cell 8 rfl
  have y9 := k1.cell 9 rfl
  have y10 := k1.cell 10 rfl
  have y11 := k1.cell 11 rfl
  have y12 := k1.cell 12 rfl
  have y13 := k1.cell 13 rfl
  have ly := k1.lt
  have z0 := k2.cell 0 rfl
  have z1 := k2.cell 1 rfl
  have z2 := k2.cell 2 rfl
  have z3 := k2.cell 3 rfl
  have z4 := k2.cell 4 rfl
  have z5 := k2.cell 5 rfl
  have z6 := k2.cell 6 rfl
  have z7 := k2.cell 7 rfl
  have z8 := k2.cell 8 rfl
  have z9 := k2.cell 9 rfl
  have z10 := k2.cell 10 rfl
  have z11 := k2.cell 11 rfl
  have z12 := k2.cell 12 rfl
  have z13 := k2.cell 13 rfl
  have lz := k2.lt
  go_wp2_with fail
  refine (eqPeerS_C _ _ _ _ n.ps _ q13 H.out.1.hc13 H.out.2.hc13 (H.out.1.below B).h13 (H.out.2.below B).h13).mono ?_
  rintro e X4 ⟨rfl, hb⟩
  replace k1 := k1.below hb
  replace k2 := k2.below hb
  replace B := bl_then B hb
  clear y0 y1 y2 y3 y4 y5 y6 y7 y8 y9 y10 y11 y12 y13 ly z0 z1 z2 z3 z4 z5 z6 z7 z8 z9 z10 z11 z12 z13 lz hb X3
  have y0 := k1.cell 0 rfl
  have y1 := k1.cell 1 rfl
  have y2 := k1.cell 2 rfl
  have y3 := k1.cell 3 rfl
  have y4 := k1.cell 4 rfl
  have y5 := k1.cell 5 rfl
  have y6 := k1.cell 6 rfl
  have y7 := k1.cell 7 rfl
  have y8 := k1.cell 8 rfl
  have y9 := k1.cell 9 rfl
  have y10 := k1.cell 10 rfl
  have y11 := k1.cell 11 rfl
  have y12 := k1.cell 12 rfl
  have y13 := k1.cell 13 rfl
  have ly := k1.lt
  have z0 := k2.cell 0 rfl
  have z1 := k2.cell 1 rfl
  have z2 := k2.cell 2 rfl
  have z3 := k2.cell 3 rfl
  have z4 := k2.cell 4 rfl
  have z5 := k2.cell 5 rfl
  have z6 := k2.cell 6 rfl
  have z7 := k2.cell 7 rfl
  have z8 := k2.cell 8 rfl
  have z9 := k2.cell 9 rfl
  have z10 := k2.cell 10 rfl
  have z11 := k2.cell 11 rfl
  have z12 := k2.cell 12 rfl
  have z13 := k2.cell 13 rfl
  have lz := k2.lt
  go_wp2_with fail
  go_ret
  exact ⟨rfl, B⟩
end Go.Proofs.Ytallakebnoighaa
end

section
namespace Go.Proofs.Ytallakebnoighaa
open Go.RowKit Go.Proofs.YtallakebnoighaaW.PrintWords PFnExactSettle
set_option linter.unusedSimpArgs false
set_option linter.unusedVariables false
def conv (x : S122) : S87 := ⟨x.f0, x.f1, x.f2⟩
theorem rdL (xs : List S122) (i : Nat) (h : i < xs.length) : rd_T122 xs i = xs[i] := by simp [rd_T122, h]
theorem rdE (xs : List S87) (i : Nat) (h : i < xs.length) : rd_T87 xs i = xs[i] := by simp [rd_T87, h]
theorem rdI (xs : List Int) (i : Nat) (h : i < xs.length) : rd xs i = xs[i] := by simp [rd, h]
theorem toE_l0 (xs : List S122) : ∀ (n k i : Nat) (acc : List S87), n + i = xs.length → acc = (xs.take i).map conv ++ List.replicate n z87 → n < k → xs.length < 4611686018427387904 → laws_toEntryS.l0 k xs acc i = some (xs.map conv)
  | 0, 0, _, _, _, _, hk, _ => by omega
  | 0, k + 1, i, acc, h, ha, hk, hl => by
    unfold laws_toEntryS.l0
    rw [if_neg (by omega), ha, List.take_of_length_le (by omega)]
    simp
  | n + 1, 0, _, _, _, _, hk, _ => by omega
  | n + 1, k + 1, i, acc, h, ha, hk, hl => by
    have e1 : wrap64 ((i : Int) + 1) = ((i + 1 : Nat) : Int) := by unfold wrap64; omega
    have hlen : acc.length = xs.length := by rw [ha]; simp; omega
    unfold laws_toEntryS.l0
    rw [if_pos (by omega), if_pos (by omega), laws_toEntry.f, Option.bind_some, if_pos (by omega), e1]
    clear e1
    refine toE_l0 xs n k (i + 1) _ (by omega) ?_ (by omega) hl
    have hi : i < xs.length := by omega
    rw [ha, Int.toNat_natCast, List.replicate_succ, List.set_append_right _ _ (by simp; omega), List.take_succ_eq_append_getElem hi, rdL xs i hi]
    have : i - (List.map conv (List.take i xs)).length = 0 := by simp; omega
    rw [this]
    simp only [List.set_cons_zero, List.map_append, List.map_cons, List.map_nil, List.append_assoc, List.cons_append, List.nil_append]
    rfl
theorem toE_f (xs : List S122) (k : Nat) (hk : xs.length < k) (hl : xs.length ≤ 1048576) : laws_toEntryS.f k xs = some (xs.map conv) := by
  unfold laws_toEntryS.f
  rw [if_pos (by omega), if_pos (by omega), Int.toNat_natCast]
  exact toE_l0 xs xs.length k 0 _ (by omega) (by simp) hk (by omega)
theorem toI_l0 (xs : List Int) : ∀ (n k i : Nat) (acc : List Int), n + i = xs.length → acc = xs.take i ++ List.replicate n 0 → n < k → xs.length < 4611686018427387904 → laws_toIntS.l0 k xs acc i = some xs
  | 0, 0, _, _, _, _, hk, _ => by omega
  | 0, k + 1, i, acc, h, ha, hk, hl => by
    unfold laws_toIntS.l0
    rw [if_neg (by omega), ha, List.take_of_length_le (by omega)]
    simp
  | n + 1, 0, _, _, _, _, hk, _ => by omega
  | n + 1, k + 1, i, acc, h, ha, hk, hl => by
    have e1 : wrap64 ((i : Int) + 1) = ((i + 1 : Nat) : Int) := by unfold wrap64; omega
    have hlen : acc.length = xs.length := by rw [ha]; simp; omega
    unfold laws_toIntS.l0
    rw [if_pos (by omega), if_pos (by omega), if_pos (by omega), e1]
    clear e1
    refine toI_l0 xs n k (i + 1) _ (by omega) ?_ (by omega) hl
    have hi : i < xs.length := by omega
    rw [ha, Int.toNat_natCast, List.replicate_succ, List.set_append_right _ _ (by simp; omega), List.take_succ_eq_append_getElem hi, rdI xs i hi]
    have : i - (List.take i xs).length = 0 := by simp; omega
    rw [this]
    simp only [List.set_cons_zero, List.append_assoc, List.cons_append, List.nil_append]
theorem toI_f (xs : List Int) (k : Nat) (hk : xs.length < k) (hl : xs.length ≤ 1048576) : laws_toIntS.f k xs = some xs := by
  unfold laws_toIntS.f
  rw [if_pos (by omega), if_pos (by omega), Int.toNat_natCast]
  exact toI_l0 xs xs.length k 0 _ (by omega) (by simp) hk (by omega)
theorem szE_l0 (xs : List S122) (hG : ∀ x ∈ xs, x.f2.size ≤ 2 ^ 63 - 1) : ∀ (n k i : Nat) (left : Int), n + i = xs.length → n < k → xs.length < 4611686018427387904 → 0 ≤ left → left ≤ 1048576 →
    ∃ r, laws_szEntryS.l0 k xs left i = some r ∧ (r < 0 ∨ (0 ≤ r ∧ r ≤ 1048576 ∧ ∀ j : Nat, i ≤ j → j < xs.length → (rd_T122 xs j).f2.size ≤ 1048576))
  | 0, 0, _, _, _, hk, _, _, _ => by omega
  | 0, k + 1, i, left, h, hk, hl, h0, h1 => by
    unfold laws_szEntryS.l0
    rw [if_neg (by omega)]
    exact ⟨_, rfl, .inr ⟨h0, h1, fun j hj hj2 => by omega⟩⟩
  | n + 1, 0, _, _, _, hk, _, _, _ => by omega
  | n + 1, k + 1, i, left, h, hk, hl, h0, h1 => by
    have e1 : wrap64 ((i : Int) + 1) = ((i + 1 : Nat) : Int) := by unfold wrap64; omega
    have hi : i < xs.length := by omega
    have hg : (rd_T122 xs i).f2.size ≤ 2 ^ 63 - 1 := by rw [rdL xs i hi]; exact hG _ (List.getElem_mem hi)
    have e2 : wrap64 (left - ((rd_T122 xs i).f2.size : Int)) = left - ((rd_T122 xs i).f2.size : Int) := by unfold wrap64; omega
    unfold laws_szEntryS.l0 laws_szEntry.f
    rw [if_pos (by omega), if_pos (by omega), e1, e2]
    clear e1 e2
    by_cases hlt : left - ((rd_T122 xs i).f2.size : Int) < 0
    · rw [if_pos hlt, Option.bind_some, if_pos (by omega)]
      exact ⟨_, rfl, .inl (by omega)⟩
    · rw [if_neg hlt, Option.bind_some, if_neg hlt]
      obtain ⟨r, hr, hh⟩ := szE_l0 xs hG n k (i + 1) _ (by omega) (by omega) hl (by omega) (show left - ((rd_T122 xs i).f2.size : Int) ≤ 1048576 by omega)
      refine ⟨r, hr, hh.imp id fun ⟨a, b, c⟩ => ⟨a, b, fun j hj hj2 => ?_⟩⟩
      by_cases hji : j = i
      · subst hji; omega
      · exact c j (by omega) hj2
theorem opens_entry (W : World) : Opens Try.prog W 122 k122 (fun x => x.f2.size ≤ maxLen) :=
  Opens.imp (opens_iso (d := Kd.pair (Kd.int .i64) (Kd.pair (Kd.int .i64) Kd.string)) (p := fun x : S122 => (x.f0, x.f1, x.f2)) (fun t => ⟨t.1, t.2.1, t.2.2⟩) (fun _ => rfl)
    (opens_struct Try.underlying122 (by kernel_rfl)
      (opensL_cons rfl (opens_int Try.underlying3) (by kernel_rfl) (opensL_cons rfl (opens_int Try.underlying3) (by kernel_rfl) (opensL_last rfl (opens_string Try.underlying9) (by kernel_rfl)))))) (fun _ h => h.2.2)
def convP (x : S98) : S69 := ⟨x.f0, x.f1, x.f2, x.f3⟩
theorem rdLP (xs : List S98) (i : Nat) (h : i < xs.length) : rd_T98 xs i = xs[i] := by simp [rd_T98, h]
theorem toP_l0 (xs : List S98) : ∀ (n k i : Nat) (acc : List S69), n + i = xs.length → acc = (xs.take i).map convP ++ List.replicate n z69 → n < k → xs.length < 4611686018427387904 → laws_toPeerS.l0 k xs acc i = some (xs.map convP)
  | 0, 0, _, _, _, _, hk, _ => by omega
  | 0, k + 1, i, acc, h, ha, hk, hl => by
    unfold laws_toPeerS.l0
    rw [if_neg (by omega), ha, List.take_of_length_le (by omega)]
    simp
  | n + 1, 0, _, _, _, _, hk, _ => by omega
  | n + 1, k + 1, i, acc, h, ha, hk, hl => by
    have e1 : wrap64 ((i : Int) + 1) = ((i + 1 : Nat) : Int) := by unfold wrap64; omega
    have hlen : acc.length = xs.length := by rw [ha]; simp; omega
    unfold laws_toPeerS.l0
    rw [if_pos (by omega), if_pos (by omega), laws_toPeer.f, Option.bind_some, if_pos (by omega), e1]
    clear e1
    refine toP_l0 xs n k (i + 1) _ (by omega) ?_ (by omega) hl
    have hi : i < xs.length := by omega
    rw [ha, Int.toNat_natCast, List.replicate_succ, List.set_append_right _ _ (by simp; omega), List.take_succ_eq_append_getElem hi, rdLP xs i hi]
    have : i - (List.map convP (List.take i xs)).length = 0 := by simp; omega
    rw [this]
    simp only [List.set_cons_zero, List.map_append, List.map_cons, List.map_nil, List.append_assoc, List.cons_append, List.nil_append]
    rfl
theorem toP_f (xs : List S98) (k : Nat) (hk : xs.length < k) (hl : xs.length ≤ 1048576) : laws_toPeerS.f k xs = some (xs.map convP) := by
  unfold laws_toPeerS.f
  rw [if_pos (by omega), if_pos (by omega), Int.toNat_natCast]
  exact toP_l0 xs xs.length k 0 _ (by omega) (by simp) hk (by omega)
theorem szN_f (a0 a1 a2 a3 a4 : Int) (A5 : Option Addr) (c5 : Nat) (cf : List Int) (a6 a7 : Int) (A8 : Option Addr) (c8 : Nat) (es : List S122) (a9 a10 a11 : Int) (A12 : Option Addr) (c12 : Nat) (vs : List Int) (A13 : Option Addr) (c13 : Nat) (ps : List S98) (hG : ∀ x ∈ es, x.f2.size ≤ 2 ^ 63 - 1) (h5 : cf.length ≤ 2 ^ 63 - 1) (h8 : es.length ≤ 2 ^ 63 - 1) (h12 : vs.length ≤ 2 ^ 63 - 1) (h13 : ps.length ≤ 2 ^ 63 - 1) :
    ∃ r, laws_szNode.f 3145735 a0 a1 a2 a3 a4 cf a6 a7 es a9 a10 a11 vs ps 1048576 = some r ∧ (r < 0 ∨ (0 ≤ r ∧ cf.length ≤ 1048576 ∧ es.length ≤ 1048576 ∧ vs.length ≤ 1048576 ∧ ps.length ≤ 1048576 ∧ ∀ j : Nat, j < es.length → (rd_T122 es j).f2.size ≤ 1048576)) := by
  unfold laws_szNode.f laws_szLog.f laws_szEntryS.f laws_szIntS.f laws_szPeerS.f
  have e0 : wrap64 (1048576 - (cf.length : Int)) = 1048576 - (cf.length : Int) := by unfold wrap64; omega
  rw [e0]
  clear e0
  by_cases h0 : (1048576 : Int) - (cf.length : Int) < 0
  · rw [if_pos h0, Option.bind_some, if_pos (by omega)]
    exact ⟨_, rfl, .inl (by omega)⟩
  rw [if_neg h0, Option.bind_some, if_neg h0]
  have e1 : wrap64 (1048576 - (cf.length : Int) - (es.length : Int)) = 1048576 - (cf.length : Int) - (es.length : Int) := by unfold wrap64; omega
  rw [e1]
  clear e1
  by_cases h1 : (1048576 : Int) - (cf.length : Int) - (es.length : Int) < 0
  · rw [if_pos h1, Option.bind_some, if_pos (by omega), Option.bind_some, if_pos (by omega)]
    exact ⟨_, rfl, .inl (by omega)⟩
  rw [if_neg h1]
  obtain ⟨r, hr, hh⟩ := szE_l0 es hG es.length 3145735 0 (1048576 - (cf.length : Int) - (es.length : Int)) (by omega) (by omega) (by omega) (by omega) (by omega)
  have hr' : laws_szEntryS.l0 3145735 es (1048576 - (cf.length : Int) - (es.length : Int)) 0 = some r := hr
  rw [hr', Option.bind_some]
  rcases hh with hh | ⟨ha, hb, hcc⟩
  · rw [if_pos hh, Option.bind_some, if_pos (by omega)]
    exact ⟨_, rfl, .inl (by omega)⟩
  rw [if_neg (by omega), Option.bind_some, if_neg (by omega)]
  have e2 : wrap64 (r - (vs.length : Int)) = r - (vs.length : Int) := by unfold wrap64; omega
  rw [e2]
  clear e2
  by_cases h2 : r - (vs.length : Int) < 0
  · rw [if_pos h2, Option.bind_some, if_pos (by omega)]
    exact ⟨_, rfl, .inl (by omega)⟩
  rw [if_neg h2, Option.bind_some, if_neg h2]
  have e3 : wrap64 (r - (vs.length : Int) - (ps.length : Int)) = r - (vs.length : Int) - (ps.length : Int) := by unfold wrap64; omega
  rw [e3]
  clear e3
  by_cases h3 : r - (vs.length : Int) - (ps.length : Int) < 0
  · rw [if_pos h3, Option.bind_some, if_pos (by omega)]
    exact ⟨_, rfl, .inl (by omega)⟩
  rw [if_neg h3, Option.bind_some, if_neg h3]
  exact ⟨_, rfl, .inr ⟨by omega, by omega, by omega, by omega, by omega, fun j hj => hcc j (by omega) hj⟩⟩
theorem toN_f (a0 a1 a2 a3 a4 : Int) (A5 : Option Addr) (c5 : Nat) (cf : List Int) (a6 a7 : Int) (A8 : Option Addr) (c8 : Nat) (es : List S122) (a9 a10 a11 : Int) (A12 : Option Addr) (c12 : Nat) (vs : List Int) (A13 : Option Addr) (c13 : Nat) (ps : List S98) (h5 : cf.length ≤ 1048576) (h8 : es.length ≤ 1048576) (h12 : vs.length ≤ 1048576) (h13 : ps.length ≤ 1048576) :
    laws_toNode.f 3145735 a0 a1 a2 a3 a4 cf a6 a7 es a9 a10 a11 vs ps = some (a0, a1, a2, a3, a4, cf, a6, a7, es.map conv, a9, a10, a11, vs, ps.map convP) := by
  unfold laws_toNode.f laws_toLog.f
  rw [toE_f es _ (by omega) h8, toI_f cf _ (by omega) h5, toI_f vs _ (by omega) h12, toP_f ps _ (by omega) h13]
  rfl
theorem short_convE (xs : List S122) (h : ∀ j : Nat, j < xs.length → (rd_T122 xs j).f2.size ≤ 1048576) : ShortE (xs.map conv) := by
  intro i
  by_cases hi : i < xs.length
  · rw [rdE _ i (by simpa using hi)]
    have := h i hi
    rw [rdL xs i hi] at this
    simpa [conv] using this
  · have : rd_T87 (xs.map conv) i = z87 := by simp [rd_T87, hi]
    rw [this]
    exact Nat.zero_le _
theorem opens_peer (W : World) : Opens Try.prog W 98 k98 (fun _ => True) :=
  Opens.imp (opens_iso (d := Kd.pair (Kd.int .i64) (Kd.pair (Kd.int .i64) (Kd.pair (Kd.int .i64) (Kd.int .i64)))) (p := fun x : S98 => (x.f0, x.f1, x.f2, x.f3)) (fun t => ⟨t.1, t.2.1, t.2.2.1, t.2.2.2⟩) (fun _ => rfl)
    (opens_struct Try.underlying98 (by kernel_rfl)
      (opensL_cons rfl (opens_int Try.underlying3) (by kernel_rfl) (opensL_cons rfl (opens_int Try.underlying3) (by kernel_rfl) (opensL_cons rfl (opens_int Try.underlying3) (by kernel_rfl) (opensL_last rfl (opens_int Try.underlying3) (by kernel_rfl))))))) (fun _ _ => trivial)
def kLog : Kd (Int × Int × List S122) := Kd.pair (Kd.int .i64) (Kd.pair (Kd.int .i64) (Kd.slice 122 k122))
theorem opens_log (W : World) : Opens Try.prog W 25 kLog (fun x => x.2.2.length ≤ maxLen ∧ ∀ y ∈ x.2.2, y.f2.size ≤ maxLen) :=
  Opens.imp (opens_struct Try.underlying25 (by kernel_rfl)
    (opensL_cons rfl (opens_int Try.underlying3) (by kernel_rfl) (opensL_cons rfl (opens_int Try.underlying3) (by kernel_rfl)
    (opensL_last rfl (opens_slice Try.underlying23 (by kernel_rfl) (opens_entry W)) (by kernel_rfl))))) (fun _ h => h.2.2)
def kNode : Kd (Int × Int × Int × Int × Int × List Int × (Int × Int × List S122) × Int × Int × Int × List Int × List S98) :=
  Kd.pair (Kd.int .i64) (Kd.pair (Kd.int .i64) (Kd.pair (Kd.int .i64) (Kd.pair (Kd.int .i64) (Kd.pair (Kd.int .i64) (Kd.pair (Kd.slice 3 (Kd.int .i64)) (Kd.pair kLog (Kd.pair (Kd.int .i64) (Kd.pair (Kd.int .i64) (Kd.pair (Kd.int .i64) (Kd.pair (Kd.slice 3 (Kd.int .i64)) (Kd.slice 98 k98)))))))))))
theorem opens_node (W : World) : Opens Try.prog W 28 kNode
    (fun x => x.2.2.2.2.2.1.length ≤ maxLen ∧ (x.2.2.2.2.2.2.1.2.2.length ≤ maxLen ∧ ∀ y ∈ x.2.2.2.2.2.2.1.2.2, y.f2.size ≤ maxLen) ∧ x.2.2.2.2.2.2.2.2.2.2.1.length ≤ maxLen ∧ x.2.2.2.2.2.2.2.2.2.2.2.length ≤ maxLen) := by
  exact Opens.imp (opens_struct Try.underlying28 (by kernel_rfl)
    (opensL_cons rfl (opens_int Try.underlying3) (by kernel_rfl)
    (opensL_cons rfl (opens_int Try.underlying3) (by kernel_rfl)
    (opensL_cons rfl (opens_int Try.underlying3) (by kernel_rfl)
    (opensL_cons rfl (opens_int Try.underlying3) (by kernel_rfl)
    (opensL_cons rfl (opens_int Try.underlying3) (by kernel_rfl)
    (opensL_cons rfl (opens_slice Try.underlying22 (by kernel_rfl) (opens_int Try.underlying3)) (by kernel_rfl)
    (opensL_cons rfl (opens_log W) (by kernel_rfl)
    (opensL_cons rfl (opens_int Try.underlying3) (by kernel_rfl)
    (opensL_cons rfl (opens_int Try.underlying3) (by kernel_rfl)
    (opensL_cons rfl (opens_int Try.underlying3) (by kernel_rfl)
    (opensL_cons rfl (opens_slice Try.underlying22 (by kernel_rfl) (opens_int Try.underlying3)) (by kernel_rfl)
    (opensL_last rfl (opens_slice Try.underlying26 (by kernel_rfl) (opens_peer W)) (by kernel_rfl)))))))))))))) (fun _ h => ⟨h.2.2.2.2.2.1.1, h.2.2.2.2.2.2.1, h.2.2.2.2.2.2.2.2.2.2.1.1, h.2.2.2.2.2.2.2.2.2.2.2.1⟩)
theorem arg_node {W : World} {v : Value} (h : ArgOf Try.prog W 28 v) : ∃ (a0 a1 a2 a3 a4 : Int) (A5 : Option Addr) (c5 : Nat) (cf : List Int) (a6 a7 : Int) (A8 : Option Addr) (c8 : Nat) (es : List S122) (a9 a10 a11 : Int) (A12 : Option Addr) (c12 : Nat) (vs : List Int) (A13 : Option Addr) (c13 : Nat) (ps : List S98),
    v = .agg #[.int .i64 a0, .int .i64 a1, .int .i64 a2, .int .i64 a3, .int .i64 a4, .slice A5 cf.length c5, .int .i64 a6, .int .i64 a7, .slice A8 es.length c8, .int .i64 a9, .int .i64 a10, .int .i64 a11, .slice A12 vs.length c12, .slice A13 ps.length c13] ∧
    (cf.length ≤ c5 ∧ Kd.C (Kd.int .i64) W A5 cf.length cf) ∧ (es.length ≤ c8 ∧ Kd.C k122 W A8 es.length es) ∧ (vs.length ≤ c12 ∧ Kd.C (Kd.int .i64) W A12 vs.length vs) ∧ (ps.length ≤ c13 ∧ Kd.C k98 W A13 ps.length ps) ∧ cf.length ≤ maxLen ∧ (es.length ≤ maxLen ∧ ∀ y ∈ es, y.f2.size ≤ maxLen) ∧ vs.length ≤ maxLen ∧ ps.length ≤ maxLen := by
  obtain ⟨⟨a0, a1, a2, a3, a4, cf, ⟨a6, a7, es⟩, a9, a10, a11, vs, ps⟩, cs, rfl, hK, hG⟩ := arg_struct Try.underlying28 (opens_node W) h
  obtain ⟨_, _, e0, rfl, _, _, rfl, rfl, _, _, rfl, rfl, _, _, rfl, rfl, _, _, rfl, rfl, _, _, rfl, ⟨A5, c5, rfl, h5, hC5⟩, _, _, rfl, ⟨_, _, rfl, rfl, _, _, rfl, rfl, ⟨A8, c8, rfl, h8, hC8⟩⟩, _, _, rfl, rfl, _, _, rfl, rfl, _, _, rfl, rfl, _, _, rfl, ⟨A12, c12, rfl, h12, hC12⟩, ⟨A13, c13, rfl, h13, hC13⟩⟩ := hK
  refine ⟨a0, a1, a2, a3, a4, A5, c5, cf, a6, a7, A8, c8, es, a9, a10, a11, A12, c12, vs, A13, c13, ps, ?_, ⟨h5, hC5⟩, ⟨h8, hC8⟩, ⟨h12, hC12⟩, ⟨h13, hC13⟩, hG⟩
  cases cs
  simp_all
def NodeR (n : NF) : VPred := fun w v => ∃ (A5 : Option Addr) (c5 : Nat) (A8 : Option Addr) (c8 : Nat) (A12 : Option Addr) (c12 : Nat) (A13 : Option Addr) (c13 : Nat), v = .agg #[.int .i64 n.id, .int .i64 n.term, .int .i64 n.vote, .int .i64 n.role, .int .i64 n.lead, .slice A5 n.cf.length c5, .int .i64 n.st, .int .i64 n.tm, .slice A8 n.es.length c8, .int .i64 n.cm, .int .i64 n.ck, .int .i64 n.lm, .slice A12 n.vs.length c12, .slice A13 n.ps.length c13] ∧ NodeC n A5 c5 A8 c8 A12 c12 A13 c13 w
theorem vmono_nodeR (n : NF) : VMono (NodeR n) := by
  rintro w w' v ⟨A5, c5, A8, c8, A12, c12, A13, c13, hv, hC⟩ hb
  exact ⟨A5, c5, A8, c8, A12, c12, A13, c13, hv, hC.below hb⟩
theorem R_none {α : Type} {d : Kd α} {e base : Nat} {ok : Nat → Prop} {w : World} {A : Option Addr} {n c : Nat} {xs : List α} (h : d.R e w base ok (.slice A n c) xs) : A = none → c = 0 := by
  intro hA
  obtain ⟨h0, inner, hown, hr⟩ := h
  rcases hown.2 with ⟨h1, h2⟩ | ⟨g, cap, cur, h1, h2, h3, h4, h5, h6, h7⟩
  · injection h1 with a1 a2 a3
  · injection h1 with a1 a2 a3
    rw [hA] at a1
    cases a1
theorem toN_C (a0 a1 a2 a3 a4 : Int) (A5 : Option Addr) (c5 : Nat) (cf : List Int) (a6 a7 : Int) (A8 : Option Addr) (c8 : Nat) (es : List S122) (a9 a10 a11 : Int) (A12 : Option Addr) (c12 : Nat) (vs : List Int) (A13 : Option Addr) (c13 : Nat) (ps : List S98) (m : NF) (hm : Hid (m = ⟨a0, a1, a2, a3, a4, cf, a6, a7, es.map conv, a9, a10, a11, vs, ps.map convP⟩)) (w : World) (h5 : cf.length ≤ c5) (C5 : Kd.C (Kd.int .i64) w A5 cf.length cf) (h8 : es.length ≤ c8) (C8 : Kd.C k122 w A8 es.length es) (h12 : vs.length ≤ c12) (C12 : Kd.C (Kd.int .i64) w A12 vs.length vs) (h13 : ps.length ≤ c13) (C13 : Kd.C k98 w A13 ps.length ps)
    (l5 : cf.length ≤ 1048576) (l8 : es.length ≤ 1048576) (l12 : vs.length ≤ 1048576) (l13 : ps.length ≤ 1048576) :
    Calls Try.prog 8 #[.agg #[.int .i64 a0, .int .i64 a1, .int .i64 a2, .int .i64 a3, .int .i64 a4, .slice A5 cf.length c5, .int .i64 a6, .int .i64 a7, .slice A8 es.length c8, .int .i64 a9, .int .i64 a10, .int .i64 a11, .slice A12 vs.length c12, .slice A13 ps.length c13]] w fun e w' => ∃ v, e = .returned v ∧ NodeR m w' v ∧ Below w.heap.size w w' := by
  obtain rfl := hm.out
  refine (PFnExactSettle.laws_toNode.calls 3145735 a0 a1 a2 a3 a4 A5 c5 cf a6 a7 A8 c8 es a9 a10 a11 A12 c12 vs A13 c13 ps _ _ _ _ _ _ _ _ _ _ _ _ _ _ w C5 h5 C8 h8 C12 h12 C13 h13 (toN_f a0 a1 a2 a3 a4 A5 c5 cf a6 a7 A8 c8 es a9 a10 a11 A12 c12 vs A13 c13 ps l5 l8 l12 l13)).mono ?_
  rintro e w' ⟨v5, v8, v12, v13, rfl, R5, R8, R12, R13, hb⟩
  obtain ⟨B5, b5, rfl, g5, D5⟩ := Kd.R_reads R5
  obtain ⟨B8, b8, rfl, g8, D8⟩ := Kd.R_reads R8
  obtain ⟨B12, b12, rfl, g12, D12⟩ := Kd.R_reads R12
  obtain ⟨B13, b13, rfl, g13, D13⟩ := Kd.R_reads R13
  exact ⟨_, rfl, ⟨B5, b5, B8, b8, B12, b12, B13, b13, rfl, ⟨D5, g5, R_none R5, D8, g8, R_none R8, D12, g12, R_none R12, D13, g13, R_none R13⟩⟩, hb⟩
end Go.Proofs.Ytallakebnoighaa
end

section
namespace Go.Proofs.Ytallakebnoighaa.PFnExactSettle
open Go.RowKit Go.Proofs.YtallakebnoighaaW.PrintWords Go.Proofs.YtallakebnoighaaW.PrintLast Go.Proofs.YtallakebnoighaaW.PrintMore
set_option linter.unusedVariables false
set_option linter.unusedSimpArgs false
def laws_markIntS.l0 : Nat → List Int → Int → Int → Option (Int × List Int)
  | 0, _, _, _ => none
  | k + 1, x0, x1, x5 => if x5 < (x0.length : Int) then (if 0 ≤ x5 then (laws_markIntS.l0 k (x0.set (x5 : Int).toNat x1) (wrap64 (x1 + 1)) (wrap64 (x5 + 1))) else (none)) else (some (x1, x0))
def laws_markIntS.f (k : Nat) (l0 : List Int) (a1 : Int) : Option (Int × List Int) := laws_markIntS.l0 k l0 a1 0
theorem laws_markIntS.mono_l : ∀ k, (∀ y0 y1 y2, LeO (laws_markIntS.l0 k y0 y1 y2) (laws_markIntS.l0 (k + 1) y0 y1 y2))
  | 0 => fun _ _ _ r h => by simp [laws_markIntS.l0] at h
  | k + 1 => by
    have ih0 := laws_markIntS.mono_l k
    · intro y0 y1 y2
      unfold laws_markIntS.l0
      repeat' first
      | (with_reducible exact ih0 _ _ _)
      | (with_reducible exact LeO.refl _)
      | (with_reducible exact LeO.none _)
      | (with_reducible refine LeO.ite ?_ ?_)
      | (with_reducible refine LeO.bind ?_ (fun _ => ?_))
      | exact ih0 _ _ _
      | exact LeO.none _
      | refine LeO.ite ?_ ?_
      | refine LeO.bind ?_ (fun _ => ?_)
theorem laws_markIntS.mono : ∀ a0 a1 k, LeO (laws_markIntS.f k a0 a1) (laws_markIntS.f (k + 1) a0 a1) := by
  intro a0 a1 k
  have ih0 := laws_markIntS.mono_l k
  unfold laws_markIntS.f
  repeat' first
      | (with_reducible exact ih0 _ _ _)
      | (with_reducible exact LeO.refl _)
      | (with_reducible exact LeO.none _)
      | (with_reducible refine LeO.ite ?_ ?_)
      | (with_reducible refine LeO.bind ?_ (fun _ => ?_))
      | exact ih0 _ _ _
      | exact LeO.none _
      | refine LeO.ite ?_ ?_
      | refine LeO.bind ?_ (fun _ => ?_)
set_option maxHeartbeats 8000000 in
set_option maxRecDepth 100000 in
theorem laws_markIntS.calls (k : Nat) (P0_ : Nat → Prop) (u9000_ : Value) (l0 : List Int) (a1 : Int) (r1 : Int) (r2 : List Int) (w0 w : World) (hB : Below w0.heap.size w0 w) (ho0 : Kd.R (Kd.int .i64) 3 w w0.heap.size P0_ u9000_ l0) (h : laws_markIntS.f k l0 a1 = some (r1, r2)) :
    Calls Try.prog 53 #[u9000_, .int .i64 a1] w fun e w' => e = .returned (.int .i64 r1) ∧ Kd.R (Kd.int .i64) 3 w' w0.heap.size (fun k_ => (P0_ k_ ∨ w.heap.size ≤ k_)) u9000_ r2 ∧ Below w0.heap.size w0 w' ∧ Kept w w' (fun k_ => P0_ k_) := by
  have HO0 := Aside0.mk (show Kd.R (Kd.int .i64) 3 w w0.heap.size (fun k_ => (P0_ k_ ∨ w.heap.size ≤ k_)) u9000_ l0 from Kd.R_mono ho0 (fun k_ hk => (.inl hk)))
  have HK := Aside0.mk (Kept.refl w (fun k_ => P0_ k_))
  have HW0 := Aside0.mk hB.size
  have HB := Aside0.mk hB
  clear hB
  have H : (laws_markIntS.l0 k l0 a1 0) = some (r1, r2) := h
  clear h
  have H' := Aside0.mk H
  clear H
  go_enter Try.func53, Try.ntmps53
  go_wp2
  go_loopg [1, 5] k (fun kq v1 v5 w' => ∃ (x0_1 : List Int) (x1_1 : Int) (x5_1 : Int), v1 = .int .i64 x1_1 ∧ v5 = .int .i64 x5_1 ∧ Aside0 (laws_markIntS.l0 kq x0_1 x1_1 x5_1 = some (r1, r2)) ∧ Aside0 (kq ≤ k) ∧ Aside0 (Kd.R (Kd.int .i64) 3 w' w0.heap.size (fun k_ => (P0_ k_ ∨ w.heap.size ≤ k_)) u9000_ x0_1) ∧ Aside0 (Kept w w' (fun k_ => P0_ k_)) ∧ Aside0 (Below w0.heap.size w0 w'))
  case atStart => exact ⟨(l0), (a1), (0), (by first | rfl | (simp; done) | (simp [*]; done)), (by first | rfl | (simp; done) | (simp [*]; done)), H', ⟨Nat.le_refl _⟩, ⟨by (with_reducible repeat (first | apply Kd.R_alloc | apply Kd.R_drewN | apply Kd.R_drew)); exact HO0.out⟩, ⟨by repeat (first | (with_reducible first | exact HK.out | apply Kept.alloc | apply Kept.drewN | apply Kept.drew) | exact HK.out)⟩, ⟨by repeat (first | (with_reducible first | exact HB.out | apply below_alloc | apply pw_below_drewN | apply below_drew1) | exact HB.out)⟩⟩
  case round =>
    clear H'
    try clear p2
    obtain ⟨x0_1, x1_1, x5_1, rfl, rfl, HA, HK1, HO_0, HK, HB⟩ := hrel
    cases gk with
    | zero => exact absurd HA.out (by simp [laws_markIntS.l0])
    | succ k1 =>
      have H := HA.out
      clear HA
      simp only [laws_markIntS.l0] at H
      by_cases c3 : x5_1 < (x0_1.length : Int)
      · rw [if_pos c3] at H
        have c3b0 : decide (x5_1 < (x0_1.length : Int)) = true := decide_eq_true c3
        clear c3
        by_cases c4 : 0 ≤ x5_1
        · rw [if_pos c4] at H
          have c4b0 : decide (0 ≤ x5_1) = true := decide_eq_true c4
          clear c4
          obtain ⟨y400, hy400⟩ : ∃ y_ : List Int, y_ = (x0_1.set (x5_1 : Int).toNat x1_1) := ⟨_, rfl⟩
          replace H : (laws_markIntS.l0 k1 y400 (wrap64 (x1_1 + 1)) (wrap64 (x5_1 + 1))) = some (r1, r2) := by first | (rw [hy400]; with_reducible exact H) | (have H2_ := (Option.bind_some _ _).symm.trans H; rw [hy400]; with_reducible exact H2_) | (have H2_ := (Option.bind_some _ _).symm.trans H; with_reducible exact H2_) | with_reducible exact H | (rw [hy400]; exact H) | exact H
          have Ny400 := Aside0.mk hy400
          clear hy400
          have H' := Aside0.mk H
          clear H
          obtain ⟨Ao6, co6, eo6⟩ := Kd.R_slice HO_0.out
          subst eo6
          have p5 : 0 ≤ (x5_1 : Int) := of_decide_eq_true (by first | (with_reducible assumption) | assumption)
          have q5 : (x5_1 : Int) < ((x0_1.length : Int) : Int) := of_decide_eq_true (by first | (with_reducible assumption) | assumption)
          obtain ⟨go5, co5, eo5, gb5, gl5, cl5, HG5⟩ := Kd.R_form HO_0.out (by omega)
          (first | cases eo5 | (injection eo5 with ea_ en_ ec_; (first | subst ea_ | (injection ea_ with ea_; subst ea_)); subst ec_; clear en_))
          have GB5 := Aside0.mk gb5
          have GG5 := Aside0.mk HG5
          clear gb5 gl5 HG5
          have HMgo5 := Aside0.mk (show (P0_ go5 ∨ w.heap.size ≤ go5) from (HO_0.out.1 _ rfl))
          obtain ⟨hx5_0, hf5_0⟩ := Kd.R_celln 0 HO_0.out (x5_1 : Int) p5 q5
          replace p5 := eq_true p5
          replace q5 := eq_true q5
          have HP7 := Kd.R_putg HO_0.out (x5_1 : Int) x1_1
          go_wp2_with (first | ((with_reducible refine gate_store (t := 3) (p := 15) rfl ?_); refine store_event (t := 3) (p := 15) (v := ?vo_w8) (w1 := (wr.setCell ⟨go5, (x5_1 : Int).toNat, none⟩ (.int .i64 x1_1))) ?hg ?ho ?hn ?hr ?_; (case ho => rfl); (case hg => rfl); (case hn => rfl); (case hr => first | (go_simp; done) | (go_simp; rfl)); intro w8 hw; have hg : wr.grownBy w8 (some go5) := (by rw [hw]; exact HP7.2); have hp_ : Kd.R (Kd.int .i64) 3 w8 w0.heap.size (fun k_ => (P0_ k_ ∨ w.heap.size ≤ k_)) (.slice (some ⟨go5, 0, none⟩) x0_1.length co6) y400 := (by rw [hw, Ny400.out]; exact HP7.1); clear HP7; have n0_ := Aside0.mk (hp_); have n1_ := Aside0.mk ((by rw [hw]; exact below_set (HB.out) GB5.out : Below w0.heap.size w0 w8)); have n2_ := Aside0.mk (Kept.of_grown (S := (fun k_ => P0_ k_)) hg (by repeat (first | (with_reducible first | exact HK.out | apply Kept.alloc | apply Kept.drewN | apply Kept.drew) | exact HK.out)) (fun k_ e_ => (HO_0.out.1 k_ e_))); clear HO_0; clear HB; clear HK; have HO_0 := n0_; have HB := n1_; have HK := n2_; clear n0_ n1_ n2_; clear hg hw hp_))
          go_roundg k1
          case measure => have := HK1.out; omega
          case rel => exact ⟨(y400), (wrap64 (x1_1 + 1)), (wrap64 (x5_1 + 1)), (by first | rfl | (simp; done) | (simp [*]; done)), (by first | rfl | (simp; done) | (simp [*]; done)), H', ⟨by have := HK1.out; omega⟩, ⟨by (with_reducible repeat (first | apply Kd.R_alloc | apply Kd.R_drewN | apply Kd.R_drew)); exact HO_0.out⟩, ⟨by repeat (first | (with_reducible first | exact HK.out | apply Kept.alloc | apply Kept.drewN | apply Kept.drew) | exact HK.out)⟩, ⟨by repeat (first | (with_reducible first | exact HB.out | apply below_alloc | apply pw_below_drewN | apply below_drew1) | exact HB.out)⟩⟩
        · rw [if_neg c4] at H
          exact absurd H (by simp)
      · rw [if_neg c3] at H
        have c3b0 : decide (x5_1 < (x0_1.length : Int)) = false := decide_eq_false c3
        clear c3
        simp only [Option.some.injEq, Prod.mk.injEq] at H
        obtain ⟨rfl, rfl⟩ := H
        obtain ⟨Ao9, co9, eo9⟩ := Kd.R_slice HO_0.out
        subst eo9
        go_wp2
        go_ret
        exact ⟨by first | rfl | (simp [errW_none, errW_some] <;> rfl) | (simp [*, errW_none, errW_some] <;> rfl), by (with_reducible repeat (first | apply Kd.R_alloc | apply Kd.R_drewN | apply Kd.R_drew)); exact HO_0.out, by repeat (first | (with_reducible first | exact HB.out | apply below_alloc | apply pw_below_drewN | apply below_drew1) | exact HB.out), by repeat (first | (with_reducible first | exact HK.out | apply Kept.alloc | apply Kept.drewN | apply Kept.drew) | exact HK.out)⟩
end Go.Proofs.Ytallakebnoighaa.PFnExactSettle
end

section
namespace Go.Proofs.Ytallakebnoighaa.PFnExactSettle
open Go.RowKit Go.Proofs.YtallakebnoighaaW.PrintWords Go.Proofs.YtallakebnoighaaW.PrintLast Go.Proofs.YtallakebnoighaaW.PrintMore
set_option linter.unusedVariables false
set_option linter.unusedSimpArgs false
def laws_heldIntS.l0 : Nat → List Int → Int → Int → Option (Int)
  | 0, _, _, _ => none
  | k + 1, x0, x1, x5 => if x5 < (x0.length : Int) then (if 0 ≤ x5 then (if (rd x0 x5) = x1 then (laws_heldIntS.l0 k x0 (wrap64 (x1 + 1)) (wrap64 (x5 + 1))) else (some (-1))) else (none)) else (some x1)
def laws_heldIntS.f (k : Nat) (l0 : List Int) (a1 : Int) : Option (Int) := laws_heldIntS.l0 k l0 a1 0
theorem laws_heldIntS.mono_l : ∀ k, (∀ y0 y1 y2, LeO (laws_heldIntS.l0 k y0 y1 y2) (laws_heldIntS.l0 (k + 1) y0 y1 y2))
  | 0 => fun _ _ _ r h => by simp [laws_heldIntS.l0] at h
  | k + 1 => by
    have ih0 := laws_heldIntS.mono_l k
    · intro y0 y1 y2
      unfold laws_heldIntS.l0
      repeat' first
      | (with_reducible exact ih0 _ _ _)
      | (with_reducible exact LeO.refl _)
      | (with_reducible exact LeO.none _)
      | (with_reducible refine LeO.ite ?_ ?_)
      | (with_reducible refine LeO.bind ?_ (fun _ => ?_))
      | exact ih0 _ _ _
      | exact LeO.none _
      | refine LeO.ite ?_ ?_
      | refine LeO.bind ?_ (fun _ => ?_)
theorem laws_heldIntS.mono : ∀ a0 a1 k, LeO (laws_heldIntS.f k a0 a1) (laws_heldIntS.f (k + 1) a0 a1) := by
  intro a0 a1 k
  have ih0 := laws_heldIntS.mono_l k
  unfold laws_heldIntS.f
  repeat' first
      | (with_reducible exact ih0 _ _ _)
      | (with_reducible exact LeO.refl _)
      | (with_reducible exact LeO.none _)
      | (with_reducible refine LeO.ite ?_ ?_)
      | (with_reducible refine LeO.bind ?_ (fun _ => ?_))
      | exact ih0 _ _ _
      | exact LeO.none _
      | refine LeO.ite ?_ ?_
      | refine LeO.bind ?_ (fun _ => ?_)
set_option maxHeartbeats 8000000 in
set_option maxRecDepth 100000 in
theorem laws_heldIntS.calls (k : Nat) (A0 : Option Addr) (c0 : Nat) (l0 : List Int) (a1 : Int) (r : Int) (w : World) (hr0 : Kd.C (Kd.int .i64) w A0 l0.length l0) (hc0 : l0.length ≤ c0) (h : laws_heldIntS.f k l0 a1 = some r) :
    Calls Try.prog 56 #[.slice A0 l0.length c0, .int .i64 a1] w fun e w' => e = .returned (.int .i64 r) ∧ Drawn0 w w' := by
  have HR0 := Aside0.mk hr0
  have HC0 := Aside0.mk hc0
  clear hr0 hc0
  have H : (laws_heldIntS.l0 k l0 a1 0) = some r := h
  clear h
  have H' := Aside0.mk H
  clear H
  go_enter Try.func56, Try.ntmps56
  go_wp2
  go_loopg [1, 5] k (fun kq v1 v5 w' => ∃ (x1_1 : Int) (x5_1 : Int), v1 = .int .i64 x1_1 ∧ v5 = .int .i64 x5_1 ∧ Aside0 (laws_heldIntS.l0 kq l0 x1_1 x5_1 = some r) ∧ Aside0 (kq ≤ k) ∧ Drawn0 w w')
  case atStart => exact ⟨(a1), (0), (by first | rfl | (simp; done) | (simp [*]; done)), (by first | rfl | (simp; done) | (simp [*]; done)), H', ⟨Nat.le_refl _⟩, by repeat (first | exact Drawn0.refl _ | apply Drawn0.step)⟩
  case round =>
    clear H'
    try clear p2
    obtain ⟨x1_1, x5_1, rfl, rfl, HA, HK1, ⟨m1, rfl⟩⟩ := hrel
    cases gk with
    | zero => exact absurd HA.out (by simp [laws_heldIntS.l0])
    | succ k1 =>
      have H := HA.out
      clear HA
      simp only [laws_heldIntS.l0] at H
      by_cases c3 : x5_1 < (l0.length : Int)
      · rw [if_pos c3] at H
        have c3b0 : decide (x5_1 < (l0.length : Int)) = true := decide_eq_true c3
        clear c3
        by_cases c4 : 0 ≤ x5_1
        · rw [if_pos c4] at H
          have c4b0 : decide (0 ≤ x5_1) = true := decide_eq_true c4
          clear c4
          by_cases c5 : (rd l0 x5_1) = x1_1
          · rw [if_pos c5] at H
            have c5b0 : ((rd l0 x5_1) == x1_1) = true := beq_iff_eq.mpr c5
            have c5b1 : ((rd l0 x5_1) != x1_1) = false := bne_eq_false_iff_eq.mpr c5
            clear c5
            have H' := Aside0.mk H
            clear H
            have p424 : 0 ≤ (x5_1 : Int) := of_decide_eq_true (by first | (with_reducible assumption) | assumption)
            have q424 : x5_1 < (l0.length : Int) := of_decide_eq_true (by first | (with_reducible assumption) | assumption)
            obtain ⟨ad424, e424, hx424_0⟩ := Kd.at_int HR0.out x5_1 p424 q424
            cases e424
            replace p424 := eq_true p424
            replace q424 := eq_true q424
            go_wp2
            go_roundg k1
            case measure => have := HK1.out; omega
            case rel => exact ⟨(wrap64 (x1_1 + 1)), (wrap64 (x5_1 + 1)), (by first | rfl | (simp; done) | (simp [*]; done)), (by first | rfl | (simp; done) | (simp [*]; done)), H', ⟨by have := HK1.out; omega⟩, by repeat (first | exact Drawn0.refl _ | apply Drawn0.step)⟩
          · rw [if_neg c5] at H
            have c5b0 : ((rd l0 x5_1) == x1_1) = false := beq_eq_false_iff_ne.mpr c5
            have c5b1 : ((rd l0 x5_1) != x1_1) = true := bne_iff_ne.mpr c5
            obtain rfl := Option.some.inj H
            have p424 : 0 ≤ (x5_1 : Int) := of_decide_eq_true (by first | (with_reducible assumption) | assumption)
            have q424 : x5_1 < (l0.length : Int) := of_decide_eq_true (by first | (with_reducible assumption) | assumption)
            obtain ⟨ad424, e424, hx424_0⟩ := Kd.at_int HR0.out x5_1 p424 q424
            cases e424
            replace p424 := eq_true p424
            replace q424 := eq_true q424
            go_wp2
            go_ret
            exact ⟨by first | rfl | (simp; done) | (simp [*]; done), by repeat (first | exact Drawn0.refl _ | apply Drawn0.step)⟩
        · rw [if_neg c4] at H
          exact absurd H (by simp)
      · rw [if_neg c3] at H
        have c3b0 : decide (x5_1 < (l0.length : Int)) = false := decide_eq_false c3
        clear c3
        obtain rfl := Option.some.inj H
        go_wp2
        go_ret
        exact ⟨by first | rfl | (simp; done) | (simp [*]; done), by repeat (first | exact Drawn0.refl _ | apply Drawn0.step)⟩
end Go.Proofs.Ytallakebnoighaa.PFnExactSettle
end

section
namespace Go.Proofs.Ytallakebnoighaa.PFnExactSettle
open Go.RowKit Go.Proofs.YtallakebnoighaaW.PrintWords
set_option linter.unusedSimpArgs false
set_option linter.unusedVariables false
def marksI (a : Int) : Nat → List Int
  | 0 => []
  | n + 1 => a :: marksI (a + 1) n
theorem marksI_length : ∀ (n : Nat) (a : Int), (marksI a n).length = n
  | 0, _ => rfl
  | n + 1, a => by simp [marksI, marksI_length n]
theorem marksI_snoc : ∀ (n : Nat) (a : Int), marksI a (n + 1) = marksI a n ++ [a + n]
  | 0, a => by simp [marksI]
  | n + 1, a => by
    have := marksI_snoc n (a + 1)
    rw [marksI, this, marksI, List.cons_append, show a + 1 + (n : Int) = a + ((n + 1 : Nat) : Int) from by omega]
theorem rd_marksI : ∀ (n i : Nat) (a : Int), i < n → rd (marksI a n) i = a + i
  | 0, _, _, h => by omega
  | n + 1, 0, a, _ => by simp [marksI, rd]
  | n + 1, i + 1, a, h => by
    have := rd_marksI n i (a + 1) (by omega)
    have e : rd (marksI a (n + 1)) ((i + 1 : Nat) : Int) = rd (marksI (a + 1) n) (i : Int) := by simp [marksI, rd]
    rw [e, this]; omega
theorem markI_l0 (xs : List Int) (m : Int) (hm0 : 0 ≤ m) (hm1 : m ≤ 1099511627776) (hl : xs.length ≤ 1099511627776) : ∀ (n k i : Nat), n + i = xs.length → n < k →
    laws_markIntS.l0 k (marksI m i ++ xs.drop i) (m + i) i = some (m + xs.length, marksI m xs.length)
  | _, 0, _, _, hk => by omega
  | 0, k + 1, i, h, hk => by
    unfold laws_markIntS.l0
    rw [if_neg (by simp [marksI_length]; omega), show i = xs.length from by omega, List.drop_length, List.append_nil]
  | n + 1, k + 1, i, h, hk => by
    have e1 : wrap64 ((i : Int) + 1) = ((i + 1 : Nat) : Int) := by unfold wrap64; omega
    have e2 : wrap64 (m + (i : Int) + 1) = m + ((i + 1 : Nat) : Int) := by unfold wrap64; omega
    unfold laws_markIntS.l0
    rw [if_pos (by simp [marksI_length]; omega), if_pos (by omega), e1, e2]
    clear e1 e2
    have hi : i < xs.length := by omega
    have hs : (marksI m i ++ xs.drop i).set ((i : Int)).toNat (m + i) = marksI m (i + 1) ++ xs.drop (i + 1) := by
      rw [Int.toNat_natCast, List.set_append_right _ _ (by rw [marksI_length]; omega), marksI_length, Nat.sub_self, List.drop_eq_getElem_cons hi, List.set_cons_zero, marksI_snoc, List.append_assoc]
      rfl
    rw [hs]
    exact markI_l0 xs m hm0 hm1 hl n k (i + 1) (by omega) (by omega)
theorem markI_f (xs : List Int) (m : Int) (k : Nat) (hk : xs.length < k) (hm0 : 0 ≤ m) (hm1 : m ≤ 1099511627776) (hl : xs.length ≤ 1099511627776) : laws_markIntS.f k xs m = some (m + xs.length, marksI m xs.length) := by
  have := markI_l0 xs m hm0 hm1 hl xs.length k 0 (by omega) hk
  simpa [laws_markIntS.f, marksI] using this
theorem heldI_l0 (N : Nat) (m : Int) (hm0 : 0 ≤ m) (hm1 : m ≤ 1099511627776) (hl : N ≤ 1099511627776) : ∀ (n k i : Nat), n + i = N → n < k →
    laws_heldIntS.l0 k (marksI m N) (m + i) i = some (m + N)
  | _, 0, _, _, hk => by omega
  | 0, k + 1, i, h, hk => by
    unfold laws_heldIntS.l0
    rw [if_neg (by rw [marksI_length]; omega), show i = N from by omega]
  | n + 1, k + 1, i, h, hk => by
    have e1 : wrap64 ((i : Int) + 1) = ((i + 1 : Nat) : Int) := by unfold wrap64; omega
    have e2 : wrap64 (m + (i : Int) + 1) = m + ((i + 1 : Nat) : Int) := by unfold wrap64; omega
    unfold laws_heldIntS.l0
    rw [if_pos (by rw [marksI_length]; omega), if_pos (by omega), if_pos (rd_marksI N i m (by omega)), e1, e2]
    clear e1 e2
    exact heldI_l0 N m hm0 hm1 hl n k (i + 1) (by omega) (by omega)
theorem heldI_f (N : Nat) (m : Int) (k : Nat) (hk : N < k) (hm0 : 0 ≤ m) (hm1 : m ≤ 1099511627776) (hl : N ≤ 1099511627776) : laws_heldIntS.f k (marksI m N) m = some (m + N) := by
  have := heldI_l0 N m hm0 hm1 hl N k 0 (by omega) hk
  simpa [laws_heldIntS.f] using this
end Go.Proofs.Ytallakebnoighaa.PFnExactSettle
end

section
namespace Go.Proofs.Ytallakebnoighaa.PFnExactSettle
open Go.RowKit Go.Proofs.YtallakebnoighaaW.PrintWords Go.Proofs.YtallakebnoighaaW.PrintLast Go.Proofs.YtallakebnoighaaW.PrintMore
set_option linter.unusedVariables false
set_option linter.unusedSimpArgs false
def laws_markText.l0 : Nat → Int → ByteArray → Option (ByteArray)
  | 0, _, _ => none
  | k + 1, x0, x3 => if x0 > 0 then ((some (([(wrap64 (48 + (Int.tmod x0 10))) % 256] : List Int) : List Int)).bind fun y401 => (if (strOfNums y401).size + x3.size ≤ 9223372036854775807 then (laws_markText.l0 k (wrap64 (Int.tdiv x0 10)) ((strOfNums y401) ++ x3)) else (none))) else (if 1 + x3.size ≤ 9223372036854775807 then (some ((⟨#[109]⟩ : ByteArray) ++ x3)) else (none))
def laws_markText.f (k : Nat) (a0 : Int) : Option (ByteArray) := if a0 ≤ 0 then (some (⟨#[109, 48]⟩ : ByteArray)) else (laws_markText.l0 k a0 (⟨#[]⟩ : ByteArray))
theorem laws_markText.mono_l : ∀ k, (∀ y0 y1, LeO (laws_markText.l0 k y0 y1) (laws_markText.l0 (k + 1) y0 y1))
  | 0 => fun _ _ r h => by simp [laws_markText.l0] at h
  | k + 1 => by
    have ih0 := laws_markText.mono_l k
    · intro y0 y1
      unfold laws_markText.l0
      repeat' first
      | (with_reducible exact ih0 _ _)
      | (with_reducible exact LeO.refl _)
      | (with_reducible exact LeO.none _)
      | (with_reducible refine LeO.ite ?_ ?_)
      | (with_reducible refine LeO.bind ?_ (fun _ => ?_))
      | exact ih0 _ _
      | exact LeO.none _
      | refine LeO.ite ?_ ?_
      | refine LeO.bind ?_ (fun _ => ?_)
theorem laws_markText.mono : ∀ a0 k, LeO (laws_markText.f k a0) (laws_markText.f (k + 1) a0) := by
  intro a0 k
  have ih0 := laws_markText.mono_l k
  unfold laws_markText.f
  repeat' first
      | (with_reducible exact ih0 _ _)
      | (with_reducible exact LeO.refl _)
      | (with_reducible exact LeO.none _)
      | (with_reducible refine LeO.ite ?_ ?_)
      | (with_reducible refine LeO.bind ?_ (fun _ => ?_))
      | exact ih0 _ _
      | exact LeO.none _
      | refine LeO.ite ?_ ?_
      | refine LeO.bind ?_ (fun _ => ?_)
set_option maxHeartbeats 8000000 in
set_option maxRecDepth 100000 in
theorem laws_markText.calls (k : Nat) (a0 : Int) (r : ByteArray) (w : World) (h : laws_markText.f k a0 = some r) :
    Calls Try.prog 103 #[.int .i64 a0] w fun e w' => e = .returned (.string r) ∧ Below w.heap.size w w' := by
  have HB := Aside0.mk (Below.refl w.heap.size w)
  have H : (if a0 ≤ 0 then (some (⟨#[109, 48]⟩ : ByteArray)) else (laws_markText.l0 k a0 (⟨#[]⟩ : ByteArray))) = some r := h
  clear h
  by_cases c2 : a0 ≤ 0
  · rw [if_pos c2] at H
    have c2b0 : decide (a0 ≤ 0) = true := decide_eq_true c2
    clear c2
    obtain rfl := Option.some.inj H
    go_enter Try.func103, Try.ntmps103
    go_wp2
    go_ret
    exact ⟨by first | rfl | (simp [errW_none, errW_some] <;> rfl) | (simp [*, errW_none, errW_some] <;> rfl), by repeat (first | (with_reducible first | exact HB.out | apply below_alloc | apply pw_below_drewN | apply below_drew1) | exact HB.out)⟩
  · rw [if_neg c2] at H
    have c2b0 : decide (a0 ≤ 0) = false := decide_eq_false c2
    clear c2
    have H' := Aside0.mk H
    clear H
    go_enter Try.func103, Try.ntmps103
    go_wp2
    go_loopg [0, 3] k (fun kq v0 v3 w' => ∃ (x0_1 : Int) (x3_1 : ByteArray), v0 = .int .i64 x0_1 ∧ v3 = .string x3_1 ∧ Aside0 (laws_markText.l0 kq x0_1 x3_1 = some r) ∧ Aside0 (kq ≤ k) ∧ Aside0 (Below w.heap.size w w'))
    case atStart => exact ⟨(a0), ((⟨#[]⟩ : ByteArray)), (by first | rfl | (simp; done) | (simp [*]; done)), (by first | rfl | (simp; done) | (simp [*]; done)), H', ⟨Nat.le_refl _⟩, ⟨by repeat (first | (with_reducible first | exact HB.out | apply below_alloc | apply pw_below_drewN | apply below_drew1) | exact HB.out)⟩⟩
    case round =>
      clear H'
      try clear c1
      try clear c2
      try clear c2b0
      try clear p2
      obtain ⟨x0_1, x3_1, rfl, rfl, HA, HK1, HB⟩ := hrel
      cases gk with
      | zero => exact absurd HA.out (by simp [laws_markText.l0])
      | succ k1 =>
        have H := HA.out
        clear HA
        simp only [laws_markText.l0] at H
        by_cases c3 : x0_1 > 0
        · rw [if_pos c3] at H
          have c3b0 : decide (0 < x0_1) = true := decide_eq_true c3
          clear c3
          obtain ⟨y401, hy401⟩ : ∃ y_ : List Int, y_ = (([(wrap64 (48 + (Int.tmod x0_1 10))) % 256] : List Int)) := ⟨_, rfl⟩
          replace H : (if (strOfNums y401).size + x3_1.size ≤ 9223372036854775807 then (laws_markText.l0 k1 (wrap64 (Int.tdiv x0_1 10)) ((strOfNums y401) ++ x3_1)) else (none)) = some r := by first | (rw [hy401]; with_reducible exact H) | (have H2_ := (Option.bind_some _ _).symm.trans H; rw [hy401]; with_reducible exact H2_) | (have H2_ := (Option.bind_some _ _).symm.trans H; with_reducible exact H2_) | with_reducible exact H | (rw [hy401]; exact H) | exact H
          have Ny401 := Aside0.mk hy401
          clear hy401
          by_cases c4 : (strOfNums y401).size + x3_1.size ≤ 9223372036854775807
          · rw [if_pos c4] at H
            have c4b0 := eq_true c4
            have c4b1 : decide ((strOfNums y401).size + x3_1.size ≤ 9223372036854775807) = true := decide_eq_true c4
            try have c4b2 : (9223372036854775807 < (strOfNums y401).size + x3_1.size) = False := eq_false (Nat.not_lt.2 c4)
            have H' := Aside0.mk H
            clear H
            go_wp2_with (first | ((with_reducible refine gate_dst (N := 12) rfl ?_); refine Kd.R_lit (Kd.int .u8) _ 5 ?hg (N := 12) ?hd (xs := ([(wrap64 (48 + (Int.tmod x0_1 10))) % 256] : List Int)) (inner := [.int .u8 ((wrap64 (48 + (Int.tmod x0_1 10))) % 256)]) (ok := fun _ => True) (okp := fun _ => True) ?hr ?hp (fun _ hk => hk) trivial (Below.refl _ _) (Nat.le_refl _) (by simp) ?_; (case hd => rfl); (case hg => rfl); (case hr => first | (go_simp; done) | (go_simp; rfl)); (case hp => exact (Reps.one (show Kd.M (Kd.int .u8) _ _ _ ((wrap64 (48 + (Int.tmod x0_1 10))) % 256) [.int .u8 ((wrap64 (48 + (Int.tmod x0_1 10))) % 256)] from rfl) (Reps.none _ _))); intro v402 w5 ho6 hb hg_ hnew_; clear hg_ hnew_; (first | rw [← Ny401.out] at ho6 | (simp only [Int.reduceToNat] at ho6; rw [← Ny401.out] at ho6)); have n0_ := Aside0.mk (Kd.R_lower ho6 (below_size (by repeat (first | (with_reducible first | exact HB.out | apply below_alloc | apply pw_below_drewN | apply below_drew1) | exact HB.out)))); have n1_ := Aside0.mk (below_step (by repeat (first | (with_reducible first | exact HB.out | apply below_alloc | apply pw_below_drewN | apply below_drew1) | exact HB.out)) hb); clear HB; have HO403 := n0_; have HB := n1_; clear n0_ n1_; clear hb ho6; have hcv7 := own_string (P := Try.prog) Try.underlying44 Try.underlying5 Try.underlying9 (Kd.own_of_R HO403.out)))
            go_roundg k1
            case measure => have := HK1.out; omega
            case rel => exact ⟨(wrap64 (Int.tdiv x0_1 10)), ((strOfNums y401) ++ x3_1), (by first | rfl | (simp; done) | (simp [*]; done)), (by first | rfl | (simp; done) | (simp [*]; done)), H', ⟨by have := HK1.out; omega⟩, ⟨by repeat (first | (with_reducible first | exact HB.out | apply below_alloc | apply pw_below_drewN | apply below_drew1) | exact HB.out)⟩⟩
          · rw [if_neg c4] at H
            exact absurd H (by simp)
        · rw [if_neg c3] at H
          have c3b0 : decide (0 < x0_1) = false := decide_eq_false c3
          clear c3
          by_cases c8 : 1 + x3_1.size ≤ 9223372036854775807
          · rw [if_pos c8] at H
            have c8b0 := eq_true c8
            have c8b1 : decide (1 + x3_1.size ≤ 9223372036854775807) = true := decide_eq_true c8
            try have c8b2 : (9223372036854775807 < 1 + x3_1.size) = False := eq_false (Nat.not_lt.2 c8)
            obtain rfl := Option.some.inj H
            go_wp2
            go_ret
            exact ⟨by first | rfl | (simp [errW_none, errW_some] <;> rfl) | (simp [*, errW_none, errW_some] <;> rfl), by repeat (first | (with_reducible first | exact HB.out | apply below_alloc | apply pw_below_drewN | apply below_drew1) | exact HB.out)⟩
          · rw [if_neg c8] at H
            exact absurd H (by simp)
end Go.Proofs.Ytallakebnoighaa.PFnExactSettle
end

section
namespace Go.Proofs.Ytallakebnoighaa.PFnExactSettle
open Go.RowKit Go.Proofs.YtallakebnoighaaW.PrintWords Go.Proofs.YtallakebnoighaaW.PrintLast Go.Proofs.YtallakebnoighaaW.PrintMore
set_option linter.unusedVariables false
set_option linter.unusedSimpArgs false
def laws_markEntryS.l0 : Nat → List (S87) → Int → Int → Option (Int × (List (S87)))
  | 0, _, _, _ => none
  | k + 1, x0, x1, x5 => if x5 < (x0.length : Int) then (if 0 ≤ x5 then ((some (x0.set (x5 : Int).toNat (⟨x1, (rd_T87 x0 x5).f1, (rd_T87 x0 x5).f2⟩ : S87) : List (S87))).bind fun y404 => ((some (y404.set (x5 : Int).toNat (⟨(rd_T87 y404 x5).f0, wrap64 (x1 + 1), (rd_T87 y404 x5).f2⟩ : S87) : List (S87))).bind fun y405 => ((laws_markText.f k (wrap64 ((wrap64 (x1 + 1)) + 1))).bind fun t406 => (laws_markEntryS.l0 k (y405.set (x5 : Int).toNat (⟨(rd_T87 y405 x5).f0, (rd_T87 y405 x5).f1, t406⟩ : S87)) (wrap64 ((wrap64 ((wrap64 (x1 + 1)) + 1)) + 1)) (wrap64 (x5 + 1)))))) else (none)) else (some (x1, x0))
def laws_markEntryS.f (k : Nat) (l0 : List (S87)) (a1 : Int) : Option (Int × (List (S87))) := laws_markEntryS.l0 k l0 a1 0
theorem laws_markEntryS.mono_l : ∀ k, (∀ y0 y1 y2, LeO (laws_markEntryS.l0 k y0 y1 y2) (laws_markEntryS.l0 (k + 1) y0 y1 y2))
  | 0 => fun _ _ _ r h => by simp [laws_markEntryS.l0] at h
  | k + 1 => by
    have ih0 := laws_markEntryS.mono_l k
    · intro y0 y1 y2
      unfold laws_markEntryS.l0
      repeat' first
      | (with_reducible exact ih0 _ _ _)
      | (with_reducible exact laws_markText.mono _ _)
      | (with_reducible exact LeO.refl _)
      | (with_reducible exact LeO.none _)
      | (with_reducible refine LeO.ite ?_ ?_)
      | (with_reducible refine LeO.bind ?_ (fun _ => ?_))
      | exact ih0 _ _ _
      | exact laws_markText.mono _ _
      | exact LeO.none _
      | refine LeO.ite ?_ ?_
      | refine LeO.bind ?_ (fun _ => ?_)
theorem laws_markEntryS.mono : ∀ a0 a1 k, LeO (laws_markEntryS.f k a0 a1) (laws_markEntryS.f (k + 1) a0 a1) := by
  intro a0 a1 k
  have ih0 := laws_markEntryS.mono_l k
  unfold laws_markEntryS.f
  repeat' first
      | (with_reducible exact ih0 _ _ _)
      | (with_reducible exact laws_markText.mono _ _)
      | (with_reducible exact LeO.refl _)
      | (with_reducible exact LeO.none _)
      | (with_reducible refine LeO.ite ?_ ?_)
      | (with_reducible refine LeO.bind ?_ (fun _ => ?_))
      | exact ih0 _ _ _
      | exact laws_markText.mono _ _
      | exact LeO.none _
      | refine LeO.ite ?_ ?_
      | refine LeO.bind ?_ (fun _ => ?_)
set_option maxHeartbeats 8000000 in
set_option maxRecDepth 100000 in
theorem laws_markEntryS.calls (k : Nat) (P0_ : Nat → Prop) (u9000_ : Value) (l0 : List (S87)) (a1 : Int) (r1 : Int) (r2 : List (S87)) (w0 w : World) (hB : Below w0.heap.size w0 w) (ho0 : Kd.R k87 87 w w0.heap.size P0_ u9000_ l0) (h : laws_markEntryS.f k l0 a1 = some (r1, r2)) :
    Calls Try.prog 86 #[u9000_, .int .i64 a1] w fun e w' => e = .returned (.int .i64 r1) ∧ Kd.R k87 87 w' w0.heap.size (fun k_ => (P0_ k_ ∨ w.heap.size ≤ k_)) u9000_ r2 ∧ Below w0.heap.size w0 w' ∧ Kept w w' (fun k_ => P0_ k_) := by
  have HO0 := Aside0.mk (show Kd.R k87 87 w w0.heap.size (fun k_ => (P0_ k_ ∨ w.heap.size ≤ k_)) u9000_ l0 from Kd.R_mono ho0 (fun k_ hk => (.inl hk)))
  have HK := Aside0.mk (Kept.refl w (fun k_ => P0_ k_))
  have HW0 := Aside0.mk hB.size
  have HB := Aside0.mk hB
  clear hB
  have H : (laws_markEntryS.l0 k l0 a1 0) = some (r1, r2) := h
  clear h
  have H' := Aside0.mk H
  clear H
  go_enter Try.func86, Try.ntmps86
  go_wp2
  go_loopg [1, 5] k (fun kq v1 v5 w' => ∃ (x0_1 : List (S87)) (x1_1 : Int) (x5_1 : Int), v1 = .int .i64 x1_1 ∧ v5 = .int .i64 x5_1 ∧ Aside0 (laws_markEntryS.l0 kq x0_1 x1_1 x5_1 = some (r1, r2)) ∧ Aside0 (kq ≤ k) ∧ Aside0 (Kd.R k87 87 w' w0.heap.size (fun k_ => (P0_ k_ ∨ w.heap.size ≤ k_)) u9000_ x0_1) ∧ Aside0 (Kept w w' (fun k_ => P0_ k_)) ∧ Aside0 (Below w0.heap.size w0 w'))
  case atStart => exact ⟨(l0), (a1), (0), (by first | rfl | (simp; done) | (simp [*]; done)), (by first | rfl | (simp; done) | (simp [*]; done)), H', ⟨Nat.le_refl _⟩, ⟨by (with_reducible repeat (first | apply Kd.R_alloc | apply Kd.R_drewN | apply Kd.R_drew)); exact HO0.out⟩, ⟨by repeat (first | (with_reducible first | exact HK.out | apply Kept.alloc | apply Kept.drewN | apply Kept.drew) | exact HK.out)⟩, ⟨by repeat (first | (with_reducible first | exact HB.out | apply below_alloc | apply pw_below_drewN | apply below_drew1) | exact HB.out)⟩⟩
  case round =>
    clear H'
    try clear p2
    obtain ⟨x0_1, x1_1, x5_1, rfl, rfl, HA, HK1, HO_0, HK, HB⟩ := hrel
    cases gk with
    | zero => exact absurd HA.out (by simp [laws_markEntryS.l0])
    | succ k1 =>
      have H := HA.out
      clear HA
      simp only [laws_markEntryS.l0] at H
      by_cases c3 : x5_1 < (x0_1.length : Int)
      · rw [if_pos c3] at H
        have c3b0 : decide (x5_1 < (x0_1.length : Int)) = true := decide_eq_true c3
        clear c3
        by_cases c4 : 0 ≤ x5_1
        · rw [if_pos c4] at H
          have c4b0 : decide (0 ≤ x5_1) = true := decide_eq_true c4
          clear c4
          obtain ⟨y404, hy404⟩ : ∃ y_ : List (S87), y_ = (x0_1.set (x5_1 : Int).toNat (⟨x1_1, (rd_T87 x0_1 x5_1).f1, (rd_T87 x0_1 x5_1).f2⟩ : S87)) := ⟨_, rfl⟩
          replace H : ((some (y404.set (x5_1 : Int).toNat (⟨(rd_T87 y404 x5_1).f0, wrap64 (x1_1 + 1), (rd_T87 y404 x5_1).f2⟩ : S87) : List (S87))).bind fun y405 => ((laws_markText.f k1 (wrap64 ((wrap64 (x1_1 + 1)) + 1))).bind fun t406 => (laws_markEntryS.l0 k1 (y405.set (x5_1 : Int).toNat (⟨(rd_T87 y405 x5_1).f0, (rd_T87 y405 x5_1).f1, t406⟩ : S87)) (wrap64 ((wrap64 ((wrap64 (x1_1 + 1)) + 1)) + 1)) (wrap64 (x5_1 + 1))))) = some (r1, r2) := by first | (rw [hy404]; with_reducible exact H) | (have H2_ := (Option.bind_some _ _).symm.trans H; rw [hy404]; with_reducible exact H2_) | (have H2_ := (Option.bind_some _ _).symm.trans H; with_reducible exact H2_) | with_reducible exact H | (rw [hy404]; exact H) | exact H
          have Ny404 := Aside0.mk hy404
          clear hy404
          obtain ⟨y405, hy405⟩ : ∃ y_ : List (S87), y_ = (y404.set (x5_1 : Int).toNat (⟨(rd_T87 y404 x5_1).f0, wrap64 (x1_1 + 1), (rd_T87 y404 x5_1).f2⟩ : S87)) := ⟨_, rfl⟩
          replace H : ((laws_markText.f k1 (wrap64 ((wrap64 (x1_1 + 1)) + 1))).bind fun t406 => (laws_markEntryS.l0 k1 (y405.set (x5_1 : Int).toNat (⟨(rd_T87 y405 x5_1).f0, (rd_T87 y405 x5_1).f1, t406⟩ : S87)) (wrap64 ((wrap64 ((wrap64 (x1_1 + 1)) + 1)) + 1)) (wrap64 (x5_1 + 1)))) = some (r1, r2) := by first | (rw [hy405]; with_reducible exact H) | (have H2_ := (Option.bind_some _ _).symm.trans H; rw [hy405]; with_reducible exact H2_) | (have H2_ := (Option.bind_some _ _).symm.trans H; with_reducible exact H2_) | with_reducible exact H | (rw [hy405]; exact H) | exact H
          have Ny405 := Aside0.mk hy405
          clear hy405
          replace H := Option.bind_eq_some_iff.mp H
          obtain ⟨t406, A70, H⟩ := H
          replace H : (laws_markEntryS.l0 k1 (y405.set (x5_1 : Int).toNat (⟨(rd_T87 y405 x5_1).f0, (rd_T87 y405 x5_1).f1, t406⟩ : S87)) (wrap64 ((wrap64 ((wrap64 (x1_1 + 1)) + 1)) + 1)) (wrap64 (x5_1 + 1))) = some (r1, r2) := H
          have A7 := Aside0.mk A70
          clear A70
          obtain ⟨y407, hy407⟩ : ∃ y_ : List (S87), y_ = (y405.set (x5_1 : Int).toNat (⟨(rd_T87 y405 x5_1).f0, (rd_T87 y405 x5_1).f1, t406⟩ : S87)) := ⟨_, rfl⟩
          replace H : (laws_markEntryS.l0 k1 y407 (wrap64 ((wrap64 ((wrap64 (x1_1 + 1)) + 1)) + 1)) (wrap64 (x5_1 + 1))) = some (r1, r2) := by first | (rw [hy407]; with_reducible exact H) | (have H2_ := (Option.bind_some _ _).symm.trans H; rw [hy407]; with_reducible exact H2_) | (have H2_ := (Option.bind_some _ _).symm.trans H; with_reducible exact H2_) | with_reducible exact H | (rw [hy407]; exact H) | exact H
          have Ny407 := Aside0.mk hy407
          clear hy407
          have H' := Aside0.mk H
          clear H
          obtain ⟨Ao9, co9, eo9⟩ := Kd.R_slice HO_0.out
          subst eo9
          have p5 : 0 ≤ (x5_1 : Int) := of_decide_eq_true (by first | (with_reducible assumption) | assumption)
          have q5 : (x5_1 : Int) < ((x0_1.length : Int) : Int) := of_decide_eq_true (by first | (with_reducible assumption) | assumption)
          obtain ⟨go5, co5, eo5, gb5, gl5, cl5, HG5⟩ := Kd.R_form HO_0.out (by omega)
          (first | cases eo5 | (injection eo5 with ea_ en_ ec_; (first | subst ea_ | (injection ea_ with ea_; subst ea_)); subst ec_; clear en_))
          have GB5 := Aside0.mk gb5
          have GG5 := Aside0.mk HG5
          clear gb5 gl5 HG5
          have HMgo5 := Aside0.mk (show (P0_ go5 ∨ w.heap.size ≤ go5) from (HO_0.out.1 _ rfl))
          obtain ⟨ce5, hcl5, hM5, hcc5, hfr5⟩ := Kd.R_elem HO_0.out z87 (x5_1 : Int) p5 q5
          obtain rfl := k87_openM hM5
          have hx5_0 : wr.cell? ⟨go5, (x5_1 : Int).toNat * 3, none⟩ = some (.int .i64 ((rd_T87 x0_1 x5_1).f0)) := hcc5 0 _ rfl
          have hx5_1 : wr.cell? ⟨go5, (x5_1 : Int).toNat * 3 + 1, none⟩ = some (.int .i64 ((rd_T87 x0_1 x5_1).f1)) := hcc5 1 _ rfl
          have hx5_2 : wr.cell? ⟨go5, (x5_1 : Int).toNat * 3 + 2, none⟩ = some (.string ((rd_T87 x0_1 x5_1).f2)) := hcc5 2 _ rfl
          have hf5_0 : wr.frozen? ⟨go5, (x5_1 : Int).toNat * 3, none⟩ = false := hfr5 0
          have hf5_1 : wr.frozen? ⟨go5, (x5_1 : Int).toNat * 3 + 1, none⟩ = false := hfr5 1
          have hf5_2 : wr.frozen? ⟨go5, (x5_1 : Int).toNat * 3 + 2, none⟩ = false := hfr5 2
          clear hcl5 hcc5 hfr5 hM5
          replace p5 := eq_true p5
          replace q5 := eq_true q5
          have HX10 := Aside0.mk (show Kd.R k87 87 wr w0.heap.size (fun k_ => (P0_ k_ ∨ w.heap.size ≤ k_)) (.slice (some ⟨go5, 0, none⟩) x0_1.length co9) x0_1 from (by (with_reducible repeat (first | apply Kd.R_alloc | apply Kd.R_drewN | apply Kd.R_drew)); exact HO_0.out))
          obtain ⟨ce10, hcl10, hM10, hcc10, hfr10⟩ := Kd.R_elem HX10.out z87 (x5_1 : Int) (of_decide_eq_true (by first | (with_reducible assumption) | assumption)) (by have h_ : (x5_1 : Int) < ((x0_1.length : Int) : Int) := of_decide_eq_true (by first | (with_reducible assumption) | assumption); first | exact h_ | (have e_ := (Kd.R_reads' HO_0.out).1; omega) | simpa using h_)
          obtain rfl := k87_openM hM10
          have HP10 := Kd.R_seg HX10.out (x5_1 : Int) (of_decide_eq_true (by first | (with_reducible assumption) | assumption)) (by have h_ : (x5_1 : Int) < ((x0_1.length : Int) : Int) := of_decide_eq_true (by first | (with_reducible assumption) | assumption); first | exact h_ | (have e_ := (Kd.R_reads' HO_0.out).1; omega) | simpa using h_) (seg := [.int .i64 x1_1]) (j := 0) hcl10 hcc10 (show 1 ≤ 3 from by decide) (x' := (⟨x1_1, (rd_T87 x0_1 x5_1).f1, (rd_T87 x0_1 x5_1).f2⟩ : S87)) (k87_mkM _ _ _ (⟨x1_1, (rd_T87 x0_1 x5_1).f1, (rd_T87 x0_1 x5_1).f2⟩ : S87) ) (fun _ hk => hk)
          have hx10_0 := hcc10 0 _ rfl
          (try simp only [show (k87).sz = 3 from rfl, Nat.mul_one, Nat.add_zero] at hx10_0)
          have hf10_0 := hfr10 0
          (try simp only [show (k87).sz = 3 from rfl, Nat.mul_one, Nat.add_zero] at hf10_0)
          clear hcl10 hcc10 hfr10 hM10
          go_wp2_with (first | ((with_reducible refine gate_store (t := 3) (p := 16) rfl ?_); refine store_event (t := 3) (p := 16) (v := ?vo_w11) (w1 := (wr.setCell ⟨go5, (x5_1 : Int).toNat * 3, none⟩ (.int .i64 x1_1))) ?hg ?ho ?hn ?hr ?_; (case ho => rfl); (case hg => rfl); (case hn => rfl); (case hr => first | (go_simp; done) | (go_simp; rfl)); intro w11 hw; have hg : wr.grownBy w11 (some go5) := (by rw [hw]; exact HP10.2); have hp_ : Kd.R k87 87 w11 w0.heap.size (fun k_ => (P0_ k_ ∨ w.heap.size ≤ k_)) (.slice (some ⟨go5, 0, none⟩) x0_1.length co9) y404 := (by rw [hw, Ny404.out]; exact HP10.1); clear HP10; have n0_ := Aside0.mk (hp_); have n1_ := Aside0.mk ((by rw [hw]; exact below_set (HB.out) GB5.out : Below w0.heap.size w0 w11)); have n2_ := Aside0.mk (Kept.of_grown (S := (fun k_ => P0_ k_)) hg (by repeat (first | (with_reducible first | exact HK.out | apply Kept.alloc | apply Kept.drewN | apply Kept.drew) | exact HK.out)) (fun k_ e_ => (HO_0.out.1 k_ e_))); clear HO_0; clear HB; clear HK; have HO_0 := n0_; have HB := n1_; have HK := n2_; clear n0_ n1_ n2_; clear hg hw hp_; have p6 : 0 ≤ (x5_1 : Int) := of_decide_eq_true (by first | (with_reducible assumption) | assumption); have q6 : (x5_1 : Int) < ((x0_1.length : Int) : Int) := of_decide_eq_true (by first | (with_reducible assumption) | assumption); obtain ⟨ce6, hcl6, hM6, hcc6, hfr6⟩ := Kd.R_elem HO_0.out z87 (x5_1 : Int) p6 q6; obtain rfl := k87_openM hM6; have hx6_0 : w11.cell? ⟨go5, (x5_1 : Int).toNat * 3, none⟩ = some (.int .i64 ((rd_T87 y404 x5_1).f0)) := hcc6 0 _ rfl; have hx6_1 : w11.cell? ⟨go5, (x5_1 : Int).toNat * 3 + 1, none⟩ = some (.int .i64 ((rd_T87 y404 x5_1).f1)) := hcc6 1 _ rfl; have hx6_2 : w11.cell? ⟨go5, (x5_1 : Int).toNat * 3 + 2, none⟩ = some (.string ((rd_T87 y404 x5_1).f2)) := hcc6 2 _ rfl; have hf6_0 : w11.frozen? ⟨go5, (x5_1 : Int).toNat * 3, none⟩ = false := hfr6 0; have hf6_1 : w11.frozen? ⟨go5, (x5_1 : Int).toNat * 3 + 1, none⟩ = false := hfr6 1; have hf6_2 : w11.frozen? ⟨go5, (x5_1 : Int).toNat * 3 + 2, none⟩ = false := hfr6 2; clear hcl6 hcc6 hfr6 hM6; replace p6 := eq_true p6; replace q6 := eq_true q6; have HX12 := Aside0.mk (show Kd.R k87 87 w11 w0.heap.size (fun k_ => (P0_ k_ ∨ w.heap.size ≤ k_)) (.slice (some ⟨go5, 0, none⟩) x0_1.length co9) y404 from (by (with_reducible repeat (first | apply Kd.R_alloc | apply Kd.R_drewN | apply Kd.R_drew)); exact HO_0.out)); obtain ⟨ce12, hcl12, hM12, hcc12, hfr12⟩ := Kd.R_elem HX12.out z87 (x5_1 : Int) (of_decide_eq_true (by first | (with_reducible assumption) | assumption)) (by have h_ : (x5_1 : Int) < ((x0_1.length : Int) : Int) := of_decide_eq_true (by first | (with_reducible assumption) | assumption); first | exact h_ | (have e_ := (Kd.R_reads' HO_0.out).1; omega) | simpa using h_); obtain rfl := k87_openM hM12; have HP12 := Kd.R_seg HX12.out (x5_1 : Int) (of_decide_eq_true (by first | (with_reducible assumption) | assumption)) (by have h_ : (x5_1 : Int) < ((x0_1.length : Int) : Int) := of_decide_eq_true (by first | (with_reducible assumption) | assumption); first | exact h_ | (have e_ := (Kd.R_reads' HO_0.out).1; omega) | simpa using h_) (seg := [.int .i64 (wrap64 (x1_1 + 1))]) (j := 1) hcl12 hcc12 (show 2 ≤ 3 from by decide) (x' := (⟨(rd_T87 y404 x5_1).f0, wrap64 (x1_1 + 1), (rd_T87 y404 x5_1).f2⟩ : S87)) (k87_mkM _ _ _ (⟨(rd_T87 y404 x5_1).f0, wrap64 (x1_1 + 1), (rd_T87 y404 x5_1).f2⟩ : S87) ) (fun _ hk => hk); have hx12_1 := hcc12 1 _ rfl; (try simp only [show (k87).sz = 3 from rfl, Nat.mul_one, Nat.add_zero] at hx12_1); have hf12_1 := hfr12 1; (try simp only [show (k87).sz = 3 from rfl, Nat.mul_one, Nat.add_zero] at hf12_1); clear hcl12 hcc12 hfr12 hM12) | ((with_reducible refine gate_store (t := 3) (p := 23) rfl ?_); refine store_event (t := 3) (p := 23) (v := ?vo_w13) (w1 := (w11.setCell ⟨go5, (x5_1 : Int).toNat * 3 + 1, none⟩ (.int .i64 (wrap64 (x1_1 + 1))))) ?hg ?ho ?hn ?hr ?_; (case ho => rfl); (case hg => rfl); (case hn => rfl); (case hr => first | (go_simp; done) | (go_simp; rfl)); intro w13 hw; have hg : w11.grownBy w13 (some go5) := (by rw [hw]; exact HP12.2); have hp_ : Kd.R k87 87 w13 w0.heap.size (fun k_ => (P0_ k_ ∨ w.heap.size ≤ k_)) (.slice (some ⟨go5, 0, none⟩) x0_1.length co9) y405 := (by rw [hw, Ny405.out]; exact HP12.1); clear HP12; have n0_ := Aside0.mk (hp_); have n1_ := Aside0.mk ((by rw [hw]; exact below_set (HB.out) GB5.out : Below w0.heap.size w0 w13)); have n2_ := Aside0.mk (Kept.of_grown (S := (fun k_ => P0_ k_)) hg (by repeat (first | (with_reducible first | exact HK.out | apply Kept.alloc | apply Kept.drewN | apply Kept.drew) | exact HK.out)) (fun k_ e_ => (HO_0.out.1 k_ e_))); clear HO_0; clear HB; clear HK; have HO_0 := n0_; have HB := n1_; have HK := n2_; clear n0_ n1_ n2_; clear hg hw hp_) | ((with_reducible refine gate_callee (f := 103) rfl ?_); refine goesL_ (some 29) rfl rfl Try.func103 (by kernel_rfl) rfl #[.int .i64 (wrap64 ((wrap64 (x1_1 + 1)) + 1))] rfl (by (try simp only [List.map_toArray, List.map_cons, List.map_nil]); first | done | rfl | (simp only [List.length_drop, List.length_take]; rfl)) ?_; (with_reducible refine (laws_markText.calls k1 (wrap64 ((wrap64 (x1_1 + 1)) + 1)) t406 _ A7.out).mono ?_); rintro e w14 ⟨rfl, hb⟩; refine ⟨_, rfl, ?_⟩; have n0_ := Aside0.mk (Kd.R_below (by (with_reducible repeat (first | apply Kd.R_alloc | apply Kd.R_drewN | apply Kd.R_drew)); exact HO_0.out) hb); have n1_ := Aside0.mk (Kept.below (S := (fun k_ => P0_ k_)) (by repeat (first | (with_reducible first | exact HK.out | apply Kept.alloc | apply Kept.drewN | apply Kept.drew) | exact HK.out)) hb); have n2_ := Aside0.mk (below_step (by repeat (first | (with_reducible first | exact HB.out | apply below_alloc | apply pw_below_drewN | apply below_drew1) | exact HB.out)) hb); clear HO_0; clear HK; clear HB; have HO_0 := n0_; have HK := n1_; have HB := n2_; clear n0_ n1_ n2_; (try clear hb); (try clear hb2); (try clear hk); (try clear hi); have p8 : 0 ≤ (x5_1 : Int) := of_decide_eq_true (by first | (with_reducible assumption) | assumption); have q8 : (x5_1 : Int) < ((x0_1.length : Int) : Int) := of_decide_eq_true (by first | (with_reducible assumption) | assumption); obtain ⟨ce8, hcl8, hM8, hcc8, hfr8⟩ := Kd.R_elem HO_0.out z87 (x5_1 : Int) p8 q8; obtain rfl := k87_openM hM8; have hx8_0 : w14.cell? ⟨go5, (x5_1 : Int).toNat * 3, none⟩ = some (.int .i64 ((rd_T87 y405 x5_1).f0)) := hcc8 0 _ rfl; have hx8_1 : w14.cell? ⟨go5, (x5_1 : Int).toNat * 3 + 1, none⟩ = some (.int .i64 ((rd_T87 y405 x5_1).f1)) := hcc8 1 _ rfl; have hx8_2 : w14.cell? ⟨go5, (x5_1 : Int).toNat * 3 + 2, none⟩ = some (.string ((rd_T87 y405 x5_1).f2)) := hcc8 2 _ rfl; have hf8_0 : w14.frozen? ⟨go5, (x5_1 : Int).toNat * 3, none⟩ = false := hfr8 0; have hf8_1 : w14.frozen? ⟨go5, (x5_1 : Int).toNat * 3 + 1, none⟩ = false := hfr8 1; have hf8_2 : w14.frozen? ⟨go5, (x5_1 : Int).toNat * 3 + 2, none⟩ = false := hfr8 2; clear hcl8 hcc8 hfr8 hM8; replace p8 := eq_true p8; replace q8 := eq_true q8; have HX15 := Aside0.mk (show Kd.R k87 87 w14 w0.heap.size (fun k_ => (P0_ k_ ∨ w.heap.size ≤ k_)) (.slice (some ⟨go5, 0, none⟩) x0_1.length co9) y405 from (by (with_reducible repeat (first | apply Kd.R_alloc | apply Kd.R_drewN | apply Kd.R_drew)); exact HO_0.out)); obtain ⟨ce15, hcl15, hM15, hcc15, hfr15⟩ := Kd.R_elem HX15.out z87 (x5_1 : Int) (of_decide_eq_true (by first | (with_reducible assumption) | assumption)) (by have h_ : (x5_1 : Int) < ((x0_1.length : Int) : Int) := of_decide_eq_true (by first | (with_reducible assumption) | assumption); first | exact h_ | (have e_ := (Kd.R_reads' HO_0.out).1; omega) | simpa using h_); obtain rfl := k87_openM hM15; have HP15 := Kd.R_seg HX15.out (x5_1 : Int) (of_decide_eq_true (by first | (with_reducible assumption) | assumption)) (by have h_ : (x5_1 : Int) < ((x0_1.length : Int) : Int) := of_decide_eq_true (by first | (with_reducible assumption) | assumption); first | exact h_ | (have e_ := (Kd.R_reads' HO_0.out).1; omega) | simpa using h_) (seg := [.string t406]) (j := 2) hcl15 hcc15 (show 3 ≤ 3 from by decide) (x' := (⟨(rd_T87 y405 x5_1).f0, (rd_T87 y405 x5_1).f1, t406⟩ : S87)) (k87_mkM _ _ _ (⟨(rd_T87 y405 x5_1).f0, (rd_T87 y405 x5_1).f1, t406⟩ : S87) ) (fun _ hk => hk); have hx15_2 := hcc15 2 _ rfl; (try simp only [show (k87).sz = 3 from rfl, Nat.mul_one, Nat.add_zero] at hx15_2); have hf15_2 := hfr15 2; (try simp only [show (k87).sz = 3 from rfl, Nat.mul_one, Nat.add_zero] at hf15_2); clear hcl15 hcc15 hfr15 hM15) | ((with_reducible refine gate_store (t := 9) (p := 31) rfl ?_); refine store_event (t := 9) (p := 31) (v := ?vo_w16) (w1 := (w14.setCell ⟨go5, (x5_1 : Int).toNat * 3 + 2, none⟩ (.string t406))) ?hg ?ho ?hn ?hr ?_; (case ho => rfl); (case hg => rfl); (case hn => rfl); (case hr => first | (go_simp; done) | (go_simp; rfl)); intro w16 hw; have hg : w14.grownBy w16 (some go5) := (by rw [hw]; exact HP15.2); have hp_ : Kd.R k87 87 w16 w0.heap.size (fun k_ => (P0_ k_ ∨ w.heap.size ≤ k_)) (.slice (some ⟨go5, 0, none⟩) x0_1.length co9) y407 := (by rw [hw, Ny407.out]; exact HP15.1); clear HP15; have n0_ := Aside0.mk (hp_); have n1_ := Aside0.mk ((by rw [hw]; exact below_set (HB.out) GB5.out : Below w0.heap.size w0 w16)); have n2_ := Aside0.mk (Kept.of_grown (S := (fun k_ => P0_ k_)) hg (by repeat (first | (with_reducible first | exact HK.out | apply Kept.alloc | apply Kept.drewN | apply Kept.drew) | exact HK.out)) (fun k_ e_ => (HO_0.out.1 k_ e_))); clear HO_0; clear HB; clear HK; have HO_0 := n0_; have HB := n1_; have HK := n2_; clear n0_ n1_ n2_; clear hg hw hp_))
          go_roundg k1
          case measure => have := HK1.out; omega
          case rel => exact ⟨(y407), (wrap64 ((wrap64 ((wrap64 (x1_1 + 1)) + 1)) + 1)), (wrap64 (x5_1 + 1)), (by first | rfl | (simp; done) | (simp [*]; done)), (by first | rfl | (simp; done) | (simp [*]; done)), H', ⟨by have := HK1.out; omega⟩, ⟨by (with_reducible repeat (first | apply Kd.R_alloc | apply Kd.R_drewN | apply Kd.R_drew)); exact HO_0.out⟩, ⟨by repeat (first | (with_reducible first | exact HK.out | apply Kept.alloc | apply Kept.drewN | apply Kept.drew) | exact HK.out)⟩, ⟨by repeat (first | (with_reducible first | exact HB.out | apply below_alloc | apply pw_below_drewN | apply below_drew1) | exact HB.out)⟩⟩
        · rw [if_neg c4] at H
          exact absurd H (by simp)
      · rw [if_neg c3] at H
        have c3b0 : decide (x5_1 < (x0_1.length : Int)) = false := decide_eq_false c3
        clear c3
        simp only [Option.some.injEq, Prod.mk.injEq] at H
        obtain ⟨rfl, rfl⟩ := H
        obtain ⟨Ao17, co17, eo17⟩ := Kd.R_slice HO_0.out
        subst eo17
        go_wp2
        go_ret
        exact ⟨by first | rfl | (simp [errW_none, errW_some] <;> rfl) | (simp [*, errW_none, errW_some] <;> rfl), by (with_reducible repeat (first | apply Kd.R_alloc | apply Kd.R_drewN | apply Kd.R_drew)); exact HO_0.out, by repeat (first | (with_reducible first | exact HB.out | apply below_alloc | apply pw_below_drewN | apply below_drew1) | exact HB.out), by repeat (first | (with_reducible first | exact HK.out | apply Kept.alloc | apply Kept.drewN | apply Kept.drew) | exact HK.out)⟩
end Go.Proofs.Ytallakebnoighaa.PFnExactSettle
end
