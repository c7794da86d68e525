import Derived.Test.YtlbikcelfheohaaMsgLaw
import Derived.Test.YtlbikcelfheohaaOpen
import Derived.Test.YtlbikcelfheohaaFlow
namespace Go.Proofs.Ytlbikcelfheohaa
open Go.RowKit Go.Proofs.YtlbikcelfheohaaW.PrintWords PFnExactMessageOk
set_option linter.unusedSimpArgs false
set_option linter.unusedVariables false

theorem opens_entry (W : World) : Opens Try.prog W 127 k127 (fun x => x.f2.size ≤ maxLen) :=
  Opens.imp (opens_iso (d := Kd.pair (Kd.int .i64) (Kd.pair (Kd.int .i64) Kd.string)) (p := fun x : S127 => (x.f0, x.f1, x.f2)) (fun t => ⟨t.1, t.2.1, t.2.2⟩) (fun _ => rfl)
    (opens_struct Try.underlying127 (by kernel_rfl)
      (opensL_cons rfl (opens_int Try.underlying3) (by kernel_rfl) (opensL_cons rfl (opens_int Try.underlying3) (by kernel_rfl) (opensL_last rfl (opens_string Try.underlying9) (by kernel_rfl)))))) (fun _ h => h.2.2)
theorem opens_msg (W : World) : Opens Try.prog W 38 (Kd.pair (Kd.int .i64) (Kd.pair (Kd.int .i64) (Kd.pair (Kd.int .i64) (Kd.pair (Kd.int .i64) (Kd.pair (Kd.int .i64) (Kd.pair (Kd.int .i64) (Kd.pair (Kd.int .i64) (Kd.pair Kd.bool (Kd.pair (Kd.slice 127 k127) (Kd.pair (Kd.slice 3 (Kd.int .i64)) (Kd.pair Kd.string Kd.bool)))))))))))
    (fun x => (x.2.2.2.2.2.2.2.2.1.length ≤ maxLen ∧ ∀ y ∈ x.2.2.2.2.2.2.2.2.1, y.f2.size ≤ maxLen) ∧ x.2.2.2.2.2.2.2.2.2.1.length ≤ maxLen ∧ x.2.2.2.2.2.2.2.2.2.2.1.size ≤ maxLen) := by
  exact Opens.imp (opens_struct Try.underlying38 (by kernel_rfl)
    (opensL_cons rfl (opens_int Try.underlying3) (by kernel_rfl)
    (opensL_cons rfl (opens_int Try.underlying3) (by kernel_rfl)
    (opensL_cons rfl (opens_int Try.underlying3) (by kernel_rfl)
    (opensL_cons rfl (opens_int Try.underlying3) (by kernel_rfl)
    (opensL_cons rfl (opens_int Try.underlying3) (by kernel_rfl)
    (opensL_cons rfl (opens_int Try.underlying3) (by kernel_rfl)
    (opensL_cons rfl (opens_int Try.underlying3) (by kernel_rfl)
    (opensL_cons rfl (opens_bool Try.underlying4) (by kernel_rfl)
    (opensL_cons rfl (opens_slice Try.underlying35 (by kernel_rfl) (opens_entry W)) (by kernel_rfl)
    (opensL_cons rfl (opens_slice Try.underlying36 (by kernel_rfl) (opens_int Try.underlying3)) (by kernel_rfl)
    (opensL_cons rfl (opens_string Try.underlying9) (by kernel_rfl)
    (opensL_last rfl (opens_bool Try.underlying4) (by kernel_rfl)))))))))))))) (fun _ h => ⟨h.2.2.2.2.2.2.2.2.1, h.2.2.2.2.2.2.2.2.2.1.1, h.2.2.2.2.2.2.2.2.2.2.1⟩)

theorem arg_msg {W : World} {v : Value} (h : ArgOf Try.prog W 38 v) : ∃ (a0 a1 a2 a3 a4 a5 a6 : Int) (a7 : Bool) (A8 : Option Addr) (c8 : Nat) (es : List S127) (A9 : Option Addr) (c9 : Nat) (cf : List Int) (d : ByteArray) (ls : Bool),
    v = .agg #[.int .i64 a0, .int .i64 a1, .int .i64 a2, .int .i64 a3, .int .i64 a4, .int .i64 a5, .int .i64 a6, .bool a7, .slice A8 es.length c8, .slice A9 cf.length c9, .string d, .bool ls] ∧
    es.length ≤ c8 ∧ Kd.C k127 W A8 es.length es ∧ cf.length ≤ c9 ∧ Kd.C (Kd.int .i64) W A9 cf.length cf ∧ (es.length ≤ maxLen ∧ ∀ y ∈ es, y.f2.size ≤ maxLen) ∧ cf.length ≤ maxLen ∧ d.size ≤ maxLen := by
  obtain ⟨⟨a0, a1, a2, a3, a4, a5, a6, a7, es, cf, d, ls⟩, cs, rfl, hK, hG⟩ := arg_struct Try.underlying38 (opens_msg W) h
  obtain ⟨_, _, e0, rfl, _, _, rfl, rfl, _, _, rfl, rfl, _, _, rfl, rfl, _, _, rfl, rfl, _, _, rfl, rfl, _, _, rfl, rfl, _, _, rfl, rfl, _, _, rfl, ⟨A8, c8, rfl, h8, hC8⟩, _, _, rfl, ⟨A9, c9, rfl, h9, hC9⟩, _, _, rfl, rfl, rfl⟩ := hK
  refine ⟨a0, a1, a2, a3, a4, a5, a6, a7, A8, c8, es, A9, c9, cf, d, ls, ?_, h8, hC8, h9, hC9, hG⟩
  cases cs
  simp_all

theorem laws_toM (a0 a1 a2 a3 a4 a5 a6 : Int) (a7 : Bool) (A8 : Option Addr) (c8 : Nat) (es : List S127) (fs : List S93) (A9 : Option Addr) (c9 : Nat) (cf : List Int) (d : ByteArray) (ls : Bool) (hfs : Hid (es.map conv = fs)) (w : World) (h8 : es.length ≤ c8) (hC8 : Kd.C k127 w A8 es.length es) (h9 : cf.length ≤ c9) (hC9 : Kd.C (Kd.int .i64) w A9 cf.length cf)
    (hl : es.length ≤ 1048576) (hc : cf.length ≤ 1048576) :
    Calls Try.prog 20 #[.agg #[.int .i64 a0, .int .i64 a1, .int .i64 a2, .int .i64 a3, .int .i64 a4, .int .i64 a5, .int .i64 a6, .bool a7, .slice A8 es.length c8, .slice A9 cf.length c9, .string d, .bool ls]] w fun e w' => ∃ (B8 : Option Addr) (b8 : Nat) (B9 : Option Addr) (b9 : Nat),
      e = .returned (.agg #[.int .i64 a0, .int .i64 a1, .int .i64 a2, .int .i64 a3, .int .i64 a4, .int .i64 a5, .int .i64 a6, .bool a7, .slice B8 fs.length b8, .slice B9 cf.length b9, .string d, .bool ls]) ∧ fs.length ≤ b8 ∧ Hid (Kd.C k93 w' B8 fs.length fs) ∧ cf.length ≤ b9 ∧ Hid (Kd.C (Kd.int .i64) w' B9 cf.length cf) ∧ Below w.heap.size w w' := by
  obtain rfl := hfs.out
  refine (PFnExactMessageOk.laws_toMessage.calls 3145735 a0 a1 a2 a3 a4 a5 a6 a7 A8 c8 es A9 c9 cf d ls _ _ _ _ _ _ _ _ _ _ _ _ w hC8 h8 hC9 h9 (toM_f es cf d a0 a1 a2 a3 a4 a5 a6 a7 ls hl hc)).mono ?_
  rintro e w' ⟨v8, v9, rfl, hR8, hR9, hb⟩
  obtain ⟨B8, b8, rfl, hb8, hD8⟩ := Kd.R_reads hR8
  obtain ⟨B9, b9, rfl, hb9, hD9⟩ := Kd.R_reads hR9
  exact ⟨B8, b8, B9, b9, rfl, hb8, Lib.hid hD8, hb9, Lib.hid hD9, hb⟩
section
variable (a0 a1 a2 a3 a4 a5 a6 : Int) (a7 : Bool) (fs : List S93) (cf : List Int) (d : ByteArray) (ls mb : Bool) (hmb : Hid (msgB a0 a1 a2 a3 a4 a5 a6 fs cf d ls = mb)) (hS : Short fs) (hl : fs.length ≤ 1048576) (hc : cf.length ≤ 1048576)
include hmb hS hl hc
theorem spec_msgC (B8 : Option Addr) (b8 : Nat) (B9 : Option Addr) (b9 : Nat) (w : World) (h8 : fs.length ≤ b8) (h9 : cf.length ≤ b9) (hC8 : Kd.C k93 w B8 fs.length fs) (hC9 : Kd.C (Kd.int .i64) w B9 cf.length cf) :
    Calls Try.prog 19 #[.agg #[.int .i64 a0, .int .i64 a1, .int .i64 a2, .int .i64 a3, .int .i64 a4, .int .i64 a5, .int .i64 a6, .bool a7, .slice B8 fs.length b8, .slice B9 cf.length b9, .string d, .bool ls]] w fun e w' => e = .returned (.bool mb) ∧ Below w.heap.size w w' := by
  have := PFnExactMessageOk.spec_MessageOk.calls (3145732 + 3) a0 a1 a2 a3 a4 a5 a6 a7 B8 b8 fs B9 b9 cf d ls _ w hC8 h8 hC9 h9 (smsg_f fs hS a0 a1 a2 a3 a4 a5 a6 a7 cf d ls hl hc 3145732 (by omega))
  rw [hmb.out] at this
  exact this
theorem impl_msgC (B8 : Option Addr) (b8 : Nat) (B9 : Option Addr) (b9 : Nat) (w : World) (h8 : fs.length ≤ b8) (h9 : cf.length ≤ b9) (hC8 : Kd.C k93 w B8 fs.length fs) (hC9 : Kd.C (Kd.int .i64) w B9 cf.length cf) :
    Calls Try.prog 21 #[.agg #[.int .i64 a0, .int .i64 a1, .int .i64 a2, .int .i64 a3, .int .i64 a4, .int .i64 a5, .int .i64 a6, .bool a7, .slice B8 fs.length b8, .slice B9 cf.length b9, .string d, .bool ls]] w fun e w' => e = .returned (.bool mb) ∧ Below w.heap.size w w' := by
  have := impl_MessageOk fs hS a0 a1 a2 a3 a4 a5 a6 a7 cf d ls hl hc B8 b8 B9 b9 w hC8 h8 hC9 h9
  rw [implB_eq, hmb.out] at this
  exact this
omit hmb hS in
theorem laws_eqMC (B8 : Option Addr) (b8 : Nat) (B9 : Option Addr) (b9 : Nat) (D8 : Option Addr) (d8 : Nat) (D9 : Option Addr) (d9 : Nat) (w : World) (h8 : fs.length ≤ b8) (h9 : cf.length ≤ b9) (hC8 : Kd.C k93 w B8 fs.length fs) (hC9 : Kd.C (Kd.int .i64) w B9 cf.length cf)
    (g8 : fs.length ≤ d8) (g9 : cf.length ≤ d9) (gC8 : Kd.C k93 w D8 fs.length fs) (gC9 : Kd.C (Kd.int .i64) w D9 cf.length cf) :
    Calls Try.prog 22 #[.agg #[.int .i64 a0, .int .i64 a1, .int .i64 a2, .int .i64 a3, .int .i64 a4, .int .i64 a5, .int .i64 a6, .bool a7, .slice B8 fs.length b8, .slice B9 cf.length b9, .string d, .bool ls], .agg #[.int .i64 a0, .int .i64 a1, .int .i64 a2, .int .i64 a3, .int .i64 a4, .int .i64 a5, .int .i64 a6, .bool a7, .slice D8 fs.length d8, .slice D9 cf.length d9, .string d, .bool ls]] w fun e w' => e = .returned (.bool true) ∧ Below w.heap.size w w' :=
  PFnExactMessageOk.laws_eqMessage.calls 3145735 a0 a1 a2 a3 a4 a5 a6 a7 B8 b8 fs B9 b9 cf d ls a0 a1 a2 a3 a4 a5 a6 a7 D8 d8 fs D9 d9 cf d ls _ w hC8 h8 hC9 h9 gC8 g8 gC9 g9 (eqM_f fs cf d a0 a1 a2 a3 a4 a5 a6 a7 ls hl hc)
end

/-- A message that was copied. -/
def MsgR (a0 a1 a2 a3 a4 a5 a6 : Int) (a7 : Bool) (fs : List S93) (cf : List Int) (d : ByteArray) (ls : Bool) : VPred := fun w v => ∃ (B8 : Option Addr) (b8 : Nat) (B9 : Option Addr) (b9 : Nat),
  v = .agg #[.int .i64 a0, .int .i64 a1, .int .i64 a2, .int .i64 a3, .int .i64 a4, .int .i64 a5, .int .i64 a6, .bool a7, .slice B8 fs.length b8, .slice B9 cf.length b9, .string d, .bool ls] ∧ fs.length ≤ b8 ∧ cf.length ≤ b9 ∧
    Kd.C k93 w B8 fs.length fs ∧ Kd.C (Kd.int .i64) w B9 cf.length cf
theorem vmono_msgR (a0 a1 a2 a3 a4 a5 a6 : Int) (a7 : Bool) (fs : List S93) (cf : List Int) (d : ByteArray) (ls : Bool) : VMono (MsgR a0 a1 a2 a3 a4 a5 a6 a7 fs cf d ls) := by
  rintro w w' v ⟨B8, b8, B9, b9, hv, h8, h9, c8, c9⟩ hb
  exact ⟨B8, b8, B9, b9, hv, h8, h9, Kd.C_below c8 hb, Kd.C_below c9 hb⟩

attribute [local go_sem] flowUpon
set_option maxRecDepth 100000 in
set_option maxHeartbeats 4000000 in
theorem FnExactMessageOk_walk (v : Value) (W : World) (h : ArgOf Try.prog W 38 v) :
    Calls Try.prog 6 #[v] W fun e w' => e = .returned (.bool true) ∧ Below W.heap.size W w' := by
  obtain ⟨a0, a1, a2, a3, a4, a5, a6, a7, A8, c8, es, A9, c9, cf, d, ls, rfl, h8, hC8, h9, hC9, ⟨hl, hG⟩, hc, hd⟩ := arg_msg h
  clear h
  unfold maxLen at hl hG hc hd
  obtain ⟨r, hr, hrr⟩ := sz_f es cf d a0 a1 a2 a3 a4 a5 a6 a7 ls hG hl hc hd
  have HC8 := Lib.hid hC8
  have HC9 := Lib.hid hC9
  have HG := Lib.hid hG
  have HR := Lib.hid hr
  clear hC8 hC9 hG hr
  rcases hrr with hneg | ⟨q1, q2, q3, q4⟩
  · go_enter Try.func6, Try.ntmps6
    go_wp2_with (first
      | (go_at_call 18; refine (PFnExactMessageOk.laws_szMessage.calls _ _ _ _ _ _ _ _ _ _ _ _ _ _ _ _ _ _ _ _ (Kd.C_below HC8.out (by repeat (first | exact Below.refl _ _ | apply bl_alloc | apply bl_drewN | apply bl_drew | refine bl_set ?_ (by simp) | refine bl_then ?_ (by assumption)))) h8 (Kd.C_below HC9.out (by repeat (first | exact Below.refl _ _ | apply bl_alloc | apply bl_drewN | apply bl_drew | refine bl_set ?_ (by simp) | refine bl_then ?_ (by assumption)))) h9 HR.out).mono ?_; rintro e w' ⟨rfl, hb⟩; obtain ⟨hc, hf⟩ := bcell hb; have hz : W.heap.size < w'.heap.size := (by have := hb.size; simp at this ⊢; omega)))
    all_goals
      go_ret
      exact ⟨rfl, (by repeat (first | exact Below.refl _ _ | apply bl_alloc | apply bl_drewN | apply bl_drew | refine bl_set ?_ (by simp) | refine bl_then ?_ (by assumption)))⟩
  · obtain ⟨fs, hfs⟩ : ∃ fs, Hid (es.map conv = fs) := ⟨_, Lib.hid rfl⟩
    have hfl : fs.length ≤ 1048576 := by rw [← hfs.out]; simpa using q1
    have hSh := Lib.hid (short_conv es q4)
    rw [hfs.out] at hSh
    obtain ⟨mb, hmb⟩ : ∃ mb, Hid (msgB a0 a1 a2 a3 a4 a5 a6 fs cf d ls = mb) := ⟨_, Lib.hid rfl⟩
    clear q4 hl hc hd
    go_enter Try.func6, Try.ntmps6
    go_wp2_with (first
      | (go_at_call 18; refine (PFnExactMessageOk.laws_szMessage.calls _ _ _ _ _ _ _ _ _ _ _ _ _ _ _ _ _ _ _ _ (Kd.C_below HC8.out (by repeat (first | exact Below.refl _ _ | apply bl_alloc | apply bl_drewN | apply bl_drew | refine bl_set ?_ (by simp) | refine bl_then ?_ (by assumption)))) h8 (Kd.C_below HC9.out (by repeat (first | exact Below.refl _ _ | apply bl_alloc | apply bl_drewN | apply bl_drew | refine bl_set ?_ (by simp) | refine bl_then ?_ (by assumption)))) h9 HR.out).mono ?_; rintro e w' ⟨rfl, hb⟩; obtain ⟨hc, hf⟩ := bcell hb; have hz : W.heap.size < w'.heap.size := (by have := hb.size; simp at this ⊢; omega))
      | (go_at_call 20; refine (laws_toM _ _ _ _ _ _ _ _ _ _ es fs _ _ cf _ _ hfs _ h8 (Kd.C_below HC8.out (by repeat (first | exact Below.refl _ _ | apply bl_alloc | apply bl_drewN | apply bl_drew | refine bl_set ?_ (by simp) | refine bl_then ?_ (by assumption)))) h9 (Kd.C_below HC9.out (by repeat (first | exact Below.refl _ _ | apply bl_alloc | apply bl_drewN | apply bl_drew | refine bl_set ?_ (by simp) | refine bl_then ?_ (by assumption)))) q1 q2).mono ?_; rintro e w' ⟨B8, b8, B9, b9, rfl, hb8, hD8, hb9, hD9, hb⟩; obtain ⟨hc, hf⟩ := bcell hb; have hz : W.heap.size < w'.heap.size := (by have := hb.size; simp at this ⊢; omega))
      | (go_at_call 19; refine (spec_msgC _ _ _ _ _ _ _ _ fs cf _ _ mb hmb hSh.out hfl q2 _ _ _ _ _ (by assumption) (by assumption) (Kd.C_below (Hid.out (by assumption)) (by repeat (first | exact Below.refl _ _ | apply bl_alloc | apply bl_drewN | apply bl_drew | refine bl_set ?_ (by simp) | refine bl_then ?_ (by assumption)))) (Kd.C_below (Hid.out (by assumption)) (by repeat (first | exact Below.refl _ _ | apply bl_alloc | apply bl_drewN | apply bl_drew | refine bl_set ?_ (by simp) | refine bl_then ?_ (by assumption))))).mono ?_; rintro e w' ⟨rfl, hb⟩; obtain ⟨hc, hf⟩ := bcell hb; have hz : W.heap.size < w'.heap.size := (by have := hb.size; simp at this ⊢; omega))
      | (go_at_call 21; refine (impl_msgC _ _ _ _ _ _ _ _ fs cf _ _ mb hmb hSh.out hfl q2 _ _ _ _ _ (by assumption) (by assumption) (Kd.C_below (Hid.out (by assumption)) (by repeat (first | exact Below.refl _ _ | apply bl_alloc | apply bl_drewN | apply bl_drew | refine bl_set ?_ (by simp) | refine bl_then ?_ (by assumption)))) (Kd.C_below (Hid.out (by assumption)) (by repeat (first | exact Below.refl _ _ | apply bl_alloc | apply bl_drewN | apply bl_drew | refine bl_set ?_ (by simp) | refine bl_then ?_ (by assumption))))).mono ?_; rintro e w' ⟨rfl, hb⟩; obtain ⟨hc, hf⟩ := bcell hb; have hz : W.heap.size < w'.heap.size := (by have := hb.size; simp at this ⊢; omega); have hy := hb.size; (try simp at hy); (try have hy2 := Nat.lt_of_lt_of_le (Nat.lt_succ_self _) hy))
      | (go_at_call 22; refine (laws_eqMC _ _ _ _ _ _ _ _ fs cf _ _ hfl q2 _ _ _ _ _ _ _ _ _ (by assumption) (by assumption) (Kd.C_below (Hid.out (by assumption)) (by repeat (first | exact Below.refl _ _ | apply bl_alloc | apply bl_drewN | apply bl_drew | refine bl_set ?_ (by simp) | refine bl_then ?_ (by assumption)))) (Kd.C_below (Hid.out (by assumption)) (by repeat (first | exact Below.refl _ _ | apply bl_alloc | apply bl_drewN | apply bl_drew | refine bl_set ?_ (by simp) | refine bl_then ?_ (by assumption)))) (by assumption) (by assumption) (Kd.C_below (Hid.out (by assumption)) (by repeat (first | exact Below.refl _ _ | apply bl_alloc | apply bl_drewN | apply bl_drew | refine bl_set ?_ (by simp) | refine bl_then ?_ (by assumption)))) (Kd.C_below (Hid.out (by assumption)) (by repeat (first | exact Below.refl _ _ | apply bl_alloc | apply bl_drewN | apply bl_drew | refine bl_set ?_ (by simp) | refine bl_then ?_ (by assumption))))).mono ?_; rintro e w' ⟨rfl, hb⟩; obtain ⟨hc, hf⟩ := bcell hb; have hz : W.heap.size < w'.heap.size := (by have := hb.size; simp at this ⊢; omega)))
    rotate_left
    · refine wp_region_flow [1, 5] 27 (by kernel_rfl) (by rfl) (by kernel_rfl) (by kernel_rfl) (by kernel_rfl) ?_
      iterate 2 (refine flow_valE ?_; apply Exists.intro; refine ⟨fun A wq hBq hbq hdq => ?_, ?_⟩; focus (obtain ⟨hcq, hfq⟩ := bcell hBq; (try simp [go_sem, baseF, deps, dep1, Region.binds] at hbq); (try simp [go_sem, baseF, deps, dep1, Region.binds, NewSl] at hdq); go_simp; first | exact ⟨Below.refl _ _, rfl⟩ | (rw [if_neg]; (focus (exact ⟨Below.refl _ _, rfl⟩)); (focus ((try simp only [ByteArray.size_append]); omega))) | (fail)))
      refine flow_R (MsgR a0 a1 a2 a3 a4 a5 a6 a7 fs cf d ls) (vmono_msgR _ _ _ _ _ _ _ _ _ _ _ _) (fun A wq hBq hbq hdq => ?_) ?_
      · obtain ⟨hcq, hfq⟩ := bcell hBq
        (try simp [go_sem, baseF, deps, dep1, Region.binds] at hbq)
        (try simp [go_sem, baseF, deps, dep1, Region.binds] at hdq)
        go_simp
        refine (laws_toM _ _ _ _ _ _ _ _ _ _ es fs _ _ cf _ _ hfs _ h8 (Kd.C_below HC8.out (by repeat (first | exact Below.refl _ _ | apply bl_alloc | apply bl_drewN | apply bl_drew | refine bl_set ?_ (by simp) | refine bl_then ?_ (by assumption)))) h9 (Kd.C_below HC9.out (by repeat (first | exact Below.refl _ _ | apply bl_alloc | apply bl_drewN | apply bl_drew | refine bl_set ?_ (by simp) | refine bl_then ?_ (by assumption)))) q1 q2).mono ?_
        rintro e w' ⟨B8, b8, B9, b9, rfl, hb8, hD8, hb9, hD9, hb⟩
        first | exact ⟨_, rfl, hb, B8, b8, B9, b9, rfl, hb8, hb9, hD8.out, hD9.out⟩ | exact ⟨hb, B8, b8, B9, b9, rfl, hb8, hb9, hD8.out, hD9.out⟩
      refine flow_valE ?_
      apply Exists.intro
      refine ⟨fun A wq hBq hbq hdq => ?_, ?_⟩
      · obtain ⟨hcq, hfq⟩ := bcell hBq
        (try simp [go_sem, baseF, deps, dep1, Region.binds] at hbq)
        (try simp [go_sem, baseF, deps, dep1, Region.binds, MsgR] at hdq)
        obtain ⟨h22, D8, d8, D9, d9, hv, g8, g9, gC8, gC9⟩ := hdq
        go_simp
        exact laws_eqMC _ _ _ _ _ _ _ _ fs cf _ _ hfl q2 _ _ _ _ _ _ _ _ _ (by assumption) (by assumption) (Kd.C_below (Hid.out (by assumption)) (by repeat (first | exact Below.refl _ _ | apply bl_alloc | apply bl_drewN | apply bl_drew | refine bl_set ?_ (by simp) | refine bl_then ?_ (by assumption)))) (Kd.C_below (Hid.out (by assumption)) (by repeat (first | exact Below.refl _ _ | apply bl_alloc | apply bl_drewN | apply bl_drew | refine bl_set ?_ (by simp) | refine bl_then ?_ (by assumption)))) g8 g9 gC8 gC9
      (refine flow_valE ?_; apply Exists.intro; refine ⟨fun A wq hBq hbq hdq => ?_, ?_⟩; focus (obtain ⟨hcq, hfq⟩ := bcell hBq; (try simp [go_sem, baseF, deps, dep1, Region.binds] at hbq); (try simp [go_sem, baseF, deps, dep1, Region.binds, NewSl] at hdq); go_simp; first | exact ⟨Below.refl _ _, rfl⟩ | (rw [if_neg]; (focus (exact ⟨Below.refl _ _, rfl⟩)); (focus ((try simp only [ByteArray.size_append]); omega))) | (fail)))
      refine fun x wq hBq hall => ?_
      obtain ⟨hcq, hfq⟩ := bcell hBq
      simp only [allT] at hall
      simp [frameOf, Act.put, hall]
      clear hall
      go_wp2
      all_goals
        go_ret
        exact ⟨rfl, (by repeat (first | exact Below.refl _ _ | apply bl_alloc | apply bl_drewN | apply bl_drew | refine bl_set ?_ (by simp) | refine bl_then ?_ (by assumption)))⟩
    · go_ret
      exact ⟨rfl, (by repeat (first | exact Below.refl _ _ | apply bl_alloc | apply bl_drewN | apply bl_drew | refine bl_set ?_ (by simp) | refine bl_then ?_ (by assumption)))⟩
end Go.Proofs.Ytlbikcelfheohaa
