/-
  FnExactEncode: whatever the arguments (any values of the parameters' types that can be read), the law returns true and each argument reads afterwards as it read before. Conditions: none.
-/
import Derived.Test.YtdjikjmjajlgcaaOEncodeB
import Derived.Test.YtdjikjmjajlgcaaRows
import Derived.Test.YtdjikjmjajlgcaaOEncodeA
import Derived.WalkKit
import Derived.ProofKit
import Derived.OpenShut
import Derived.ShutString
import Derived.ChangeOld
import Derived.Below
import Derived.SizedLaws
import Derived.Carry
import Derived.KernelRfl

/-! ### YtdjikjmjajlgcaaEncFin -/
section
namespace Go.Proofs.Ytdjikjmjajlgcaa
open Go.RowKit Go.Proofs.YtdjikjmjajlgcaaW.PrintWords PFnExactEncode
set_option linter.unusedSimpArgs false
set_option linter.unusedVariables false

/-- What Encode hands back. -/
def encR (a0 a1 a2 a3 a4 a5 a6 : Int) (a7 : Bool) (es : List S54) (cf : List Int) (d : ByteArray) (ls : Bool) : ByteArray × Bool :=
  if msgB a0 a1 a2 a3 a4 a5 a6 es cf d ls = true then (encS a0 a1 a2 a3 a4 a5 a6 a7 es cf d ls, true) else (⟨#[]⟩, false)
theorem spec_encC (a0 a1 a2 a3 a4 a5 a6 : Int) (a7 : Bool) (fs : List S54) (cf : List Int) (d : ByteArray) (ls : Bool) (hS : Short fs) (hl : fs.length ≤ 1048576) (hc : cf.length ≤ 1048576) (r : ByteArray) (b : Bool) (hr : Hid (encR a0 a1 a2 a3 a4 a5 a6 a7 fs cf d ls = (r, b)))
    (B8 : Option Addr) (b8 : Nat) (B9 : Option Addr) (b9 : Nat) (w : World) (h8 : fs.length ≤ b8) (h9 : cf.length ≤ b9) (hC8 : Kd.C k54 w B8 fs.length fs) (hC9 : Kd.C (Kd.int .i64) w B9 cf.length cf) :
    Calls Try.prog 10 #[.agg #[.int .i64 a0, .int .i64 a1, .int .i64 a2, .int .i64 a3, .int .i64 a4, .int .i64 a5, .int .i64 a6, .bool a7, .slice B8 fs.length b8, .slice B9 cf.length b9, .string d, .bool ls]] w fun e w' => e = .returned (.tuple #[.string r, .bool b]) ∧ Below w.heap.size w w' := by
  have h := hr.out
  unfold encR at h
  cases hm : msgB a0 a1 a2 a3 a4 a5 a6 fs cf d ls with
  | false =>
    rw [hm, if_neg (by simp)] at h
    obtain ⟨rfl, rfl⟩ := Prod.mk.inj h
    exact spec_Enc_no fs hS a0 a1 a2 a3 a4 a5 a6 a7 cf d ls hl hc B8 b8 B9 b9 w hC8 h8 hC9 h9 (Lib.hid hm)
  | true =>
    rw [hm, if_pos rfl] at h
    obtain ⟨rfl, rfl⟩ := Prod.mk.inj h
    exact spec_Enc_yes fs hS a0 a1 a2 a3 a4 a5 a6 a7 cf d ls hl hc B8 b8 B9 b9 w hC8 h8 hC9 h9 (Lib.hid hm)
theorem impl_encC (a0 a1 a2 a3 a4 a5 a6 : Int) (a7 : Bool) (fs : List S54) (cf : List Int) (d : ByteArray) (ls : Bool) (hS : Short fs) (hl : fs.length ≤ 1048576) (hc : cf.length ≤ 1048576) (r : ByteArray) (b : Bool) (hr : Hid (encR a0 a1 a2 a3 a4 a5 a6 a7 fs cf d ls = (r, b)))
    (B8 : Option Addr) (b8 : Nat) (B9 : Option Addr) (b9 : Nat) (w : World) (h8 : fs.length ≤ b8) (h9 : cf.length ≤ b9) (hC8 : Kd.C k54 w B8 fs.length fs) (hC9 : Kd.C (Kd.int .i64) w B9 cf.length cf) :
    Calls Try.prog 12 #[.agg #[.int .i64 a0, .int .i64 a1, .int .i64 a2, .int .i64 a3, .int .i64 a4, .int .i64 a5, .int .i64 a6, .bool a7, .slice B8 fs.length b8, .slice B9 cf.length b9, .string d, .bool ls]] w fun e w' => e = .returned (.tuple #[.string r, .bool b]) ∧ Below w.heap.size w w' := by
  have h := hr.out
  unfold encR at h
  cases hm : msgB a0 a1 a2 a3 a4 a5 a6 fs cf d ls with
  | false =>
    rw [hm, if_neg (by simp)] at h
    obtain ⟨rfl, rfl⟩ := Prod.mk.inj h
    exact impl_Enc_no fs hS a0 a1 a2 a3 a4 a5 a6 a7 cf d ls hl hc B8 b8 B9 b9 w hC8 h8 hC9 h9 (Lib.hid hm)
  | true =>
    rw [hm, if_pos rfl] at h
    obtain ⟨rfl, rfl⟩ := Prod.mk.inj h
    exact impl_Enc_yes fs hS a0 a1 a2 a3 a4 a5 a6 a7 cf d ls hl hc B8 b8 B9 b9 w hC8 h8 hC9 h9 (Lib.hid hm)

attribute [local go_sem] flowUpon
set_option maxRecDepth 100000 in
set_option maxHeartbeats 4000000 in
theorem FnExactEncode_walk (v : Value) (W : World) (h : ArgOf Try.prog W 25 v) :
    Calls Try.prog 3 #[v] W fun e w' => e = .returned (.bool true) ∧ Below W.heap.size W w' := by
  obtain ⟨a0, a1, a2, a3, a4, a5, a6, a7, A8, c8, es, A9, c9, cf, d, ls, rfl, h8, hC8, h9, hC9, ⟨hl, hG⟩, hc, hd⟩ := arg_msg h
  clear h
  unfold maxLen at hl hG hc hd
  obtain ⟨r, hr, hrr⟩ := sz_f es cf d a0 a1 a2 a3 a4 a5 a6 a7 ls hG hl hc hd
  have HC8 := Lib.hid hC8
  have HC9 := Lib.hid hC9
  have HG := Lib.hid hG
  have HR := Lib.hid hr
  clear hC8 hC9 hG hr
  rcases hrr with hneg | ⟨q1, q2, q3, q4⟩
  · go_enter Try.func3, Try.ntmps3
    go_wp2_with (first
      | (go_at_call 9; refine (PFnExactEncode.laws_szMessage.calls _ _ _ _ _ _ _ _ _ _ _ _ _ _ _ _ _ _ _ _ (Kd.C_below HC8.out (by repeat (first | exact Below.refl _ _ | apply bl_alloc | apply bl_drewN | apply bl_drew | refine bl_set ?_ (by simp) | refine bl_then ?_ (by assumption)))) h8 (Kd.C_below HC9.out (by repeat (first | exact Below.refl _ _ | apply bl_alloc | apply bl_drewN | apply bl_drew | refine bl_set ?_ (by simp) | refine bl_then ?_ (by assumption)))) h9 HR.out).mono ?_; rintro e w' ⟨rfl, hb⟩; obtain ⟨hc, hf⟩ := bcell hb; have hz : W.heap.size < w'.heap.size := (by have := hb.size; simp at this ⊢; omega)))
    all_goals
      go_ret
      exact ⟨rfl, (by repeat (first | exact Below.refl _ _ | apply bl_alloc | apply bl_drewN | apply bl_drew | refine bl_set ?_ (by simp) | refine bl_then ?_ (by assumption)))⟩
  · obtain ⟨fs, hfs⟩ : ∃ fs, Hid (es.map conv = fs) := ⟨_, Lib.hid rfl⟩
    have hfl : fs.length ≤ 1048576 := by rw [← hfs.out]; simpa using q1
    have hSh := Lib.hid (short_conv es q4)
    rw [hfs.out] at hSh
    obtain ⟨⟨rr, rb⟩, hrr⟩ : ∃ rb, Hid (encR a0 a1 a2 a3 a4 a5 a6 a7 fs cf d ls = rb) := ⟨_, Lib.hid rfl⟩
    clear q4 hl hc hd
    go_enter Try.func3, Try.ntmps3
    go_wp2_with (first
      | (go_at_call 9; refine (PFnExactEncode.laws_szMessage.calls _ _ _ _ _ _ _ _ _ _ _ _ _ _ _ _ _ _ _ _ (Kd.C_below HC8.out (by repeat (first | exact Below.refl _ _ | apply bl_alloc | apply bl_drewN | apply bl_drew | refine bl_set ?_ (by simp) | refine bl_then ?_ (by assumption)))) h8 (Kd.C_below HC9.out (by repeat (first | exact Below.refl _ _ | apply bl_alloc | apply bl_drewN | apply bl_drew | refine bl_set ?_ (by simp) | refine bl_then ?_ (by assumption)))) h9 HR.out).mono ?_; rintro e w' ⟨rfl, hb⟩; obtain ⟨hc, hf⟩ := bcell hb; have hz : W.heap.size < w'.heap.size := (by have := hb.size; simp at this ⊢; omega))
      | (go_at_call 11; refine (laws_toM _ _ _ _ _ _ _ _ _ _ es fs _ _ cf _ _ hfs _ h8 (Kd.C_below HC8.out (by repeat (first | exact Below.refl _ _ | apply bl_alloc | apply bl_drewN | apply bl_drew | refine bl_set ?_ (by simp) | refine bl_then ?_ (by assumption)))) h9 (Kd.C_below HC9.out (by repeat (first | exact Below.refl _ _ | apply bl_alloc | apply bl_drewN | apply bl_drew | refine bl_set ?_ (by simp) | refine bl_then ?_ (by assumption)))) q1 q2).mono ?_; rintro e w' ⟨B8, b8, B9, b9, rfl, hb8, hD8, hb9, hD9, hb⟩; obtain ⟨hc, hf⟩ := bcell hb; have hz : W.heap.size < w'.heap.size := (by have := hb.size; simp at this ⊢; omega))
      | (go_at_call 10; refine (spec_encC _ _ _ _ _ _ _ _ fs cf _ _ hSh.out hfl q2 rr rb hrr _ _ _ _ _ (by assumption) (by assumption) (Kd.C_below (Hid.out (by assumption)) (by repeat (first | exact Below.refl _ _ | apply bl_alloc | apply bl_drewN | apply bl_drew | refine bl_set ?_ (by simp) | refine bl_then ?_ (by assumption)))) (Kd.C_below (Hid.out (by assumption)) (by repeat (first | exact Below.refl _ _ | apply bl_alloc | apply bl_drewN | apply bl_drew | refine bl_set ?_ (by simp) | refine bl_then ?_ (by assumption))))).mono ?_; rintro e w' ⟨rfl, hb⟩; obtain ⟨hc, hf⟩ := bcell hb; have hz : W.heap.size < w'.heap.size := (by have := hb.size; simp at this ⊢; omega))
      | (go_at_call 12; refine (impl_encC _ _ _ _ _ _ _ _ fs cf _ _ hSh.out hfl q2 rr rb hrr _ _ _ _ _ (by assumption) (by assumption) (Kd.C_below (Hid.out (by assumption)) (by repeat (first | exact Below.refl _ _ | apply bl_alloc | apply bl_drewN | apply bl_drew | refine bl_set ?_ (by simp) | refine bl_then ?_ (by assumption)))) (Kd.C_below (Hid.out (by assumption)) (by repeat (first | exact Below.refl _ _ | apply bl_alloc | apply bl_drewN | apply bl_drew | refine bl_set ?_ (by simp) | refine bl_then ?_ (by assumption))))).mono ?_; rintro e w' ⟨rfl, hb⟩; obtain ⟨hc, hf⟩ := bcell hb; have hz : W.heap.size < w'.heap.size := (by have := hb.size; simp at this ⊢; omega); have hy := hb.size; (try simp at hy); (try have hy2 := Nat.lt_of_lt_of_le (Nat.lt_succ_self _) hy))
      | (go_at_call 13; refine (laws_eqMC fs _ _ _ _ _ _ _ _ cf _ _ hfl q2 _ _ _ _ _ _ _ _ _ (by assumption) (by assumption) (Kd.C_below (Hid.out (by assumption)) (by repeat (first | exact Below.refl _ _ | apply bl_alloc | apply bl_drewN | apply bl_drew | refine bl_set ?_ (by simp) | refine bl_then ?_ (by assumption)))) (Kd.C_below (Hid.out (by assumption)) (by repeat (first | exact Below.refl _ _ | apply bl_alloc | apply bl_drewN | apply bl_drew | refine bl_set ?_ (by simp) | refine bl_then ?_ (by assumption)))) (by assumption) (by assumption) (Kd.C_below (Hid.out (by assumption)) (by repeat (first | exact Below.refl _ _ | apply bl_alloc | apply bl_drewN | apply bl_drew | refine bl_set ?_ (by simp) | refine bl_then ?_ (by assumption)))) (Kd.C_below (Hid.out (by assumption)) (by repeat (first | exact Below.refl _ _ | apply bl_alloc | apply bl_drewN | apply bl_drew | refine bl_set ?_ (by simp) | refine bl_then ?_ (by assumption))))).mono ?_; rintro e w' ⟨rfl, hb⟩; obtain ⟨hc, hf⟩ := bcell hb; have hz : W.heap.size < w'.heap.size := (by have := hb.size; simp at this ⊢; omega)))
    rotate_left
    · refine wp_region_flow [1, 6] 40 (by kernel_rfl) (by rfl) (by kernel_rfl) (by kernel_rfl) (by kernel_rfl) ?_
      iterate 2 (refine flow_valE ?_; apply Exists.intro; refine ⟨fun A wq hBq hbq hdq => ?_, ?_⟩; focus (obtain ⟨hcq, hfq⟩ := bcell hBq; (try simp [go_sem, baseF, deps, dep1, Region.binds] at hbq); (try simp [go_sem, baseF, deps, dep1, Region.binds, NewSl] at hdq); go_simp; first | exact ⟨Below.refl _ _, rfl⟩ | (rw [if_neg]; (focus (exact ⟨Below.refl _ _, rfl⟩)); (focus ((try simp only [ByteArray.size_append]); omega))) | (fail)))
      refine flow_R (MsgR a0 a1 a2 a3 a4 a5 a6 a7 fs cf d ls) (vmono_msgR _ _ _ _ _ _ _ _ _ _ _ _) (fun A wq hBq hbq hdq => ?_) ?_
      · obtain ⟨hcq, hfq⟩ := bcell hBq
        (try simp [go_sem, baseF, deps, dep1, Region.binds] at hbq)
        (try simp [go_sem, baseF, deps, dep1, Region.binds] at hdq)
        go_simp
        refine (laws_toM _ _ _ _ _ _ _ _ _ _ es fs _ _ cf _ _ hfs _ h8 (Kd.C_below HC8.out (by repeat (first | exact Below.refl _ _ | apply bl_alloc | apply bl_drewN | apply bl_drew | refine bl_set ?_ (by simp) | refine bl_then ?_ (by assumption)))) h9 (Kd.C_below HC9.out (by repeat (first | exact Below.refl _ _ | apply bl_alloc | apply bl_drewN | apply bl_drew | refine bl_set ?_ (by simp) | refine bl_then ?_ (by assumption)))) q1 q2).mono ?_
        rintro e w' ⟨B8, b8, B9, b9, rfl, hb8, hD8, hb9, hD9, hb⟩
        first | exact ⟨_, rfl, hb, B8, b8, B9, b9, rfl, hb8, hb9, hD8.out, hD9.out⟩ | exact ⟨hb, B8, b8, B9, b9, rfl, hb8, hb9, hD8.out, hD9.out⟩
      refine flow_valE ?_
      apply Exists.intro
      refine ⟨fun A wq hBq hbq hdq => ?_, ?_⟩
      · obtain ⟨hcq, hfq⟩ := bcell hBq
        (try simp [go_sem, baseF, deps, dep1, Region.binds] at hbq)
        (try simp [go_sem, baseF, deps, dep1, Region.binds, MsgR] at hdq)
        obtain ⟨h22, D8, d8, D9, d9, hv, g8, g9, gC8, gC9⟩ := hdq
        go_simp
        exact laws_eqMC fs _ _ _ _ _ _ _ _ cf _ _ hfl q2 _ _ _ _ _ _ _ _ _ (by assumption) (by assumption) (Kd.C_below (Hid.out (by assumption)) (by repeat (first | exact Below.refl _ _ | apply bl_alloc | apply bl_drewN | apply bl_drew | refine bl_set ?_ (by simp) | refine bl_then ?_ (by assumption)))) (Kd.C_below (Hid.out (by assumption)) (by repeat (first | exact Below.refl _ _ | apply bl_alloc | apply bl_drewN | apply bl_drew | refine bl_set ?_ (by simp) | refine bl_then ?_ (by assumption)))) g8 g9 gC8 gC9
      (refine flow_valE ?_; apply Exists.intro; refine ⟨fun A wq hBq hbq hdq => ?_, ?_⟩; focus (obtain ⟨hcq, hfq⟩ := bcell hBq; (try simp [go_sem, baseF, deps, dep1, Region.binds] at hbq); (try simp [go_sem, baseF, deps, dep1, Region.binds, NewSl] at hdq); go_simp; first | exact ⟨Below.refl _ _, rfl⟩ | (rw [if_neg]; (focus (exact ⟨Below.refl _ _, rfl⟩)); (focus ((try simp only [ByteArray.size_append]); omega))) | (fail)))
      refine fun x wq hBq hall => ?_
      obtain ⟨hcq, hfq⟩ := bcell hBq
      simp only [allT] at hall
      simp [frameOf, Act.put, hall]
      clear hall
      go_wp2
      all_goals
        go_ret
        exact ⟨rfl, (by repeat (first | exact Below.refl _ _ | apply bl_alloc | apply bl_drewN | apply bl_drew | refine bl_set ?_ (by simp) | refine bl_then ?_ (by assumption)))⟩
    · go_ret
      exact ⟨rfl, (by repeat (first | exact Below.refl _ _ | apply bl_alloc | apply bl_drewN | apply bl_drew | refine bl_set ?_ (by simp) | refine bl_then ?_ (by assumption)))⟩
end Go.Proofs.Ytdjikjmjajlgcaa
end

/-! ### YtdjikjmjajlgcaaRowFnExactEncode -/
section
namespace Go.Proofs.Ytdjikjmjajlgcaa.fnExactEncode
open Go.ChangeShapes Go.WideShapes Go.ChangeAt Go.RowKit
theorem own : ownKnob Try.prog.godebug = none := by kernel_rfl
theorem laidOut : laidOutB Try.prog = true := by kernel_rfl
set_option maxRecDepth 100000 in
theorem lifted (os : Os) (started : os.Started) (H : Type) (enc : TypeId × Value → H) :
    ReturnsInHanded {} Try.checked os 3 .any (Rows.fnExactEncodeSpec.pre6 enc Try.prog Try.f3 Rows.fnExactEncodeRow.domain false) (Rows.fnExactEncodeSpec.post enc Try.prog Try.f3 false true false false) := by
  refine returnsInHanded_of_change_sized (C := Try.checked) own started (by kernel_rfl) Try.func3
    (ChangeSpec.witness6 (enc := enc) (C := Try.checked) false ⟨#[], #[.agg #[.int .i64 0, .int .i64 0, .int .i64 0, .int .i64 0, .int .i64 0, .int .i64 0, .int .i64 0, .bool false, .slice none 0 0, .slice none 0 0, .string ByteArray.empty, .bool false]], []⟩ 20 (by kernel_rfl) (by kernel_rfl) (by kernel_rfl) (by kernel_rfl)) ?_
  intro W base args ds gs before hval0 hW hcnd hsz0 _
  have hval : ∀ (j : Nat) t v, Try.f3.params[j]? = some t → args[j]? = some v → Value.okWide Try.prog W .any base t v := hval0
  have hW' := hW
  obtain ⟨p, q, hA0, hV, rfl, hfz, hnd⟩ := hW
  have hA : DataW.TrodAll enc Try.prog W 0 (fun _ => true) true Try.f3.params.toList args.toList ds p := hA0
  rw [Try.params3] at hA hval
  obtain ⟨v0, vs0, d0, ds0, p0, q0, hargs, rfl, rfl, h0, r0⟩ := trodAll_cons hA
  obtain ⟨rfl, rfl, rfl⟩ := trodAll_nil r0
  obtain rfl : args = #[v0] := by cases args; simp_all
  obtain ⟨rfl, rfl⟩ := trodVars_none hV
  have k0 := h0
  have lt0 : ∀ x ∈ p0, x.block < W.heap.size := by obtain ⟨m, hm⟩ := k0; exact DataW.trod_lt m _ _ _ hm
  have a0 : ArgOf Try.prog W 25 v0 := ⟨⟨base, hval 0 25 v0 rfl rfl⟩, by obtain ⟨m, hm⟩ := k0; exact ⟨H, enc, m, _, hm⟩⟩
  clear hA0 hval0 hsz0
  refine (FnExactEncode_walk v0 W a0).mono fun e W' ⟨he, bel⟩ => ?_
  subst he
  exact ⟨_, rfl, _, _, _, [], _, [], hW', trodAll_mk1 (shut_bool Try.underlying4 _), (trodAll_cons_mk (Below.trod laidOut (by kernel_rfl) (of_decide_eq_true (by kernel_rfl)) k0 bel lt0) trodAll_mk0), rfl, bel.frame _, fun h => by cases h⟩
theorem over : Rows.fnExactEncodeRow.holds Try.pinned (OpenSpec.ofChange Rows.fnExactEncodeSpec) :=
  OpenClaim.holds_of_wide 3 Try.f3 rfl rfl rfl rfl rfl rfl rfl ⟨rfl, rfl, rfl, rfl, rfl⟩ rfl rfl rfl rfl rfl (by kernel_rfl) Try.func3 (by kernel_rfl)
    (of_decide_eq_true (by kernel_rfl)) (by unfold Func.isWrapper; first | (rw [if_pos (by decide +kernel)]; kernel_rfl) | (rw [if_neg (by decide +kernel)]; exact ⟨rfl, rfl⟩))
    (fun os started H enc _ => lifted os started H enc)
theorem proved : Rows.FnExactEncodeSaid := over
#print axioms proved
end Go.Proofs.Ytdjikjmjajlgcaa.fnExactEncode
namespace Go.Proofs.Ytdjikjmjajlgcaa
/-- The row, under a short name, for the claim. -/
theorem fnExactEncode_holds : Rows.FnExactEncodeSaid := fnExactEncode.proved
end Go.Proofs.Ytdjikjmjajlgcaa
end
