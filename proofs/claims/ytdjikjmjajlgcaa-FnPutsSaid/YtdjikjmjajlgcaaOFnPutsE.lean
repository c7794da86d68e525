/-
  FnPuts: whatever the arguments (any values of the parameters' types that can be read), the law returns true and each argument reads afterwards as it read before. Conditions: none.
-/
import Derived.Test.YtdjikjmjajlgcaaOFnPutsD
import Derived.Test.YtdjikjmjajlgcaaPFnPutsB
import Derived.Test.YtdjikjmjajlgcaaPFnPutsA
import Derived.Test.YtdjikjmjajlgcaaOFnPutsA
import Derived.Deep.Cut
import Derived.Test.YtdjikjmjajlgcaaWEqStruct
import Derived.Test.YtdjikjmjajlgcaaRows
import Derived.WalkKit
import Derived.ProofKit
import Derived.OpenShut
import Derived.ShutString
import Derived.ChangeOld
import Derived.Below
import Derived.SizedLaws
import Derived.Carry
import Derived.KernelRfl

/-! ### YtdjikjmjajlgcaaLogPutS -/
section
namespace Go.Proofs.Ytdjikjmjajlgcaa.PFnPuts
open Go.RowKit Go.Proofs.YtdjikjmjajlgcaaW.PrintWords
set_option linter.unusedSimpArgs false
set_option linter.unusedVariables false

/-! spec.LogPut: it answers as impl.LogPut does. (own) -/
theorem spec_lastH2 (s t : Int) (A : Option Addr) (c : Nat) (xs : List S54) (w : World) (h0 : 0 ≤ s) (h1 : s ≤ 1000000) (hl : xs.length ≤ 1000) (hr : Kd.C k54 w A xs.length xs) (hc : xs.length ≤ c) :
    Calls Try.prog 110 #[.agg #[.int .i64 s, .int .i64 t, .slice A xs.length c]] w fun e w' => e = .returned (.int .i64 (s + xs.length)) ∧ Below w.heap.size w w' := by
  have h := spec_l06Last.calls s t A c xs _ w hr hc rfl
  rw [show wrap64 (s + (xs.length : Int)) = s + xs.length from by unfold wrap64; omega] at h
  exact h
theorem spec_inB2 (n lo hi : Int) (b : Bool) (w : World) (h : Hid (inB n lo hi = b)) :
    Calls Try.prog 95 #[.int .i64 n, .int .i64 lo, .int .i64 hi] w fun e w' => e = .returned (.bool b) ∧ Below w.heap.size w w' := by
  have := spec_l01In n lo hi w
  rw [h.out] at this
  exact this.mono (by rintro e w' ⟨rfl, rfl⟩; exact ⟨rfl, Below.refl _ _⟩)
/-- Only rows of type T that lie at B or above may have turned. -/
structure Ltb (T B : Nat) (a b : World) : Prop where
  os : b.os = a.os
  tape : b.tape = a.tape
  output : b.output = a.output
  size : a.heap.size ≤ b.heap.size
  block : ∀ k, k < a.heap.size → (k < B ∨ ∃ cs T', Blk T' k cs a ∧ T' ≠ T) → b.heap[k]? = a.heap[k]?
theorem Ltb.of {T B : Nat} {a b : World} (h : Below a.heap.size a b) : Ltb T B a b := ⟨h.os, h.tape, h.output, h.size, fun k hk _ => h.block k hk⟩
theorem Ltb.drew (T B : Nat) (a : World) : Ltb T B a a.drew := ⟨rfl, rfl, rfl, Nat.le_refl _, fun _ _ _ => rfl⟩
theorem Ltb.trans {T B : Nat} {a b c : World} (h : Ltb T B a b) (k : Ltb T B b c) : Ltb T B a c :=
  ⟨k.os.trans h.os, k.tape.trans h.tape, k.output.trans h.output, Nat.le_trans h.size k.size, fun i hi hc => by
    have e1 := h.block i hi hc
    refine (k.block i (Nat.lt_of_lt_of_le hi h.size) ?_).trans e1
    rcases hc with hc | ⟨cs, T', hb, ht⟩
    · exact .inl hc
    · exact .inr ⟨cs, T', e1.trans hb, ht⟩⟩
theorem Ltb.blk {T B T' b : Nat} {cs : Array Value} {W W1 : World} (h : Ltb T B W W1) (k : Blk T' b cs W) (hc : b < B ∨ T' ≠ T) : Blk T' b cs W1 :=
  (h.block b k.lt (hc.imp id fun ht => ⟨cs, T', k, ht⟩)).trans k
theorem Ltb.bl {T B : Nat} {w0 W W1 : World} (hb : Below w0.heap.size w0 W) (h : Ltb T B W W1) (hle : w0.heap.size ≤ B) : Below w0.heap.size w0 W1 :=
  ⟨h.os.trans hb.os, h.tape.trans hb.tape, h.output.trans hb.output, Nat.le_trans hb.size h.size, fun k hk => (h.block k (Nat.lt_of_lt_of_le hk hb.size) (.inl (by omega))).trans (hb.block k hk)⟩
theorem Ltb.grown {T B : Nat} {W W1 : World} {row : Option Nat} (hg : W.grownBy W1 row) (hr : ∀ r, row = some r → B ≤ r ∧ ∃ cs, Blk T r cs W) : Ltb T B W W1 :=
  ⟨hg.os, hg.tape, hg.output, hg.size, fun k hk hc => hg.block k hk (fun e => by
    obtain ⟨h1, cs, h2⟩ := hr k e.symm
    rcases hc with hc | ⟨cs', T', hb, ht⟩
    · omega
    · unfold Blk at hb h2
      rw [hb] at h2
      simp at h2
      exact ht h2.2)⟩
theorem C_takeE {w : World} {A : Option Addr} {xs : List S54} {n : Nat} (h : Kd.C k54 w A xs.length xs) (hn : n ≤ xs.length) : Kd.C k54 w A (xs.take n).length (xs.take n) := by
  obtain ⟨ha, hb, hc⟩ := h
  have hl : (xs.take n).length = n := by simp [Nat.min_eq_left hn]
  refine ⟨rfl, by omega, fun h0 => ?_⟩
  obtain ⟨ad, e, hcell⟩ := hc (by omega)
  refine ⟨ad, e, fun j p hj => hcell j p ?_⟩
  rw [List.getElem?_take] at hj
  split at hj
  · exact hj
  · cases hj
theorem R_blk {α : Type} {d : Kd α} {e base : Nat} {ok : Nat → Prop} {W : World} {v : Value} {xs : List α} (h : d.R e W base ok v xs) (b : Nat) (hb : v.ownBlock = some b) : base ≤ b ∧ ∃ cs, Blk e b cs W := by
  obtain ⟨h0, inner, hown, hr⟩ := h
  rcases hown.2 with ⟨rfl, -⟩ | ⟨g, cap, cur, rfl, hbg, hg, -⟩
  · cases hb
  · have : g = b := by simpa [Value.ownBlock] using hb
    subst this
    exact ⟨hbg, cur, hg⟩

attribute [local go_sem] flowUpon flowUponL
set_option maxHeartbeats 2000000 in
set_option maxRecDepth 100000 in
theorem spec_LogPut_no1 (s t ix : Int) (Ad : Option Addr) (c : Nat) (xs : List S54) (te ke : Int) (de : ByteArray) (w : World) (hr : Kd.C k54 w Ad xs.length xs) (hc : xs.length ≤ c) (hl : xs.length ≤ 1000) (hS : ShortE xs) (H1 : Hid (logOkB s t xs = false)) :
    Calls Try.prog 33 #[.agg #[.int .i64 s, .int .i64 t, .slice Ad xs.length c], .int .i64 ix, .agg #[.int .i64 te, .int .i64 ke, .string de]] w fun e w' => e = .returned (.tuple #[.agg #[.int .i64 0, .int .i64 0, .slice none 0 0], .bool false]) ∧ Below w.heap.size w w' := by
  have HC := Lib.hid hr
  clear hr
  go_enter Try.func33, Try.ntmps33
  go_wp2_with fail
  refine wp_at (fun X => Below w.heap.size w X ∧ Blk 67 w.heap.size #[.int .i64 s, .int .i64 t, .slice Ad xs.length c] X ∧ Blk 54 (w.heap.size + 1) #[.int .i64 te, .int .i64 ke, .string de] X ∧ Blk 67 (w.heap.size + 1 + 1) #[.int .i64 0, .int .i64 0, .slice none 0 0] X) ⟨(by repeat (first | exact Below.refl _ _ | apply bl_alloc | apply bl_drewN | apply bl_drew | refine bl_set ?_ (by simp) | refine bl_then ?_ (by assumption))), ((Blk.new _ _ w).alloc _).alloc _, (Blk.newE _ _ (w.alloc _) (by simp)).alloc _, Blk.newE _ _ ((w.alloc _).alloc _) (by simp)⟩ ?_
  rintro X ⟨hB, k3, k5, k6⟩
  have c0 := k3.cell 0 rfl
  have c1 := k3.cell 1 rfl
  have c2 := k3.cell 2 rfl
  have l3 := k3.lt
  refine wp_region_flowG [1, 3] 47 (by kernel_rfl) (by rfl) (by kernel_rfl) (by kernel_rfl) (by kernel_rfl) ?_
  iterate 4 (refine flowG_valE ?_; apply Exists.intro; refine ⟨fun A wq hBq hbq hdq => ?_, ?_⟩; focus (obtain ⟨hcq, hfq⟩ := bcellA hBq; (try simp [go_sem, baseF, deps, dep1, Region.binds] at hbq); (try simp [go_sem, baseF, deps, dep1, Region.binds, NewSl] at hdq); go_simp <;> first | exact ⟨Below.refl _ _, rfl⟩ | (rw [if_neg]; (focus (exact ⟨Below.refl _ _, rfl⟩)); (focus ((try simp only [ByteArray.size_append]); omega))) | (first | (go_at_call 35; exact (spec_LogOkH s t Ad c xs false _ H1 hS (by omega) (Kd.C_below HC.out (bl_then hB hBq)) hc)))))
  iterate 9 (refine flowG_no (fun A wq hBq hbq hdq => ?_) ?_; focus ((try simp [go_sem, baseF, deps, dep1, Region.binds] at hdq); refine yielded_of rfl ?_; simp [hdq]))
  (refine flowG_valE ?_; apply Exists.intro; refine ⟨fun A wq hBq hbq hdq => ?_, ?_⟩; focus (obtain ⟨hcq, hfq⟩ := bcellA hBq; (try simp [go_sem, baseF, deps, dep1, Region.binds] at hbq); (try simp [go_sem, baseF, deps, dep1, Region.binds, NewSl] at hdq); go_simp <;> first | exact ⟨Below.refl _ _, rfl⟩ | (rw [if_neg]; (focus (exact ⟨Below.refl _ _, rfl⟩)); (focus ((try simp only [ByteArray.size_append]); omega))) | (fail)))
  refine fun x wq hBq hall => ?_
  obtain ⟨hcq, hfq⟩ := bcellA hBq
  simp only [allT] at hall
  simp [frameOf, Act.put, hall]
  clear hall
  have k6q := k6.below hBq
  have y0 := k6q.cell 0 rfl
  have y1 := k6q.cell 1 rfl
  have y2 := k6q.cell 2 rfl
  have z0 := k6q.free 0
  have z1 := k6q.free 1
  have z2 := k6q.free 2
  have ly := k6q.lt
  go_wp2_with fail
  refine bodyPost_ret (v := .tuple #[.agg #[.int .i64 0, .int .i64 0, .slice none 0 0], .bool false]) ?_ rfl ⟨rfl, ?_⟩
  · simp only [results, Try.results33]
    go_simp
  · have hle : w.heap.size ≤ w.heap.size + 1 + 1 := by omega
    exact bl_set (bl_set (bl_set (bl_then hB hBq) hle) hle) hle
set_option maxHeartbeats 2000000 in
set_option maxRecDepth 100000 in
theorem spec_LogPut_no2 (s t ix : Int) (Ad : Option Addr) (c : Nat) (xs : List S54) (te ke : Int) (de : ByteArray) (w : World) (hr : Kd.C k54 w Ad xs.length xs) (hc : xs.length ≤ c) (hl : xs.length ≤ 1000) (hS : ShortE xs) (H1 : Hid (logOkB s t xs = true)) (H2 : Hid (inB ix (IntKind.i64.wrap (s + 1)) (IntKind.i64.wrap (s + (xs.length : Int) + 1)) = false)) :
    Calls Try.prog 33 #[.agg #[.int .i64 s, .int .i64 t, .slice Ad xs.length c], .int .i64 ix, .agg #[.int .i64 te, .int .i64 ke, .string de]] w fun e w' => e = .returned (.tuple #[.agg #[.int .i64 0, .int .i64 0, .slice none 0 0], .bool false]) ∧ Below w.heap.size w w' := by
  have HC := Lib.hid hr
  have hs : 0 ≤ s ∧ s ≤ 1000000 := by
    have h := H1.out
    unfold logOkB at h
    simp only [Bool.and_eq_true, decide_eq_true_eq] at h
    exact h.1
  obtain ⟨hs0, hs1⟩ := hs
  clear hr
  go_enter Try.func33, Try.ntmps33
  go_wp2_with fail
  refine wp_at (fun X => Below w.heap.size w X ∧ Blk 67 w.heap.size #[.int .i64 s, .int .i64 t, .slice Ad xs.length c] X ∧ Blk 54 (w.heap.size + 1) #[.int .i64 te, .int .i64 ke, .string de] X ∧ Blk 67 (w.heap.size + 1 + 1) #[.int .i64 0, .int .i64 0, .slice none 0 0] X) ⟨(by repeat (first | exact Below.refl _ _ | apply bl_alloc | apply bl_drewN | apply bl_drew | refine bl_set ?_ (by simp) | refine bl_then ?_ (by assumption))), ((Blk.new _ _ w).alloc _).alloc _, (Blk.newE _ _ (w.alloc _) (by simp)).alloc _, Blk.newE _ _ ((w.alloc _).alloc _) (by simp)⟩ ?_
  rintro X ⟨hB, k3, k5, k6⟩
  have c0 := k3.cell 0 rfl
  have c1 := k3.cell 1 rfl
  have c2 := k3.cell 2 rfl
  have l3 := k3.lt
  refine wp_region_flowG [1, 3] 47 (by kernel_rfl) (by rfl) (by kernel_rfl) (by kernel_rfl) (by kernel_rfl) ?_
  iterate 4 (refine flowG_valE ?_; apply Exists.intro; refine ⟨fun A wq hBq hbq hdq => ?_, ?_⟩; focus (obtain ⟨hcq, hfq⟩ := bcellA hBq; (try simp [go_sem, baseF, deps, dep1, Region.binds] at hbq); (try simp [go_sem, baseF, deps, dep1, Region.binds, NewSl] at hdq); go_simp <;> first | exact ⟨Below.refl _ _, rfl⟩ | (rw [if_neg]; (focus (exact ⟨Below.refl _ _, rfl⟩)); (focus ((try simp only [ByteArray.size_append]); omega))) | (first | (go_at_call 35; exact (spec_LogOkH s t Ad c xs true _ H1 hS (by omega) (Kd.C_below HC.out (bl_then hB hBq)) hc)))))
  iterate 9 (refine flowG_yesE ?_; apply Exists.intro; refine ⟨fun A wq hBq hbq hdq => ⟨?_, ?_⟩, ?_⟩; (focus ((try simp [go_sem, baseF, deps, dep1, Region.binds] at hdq); refine yielded_of rfl ?_; simp [hdq])); focus (obtain ⟨hcq, hfq⟩ := bcellA hBq; (try simp [go_sem, baseF, deps, dep1, Region.binds] at hbq); (try simp [go_sem, baseF, deps, dep1, Region.binds, NewSl] at hdq); go_simp <;> first | exact ⟨Below.refl _ _, rfl⟩ | (rw [if_neg]; (focus (exact ⟨Below.refl _ _, rfl⟩)); (focus ((try simp only [ByteArray.size_append]); omega))) | (first | (go_at_call 110; exact (spec_lastH2 s t Ad c xs _ hs0 hs1 hl (Kd.C_below HC.out (bl_then hB hBq)) hc)) | (go_at_call 95; exact (spec_inB2 _ _ _ false _ H2)))))
  (refine flowG_valE ?_; apply Exists.intro; refine ⟨fun A wq hBq hbq hdq => ?_, ?_⟩; focus (obtain ⟨hcq, hfq⟩ := bcellA hBq; (try simp [go_sem, baseF, deps, dep1, Region.binds] at hbq); (try simp [go_sem, baseF, deps, dep1, Region.binds, NewSl] at hdq); go_simp <;> first | exact ⟨Below.refl _ _, rfl⟩ | (rw [if_neg]; (focus (exact ⟨Below.refl _ _, rfl⟩)); (focus ((try simp only [ByteArray.size_append]); omega))) | (fail)))
  refine fun x wq hBq hall => ?_
  obtain ⟨hcq, hfq⟩ := bcellA hBq
  simp only [allT] at hall
  simp [frameOf, Act.put, hall]
  clear hall
  have k6q := k6.below hBq
  have y0 := k6q.cell 0 rfl
  have y1 := k6q.cell 1 rfl
  have y2 := k6q.cell 2 rfl
  have z0 := k6q.free 0
  have z1 := k6q.free 1
  have z2 := k6q.free 2
  have ly := k6q.lt
  go_wp2_with fail
  refine bodyPost_ret (v := .tuple #[.agg #[.int .i64 0, .int .i64 0, .slice none 0 0], .bool false]) ?_ rfl ⟨rfl, ?_⟩
  · simp only [results, Try.results33]
    go_simp
  · have hle : w.heap.size ≤ w.heap.size + 1 + 1 := by omega
    exact bl_set (bl_set (bl_set (bl_then hB hBq) hle) hle) hle
set_option maxHeartbeats 2000000 in
set_option maxRecDepth 100000 in
theorem spec_LogPut_on (s t : Int) (kn : Nat) (Ad : Option Addr) (c : Nat) (xs : List S54) (te ke : Int) (de : ByteArray) (w : World) (hr : Kd.C k54 w Ad xs.length xs) (hc : xs.length ≤ c) (hx : ∀ x ∈ xs, x.f2.size ≤ 200) (hde : de.size ≤ 200) (H1 : Hid (logOkB s t xs = true)) (hkn : kn ≤ xs.length) (ys : List S54) (hys : ys = xs.take kn ++ [⟨te, ke, de⟩]) (q : Bool) (H3 : Hid (logOkB s t ys = q)) :
    Calls Try.prog 33 #[.agg #[.int .i64 s, .int .i64 t, .slice Ad xs.length c], .int .i64 (s + 1 + (kn : Int)), .agg #[.int .i64 te, .int .i64 ke, .string de]] w fun e w' => (∃ (a b : Int) (A6 : Option Addr) (n6 c6 : Nat), e = .returned (.tuple #[.agg #[.int .i64 a, .int .i64 b, .slice A6 n6 c6], .bool q])) ∧ Below w.heap.size w w' := by
  have HC := Lib.hid hr
  have hs : (0 ≤ s ∧ s ≤ 1000000) ∧ xs.length ≤ 60 := by
    have h := H1.out
    unfold logOkB at h
    simp only [Bool.and_eq_true, decide_eq_true_eq] at h
    exact ⟨h.1, h.2.2.1⟩
  obtain ⟨⟨hs0, hs1⟩, hl⟩ := hs
  have hS : ShortE xs := short_mem (fun x h => by have := hx x h; omega)
  have hSy : ShortE ys := short_mem (fun x h => by
    rw [hys] at h
    rcases List.mem_append.1 h with h | h
    · have := hx x (List.mem_of_mem_take h); omega
    · rw [List.mem_singleton] at h; rw [h]; show de.size ≤ 1000; omega)
  have hly : ys.length = kn + 1 := by rw [hys]; simp [Nat.min_eq_left hkn]
  have hyx : ∀ x ∈ ys, x.f2.size ≤ 200 := fun x h => by
    rw [hys] at h
    rcases List.mem_append.1 h with h | h
    · exact hx x (List.mem_of_mem_take h)
    · rw [List.mem_singleton] at h; rw [h]; exact hde
  have H2 : Hid (inB (s + 1 + (kn : Int)) (IntKind.i64.wrap (s + 1)) (IntKind.i64.wrap (s + (xs.length : Int) + 1)) = true) := Lib.hid (by
    rw [show IntKind.i64.wrap (s + 1) = s + 1 from by rw [IntKind.wrap_i64]; omega, show IntKind.i64.wrap (s + (xs.length : Int) + 1) = s + xs.length + 1 from by rw [IntKind.wrap_i64]; omega]
    rw [inB_iff]
    omega)
  clear hr
  go_enter Try.func33, Try.ntmps33
  go_wp2_with fail
  refine wp_at (fun X => Below w.heap.size w X ∧ Blk 67 w.heap.size #[.int .i64 s, .int .i64 t, .slice Ad xs.length c] X ∧ Blk 54 (w.heap.size + 1) #[.int .i64 te, .int .i64 ke, .string de] X ∧ Blk 67 (w.heap.size + 1 + 1) #[.int .i64 0, .int .i64 0, .slice none 0 0] X) ⟨(by repeat (first | exact Below.refl _ _ | apply bl_alloc | apply bl_drewN | apply bl_drew | refine bl_set ?_ (by simp) | refine bl_then ?_ (by assumption))), ((Blk.new _ _ w).alloc _).alloc _, (Blk.newE _ _ (w.alloc _) (by simp)).alloc _, Blk.newE _ _ ((w.alloc _).alloc _) (by simp)⟩ ?_
  rintro X ⟨hB, k3, k5, k6⟩
  have c0 := k3.cell 0 rfl
  have c1 := k3.cell 1 rfl
  have c2 := k3.cell 2 rfl
  have l3 := k3.lt
  refine wp_region_flowG [1, 3] 47 (by kernel_rfl) (by rfl) (by kernel_rfl) (by kernel_rfl) (by kernel_rfl) ?_
  iterate 4 (refine flowG_valE ?_; apply Exists.intro; refine ⟨fun A wq hBq hbq hdq => ?_, ?_⟩; focus (obtain ⟨hcq, hfq⟩ := bcellA hBq; (try simp [go_sem, baseF, deps, dep1, Region.binds] at hbq); (try simp [go_sem, baseF, deps, dep1, Region.binds, NewSl] at hdq); go_simp <;> first | exact ⟨Below.refl _ _, rfl⟩ | (rw [if_neg]; (focus (exact ⟨Below.refl _ _, rfl⟩)); (focus ((try simp only [ByteArray.size_append]); omega))) | (first | (go_at_call 35; exact (spec_LogOkH s t Ad c xs true _ H1 hS (by omega) (Kd.C_below HC.out (bl_then hB hBq)) hc)))))
  iterate 9 (refine flowG_yesE ?_; apply Exists.intro; refine ⟨fun A wq hBq hbq hdq => ⟨?_, ?_⟩, ?_⟩; (focus ((try simp [go_sem, baseF, deps, dep1, Region.binds] at hdq); refine yielded_of rfl ?_; simp [hdq])); focus (obtain ⟨hcq, hfq⟩ := bcellA hBq; (try simp [go_sem, baseF, deps, dep1, Region.binds] at hbq); (try simp [go_sem, baseF, deps, dep1, Region.binds, NewSl] at hdq); go_simp <;> first | exact ⟨Below.refl _ _, rfl⟩ | (rw [if_neg]; (focus (exact ⟨Below.refl _ _, rfl⟩)); (focus ((try simp only [ByteArray.size_append]); omega))) | (first | (go_at_call 110; exact (spec_lastH2 s t Ad c xs _ hs0 hs1 (by omega) (Kd.C_below HC.out (bl_then hB hBq)) hc)) | (go_at_call 95; exact (spec_inB2 _ _ _ true _ H2)))))
  (refine flowG_valE ?_; apply Exists.intro; refine ⟨fun A wq hBq hbq hdq => ?_, ?_⟩; focus (obtain ⟨hcq, hfq⟩ := bcellA hBq; (try simp [go_sem, baseF, deps, dep1, Region.binds] at hbq); (try simp [go_sem, baseF, deps, dep1, Region.binds, NewSl] at hdq); go_simp <;> first | exact ⟨Below.refl _ _, rfl⟩ | (rw [if_neg]; (focus (exact ⟨Below.refl _ _, rfl⟩)); (focus ((try simp only [ByteArray.size_append]); omega))) | (fail)))
  refine fun x wq hBq hall => ?_
  simp only [allT] at hall
  simp [frameOf, Act.put, hall]
  clear hall
  replace k3 := k3.below hBq
  replace k5 := k5.below hBq
  replace k6 := k6.below hBq
  replace hB := bl_then hB hBq
  clear c0 c1 c2 l3 hBq
  have c0 := k3.cell 0 rfl
  have c1 := k3.cell 1 rfl
  have c2 := k3.cell 2 rfl
  have l3 := k3.lt
  have hq6 := k6.lt
  clear c0 c1 c2 l3
  go_upto_region 3 with fail
  obtain ⟨B, hBe⟩ : ∃ B, B = wq.heap.size := ⟨_, rfl⟩
  have HCq := Lib.hid (Kd.C_below HC.out hB)
  have hwB : w.heap.size ≤ B := by omega
  refine wp_region_flowD (L := Ltb 54 B) (M := fun a b => Below a.heap.size a b) (J := fun _ => True) (J1 := fun _ => True) (anc := [16, 15, 14, 13, 12, 11, 10, 9, 8, 7, 6, 5, 4]) (dead := [4, 13, 15]) (late := [17]) 16 trivial (fun _ _ _ _ => trivial) (fun _ _ _ _ => trivial) (fun a b h => Ltb.of h) (fun w => Ltb.drew _ _ w) (fun a b c h k => h.trans k) [1, 3, 5] 47 19 (by kernel_rfl) (by rfl) (by kernel_rfl) (by kernel_rfl) (by kernel_rfl) (by decide) (by kernel_rfl) (by kernel_rfl) (by kernel_rfl) ?_
  (refine flowD_valE (by decide) ?_; apply Exists.intro; refine ⟨fun A wq hLq hbq hdq => ?_, ?_⟩; focus ((try simp [go_sem, baseF, deps, dep1, Region.binds, liveT] at hbq); (try simp [go_sem, baseF, deps, dep1, Region.binds, liveT] at hdq); go_simp; first | exact ⟨Below.refl _ _, rfl⟩ | (fail)))
  refine flowD_valE (by decide) ⟨.int .i64 s, fun A wr hLq hbq hdq => ?_, ?_⟩
  · have q := Ltb.blk hLq k3 (.inl (by omega))
    have qc := q.cell 0 rfl
    have qc1 := q.cell 1 rfl
    have qc2 := q.cell 2 rfl
    have ql := q.lt
    (try simp [go_sem, baseF, deps, dep1, Region.binds, liveT] at hbq)
    (try simp [go_sem, baseF, deps, dep1, Region.binds, liveT] at hdq)
    go_simp
    first | exact Below.refl _ _ | exact ⟨Below.refl _ _, rfl⟩
  (refine flowD_valE (by decide) ?_; apply Exists.intro; refine ⟨fun A wq hLq hbq hdq => ?_, ?_⟩; focus ((try simp [go_sem, baseF, deps, dep1, Region.binds, liveT] at hbq); (try simp [go_sem, baseF, deps, dep1, Region.binds, liveT] at hdq); go_simp; first | exact ⟨Below.refl _ _, rfl⟩ | (fail)))
  refine flowD_valE (by decide) ⟨.int .i64 t, fun A wr hLq hbq hdq => ?_, ?_⟩
  · have q := Ltb.blk hLq k3 (.inl (by omega))
    have qc := q.cell 0 rfl
    have qc1 := q.cell 1 rfl
    have qc2 := q.cell 2 rfl
    have ql := q.lt
    (try simp [go_sem, baseF, deps, dep1, Region.binds, liveT] at hbq)
    (try simp [go_sem, baseF, deps, dep1, Region.binds, liveT] at hdq)
    go_simp
    first | exact Below.refl _ _ | exact ⟨Below.refl _ _, rfl⟩
  refine flowD_R (by decide) (fun W u => ∃ b : Nat, u = .slice (some ⟨b, 0, none⟩) 0 0 ∧ B ≤ b ∧ Blk 54 b #[] W) (by simp; exact fun W W' u ⟨b, e, hb, hk⟩ hL => ⟨b, e, hb, hk.below hL⟩) (fun A wr hLq hbq hdq => ?_) ?_
  · have hlz := hLq.size
    (try simp [go_sem, baseF, deps, dep1, Region.binds, liveT] at hbq)
    (try simp [go_sem, baseF, deps, dep1, Region.binds, liveT] at hdq)
    go_simp
    first
      | exact ⟨bl_alloc (Below.refl _ _) _, wr.heap.size, rfl, by omega, Blk.new _ _ wr⟩
      | exact ⟨bl_alloc (Below.refl _ _) _, by omega, Blk.new _ _ wr⟩
      | exact ⟨bl_alloc (Below.refl _ _) _, Blk.new _ _ wr⟩
  (refine flowD_valE (by decide) ?_; apply Exists.intro; refine ⟨fun A wq hLq hbq hdq => ?_, ?_⟩; focus ((try simp [go_sem, baseF, deps, dep1, Region.binds, liveT] at hbq); (try simp [go_sem, baseF, deps, dep1, Region.binds, liveT] at hdq); go_simp; first | exact ⟨Below.refl _ _, rfl⟩ | (fail)))
  refine flowD_valE (by decide) ⟨.slice Ad xs.length c, fun A wr hLq hbq hdq => ?_, ?_⟩
  · have q := Ltb.blk hLq k3 (.inl (by omega))
    have qc := q.cell 0 rfl
    have qc1 := q.cell 1 rfl
    have qc2 := q.cell 2 rfl
    have ql := q.lt
    (try simp [go_sem, baseF, deps, dep1, Region.binds, liveT] at hbq)
    (try simp [go_sem, baseF, deps, dep1, Region.binds, liveT] at hdq)
    go_simp
    first | exact Below.refl _ _ | exact ⟨Below.refl _ _, rfl⟩
  iterate 2 (refine flowD_valE (by decide) ?_; apply Exists.intro; refine ⟨fun A wq hLq hbq hdq => ?_, ?_⟩; focus ((try simp [go_sem, baseF, deps, dep1, Region.binds, liveT] at hbq); (try simp [go_sem, baseF, deps, dep1, Region.binds, liveT] at hdq); go_simp; first | exact ⟨Below.refl _ _, rfl⟩ | (fail)))
  refine flowD_valE (by decide) ⟨.int .i64 s, fun A wr hLq hbq hdq => ?_, ?_⟩
  · have q := Ltb.blk hLq k3 (.inl (by omega))
    have qc := q.cell 0 rfl
    have qc1 := q.cell 1 rfl
    have qc2 := q.cell 2 rfl
    have ql := q.lt
    (try simp [go_sem, baseF, deps, dep1, Region.binds, liveT] at hbq)
    (try simp [go_sem, baseF, deps, dep1, Region.binds, liveT] at hdq)
    go_simp
    first | exact Below.refl _ _ | exact ⟨Below.refl _ _, rfl⟩
  refine flowD_valE (by decide) ⟨.int .i64 ((kn : Int) + 1), fun A wr hLq hbq hdq => ?_, ?_⟩
  · have E1 : IntKind.i64.wrap (s + 1 + (kn : Int) - s) = (kn : Int) + 1 := (by rw [IntKind.wrap_i64]; omega)
    (try simp [go_sem, baseF, deps, dep1, Region.binds, liveT] at hbq)
    (try simp [go_sem, baseF, deps, dep1, Region.binds, liveT] at hdq)
    go_simp
    first | exact Below.refl _ _ | exact ⟨Below.refl _ _, E1⟩ | exact ⟨Below.refl _ _, by rw [E1]⟩ | exact ⟨Below.refl _ _, by rw [IntKind.wrap_i64]; omega⟩
  refine flowD_valE (by decide) ⟨.int .i64 (kn : Int), fun A wr hLq hbq hdq => ?_, ?_⟩
  · have E1 : IntKind.i64.wrap ((kn : Int) + 1 - 1) = (kn : Int) := (by rw [IntKind.wrap_i64]; omega)
    (try simp [go_sem, baseF, deps, dep1, Region.binds, liveT] at hbq)
    (try simp [go_sem, baseF, deps, dep1, Region.binds, liveT] at hdq)
    go_simp
    first | exact Below.refl _ _ | exact ⟨Below.refl _ _, E1⟩ | exact ⟨Below.refl _ _, by rw [E1]⟩ | exact ⟨Below.refl _ _, by rw [IntKind.wrap_i64]; omega⟩
  refine flowD_valE (by decide) ⟨.slice Ad kn c, fun A wr hLq hbq hdq => ?_, ?_⟩
  · have E1 : (kn : Int) ≤ (c : Int) := by omega
    (try simp [go_sem, baseF, deps, dep1, Region.binds, liveT] at hbq)
    (try simp [go_sem, baseF, deps, dep1, Region.binds, liveT] at hdq)
    go_simp
    first | exact Below.refl _ _ | exact ⟨Below.refl _ _, rfl⟩
  refine flowD_R (by decide) (fun W u => Kd.R k54 54 W B (fun k => B ≤ k) u (xs.take kn)) (by simp; exact fun W W' u hR hL => Kd.R_below hR hL) (fun A wr hLq hbq hdq => ?_) ?_
  · (try simp [go_sem, baseF, deps, dep1, Region.binds, liveT] at hbq)
    (try simp [go_sem, baseF, deps, dep1, Region.binds, liveT] at hdq)
    obtain ⟨⟨b, h28, hb, hk⟩, h36⟩ := hdq
    have hlt : (xs.take kn).length = kn := by simp [Nat.min_eq_left hkn]
    have hCt := C_takeE (Kd.C_below HC.out (Ltb.bl hB hLq hwB)) hkn
    obtain ⟨v1, w1, hrun, hR1, hB1⟩ := append_empty_R wr b B hk hb Ad c (xs.take kn) hCt (by rw [hlt]; omega)
    rw [hlt] at hrun
    have h28' : A.eval (.tmp 28) = .slice (some ⟨b, 0, none⟩) 0 0 := by simpa [Act.eval, Array.getD_eq_getD_getElem?] using h28
    have h36' : A.eval (.tmp 36) = .slice Ad kn c := by simpa [Act.eval, Array.getD_eq_getD_getElem?] using h36
    rw [exec_append (by rw [h28', h36']; exact hrun)]
    exact ⟨hB1, hR1⟩
  refine flowD_valE (by decide) ⟨.agg #[.int .i64 te, .int .i64 ke, .string de], fun A wr hLq hbq hdq => ?_, ?_⟩
  · have q := Ltb.blk hLq k5 (.inl (by omega))
    have qc := q.cell 0 rfl
    have qc1 := q.cell 1 rfl
    have qc2 := q.cell 2 rfl
    have ql := q.lt
    (try simp [go_sem, baseF, deps, dep1, Region.binds, liveT] at hbq)
    (try simp [go_sem, baseF, deps, dep1, Region.binds, liveT] at hdq)
    go_simp
    first | exact Below.refl _ _ | exact ⟨Below.refl _ _, rfl⟩
  refine flowD_R (by decide) (fun W u => ∃ b : Nat, u = .slice (some ⟨b, 0, none⟩) 1 1 ∧ B ≤ b ∧ Blk 54 b #[.int .i64 te, .int .i64 ke, .string de] W) (by simp; exact fun W W' u ⟨b, e, hb, hk⟩ hL => ⟨b, e, hb, hk.below hL⟩) (fun A wr hLq hbq hdq => ?_) ?_
  · have hlz := hLq.size
    (try simp [go_sem, baseF, deps, dep1, Region.binds, liveT] at hbq)
    (try simp [go_sem, baseF, deps, dep1, Region.binds, liveT] at hdq)
    go_simp
    first
      | exact ⟨bl_alloc (Below.refl _ _) _, wr.heap.size, rfl, by omega, Blk.new _ _ wr⟩
      | exact ⟨bl_alloc (Below.refl _ _) _, by omega, Blk.new _ _ wr⟩
      | exact ⟨bl_alloc (Below.refl _ _) _, Blk.new _ _ wr⟩
  refine flowD_row rfl (fun W u => Kd.R k54 54 W B (fun k => B ≤ k) u ys) (fun W W' u hR hL => Kd.R_below hR hL) (fun A wr hLq _ hbq hdq => ?_) ?_
  · (try simp [go_sem, baseF, deps, dep1, Region.binds, liveT] at hbq)
    (try simp [go_sem, baseF, deps, dep1, Region.binds, liveT] at hdq)
    obtain ⟨hR37, ⟨b, h39, hb, hk⟩, -⟩ := hdq
    have hlz := hLq.size
    have hlt : (xs.take kn).length = kn := by simp [Nat.min_eq_left hkn]
    obtain ⟨v37, hv37⟩ : ∃ v, A.tmps[37]?.getD undef = v := ⟨_, rfl⟩
    rw [hv37] at hR37
    obtain ⟨v1, w1, hrun, hR1, hg1, hat1⟩ := run_append_R (P := Try.prog) k54 wr B 29 29 54 (.agg #[.int .i64 0, .int .i64 0, .string ⟨#[]⟩]) 32 Try.underlying29 (by kernel_rfl) rfl (by decide) (by decide) v37 (xs.take kn) (⟨te, ke, de⟩ : S54) [.int .i64 te, .int .i64 ke, .string de] _ (fun _ => False) ⟨b, 0, none⟩ 1 (by simpa using World.news_of_block (cs := #[.int .i64 te, .int .i64 ke, .string de]) (t := 54) (fr := (0, 0)) hk) (k54_mkM wr _ _ ⟨te, ke, de⟩) (fun k h => h.elim) (fun k hk => by omega) hR37 (by omega) (by omega)
    have h37' : A.eval (.tmp 37) = v37 := by simpa [Act.eval, Array.getD_eq_getD_getElem?] using hv37
    have h39' : A.eval (.tmp 39) = .slice (some ⟨b, 0, none⟩) 1 1 := by simpa [Act.eval, Array.getD_eq_getD_getElem?] using h39
    rw [exec_append (by rw [h37', h39']; exact hrun)]
    rw [← hys] at hR1
    exact ⟨Ltb.grown hg1 (fun r hr => R_blk hR37 r hr), hR1, trivial⟩
  refine flowD_R (by decide) (fun W u => ∃ z, u = .agg #[.int .i64 s, .int .i64 t, z] ∧ Kd.R k54 54 W B (fun k => B ≤ k) z ys) (by simp; exact fun W W' u ⟨z, e, hR⟩ hL => ⟨z, e, Kd.R_below hR hL⟩) (fun A wr hLq hbq hdq => ?_) ?_
  · (try simp [go_sem, baseF, deps, dep1, Region.binds, liveT] at hbq)
    (try simp [go_sem, baseF, deps, dep1, Region.binds, liveT] at hdq)
    obtain ⟨h25, h27, hR40⟩ := hdq
    obtain ⟨A6, c6, h6, hcap6, -⟩ := Kd.R_reads hR40
    rw [h6] at hR40
    go_simp
    first
      | exact ⟨Below.refl _ _, _, rfl, hR40⟩
      | exact ⟨Below.refl _ _, hR40⟩
      | (rw [hly, hys, hBe] at hR40; exact ⟨Below.refl _ _, hR40⟩)
  refine flowD_R (by decide) (fun W u => ∃ b : Nat, u = .pointer (some ⟨b, 0, none⟩) ∧ B ≤ b ∧ Blk 67 b #[.int .i64 0, .int .i64 0, .slice none 0 0] W) (by simp; exact fun W W' u ⟨b, e, hb, hk⟩ hL => ⟨b, e, hb, Ltb.blk hL hk (.inr (by decide))⟩) (fun A wr hLq hbq hdq => ?_) ?_
  · have hlz := hLq.size
    (try simp [go_sem, baseF, deps, dep1, Region.binds, liveT] at hbq)
    (try simp [go_sem, baseF, deps, dep1, Region.binds, liveT] at hdq)
    go_simp
    first
      | exact ⟨bl_alloc (Below.refl _ _) _, wr.heap.size, rfl, by omega, Blk.new _ _ wr⟩
      | exact ⟨bl_alloc (Below.refl _ _) _, by omega, Blk.new _ _ wr⟩
      | exact ⟨bl_alloc (Below.refl _ _) _, Blk.new _ _ wr⟩
  with_reducible refine flowD_tail ?_
  intro x wr hLq hall _
  simp [allT, List.filter] at hall
  obtain ⟨⟨b8, h18, hb8, k8⟩, ⟨z, h17, hR⟩, hall⟩ := hall
  obtain ⟨A6, c6, h6, hcap6, -⟩ := Kd.R_reads hR
  subst h6
  rw [hly] at hR h17
  have hB9 : Below w.heap.size w wr := Ltb.bl hB hLq hwB
  have n8 : w.heap.size + 1 + 1 < b8 := by omega
  have q6 := Ltb.blk hLq k6 (.inl (by omega))
  have c0 := k8.cell 0 rfl
  have c1 := k8.cell 1 rfl
  have c2 := k8.cell 2 rfl
  have f0 := k8.free 0
  have f1 := k8.free 1
  have f2 := k8.free 2
  have l8 := k8.lt
  have hwB2 : w.heap.size ≤ b8 := by omega
  have HR : Ents wq wr (.slice A6 (kn + 1) c6) ys := ⟨by rw [← hBe]; exact hR, hyx⟩
  refine ⟨?_⟩
  simp [seqUpon, lastUpon, frameOf, Act.put, List.take, h17, h18]
  clear hall h17 h18 hR
  go_simp
  go_upto_region 4 with fail
  refine wp_at (fun Z => Below w.heap.size w Z ∧ Blk 67 b8 #[.int .i64 s, .int .i64 t, .slice A6 (kn + 1) c6] Z ∧ Blk 67 (w.heap.size + 1 + 1) #[.int .i64 0, .int .i64 0, .slice none 0 0] Z ∧ Ents wq Z (.slice A6 (kn + 1) c6) ys) ⟨bl_set (bl_set (bl_set hB9 hwB2) hwB2) hwB2, ((k8.set 0 _ rfl).set 1 _ rfl).set 2 _ rfl, ((q6.far (a := ⟨b8, 0, none⟩) (by show w.heap.size + 1 + 1 ≠ b8; omega) _).far (a := ⟨b8, 1, none⟩) (by show w.heap.size + 1 + 1 ≠ b8; omega) _).far (a := ⟨b8, 2, none⟩) (by show w.heap.size + 1 + 1 ≠ b8; omega) _, ?_⟩ ?_
  · have q0 := k8.set 0 (.int .i64 s) (cs' := #[.int .i64 s, .int .i64 0, .slice none 0 0]) rfl
    have q1 := q0.set 1 (.int .i64 t) (cs' := #[.int .i64 s, .int .i64 t, .slice none 0 0]) rfl
    exact ((HR.far k8 (by decide) 0 (.int .i64 s)).far q0 (by decide) 1 (.int .i64 t)).far q1 (by decide) 2 (.slice A6 (kn + 1) c6)
  clear hB9 q6 c0 c1 c2 f0 f1 f2 l8 HR k8 hLq hB k3 k5 k6 HCq
  rintro Z ⟨hB, k8, k6, hE⟩
  obtain ⟨A7, c7, hv7, hcap7, hC7⟩ := Kd.R_reads hE.1
  have hA : A6 = A7 ∧ c6 = c7 := by injection hv7 with h1 h2 h3; exact ⟨h1, h3⟩
  obtain ⟨rfl, rfl⟩ := hA
  have hok := spec_LogOkH s t A6 c6 ys q Z H3 hSy (by omega) hC7 hcap7
  rw [hly] at hok
  have c0 := k8.cell 0 rfl
  have c1 := k8.cell 1 rfl
  have c2 := k8.cell 2 rfl
  have l8 := k8.lt
  clear hE hC7 hv7
  go_wp2_with fail
  refine hok.mono ?_
  clear hok
  rintro e Z2 ⟨rfl, hb⟩
  replace hB := bl_then hB hb
  replace k8 := k8.below hb
  replace k6 := k6.below hb
  clear c0 c1 c2 l8 hb
  have y0 := k6.cell 0 rfl
  have y1 := k6.cell 1 rfl
  have y2 := k6.cell 2 rfl
  have z0 := k6.free 0
  have z1 := k6.free 1
  have z2 := k6.free 2
  have ly := k6.lt
  have hle2 : w.heap.size ≤ w.heap.size + 1 + 1 := by omega
  cases q with
  | false =>
    go_wp2_with fail
    refine bodyPost_ret (v := .tuple #[.agg #[.int .i64 0, .int .i64 0, .slice none 0 0], .bool false]) ?_ rfl ⟨⟨_, _, _, _, _, rfl⟩, ?_⟩
    · simp only [results, Try.results33]
      go_simp
    · exact bl_set (bl_set (bl_set hB hle2) hle2) hle2
  | true =>
    have c0 := k8.cell 0 rfl
    have c1 := k8.cell 1 rfl
    have c2 := k8.cell 2 rfl
    have l8 := k8.lt
    go_wp2_with fail
    refine bodyPost_ret (v := .tuple #[.agg #[.int .i64 s, .int .i64 t, .slice A6 (kn + 1) c6], .bool true]) ?_ rfl ⟨⟨_, _, _, _, _, rfl⟩, ?_⟩
    · simp only [results, Try.results33]
      go_simp
    · exact bl_set (bl_set (bl_set hB hle2) hle2) hle2
end Go.Proofs.Ytdjikjmjajlgcaa.PFnPuts
end

/-! ### YtdjikjmjajlgcaaPutAll -/
section
namespace Go.Proofs.Ytdjikjmjajlgcaa.PFnPuts
open Go.RowKit Go.Proofs.YtdjikjmjajlgcaaW.PrintWords
set_option linter.unusedSimpArgs false
set_option linter.unusedVariables false

/-! LogPut, all ways at once: both programs answer alike. (own) -/
def putOk (s t ix : Int) (xs : List S54) (e : S54) : Bool := logOkB s t xs && (inB ix (s + 1) (s + xs.length + 1) && logOkB s t (putXs s ix xs e))
def PutYes (s t ix : Int) (xs : List S54) (e : S54) (a b : Int) (zs : List S54) : Prop :=
  a = s ∧ b = t ∧ ∃ kn : Nat, kn ≤ xs.length ∧ ix = s + 1 + kn ∧ zs = xs.take kn ++ [e] ∧ logOkB s t zs = true ∧ 0 ≤ s ∧ s ≤ 1000000 ∧ xs.length ≤ 60
theorem logOk_b {s t : Int} {xs : List S54} (h : logOkB s t xs = true) : 0 ≤ s ∧ s ≤ 1000000 ∧ xs.length ≤ 60 := by
  unfold logOkB at h
  simp only [Bool.and_eq_true, decide_eq_true_eq] at h
  exact ⟨h.1.1, h.1.2, h.2.2.1⟩
theorem wrap_ok {s : Int} {n : Nat} (h0 : 0 ≤ s) (h1 : s ≤ 1000000) (hn : n ≤ 60) : IntKind.i64.wrap (s + 1) = s + 1 ∧ IntKind.i64.wrap (s + (n : Int) + 1) = s + n + 1 := by
  constructor <;> (rw [IntKind.wrap_i64]; omega)
theorem putXs_at (s : Int) (kn : Nat) (xs : List S54) (e : S54) : putXs s (s + 1 + (kn : Int)) xs e = xs.take kn ++ [e] := by
  unfold putXs
  rw [show (s + 1 + (kn : Int) - s - 1).toNat = kn from by omega]
theorem impl_LogPut_all (s t ix : Int) (Ad : Option Addr) (c : Nat) (xs : List S54) (te ke : Int) (de : ByteArray) (q : Bool) (w : World) (Hq : Hid (putOk s t ix xs ⟨te, ke, de⟩ = q)) (hr : Kd.C k54 w Ad xs.length xs) (hc : xs.length ≤ c) (hl : xs.length ≤ 100) (hx : ∀ x ∈ xs, x.f2.size ≤ 200) (hde : de.size ≤ 200) (hnil : Ad = none → c = 0) :
    Calls Try.prog 32 #[.agg #[.int .i64 s, .int .i64 t, .slice Ad xs.length c], .int .i64 ix, .agg #[.int .i64 te, .int .i64 ke, .string de]] w fun e w' => (∃ (a b : Int) (A6 : Option Addr) (c6 : Nat) (zs : List S54), e = .returned (.tuple #[.agg #[.int .i64 a, .int .i64 b, .slice A6 zs.length c6], .bool q]) ∧ Ents w w' (.slice A6 zs.length c6) zs ∧ (q = false → zs = []) ∧ (q = true → PutYes s t ix xs ⟨te, ke, de⟩ a b zs)) ∧ Below w.heap.size w w' := by
  have hS : ShortE xs := short_mem (fun x h => by have := hx x h; omega)
  have hq := Hq.out
  unfold putOk at hq
  cases h1 : logOkB s t xs with
  | false =>
    rw [h1] at hq
    simp only [Bool.false_and] at hq
    subst hq
    refine (impl_LogPut_no1 s t ix Ad c xs te ke de w hr hc (by omega) hS (Lib.hid h1)).mono ?_
    rintro e w' ⟨rfl, hb⟩
    exact ⟨⟨0, 0, none, 0, [], rfl, ⟨Kd.R_nil _ _ _ _ _, by simp⟩, fun _ => rfl, fun h => by cases h⟩, hb⟩
  | true =>
    rw [h1] at hq
    simp only [Bool.true_and] at hq
    obtain ⟨s0, s1, hl6⟩ := logOk_b h1
    obtain ⟨w1, w2⟩ := wrap_ok s0 s1 hl6
    cases h2 : inB ix (s + 1) (s + xs.length + 1) with
    | false =>
      rw [h2] at hq
      simp only [Bool.false_and] at hq
      subst hq
      refine (impl_LogPut_no2 s t ix Ad c xs te ke de w hr hc (by omega) hS (Lib.hid h1) (Lib.hid (by rw [w1, w2]; exact h2))).mono ?_
      rintro e w' ⟨rfl, hb⟩
      exact ⟨⟨0, 0, none, 0, [], rfl, ⟨Kd.R_nil _ _ _ _ _, by simp⟩, fun _ => rfl, fun h => by cases h⟩, hb⟩
    | true =>
      rw [h2] at hq
      simp only [Bool.true_and] at hq
      rw [inB_iff] at h2
      obtain ⟨kn, rfl⟩ : ∃ kn : Nat, ix = s + 1 + (kn : Int) := ⟨(ix - s - 1).toNat, by omega⟩
      have hkn : kn ≤ xs.length := by omega
      rw [putXs_at] at hq
      refine (impl_LogPut_on s t kn Ad c xs te ke de w hr hc hx hde hnil (Lib.hid h1) hkn _ rfl q (Lib.hid hq)).mono ?_
      rintro e w' ⟨⟨v, zs, rfl, hz, hE⟩, hb⟩
      obtain ⟨A6, c6, rfl, -, -⟩ := Kd.R_reads hE.1
      refine ⟨⟨_, _, A6, c6, zs, rfl, hE, fun h => ?_, fun h => ?_⟩, hb⟩
      · subst h; exact hz
      · subst h
        simp only [if_true] at hz ⊢
        exact ⟨rfl, rfl, kn, hkn, rfl, hz, by rw [hz]; exact hq, s0, s1, hl6⟩
theorem spec_LogPut_all (s t ix : Int) (Ad : Option Addr) (c : Nat) (xs : List S54) (te ke : Int) (de : ByteArray) (q : Bool) (w : World) (Hq : Hid (putOk s t ix xs ⟨te, ke, de⟩ = q)) (hr : Kd.C k54 w Ad xs.length xs) (hc : xs.length ≤ c) (hl : xs.length ≤ 100) (hx : ∀ x ∈ xs, x.f2.size ≤ 200) (hde : de.size ≤ 200) :
    Calls Try.prog 33 #[.agg #[.int .i64 s, .int .i64 t, .slice Ad xs.length c], .int .i64 ix, .agg #[.int .i64 te, .int .i64 ke, .string de]] w fun e w' => (∃ (a b : Int) (A6 : Option Addr) (n6 c6 : Nat), e = .returned (.tuple #[.agg #[.int .i64 a, .int .i64 b, .slice A6 n6 c6], .bool q])) ∧ Below w.heap.size w w' := by
  have hS : ShortE xs := short_mem (fun x h => by have := hx x h; omega)
  have hq := Hq.out
  unfold putOk at hq
  cases h1 : logOkB s t xs with
  | false =>
    rw [h1] at hq
    simp only [Bool.false_and] at hq
    subst hq
    refine (spec_LogPut_no1 s t ix Ad c xs te ke de w hr hc (by omega) hS (Lib.hid h1)).mono ?_
    rintro e w' ⟨rfl, hb⟩
    exact ⟨⟨0, 0, none, 0, 0, rfl⟩, hb⟩
  | true =>
    rw [h1] at hq
    simp only [Bool.true_and] at hq
    obtain ⟨s0, s1, hl6⟩ := logOk_b h1
    obtain ⟨w1, w2⟩ := wrap_ok s0 s1 hl6
    cases h2 : inB ix (s + 1) (s + xs.length + 1) with
    | false =>
      rw [h2] at hq
      simp only [Bool.false_and] at hq
      subst hq
      refine (spec_LogPut_no2 s t ix Ad c xs te ke de w hr hc (by omega) hS (Lib.hid h1) (Lib.hid (by rw [w1, w2]; exact h2))).mono ?_
      rintro e w' ⟨rfl, hb⟩
      exact ⟨⟨0, 0, none, 0, 0, rfl⟩, hb⟩
    | true =>
      rw [h2] at hq
      simp only [Bool.true_and] at hq
      rw [inB_iff] at h2
      obtain ⟨kn, rfl⟩ : ∃ kn : Nat, ix = s + 1 + (kn : Int) := ⟨(ix - s - 1).toNat, by omega⟩
      have hkn : kn ≤ xs.length := by omega
      rw [putXs_at] at hq
      exact spec_LogPut_on s t kn Ad c xs te ke de w hr hc hx hde (Lib.hid h1) hkn _ rfl q (Lib.hid hq)
end Go.Proofs.Ytdjikjmjajlgcaa.PFnPuts
end

/-! ### YtdjikjmjajlgcaaPutFin -/
section
namespace Go.Proofs.Ytdjikjmjajlgcaa
open Go.RowKit Go.Proofs.YtdjikjmjajlgcaaW.PrintWords PFnPuts
set_option linter.unusedSimpArgs false
set_option linter.unusedVariables false

theorem eqf_ent (d : Nat) (w : World) (x0 y0 x1 y1 : Int) (x2 y2 : ByteArray) :
    (Op.equalIn (d + 2) 54 (.agg #[.int .i64 x0, .int .i64 x1, .string x2]) (.agg #[.int .i64 y0, .int .i64 y1, .string y2])).run Try.prog w = .ok (x0 == y0 && (x1 == y1 && (x2.toList == y2.toList))) w := by
  refine eqA_of Try.underlying54 (by kernel_rfl) ?_
  iterate 2 (refine eqf_cons (by rfl) (by go_simp; rfl) (by go_simp; rfl) (by go_simp) ?_)
  exact eqf_last (by rfl) (by go_simp; rfl) (by go_simp; rfl) (by go_simp)
theorem big_C (A : Option Addr) (c : Nat) (bs : List Int) (q : Bool) (w : World) (hq : Hid (decide ((bs.length : Int) > 1048576) = q)) (hr : Kd.C (Kd.int .u8) w A bs.length bs) (hc : bs.length ≤ c) :
    Calls Try.prog 19 #[.slice A bs.length c] w fun e w' => e = .returned (.bool q) ∧ Below w.heap.size w w' := by
  obtain rfl := hq.out
  refine (PFnPuts.laws_big.calls A c bs _ w hr hc rfl).mono ?_
  rintro e w' h
  first | exact h | (obtain ⟨rfl, n, rfl⟩ := h; exact ⟨rfl, bl_drewN (Below.refl _ _) n⟩) | (obtain ⟨rfl, rfl⟩ := h; exact ⟨rfl, Below.refl _ _⟩)
theorem R_nil_cap {α : Type} {d : Kd α} {e base n c : Nat} {ok : Nat → Prop} {W : World} {A : Option Addr} {xs : List α} (h : d.R e W base ok (.slice A n c) xs) (hA : A = none) : c = 0 := by
  subst hA
  obtain ⟨h0, inner, hown, hr⟩ := h
  rcases hown.2 with ⟨h, -⟩ | ⟨g, cap, cur, h, -⟩
  · injection h
  · injection h with h1
    cases h1

attribute [local go_sem high] eqf_ent
attribute [local go_sem] flowUpon flowUponL
set_option maxRecDepth 100000 in
set_option maxHeartbeats 4000000 in
theorem FnPuts_walk (v : Value) (W : World) (h : ArgOf Try.prog W 51 v) :
    Calls Try.prog 6 #[v] W fun e w' => e = .returned (.bool true) ∧ Below W.heap.size W w' := by
  obtain ⟨A, bs, c, rfl, hcap, hC, hlen, -⟩ := arg_slice Try.underlying51 (by kernel_rfl) (opens_int Try.underlying5) h
  clear h
  have HC := Lib.hid hC
  clear hC
  by_cases hbig : (bs.length : Int) > 1048576
  · have hq := Lib.hid (decide_eq_true hbig)
    clear hbig
    go_enter Try.func6, Try.ntmps6
    go_wp2_with fail
    refine (big_C A c bs true W hq HC.out hcap).mono ?_
    rintro e W1 ⟨rfl, B1⟩
    go_wp2_with fail
    go_ret
    exact ⟨rfl, B1⟩
  have hb : bs.length ≤ 1048576 := by omega
  have hq := Lib.hid (decide_eq_false hbig)
  clear hbig
  go_enter Try.func6, Try.ntmps6
  go_wp2_with fail
  refine (big_C A c bs false W hq HC.out hcap).mono ?_
  rintro e W1 ⟨rfl, B1⟩
  go_wp2_with fail
  refine (PFnPuts.drawLogPut_C A c bs W1 hb (Kd.C_below HC.out B1) hcap).mono ?_
  rintro e W2 ⟨⟨s, t, ix, v, xs, te, ke, de, rfl, hn, hE, hde⟩, B2'⟩
  have B2 := bl_then B1 B2'
  obtain ⟨A2, c2, rfl, hcap2, -⟩ := Kd.R_reads hE.1
  have hnil : A2 = none → c2 = 0 := R_nil_cap hE.1
  have hx := hE.2
  have HE := Lib.hid hE
  have hz12 := B1.size
  clear B1 B2' hE
  go_wp2_with fail
  obtain ⟨b3, hb3⟩ : ∃ b3, b3 = W2.heap.size := ⟨_, rfl⟩
  refine calls_at (fun X => Below W.heap.size W X ∧ Blk 67 b3 #[.int .i64 s, .int .i64 t, .slice A2 xs.length c2] X ∧ Blk 54 (b3 + 1) #[.int .i64 te, .int .i64 ke, .string de] X ∧ Ents W1 X (.slice A2 xs.length c2) xs) ⟨bl_alloc (bl_alloc B2 _) _, (Blk.newE _ _ W2 hb3).alloc _, Blk.newE _ _ (W2.alloc _) (by simp [hb3]), (HE.out.below (bl_alloc (Below.refl _ _) _)).below (bl_alloc (Below.refl _ _) _)⟩ ?_
  try rw [← hb3]
  clear hb3 B2 HE W2
  rintro W3 ⟨B3, k3, k5, hE⟩
  obtain ⟨A2', c2', hv2, -, hC⟩ := Kd.R_reads hE.1
  have hA : A2 = A2' := by injection hv2
  subst hA
  have HCe := Lib.hid hC
  clear hC hv2
  obtain ⟨q, hqp⟩ : ∃ q, Hid (putOk s t ix xs ⟨te, ke, de⟩ = q) := ⟨_, Lib.hid rfl⟩
  refine (impl_LogPut_all s t ix A2 c2 xs te ke de q W3 hqp HCe.out hcap2 hn hx hde hnil).mono ?_
  rintro e W4 ⟨⟨a4, b4, A6, c6, zs, rfl, hE4, hq0, hq1⟩, hb4⟩
  have B4 := bl_then B3 hb4
  replace k3 := k3.below hb4
  replace k5 := k5.below hb4
  replace HCe := Lib.hid (Kd.C_below HCe.out hb4)
  obtain ⟨A6', c6', hv6, hcap6, hC6⟩ := Kd.R_reads hE4.1
  have hA : A6 = A6' ∧ c6 = c6' := by injection hv6 with h1 h2 h3; exact ⟨h1, h3⟩
  obtain ⟨rfl, rfl⟩ := hA
  have HC6 := Lib.hid hC6
  have hz34 : W.heap.size ≤ W3.heap.size := B3.size
  have c30 := k3.cell 0 rfl
  have c31 := k3.cell 1 rfl
  have c32 := k3.cell 2 rfl
  have l3 := k3.lt
  have c50 := k5.cell 0 rfl
  have c51 := k5.cell 1 rfl
  have c52 := k5.cell 2 rfl
  have l5 := k5.lt
  clear hC6 hv6 hE4 hE B3 hb4
  go_wp2_with fail
  obtain ⟨b6, hb6⟩ : ∃ b6, b6 = W4.heap.size := ⟨_, rfl⟩
  refine calls_at (fun X => Below W.heap.size W X ∧ Blk 67 b3 #[.int .i64 s, .int .i64 t, .slice A2 xs.length c2] X ∧ Blk 54 (b3 + 1) #[.int .i64 te, .int .i64 ke, .string de] X ∧ Kd.C k54 X A2 xs.length xs ∧ Kd.C k54 X A6 zs.length zs ∧ Blk 67 b6 #[.int .i64 a4, .int .i64 b4, .slice A6 zs.length c6] X) ⟨bl_alloc B4 _, k3.alloc _, k5.alloc _, Kd.C_below HCe.out (bl_alloc (Below.refl _ _) _), Kd.C_below HC6.out (bl_alloc (Below.refl _ _) _), Blk.newE _ _ W4 hb6⟩ ?_
  try rw [← hb6]
  have n6 : b3 + 1 < b6 := by omega
  clear hb6 B4 k3 k5 HCe HC6 c30 c31 c32 l3 c50 c51 c52 l5 hz34 W4
  rintro X ⟨B5, k3, k5, hCe, hC6, k6⟩
  have HC6 := Lib.hid hC6
  clear hC6
  refine (spec_LogPut_all s t ix A2 c2 xs te ke de q X hqp hCe hcap2 hn hx hde).mono ?_
  rintro e W5 ⟨⟨a8, b8, A8, n8, c8, rfl⟩, hb5⟩
  have B6 := bl_then B5 hb5
  replace k3 := k3.below hb5
  replace k5 := k5.below hb5
  replace k6 := k6.below hb5
  have HCe := Lib.hid (Kd.C_below hCe hb5)
  replace HC6 := Lib.hid (Kd.C_below HC6.out hb5)
  clear hCe B5 hb5 hqp
  cases q with
  | false =>
    obtain rfl := hq0 rfl
    clear hq0 hq1 HCe HC6 k3 k5
    have c60 := k6.cell 0 rfl
    have c61 := k6.cell 1 rfl
    have c62 := k6.cell 2 rfl
    have l6 := k6.lt
    go_wp2_with fail
    go_ret
    exact ⟨by first | rfl | simp, by first | exact bl_alloc B6 _ | exact bl_drewN (bl_alloc B6 _) _⟩
  | true =>
    obtain ⟨rfl, rfl, kn, hkn, rfl, hzs, hok, s0, s1, hl6⟩ := hq1 rfl
    have hzl : zs.length = kn + 1 := by rw [hzs]; simp [Nat.min_eq_left hkn]
    have hSz : ShortE zs := short_mem (fun x h => by
      rw [hzs] at h
      rcases List.mem_append.1 h with h | h
      · have := hx x (List.mem_of_mem_take h); omega
      · rw [List.mem_singleton] at h; rw [h]; show de.size ≤ 1000; omega)
    clear hq0 hq1
    go_upto_region 10 with fail
    refine wp_at (fun X => Below W.heap.size W X ∧ Blk 67 b3 #[.int .i64 a4, .int .i64 b4, .slice A2 xs.length c2] X ∧ Blk 54 (b3 + 1) #[.int .i64 te, .int .i64 ke, .string de] X ∧ Kd.C k54 X A2 xs.length xs ∧ Kd.C k54 X A6 zs.length zs ∧ Blk 67 b6 #[.int .i64 a4, .int .i64 b4, .slice A6 zs.length c6] X) ⟨bl_alloc B6 _, k3.alloc _, k5.alloc _, Kd.C_below HCe.out (bl_alloc (Below.refl _ _) _), Kd.C_below HC6.out (bl_alloc (Below.refl _ _) _), k6.alloc _⟩ ?_
    clear B6 k3 k5 k6 HCe HC6
    rintro Y ⟨B6, k3, k5, hCe, hC6, k6⟩
    have HCe := Lib.hid hCe
    have HC6 := Lib.hid hC6
    obtain ⟨ad, hA6, x0, x1, x2⟩ := at_T54 hC6 (kn : Int) (by omega) (by omega)
    have hrd : rd_T54 zs (kn : Int) = ⟨te, ke, de⟩ := by
      rw [hzs]
      simp [rd_T54, List.getElem?_append, Nat.min_eq_left hkn]
    rw [hrd] at x0 x1 x2
    rw [Int.toNat_natCast] at x0 x1 x2
    subst hA6
    clear hCe hC6 hrd
    have c50 := k5.cell 0 rfl
    have c51 := k5.cell 1 rfl
    have c52 := k5.cell 2 rfl
    have l5 := k5.lt
    have c60 := k6.cell 0 rfl
    have c61 := k6.cell 1 rfl
    have c62 := k6.cell 2 rfl
    have l6 := k6.lt
    have hla : ∀ w : World, Kd.C k54 w (some ad) zs.length zs → Calls Try.prog 34 #[.agg #[.int .i64 a4, .int .i64 b4, .slice (some ad) (kn + 1) c6]] w fun e w' => e = .returned (.int .i64 (a4 + 1 + (kn : Int))) ∧ Below w.heap.size w w' := fun w hr => by
      have h := PFnPuts.laws_last.calls a4 b4 (some ad) c6 zs _ w hr hcap6 rfl
      rw [show wrap64 (a4 + (zs.length : Int)) = a4 + 1 + (kn : Int) from by unfold wrap64; omega, hzl] at h
      exact h
    have hlo : ∀ w : World, Kd.C k54 w (some ad) zs.length zs → Calls Try.prog 35 #[.agg #[.int .i64 a4, .int .i64 b4, .slice (some ad) (kn + 1) c6]] w fun e w' => e = .returned (.bool true) ∧ Below w.heap.size w w' := fun w hr => by
      have h := spec_LogOkH a4 b4 (some ad) c6 zs true w (Lib.hid hok) hSz (by omega) hr hcap6
      rw [hzl] at h
      exact h
    have hwk : IntKind.i64.wrap (kn : Int) = (kn : Int) := by rw [IntKind.wrap_i64]; omega
    have hk0 : (0 : Int) ≤ (kn : Int) := by omega
    have hk1 : (kn : Int) < (kn : Int) + 1 := by omega
    refine wp_region_flowG [4, 5, 6] 82 (by kernel_rfl) (by rfl) (by kernel_rfl) (by kernel_rfl) (by kernel_rfl) ?_
    iterate 5 (refine flowG_valE ?_; apply Exists.intro; refine ⟨fun A wq hBq hbq hdq => ?_, ?_⟩; focus (obtain ⟨hcq, hfq⟩ := bcellA hBq; (try simp [go_sem, baseF, deps, dep1, Region.binds] at hbq); (try simp [go_sem, baseF, deps, dep1, Region.binds, NewSl] at hdq); go_simp <;> first | exact ⟨Below.refl _ _, rfl⟩ | (rw [if_neg]; (focus (exact ⟨Below.refl _ _, rfl⟩)); (focus ((try simp only [ByteArray.size_append]); omega))) | (first | (go_at_call 34; exact (hla _ (Kd.C_below HC6.out hBq))))))
    iterate 7 (refine flowG_yesE ?_; apply Exists.intro; refine ⟨fun A wq hBq hbq hdq => ⟨?_, ?_⟩, ?_⟩; (focus ((try simp [go_sem, baseF, deps, dep1, Region.binds] at hdq); refine yielded_of rfl ?_; simp [hdq])); focus (obtain ⟨hcq, hfq⟩ := bcellA hBq; (try simp [go_sem, baseF, deps, dep1, Region.binds] at hbq); (try simp [go_sem, baseF, deps, dep1, Region.binds, NewSl] at hdq); go_simp <;> first | exact ⟨Below.refl _ _, rfl⟩ | (rw [if_neg]; (focus (exact ⟨Below.refl _ _, rfl⟩)); (focus ((try simp only [ByteArray.size_append]); omega))) | (fail)))
    refine flowG_yesE ?_
    refine ⟨.agg #[.int .i64 te, .int .i64 ke, .string de], fun A wq hBq hbq hdq => ⟨?_, ?_⟩, ?_⟩
    · (try simp [go_sem, baseF, deps, dep1, Region.binds] at hdq)
      refine yielded_of rfl ?_
      simp [hdq]
    · have y0 := (hBq.cell (World.block_lt_of_cell? Y _ x0)).trans x0
      have y1 := (hBq.cell (World.block_lt_of_cell? Y _ x1)).trans x1
      have y2 := (hBq.cell (World.block_lt_of_cell? Y _ x2)).trans x2
      (try simp [go_sem, baseF, deps, dep1, Region.binds] at hbq)
      (try simp [go_sem, baseF, deps, dep1, Region.binds, NewSl] at hdq)
      go_simp
      first | exact Below.refl _ _ | exact ⟨Below.refl _ _, rfl⟩
    iterate 2 (refine flowG_yesE ?_; apply Exists.intro; refine ⟨fun A wq hBq hbq hdq => ⟨?_, ?_⟩, ?_⟩; (focus ((try simp [go_sem, baseF, deps, dep1, Region.binds] at hdq); refine yielded_of rfl ?_; simp [hdq])); focus (obtain ⟨hcq, hfq⟩ := bcellA hBq; (try simp [go_sem, baseF, deps, dep1, Region.binds] at hbq); (try simp [go_sem, baseF, deps, dep1, Region.binds, NewSl] at hdq); go_simp <;> first | exact ⟨Below.refl _ _, rfl⟩ | (rw [if_neg]; (focus (exact ⟨Below.refl _ _, rfl⟩)); (focus ((try simp only [ByteArray.size_append]); omega))) | (fail)))
    iterate 2 (refine flowG_valE ?_; apply Exists.intro; refine ⟨fun A wq hBq hbq hdq => ?_, ?_⟩; focus (obtain ⟨hcq, hfq⟩ := bcellA hBq; (try simp [go_sem, baseF, deps, dep1, Region.binds] at hbq); (try simp [go_sem, baseF, deps, dep1, Region.binds, NewSl] at hdq); go_simp <;> first | exact ⟨Below.refl _ _, rfl⟩ | (rw [if_neg]; (focus (exact ⟨Below.refl _ _, rfl⟩)); (focus ((try simp only [ByteArray.size_append]); omega))) | (fail)))
    iterate 3 (refine flowG_yesE ?_; apply Exists.intro; refine ⟨fun A wq hBq hbq hdq => ⟨?_, ?_⟩, ?_⟩; (focus ((try simp [go_sem, baseF, deps, dep1, Region.binds] at hdq); refine yielded_of rfl ?_; simp [hdq])); focus (obtain ⟨hcq, hfq⟩ := bcellA hBq; (try simp [go_sem, baseF, deps, dep1, Region.binds] at hbq); (try simp [go_sem, baseF, deps, dep1, Region.binds, NewSl] at hdq); go_simp <;> first | exact ⟨Below.refl _ _, rfl⟩ | (rw [if_neg]; (focus (exact ⟨Below.refl _ _, rfl⟩)); (focus ((try simp only [ByteArray.size_append]); omega))) | (first | (go_at_call 35; exact (hlo _ (Kd.C_below HC6.out hBq))))))
    (refine flowG_valE ?_; apply Exists.intro; refine ⟨fun A wq hBq hbq hdq => ?_, ?_⟩; focus (obtain ⟨hcq, hfq⟩ := bcellA hBq; (try simp [go_sem, baseF, deps, dep1, Region.binds] at hbq); (try simp [go_sem, baseF, deps, dep1, Region.binds, NewSl] at hdq); go_simp <;> first | exact ⟨Below.refl _ _, rfl⟩ | (rw [if_neg]; (focus (exact ⟨Below.refl _ _, rfl⟩)); (focus ((try simp only [ByteArray.size_append]); omega))) | (fail)))
    refine fun x wq hBq hall => ?_
    simp only [allT] at hall
    simp [frameOf, Act.put, hall]
    clear hall
    have B7 := bl_then B6 hBq
    replace k3 := k3.below hBq
    replace k6 := k6.below hBq
    replace HCe := Lib.hid (Kd.C_below HCe.out hBq)
    replace HC6 := Lib.hid (Kd.C_below HC6.out hBq)
    clear B6 k5 hBq x0 x1 x2 c50 c51 c52 l5 c60 c61 c62 l6 hla hlo hwk hk0 hk1 Y x
    rw [hzl] at k6
    go_wp2_with fail
    go_loopg [10] (kn + 1) (fun kq v10 w' => ∃ i : Nat, v10 = .int .i64 (i : Int) ∧ i + kq = kn + 1 ∧ Below W.heap.size W w' ∧ Blk 67 b3 #[.int .i64 a4, .int .i64 b4, .slice A2 xs.length c2] w' ∧ Blk 67 b6 #[.int .i64 a4, .int .i64 b4, .slice (some ad) (kn + 1) c6] w' ∧ Kd.C k54 w' A2 xs.length xs ∧ Kd.C k54 w' (some ad) zs.length zs)
    case atStart => exact ⟨0, rfl, by omega, B7, k3, k6, HCe.out, HC6.out⟩
    case round =>
      obtain ⟨i, rfl, hik, B8, k3', k6', hCe, hC6⟩ := hrel
      clear B7 k3 k6 HCe HC6
      have HCe := Lib.hid hCe
      have HC6 := Lib.hid hC6
      clear hCe hC6
      have c60 := k6'.cell 0 rfl
      have c61 := k6'.cell 1 rfl
      have c62 := k6'.cell 2 rfl
      have l6 := k6'.lt
      have hwi : IntKind.i64.wrap ((i : Int) + 1) = (i : Int) + 1 := by rw [IntKind.wrap_i64]; omega
      by_cases hlt : i < kn
      · obtain ⟨n, rfl⟩ : ∃ n, gk = n + 1 := ⟨gk - 1, by omega⟩
        have hlt1 : (i : Int) + 1 < (kn : Int) + 1 := by omega
        go_upto_region 15 with fail
        obtain ⟨ad2, hA2, x0, x1, x2⟩ := at_T54 HCe.out (i : Int) (by omega) (by omega)
        subst hA2
        obtain ⟨ad', hA6, z0, z1, z2⟩ := at_T54 HC6.out (i : Int) (by omega) (by omega)
        have hA : ad = ad' := by injection hA6
        subst hA
        have hrd : rd_T54 zs (i : Int) = rd_T54 xs (i : Int) := by
          rw [hzs]
          have h1 : i < xs.length := by omega
          simp [rd_T54, List.getElem?_append, Nat.min_eq_left hkn, hlt, List.getElem?_take, h1]
        rw [hrd] at z0 z1 z2
        rw [Int.toNat_natCast] at x0 x1 x2 z0 z1 z2
        have c30 := k3'.cell 0 rfl
        have c31 := k3'.cell 1 rfl
        have c32 := k3'.cell 2 rfl
        have l3 := k3'.lt
        have hi0 : (0 : Int) ≤ (i : Int) := by omega
        have hi1 : (i : Int) < (kn : Int) + 1 := by omega
        have hi2 : (i : Int) < (xs.length : Int) := by omega
        refine wp_region_flow [3, 6, 10] 82 (by kernel_rfl) (by rfl) (by kernel_rfl) (by kernel_rfl) (by kernel_rfl) ?_
        iterate 4 (refine flow_valE ?_; apply Exists.intro; refine ⟨fun A wq hBq hbq hdq => ?_, ?_⟩; focus (obtain ⟨hcq, hfq⟩ := bcell hBq; (try simp [go_sem, baseF, deps, dep1, Region.binds] at hbq); (try simp [go_sem, baseF, deps, dep1, Region.binds, NewSl] at hdq); go_simp; first | exact ⟨Below.refl _ _, rfl⟩ | (rw [if_neg]; (focus (exact ⟨Below.refl _ _, rfl⟩)); (focus ((try simp only [ByteArray.size_append]); omega))) | (fail)))
        refine flow_valE ?_
        refine ⟨.agg #[.int .i64 (rd_T54 xs (i : Int)).f0, .int .i64 (rd_T54 xs (i : Int)).f1, .string (rd_T54 xs (i : Int)).f2], fun A wq hBq hbq hdq => ?_, ?_⟩
        · have y0 := (hBq.cell (World.block_lt_of_cell? _ _ z0)).trans z0
          have y1 := (hBq.cell (World.block_lt_of_cell? _ _ z1)).trans z1
          have y2 := (hBq.cell (World.block_lt_of_cell? _ _ z2)).trans z2
          (try simp [go_sem, baseF, deps, dep1, Region.binds] at hbq)
          (try simp [go_sem, baseF, deps, dep1, Region.binds, NewSl] at hdq)
          go_simp
          first | exact Below.refl _ _ | exact ⟨Below.refl _ _, rfl⟩
        iterate 4 (refine flow_valE ?_; apply Exists.intro; refine ⟨fun A wq hBq hbq hdq => ?_, ?_⟩; focus (obtain ⟨hcq, hfq⟩ := bcell hBq; (try simp [go_sem, baseF, deps, dep1, Region.binds] at hbq); (try simp [go_sem, baseF, deps, dep1, Region.binds, NewSl] at hdq); go_simp; first | exact ⟨Below.refl _ _, rfl⟩ | (rw [if_neg]; (focus (exact ⟨Below.refl _ _, rfl⟩)); (focus ((try simp only [ByteArray.size_append]); omega))) | (fail)))
        refine flow_valE ?_
        refine ⟨.agg #[.int .i64 (rd_T54 xs (i : Int)).f0, .int .i64 (rd_T54 xs (i : Int)).f1, .string (rd_T54 xs (i : Int)).f2], fun A wq hBq hbq hdq => ?_, ?_⟩
        · have y0 := (hBq.cell (World.block_lt_of_cell? _ _ x0)).trans x0
          have y1 := (hBq.cell (World.block_lt_of_cell? _ _ x1)).trans x1
          have y2 := (hBq.cell (World.block_lt_of_cell? _ _ x2)).trans x2
          (try simp [go_sem, baseF, deps, dep1, Region.binds] at hbq)
          (try simp [go_sem, baseF, deps, dep1, Region.binds, NewSl] at hdq)
          go_simp
          first | exact Below.refl _ _ | exact ⟨Below.refl _ _, rfl⟩
        (refine flow_valE ?_; apply Exists.intro; refine ⟨fun A wq hBq hbq hdq => ?_, ?_⟩; focus (obtain ⟨hcq, hfq⟩ := bcell hBq; (try simp [go_sem, baseF, deps, dep1, Region.binds] at hbq); (try simp [go_sem, baseF, deps, dep1, Region.binds, NewSl] at hdq); go_simp; first | exact ⟨Below.refl _ _, rfl⟩ | (rw [if_neg]; (focus (exact ⟨Below.refl _ _, rfl⟩)); (focus ((try simp only [ByteArray.size_append]); omega))) | (fail)))
        refine fun x wq hBq hall => ?_
        simp only [allT] at hall
        simp [frameOf, Act.put, hall]
        clear hall
        replace B8 := bl_then B8 hBq
        replace k3' := k3'.below hBq
        replace k6' := k6'.below hBq
        replace HCe := Lib.hid (Kd.C_below HCe.out hBq)
        replace HC6 := Lib.hid (Kd.C_below HC6.out hBq)
        clear x0 x1 x2 z0 z1 z2 c30 c31 c32 c60 c61 c62 l3 l6 hBq
        go_wp2_with fail
        go_roundg n
        case measure => omega
        case rel => exact ⟨i + 1, by first | rfl | (rw [hwi]; rfl) | (simp [hwi]), by omega, B8, k3', k6', HCe.out, HC6.out⟩
      · have hlt1 : ¬ ((i : Int) + 1 < (kn : Int) + 1) := by omega
        go_wp2_with fail
        go_ret
        exact ⟨rfl, B8⟩
end Go.Proofs.Ytdjikjmjajlgcaa
end

/-! ### YtdjikjmjajlgcaaRowFnPuts -/
section
namespace Go.Proofs.Ytdjikjmjajlgcaa.fnPuts
open Go.ChangeShapes Go.WideShapes Go.ChangeAt Go.RowKit
theorem own : ownKnob Try.prog.godebug = none := by kernel_rfl
theorem laidOut : laidOutB Try.prog = true := by kernel_rfl
set_option maxRecDepth 100000 in
theorem lifted (os : Os) (started : os.Started) (H : Type) (enc : TypeId × Value → H) :
    ReturnsInHanded {} Try.checked os 6 .any (Rows.fnPutsSpec.pre6 enc Try.prog Try.f6 Rows.fnPutsRow.domain false) (Rows.fnPutsSpec.post enc Try.prog Try.f6 false true false false) := by
  refine returnsInHanded_of_change_sized (C := Try.checked) own started (by kernel_rfl) Try.func6
    (ChangeSpec.witness6 (enc := enc) (C := Try.checked) false ⟨#[], #[.slice none 0 0], []⟩ 20 (by kernel_rfl) (by kernel_rfl) (by kernel_rfl) (by kernel_rfl)) ?_
  intro W base args ds gs before hval0 hW hcnd hsz0 _
  have hval : ∀ (j : Nat) t v, Try.f6.params[j]? = some t → args[j]? = some v → Value.okWide Try.prog W .any base t v := hval0
  have hW' := hW
  obtain ⟨p, q, hA0, hV, rfl, hfz, hnd⟩ := hW
  have hA : DataW.TrodAll enc Try.prog W 0 (fun _ => true) true Try.f6.params.toList args.toList ds p := hA0
  rw [Try.params6] at hA hval
  obtain ⟨v0, vs0, d0, ds0, p0, q0, hargs, rfl, rfl, h0, r0⟩ := trodAll_cons hA
  obtain ⟨rfl, rfl, rfl⟩ := trodAll_nil r0
  obtain rfl : args = #[v0] := by cases args; simp_all
  obtain ⟨rfl, rfl⟩ := trodVars_none hV
  have k0 := h0
  have lt0 : ∀ x ∈ p0, x.block < W.heap.size := by obtain ⟨m, hm⟩ := k0; exact DataW.trod_lt m _ _ _ hm
  have a0 : ArgOf Try.prog W 51 v0 := ⟨⟨base, hval 0 51 v0 rfl rfl⟩, by obtain ⟨m, hm⟩ := k0; exact ⟨H, enc, m, _, hm⟩⟩
  clear hA0 hval0 hsz0
  refine (FnPuts_walk v0 W a0).mono fun e W' ⟨he, bel⟩ => ?_
  subst he
  exact ⟨_, rfl, _, _, _, [], _, [], hW', trodAll_mk1 (shut_bool Try.underlying4 _), (trodAll_cons_mk (Below.trod laidOut (by kernel_rfl) (of_decide_eq_true (by kernel_rfl)) k0 bel lt0) trodAll_mk0), rfl, bel.frame _, fun h => by cases h⟩
theorem over : Rows.fnPutsRow.holds Try.pinned (OpenSpec.ofChange Rows.fnPutsSpec) :=
  OpenClaim.holds_of_wide 6 Try.f6 rfl rfl rfl rfl rfl rfl rfl ⟨rfl, rfl, rfl, rfl, rfl⟩ rfl rfl rfl rfl rfl (by kernel_rfl) Try.func6 (by kernel_rfl)
    (of_decide_eq_true (by kernel_rfl)) (by unfold Func.isWrapper; first | (rw [if_pos (by decide +kernel)]; kernel_rfl) | (rw [if_neg (by decide +kernel)]; exact ⟨rfl, rfl⟩))
    (fun os started H enc _ => lifted os started H enc)
theorem proved : Rows.FnPutsSaid := over
#print axioms proved
end Go.Proofs.Ytdjikjmjajlgcaa.fnPuts
namespace Go.Proofs.Ytdjikjmjajlgcaa
/-- The row, under a short name, for the claim. -/
theorem fnPuts_holds : Rows.FnPutsSaid := fnPuts.proved
end Go.Proofs.Ytdjikjmjajlgcaa
end
