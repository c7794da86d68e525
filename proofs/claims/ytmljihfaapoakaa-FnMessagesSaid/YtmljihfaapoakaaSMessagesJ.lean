import Derived.Test.YtmljihfaapoakaaSMessagesI
import Derived.Test.YtmljihfaapoakaaSMessagesE
import Derived.Test.YtmljihfaapoakaaSMessagesB
import Derived.Test.YtmljihfaapoakaaSMessagesA
import Derived.Test.YtmljihfaapoakaaSMessagesC

section
namespace Go.Proofs.Ytmljihfaapoakaa
open Go.RowKit Go.Proofs.YtmljihfaapoakaaW.PrintWords PFnMessages
set_option linter.unusedSimpArgs false
set_option linter.unusedVariables false
def flagN (b : Bool) : Int := if b then 1 else 0
def entS (es : List S43) (i : Nat) : ByteArray := shortS (entryT 1 (rd_T43 es (i : Int)).f0 (rd_T43 es (i : Int)).f1 (rd_T43 es (i : Int)).f2)
def entsS (es : List S43) : Nat → Nat → ByteArray → ByteArray
  | _, 0, s => s
  | i, n + 1, s => entsS es (i + 1) n (s ++ entS es i)
def headS (a0 a1 a2 a3 a4 a5 a6 : Int) (a7 ls : Bool) (n : Nat) : ByteArray := strOfNums [a0 % 256, a1 % 256, a2 % 256] ++ varS a3 ++ varS a4 ++ varS a5 ++ varS a6 ++ byteS (flagN a7) ++ byteS (flagN ls) ++ varS n
def confT (cf : List Int) : ByteArray := strOfNums (PFnMessages.confBs cf)
def encS (a0 a1 a2 a3 a4 a5 a6 : Int) (a7 : Bool) (es : List S43) (cf : List Int) (d : ByteArray) (ls : Bool) : ByteArray := entsS es 0 es.length (headS a0 a1 a2 a3 a4 a5 a6 a7 ls es.length) ++ shortS (confT cf) ++ shortS d
theorem entryT_size (i t k : Int) (d : ByteArray) : (entryT i t k d).size ≤ 132 := by
  unfold entryT
  split
  · rename_i h
    unfold entryOkI at h
    simp only [Bool.and_eq_true] at h
    obtain ⟨h1, h2, h3, h4, h5⟩ := entryOk_parts h.1
    obtain ⟨h6, h7⟩ := inB_iff.1 h.2
    have s1 := varS_size i (by omega) (by omega)
    have s2 := varS_size t (by omega) (by omega)
    have s3 := byteS_size k
    have s4 : (⟨#[69]⟩ : ByteArray).size = 1 := rfl
    unfold entryS
    simp only [ByteArray.size_append]
    omega
  · show (0 : Nat) ≤ 132; omega
theorem shortS_size (s : ByteArray) (h : s.size ≤ 1000000000) : (shortS s).size ≤ s.size + 5 := by
  have := varS_size s.size (by omega) (by omega)
  unfold shortS
  rw [ByteArray.size_append]
  omega
theorem entS_size (es : List S43) (i : Nat) : (entS es i).size ≤ 137 := by
  unfold entS
  have h1 := entryT_size 1 (rd_T43 es (i : Int)).f0 (rd_T43 es (i : Int)).f1 (rd_T43 es (i : Int)).f2
  have h2 := shortS_size (entryT 1 (rd_T43 es (i : Int)).f0 (rd_T43 es (i : Int)).f1 (rd_T43 es (i : Int)).f2) (by omega)
  omega
theorem entsS_size (es : List S43) : ∀ (n i : Nat) (s : ByteArray), (entsS es i n s).size ≤ s.size + 137 * n
  | 0, _, s => by simp [entsS]
  | n + 1, i, s => by
    have h1 := entsS_size es n (i + 1) (s ++ entS es i)
    have h2 := entS_size es i
    rw [ByteArray.size_append] at h1
    unfold entsS
    omega
theorem confT_size (cf : List Int) : (confT cf).size = cf.length := by simp [confT, PFnMessages.confBs, strOfNums_size]
theorem spec_flagH (b : Bool) (w : World) : Calls Try.prog 55 #[.bool b] w fun e w' => e = .returned (.string (byteS (flagN b))) ∧ Below w.heap.size w w' := by
  refine (PFnMessages.spec_l11Flag.calls b (byteS (flagN b)) w (by cases b <;> rfl)).mono ?_
  rintro e w' h
  first | exact h | (obtain ⟨rfl, ⟨n, rfl⟩⟩ := h; exact ⟨rfl, bl_drewN (Below.refl _ _) n⟩) | (obtain ⟨rfl, rfl⟩ := h; exact ⟨rfl, Below.refl _ _⟩)
theorem impl_flagH (b : Bool) (w : World) : Calls Try.prog 17 #[.bool b] w fun e w' => e = .returned (.int .i64 (flagN b)) ∧ Below w.heap.size w w' := by
  refine (PFnMessages.impl_flag.calls b (flagN b) w (by cases b <;> rfl)).mono ?_
  rintro e w' h
  first | exact h | (obtain ⟨rfl, ⟨n, rfl⟩⟩ := h; exact ⟨rfl, bl_drewN (Below.refl _ _) n⟩) | (obtain ⟨rfl, rfl⟩ := h; exact ⟨rfl, Below.refl _ _⟩)
end Go.Proofs.Ytmljihfaapoakaa
end

section
namespace Go.Proofs.Ytmljihfaapoakaa
open Go.RowKit Go.Proofs.YtmljihfaapoakaaW.PrintWords PFnMessages
set_option linter.unusedSimpArgs false
set_option linter.unusedVariables false
theorem spec_MsgH (es : List S43) (hS : Short es) (a0 a1 a2 a3 a4 a5 a6 : Int) (a7 : Bool) (cf : List Int) (d : ByteArray) (ls : Bool) (hl : es.length ≤ 1048576) (hcf : cf.length ≤ 1048576) (A8 : Option Addr) (c8 : Nat) (A9 : Option Addr) (c9 : Nat) (w : World)
    (hr8 : Kd.C k43 w A8 es.length es) (hc8 : es.length ≤ c8) (hr9 : Kd.C (Kd.int .i64) w A9 cf.length cf) (hc9 : cf.length ≤ c9) (b : Bool) (h : Hid (msgB a0 a1 a2 a3 a4 a5 a6 es cf d ls = b)) :
    Calls Try.prog 8 #[.agg #[.int .i64 a0, .int .i64 a1, .int .i64 a2, .int .i64 a3, .int .i64 a4, .int .i64 a5, .int .i64 a6, .bool a7, .slice A8 es.length c8, .slice A9 cf.length c9, .string d, .bool ls]] w fun e w' => e = .returned (.bool b) ∧ Below w.heap.size w w' := by
  have := spec_MessageOk es hS a0 a1 a2 a3 a4 a5 a6 a7 cf d ls hl hcf A8 c8 A9 c9 w hr8 hc8 hr9 hc9
  rw [h.out] at this
  exact this
theorem impl_MsgH (es : List S43) (hS : Short es) (a0 a1 a2 a3 a4 a5 a6 : Int) (a7 : Bool) (cf : List Int) (d : ByteArray) (ls : Bool) (hl : es.length ≤ 1048576) (hcf : cf.length ≤ 1048576) (A8 : Option Addr) (c8 : Nat) (A9 : Option Addr) (c9 : Nat) (w : World)
    (hr8 : Kd.C k43 w A8 es.length es) (hc8 : es.length ≤ c8) (hr9 : Kd.C (Kd.int .i64) w A9 cf.length cf) (hc9 : cf.length ≤ c9) (b : Bool) (h : Hid (msgB a0 a1 a2 a3 a4 a5 a6 es cf d ls = b)) :
    Calls Try.prog 9 #[.agg #[.int .i64 a0, .int .i64 a1, .int .i64 a2, .int .i64 a3, .int .i64 a4, .int .i64 a5, .int .i64 a6, .bool a7, .slice A8 es.length c8, .slice A9 cf.length c9, .string d, .bool ls]] w fun e w' => e = .returned (.bool b) ∧ Below w.heap.size w w' := by
  have := impl_MessageOk es hS a0 a1 a2 a3 a4 a5 a6 a7 cf d ls hl hcf A8 c8 A9 c9 w hr8 hc8 hr9 hc9
  rw [implB_eq, h.out] at this
  exact this
theorem msgB_facts {a0 a1 a2 a3 a4 a5 a6 : Int} {es : List S43} {cf : List Int} {d : ByteArray} {ls : Bool} (h : msgB a0 a1 a2 a3 a4 a5 a6 es cf d ls = true) :
    (0 ≤ a3 ∧ a3 ≤ 100000) ∧ (0 ≤ a4 ∧ a4 ≤ 1000000) ∧ (0 ≤ a5 ∧ a5 ≤ 100000) ∧ (0 ≤ a6 ∧ a6 ≤ 1000000) ∧ es.length ≤ 4 ∧ (confOk cf = true ∨ cf.length = 0) ∧ d.size ≤ 60 := by
  unfold msgB headB tailB lastB at h
  simp only [Bool.and_eq_true, decide_eq_true_eq, inM] at h
  obtain ⟨⟨⟨⟨⟨⟨h0, h1⟩, h2⟩, hne⟩, ⟨⟨⟨h3, h5⟩, h4⟩, h6⟩⟩, ⟨⟨hen, hl4⟩, hk⟩⟩, hlast⟩ := h
  by_cases c : a0 = 5
  · rw [if_pos c] at hlast
    simp only [Bool.and_eq_true, decide_eq_true_eq] at hlast
    exact ⟨h3, h4, h5, h6, hl4, .inl hlast.1, by omega⟩
  · rw [if_neg c] at hlast
    simp only [Bool.and_eq_true, decide_eq_true_eq] at hlast
    have hd : d.size = 0 := by
      have hz := hlast.1.2
      rw [ByteArray.toList_eq] at hz
      have : d.data.size = 0 := by rw [← Array.length_toList, hz]; rfl
      exact this
    exact ⟨h3, h4, h5, h6, hl4, .inr hlast.1.1, by omega⟩
theorem sctext_l0 (xs : List Int) (hl : xs.length ≤ 1099511627776) : ∀ (n k i : Nat), n + i = xs.length → n < k → spec_ConfText.l0 k xs ((PFnMessages.confBs xs).take i) i = some (strOfNums (PFnMessages.confBs xs), true)
  | _, 0, _, _, hk => by omega
  | 0, k + 1, i, h, hk => by
    unfold spec_ConfText.l0
    rw [if_neg (by omega), List.take_of_length_le (by simp [PFnMessages.confBs]; omega)]
  | n + 1, k + 1, i, h, hk => by
    have e1 : wrap64 ((i : Int) + 1) = ((i + 1 : Nat) : Int) := by unfold wrap64; omega
    unfold spec_ConfText.l0
    rw [if_pos (by omega), if_pos (by omega), if_pos (by simp [PFnMessages.confBs]; omega), e1, ← PFnMessages.take_confBs xs i (by omega)]
    clear e1
    exact sctext_l0 xs hl n k (i + 1) (by omega) (by omega)
theorem spec_ConfTextH (A : Option Addr) (c : Nat) (xs : List Int) (w : World) (hr : Kd.C (Kd.int .i64) w A xs.length xs) (hc : xs.length ≤ c) (hl : xs.length ≤ 1048576) (hok : confOk xs = true ∨ xs.length = 0) :
    Calls Try.prog 58 #[.slice A xs.length c] w fun e w' => (∃ b, e = .returned (.tuple #[.string (confT xs), .bool b])) ∧ Below w.heap.size w w' := by
  have hf : spec_ConfText.f (xs.length + 1) xs = some (if confOk xs then (strOfNums (PFnMessages.confBs xs), true) else (⟨#[]⟩, false)) := by
    unfold spec_ConfText.f
    rw [PFnMessages.sconf_f xs (xs.length + 1) (by omega) (by omega), Option.bind_some]
    have := sctext_l0 xs (by omega) xs.length (xs.length + 1) 0 (by omega) (by omega)
    cases hc : confOk xs with
    | false => rw [if_neg (by simp)]; rfl
    | true => rw [if_pos rfl]; exact this
  rcases hok with h1 | h0
  · rw [h1, if_pos rfl] at hf
    refine (spec_ConfText.calls (xs.length + 1) A c xs _ _ w hr hc hf).mono ?_
    rintro e w' h
    first | (obtain ⟨rfl, hb⟩ := h; exact ⟨⟨_, rfl⟩, hb⟩) | (obtain ⟨rfl, ⟨n, rfl⟩⟩ := h; exact ⟨⟨_, rfl⟩, bl_drewN (Below.refl _ _) n⟩)
  · obtain rfl : xs = [] := List.eq_nil_of_length_eq_zero h0
    rw [if_neg (by simp [confOk])] at hf
    refine (spec_ConfText.calls _ A c [] _ _ w hr hc hf).mono ?_
    rintro e w' h
    first | (obtain ⟨rfl, hb⟩ := h; exact ⟨⟨_, rfl⟩, hb⟩) | (obtain ⟨rfl, ⟨n, rfl⟩⟩ := h; exact ⟨⟨_, rfl⟩, bl_drewN (Below.refl _ _) n⟩)
theorem str3_size (x y z : Int) : (strOfNums [x, y, z]).size = 3 := by simp [strOfNums_size]
theorem str2_size (x y : Int) : (strOfNums [x, y]).size = 2 := by simp [strOfNums_size]
end Go.Proofs.Ytmljihfaapoakaa
end

section
namespace Go.Proofs.Ytmljihfaapoakaa
open Go.RowKit Go.Proofs.YtmljihfaapoakaaW.PrintWords PFnMessages
set_option linter.unusedSimpArgs false
set_option linter.unusedVariables false
theorem conv_new3 {P : Program} {src e dst T : TypeId} (hs : P.underlying src = some (.slice e)) (he : P.underlying e = some (.int .u8)) (hd : P.underlying dst = some .string) {w : World} {b : Nat} {x y z : Int}
    (h : w.heap[b]? = some (.cells #[.int .u8 x, .int .u8 y, .int .u8 z] T (0, 0))) : (convert src dst (.slice (some ⟨b, 0, none⟩) 3 3)).run P w = .ok (.string (strOfNums [x, y, z])) w := by
  refine run_convert_bytes_arg w src e hs he b 0 3 3 [x, y, z] rfl (fun i hi => ?_) dst hd
  have : i = 0 ∨ i = 1 ∨ i = 2 := by omega
  rcases this with rfl | rfl | rfl <;> simp [World.cell?, h]
attribute [local go_sem] flowUpon ByteArray.size_append
set_option maxHeartbeats 1000000 in
set_option maxRecDepth 100000 in
theorem spec_Enc_no (es : List S43) (hS : Short es) (a0 a1 a2 a3 a4 a5 a6 : Int) (a7 : Bool) (cf : List Int) (d : ByteArray) (ls : Bool) (hl : es.length ≤ 1048576) (hcf : cf.length ≤ 1048576) (A8 : Option Addr) (c8 : Nat) (A9 : Option Addr) (c9 : Nat) (w : World)
    (hr8 : Kd.C k43 w A8 es.length es) (hc8 : es.length ≤ c8) (hr9 : Kd.C (Kd.int .i64) w A9 cf.length cf) (hc9 : cf.length ≤ c9) (HB : Hid (msgB a0 a1 a2 a3 a4 a5 a6 es cf d ls = false)) :
    Calls Try.prog 35 #[.agg #[.int .i64 a0, .int .i64 a1, .int .i64 a2, .int .i64 a3, .int .i64 a4, .int .i64 a5, .int .i64 a6, .bool a7, .slice A8 es.length c8, .slice A9 cf.length c9, .string d, .bool ls]] w fun e w' => e = .returned (.tuple #[.string ⟨#[]⟩, .bool false]) ∧ Below w.heap.size w w' := by
  have HR8 := Lib.hid hr8
  have HR9 := Lib.hid hr9
  clear hr8 hr9
  go_enter Try.func35, Try.ntmps35
  go_wp2_with (first | (go_at_call 8; refine (spec_MsgH es hS _ _ _ _ _ _ _ _ cf _ _ hl hcf _ _ _ _ _ (Kd.C_below HR8.out (by repeat (first | exact Below.refl _ _ | apply bl_alloc | apply bl_drewN | apply bl_drew | refine bl_set ?_ (by simp) | refine bl_then ?_ (by assumption)))) hc8 (Kd.C_below HR9.out (by repeat (first | exact Below.refl _ _ | apply bl_alloc | apply bl_drewN | apply bl_drew | refine bl_set ?_ (by simp) | refine bl_then ?_ (by assumption)))) hc9 false HB).mono ?_; rintro e w1 ⟨rfl, hb1⟩))
  go_ret2
  exact ⟨rfl, (by repeat (first | exact Below.refl _ _ | apply bl_alloc | apply bl_drewN | apply bl_drew | refine bl_set ?_ (by simp) | refine bl_then ?_ (by assumption)))⟩
set_option maxHeartbeats 4000000 in
set_option maxRecDepth 100000 in
theorem spec_Enc_yes (es : List S43) (hS : Short es) (a0 a1 a2 a3 a4 a5 a6 : Int) (a7 : Bool) (cf : List Int) (d : ByteArray) (ls : Bool) (hl : es.length ≤ 1048576) (hcf : cf.length ≤ 1048576) (A8 : Option Addr) (c8 : Nat) (A9 : Option Addr) (c9 : Nat) (w : World)
    (hr8 : Kd.C k43 w A8 es.length es) (hc8 : es.length ≤ c8) (hr9 : Kd.C (Kd.int .i64) w A9 cf.length cf) (hc9 : cf.length ≤ c9) (HB : Hid (msgB a0 a1 a2 a3 a4 a5 a6 es cf d ls = true)) :
    Calls Try.prog 35 #[.agg #[.int .i64 a0, .int .i64 a1, .int .i64 a2, .int .i64 a3, .int .i64 a4, .int .i64 a5, .int .i64 a6, .bool a7, .slice A8 es.length c8, .slice A9 cf.length c9, .string d, .bool ls]] w fun e w' => e = .returned (.tuple #[.string (encS a0 a1 a2 a3 a4 a5 a6 a7 es cf d ls), .bool true]) ∧ Below w.heap.size w w' := by
  obtain ⟨⟨b3, b3'⟩, ⟨b4, b4'⟩, ⟨b5, b5'⟩, ⟨b6, b6'⟩, b8, b9, b10⟩ := msgB_facts HB.out
  have HR8 := Lib.hid hr8
  have HR9 := Lib.hid hr9
  clear hr8 hr9
  have s0 := str3_size (a0 % 256) (a1 % 256) (a2 % 256)
  have s2 := str2_size (flagN a7 % 256) (flagN ls % 256)
  have s3 := varS_size a3 (by omega) (by omega)
  have s4 := varS_size a4 (by omega) (by omega)
  have s5 := varS_size a5 (by omega) (by omega)
  have s6 := varS_size a6 (by omega) (by omega)
  have s7 := byteS_size (flagN a7)
  have s11 := byteS_size (flagN ls)
  have s8 := varS_size es.length (by omega) (by omega)
  go_enter Try.func35, Try.ntmps35
  go_wp2_with fail
  obtain ⟨X, hX⟩ : ∃ X, X = w.alloc (.cells #[.int .i64 a0, .int .i64 a1, .int .i64 a2, .int .i64 a3, .int .i64 a4, .int .i64 a5, .int .i64 a6, .bool a7, .slice A8 es.length c8, .slice A9 cf.length c9, .string d, .bool ls] 27) := ⟨_, rfl⟩
  have KA : Blk 27 w.heap.size #[.int .i64 a0, .int .i64 a1, .int .i64 a2, .int .i64 a3, .int .i64 a4, .int .i64 a5, .int .i64 a6, .bool a7, .slice A8 es.length c8, .slice A9 cf.length c9, .string d, .bool ls] X := by rw [hX]; exact Blk.new _ _ w
  have HX : Below w.heap.size w X := by rw [hX]; exact (by repeat (first | exact Below.refl _ _ | apply bl_alloc | apply bl_drewN | apply bl_drew | refine bl_set ?_ (by simp) | refine bl_then ?_ (by assumption)))
  rw [← hX]
  clear hX
  go_at_call 8
  refine (spec_MsgH es hS _ _ _ _ _ _ _ _ cf _ _ hl hcf _ _ _ _ _ (Kd.C_below HR8.out HX) hc8 (Kd.C_below HR9.out HX) hc9 true HB).mono ?_
  rintro e w1 ⟨rfl, hb1⟩
  have HW1 := bl_then HX hb1
  have K1 := KA.below hb1
  clear hb1 KA HX
  go_wp2_with fail

  have k0 := K1.cell 0 rfl
  have k1 := K1.cell 1 rfl
  have k2 := K1.cell 2 rfl
  have k3 := K1.cell 3 rfl
  have k4 := K1.cell 4 rfl
  have k5 := K1.cell 5 rfl
  have k6 := K1.cell 6 rfl
  have k7 := K1.cell 7 rfl
  have k8 := K1.cell 8 rfl
  have k9 := K1.cell 9 rfl
  have k10 := K1.cell 10 rfl
  have k11 := K1.cell 11 rfl
  have la := K1.lt
  refine wp_region_flow [1] 87 (by kernel_rfl) (by rfl) (by kernel_rfl) (by kernel_rfl) (by kernel_rfl) ?_
  iterate 9 (refine flow_valE ?_; apply Exists.intro; refine ⟨fun A wq hBq hbq hdq => ?_, ?_⟩; focus (obtain ⟨hcq, hfq⟩ := bcell hBq; (try simp [go_sem, baseF, deps, dep1, Region.binds] at hbq); (try simp [go_sem, baseF, deps, dep1, Region.binds, NewSl] at hdq); go_simp; first | exact ⟨Below.refl _ _, rfl⟩ | (rw [if_neg]; (focus (exact ⟨Below.refl _ _, rfl⟩)); (focus ((try simp only [ByteArray.size_append]); omega))) | (fail)))
  (refine flow_newSlE ?_; apply Exists.intro; apply Exists.intro; apply Exists.intro; refine ⟨fun A wq hBq hbq hdq => ?_, ?_⟩; focus (obtain ⟨hcq, hfq⟩ := bcell hBq; (try simp [go_sem, baseF, deps, dep1, Region.binds] at hbq); (try simp [go_sem, baseF, deps, dep1, Region.binds, NewSl] at hdq); go_simp; exact ⟨rfl, rfl⟩))
  refine flow_val (.string (strOfNums [a0 % 256, a1 % 256, a2 % 256])) (fun A wq hBq hbq hdq => ?_) ?_
  · (try simp [go_sem, baseF, deps, dep1, Region.binds] at hbq)
    (try simp [go_sem, baseF, deps, dep1, Region.binds, NewSl] at hdq)
    go_simp
    obtain ⟨g, h1, h2, h3⟩ := hdq
    rw [h1, conv_new3 Try.underlying22 Try.underlying5 Try.underlying9 h3]
    exact ⟨Below.refl _ _, by rw [IntKind.wrap_u8, IntKind.wrap_u8, IntKind.wrap_u8]⟩
  iterate 16 (refine flow_valE ?_; apply Exists.intro; refine ⟨fun A wq hBq hbq hdq => ?_, ?_⟩; focus (obtain ⟨hcq, hfq⟩ := bcell hBq; (try simp [go_sem, baseF, deps, dep1, Region.binds] at hbq); (try simp [go_sem, baseF, deps, dep1, Region.binds, NewSl] at hdq); go_simp; first | exact ⟨Below.refl _ _, rfl⟩ | (rw [if_neg]; (focus (exact ⟨Below.refl _ _, rfl⟩)); (focus ((try simp only [ByteArray.size_append]); omega))) | (first | (go_at_call 54; exact (spec_l01Var _ _ (by omega) (by omega))))))
  iterate 8 (refine flow_valE ?_; apply Exists.intro; refine ⟨fun A wq hBq hbq hdq => ?_, ?_⟩; focus (obtain ⟨hcq, hfq⟩ := bcell hBq; (try simp [go_sem, baseF, deps, dep1, Region.binds] at hbq); (try simp [go_sem, baseF, deps, dep1, Region.binds, NewSl] at hdq); go_simp; first | exact ⟨Below.refl _ _, rfl⟩ | (rw [if_neg]; (focus (exact ⟨Below.refl _ _, rfl⟩)); (focus ((try simp only [ByteArray.size_append]); omega))) | (first | (go_at_call 55; exact (spec_flagH _ _)))))
  iterate 6 (refine flow_valE ?_; apply Exists.intro; refine ⟨fun A wq hBq hbq hdq => ?_, ?_⟩; focus (obtain ⟨hcq, hfq⟩ := bcell hBq; (try simp [go_sem, baseF, deps, dep1, Region.binds] at hbq); (try simp [go_sem, baseF, deps, dep1, Region.binds, NewSl] at hdq); go_simp; first | exact ⟨Below.refl _ _, rfl⟩ | (rw [if_neg]; (focus (exact ⟨Below.refl _ _, rfl⟩)); (focus ((try simp only [ByteArray.size_append]); omega))) | (first | (go_at_call 54; exact (spec_l01Var _ _ (by omega) (by omega))))))
  refine fun x w2 hb2 hall => ?_
  simp only [allT] at hall
  simp [frameOf, Act.put, hall]
  clear hall
  go_wp2_with fail
  have K2 := K1.below hb2
  have HW2 := bl_then HW1 hb2
  clear hb2 K1 la k0 k1 k2 k3 k4 k5 k6 k7 k8 k9 k10 k11 HW1
  obtain ⟨r, hr⟩ : ∃ r, Hid (entsS es 0 es.length (headS a0 a1 a2 a3 a4 a5 a6 a7 ls es.length) = r) := ⟨_, Lib.hid rfl⟩
  have hrz := entsS_size es es.length 0 (headS a0 a1 a2 a3 a4 a5 a6 a7 ls es.length)
  have hhz : (headS a0 a1 a2 a3 a4 a5 a6 a7 ls es.length).size ≤ 30 := by unfold headS; simp only [ByteArray.size_append]; omega
  rw [hr.out] at hrz
  clear s0 s2 s3 s4 s5 s6 s7 s8 s11
  go_loopg [4, 5] es.length (fun kq v4 v5 w' => ∃ (i : Nat) (s : ByteArray), v4 = .string s ∧ v5 = .int .i64 (i : Int) ∧ i + kq = es.length ∧ s.size ≤ 30 + 137 * i ∧ Hid (entsS es i kq s = r) ∧ Below w2.heap.size w2 w')
  case atStart => exact ⟨0, _, rfl, rfl, by omega, hhz, hr, Below.refl _ _⟩
  case round =>
    obtain ⟨i, s, rfl, rfl, hik, hsz, hix, hb⟩ := hrel
    have KW := K2.below hb
    have k8 := KW.cell 8 rfl
    have k9 := KW.cell 9 rfl
    have k10 := KW.cell 10 rfl
    have la := KW.lt
    cases gk with
    | zero =>
      have hlt : ¬ ((i : Int) < (es.length : Int)) := by omega
      have hrv := hix.out
      simp only [entsS] at hrv
      subst hrv
      clear hix
      go_wp2_with fail
      go_at_call 58
      refine (spec_ConfTextH _ _ cf _ (Kd.C_below HR9.out (bl_then HW2 hb)) hc9 hcf b9).mono ?_
      rintro e w3 ⟨⟨bq, rfl⟩, hb3⟩
      have K3 := KW.below hb3
      have HW3 := bl_then HW2 (bl_then hb hb3)
      clear hb hb3 KW K2 HW2 k8 k9 k10 la
      have k10 := K3.cell 10 rfl
      have la := K3.lt
      have cz := confT_size cf
      have cz1 := shortS_size (confT cf) (by omega)
      have cz2 := shortS_size d (by omega)
      have cl : cf.length ≤ 4 := by rcases b9 with h | h; exact (confOk_short h).2; omega
      go_wp2_with fail
      refine wp_region_flow [4, 8, 1] 87 (by kernel_rfl) (by rfl) (by kernel_rfl) (by kernel_rfl) (by kernel_rfl) ?_
      iterate 10 (refine flow_valE ?_; apply Exists.intro; refine ⟨fun A wq hBq hbq hdq => ?_, ?_⟩; focus (obtain ⟨hcq, hfq⟩ := bcell hBq; (try simp [go_sem, baseF, deps, dep1, Region.binds] at hbq); (try simp [go_sem, baseF, deps, dep1, Region.binds, NewSl] at hdq); go_simp; first | exact ⟨Below.refl _ _, rfl⟩ | (rw [if_neg]; (focus (exact ⟨Below.refl _ _, rfl⟩)); (focus ((try simp only [ByteArray.size_append]); omega))) | (first | (go_at_call 57; exact (spec_l05Short _ _ (by omega))))))
      refine fun x w4 hb4 hall => ?_
      simp only [allT] at hall
      simp [frameOf, Act.put, hall]
      clear hall
      go_wp2
      go_ret2
      refine ⟨?_, bl_then HW3 hb4⟩
      rw [encS, hr.out]
      rfl
    | succ n =>
      have hlt : (i : Int) < (es.length : Int) := by omega
      obtain ⟨ad, e1, x0, x1, x2⟩ := at_T43 (Kd.C_below HR8.out (bl_then HW2 hb)) i (by omega) hlt
      subst e1
      simp only [Int.toNat_natCast] at x0 x1 x2
      have lx : (ad.add (i * 3)).block < wr.heap.size := World.block_lt_of_cell? wr _ x0
      have E1 := Lib.hid (show wrap64 ((i : Int) + 1) = ((i + 1 : Nat) : Int) from by unfold wrap64; omega)
      have hrv := hix.out
      simp only [entsS] at hrv
      have hix2 := Lib.hid hrv
      clear hrv hix
      have hSi := hS i
      have hze : (shortS (entryT 1 (rd_T43 es (i : Int)).f0 (rd_T43 es (i : Int)).f1 (rd_T43 es (i : Int)).f2)).size ≤ 137 := entS_size es i
      have hzt := entryT_size 1 (rd_T43 es (i : Int)).f0 (rd_T43 es (i : Int)).f1 (rd_T43 es (i : Int)).f2
      go_wp2_with fail
      go_at_call 56
      with_reducible refine (spec_EntryText 1 _ _ _ _ (by omega)).mono ?_
      rintro e w3 ⟨rfl, hb3⟩
      have hb4 := bl_then hb hb3
      clear hb hb3 KW k8 k9 k10 la x0 x1 x2 lx
      go_wp2_with fail
      go_at_call 57
      refine (spec_l05Short _ _ (by omega)).mono ?_
      rintro e w5 ⟨rfl, hb5⟩
      have hb6 := bl_then hb4 hb5
      clear hb4 hb5
      go_wp2_with fail
      go_roundg n
      case measure => omega
      case rel => exact ⟨i + 1, _, rfl, by first | rfl | (rw [E1.out]), by omega, by simp only [ByteArray.size_append]; omega, hix2, hb6⟩
end Go.Proofs.Ytmljihfaapoakaa
end

section
namespace Go.Proofs.Ytmljihfaapoakaa
open Go.RowKit Go.Proofs.YtmljihfaapoakaaW.PrintWords PFnMessages
set_option linter.unusedSimpArgs false
set_option linter.unusedVariables false
theorem row_two {W : World} {g : Nat} {x y : Int} (h0 : W.cell? ⟨g, 0, none⟩ = some (.int .i64 x)) (h1 : W.cell? ⟨g, 1, none⟩ = some (.int .i64 y)) :
    Kd.C (Kd.int .i64) W (some ⟨g, 0, none⟩) 2 [x, y] := by
  refine ⟨rfl, by omega, fun _ => ⟨_, rfl, fun j p hj => ?_⟩⟩
  have step : ∀ (v : Int), W.cell? ⟨g, j, none⟩ = some (.int .i64 v) → p = v → ∃ c : List Value, c.length = (Kd.int .i64).sz ∧ (Kd.int .i64).K W p c ∧ ∀ i u, c[i]? = some u → W.cell? (Addr.add ⟨g, 0, none⟩ (j * (Kd.int .i64).sz + i)) = some u := by
    rintro v hv rfl
    refine ⟨[.int .i64 p], rfl, rfl, fun i u hu => ?_⟩
    rcases i with _ | i
    · obtain rfl : Value.int .i64 p = u := by simpa using hu
      have : Addr.add ⟨g, 0, none⟩ (j * (Kd.int .i64).sz + 0) = ⟨g, j, none⟩ := by
        show Addr.add ⟨g, 0, none⟩ (j * 1 + 0) = ⟨g, j, none⟩
        unfold Addr.add
        rcases j with _ | j <;> simp
      rw [this]
      exact hv
    · simp at hu
  rcases j with _ | _ | j
  · exact step x h0 (by simpa using hj.symm)
  · exact step y h1 (by simpa using hj.symm)
  · simp at hj
theorem impl_oneByte2 (g : Nat) (x y : Int) (w : World) (h0 : w.cell? ⟨g, 0, none⟩ = some (.int .i64 x)) (h1 : w.cell? ⟨g, 1, none⟩ = some (.int .i64 y)) :
    Calls Try.prog 15 #[.slice (some ⟨g, 0, none⟩) 2 2] w fun e w' => e = .returned (.string (strOfNums [x % 256, y % 256])) ∧ Below w.heap.size w w' :=
  impl_oneByte _ 2 [x, y] w (row_two h0 h1) (by simp) (by simp)
theorem head_two (a0 a1 a2 a3 a4 a5 a6 : Int) (a7 ls : Bool) (n : Nat) :
    strOfNums [a0 % 256, a1 % 256, a2 % 256] ++ varS a3 ++ varS a4 ++ varS a5 ++ varS a6 ++ (strOfNums [flagN a7 % 256, flagN ls % 256] ++ varS n) = headS a0 a1 a2 a3 a4 a5 a6 a7 ls n := by
  have h : strOfNums [flagN a7 % 256, flagN ls % 256] = strOfNums [flagN a7 % 256] ++ strOfNums [flagN ls % 256] := strOfNums_append [flagN a7 % 256] [flagN ls % 256]
  unfold headS byteS
  rw [h]
  simp only [ByteArray.append_assoc]
theorem impl_oneByteC (A : Option Addr) (c : Nat) (xs : List Int) (w : World) (hr : Kd.C (Kd.int .i64) w A xs.length xs) (hc : xs.length ≤ c) (hl : xs.length ≤ 1048576) :
    Calls Try.prog 15 #[.slice A xs.length c] w fun e w' => e = .returned (.string (confT xs)) ∧ Below w.heap.size w w' :=
  impl_oneByte A c xs w hr hc (by omega)
attribute [local go_sem] flowUpon ByteArray.size_append
set_option maxHeartbeats 1000000 in
set_option maxRecDepth 100000 in
theorem impl_Enc_no (es : List S43) (hS : Short es) (a0 a1 a2 a3 a4 a5 a6 : Int) (a7 : Bool) (cf : List Int) (d : ByteArray) (ls : Bool) (hl : es.length ≤ 1048576) (hcf : cf.length ≤ 1048576) (A8 : Option Addr) (c8 : Nat) (A9 : Option Addr) (c9 : Nat) (w : World)
    (hr8 : Kd.C k43 w A8 es.length es) (hc8 : es.length ≤ c8) (hr9 : Kd.C (Kd.int .i64) w A9 cf.length cf) (hc9 : cf.length ≤ c9) (HB : Hid (msgB a0 a1 a2 a3 a4 a5 a6 es cf d ls = false)) :
    Calls Try.prog 6 #[.agg #[.int .i64 a0, .int .i64 a1, .int .i64 a2, .int .i64 a3, .int .i64 a4, .int .i64 a5, .int .i64 a6, .bool a7, .slice A8 es.length c8, .slice A9 cf.length c9, .string d, .bool ls]] w fun e w' => e = .returned (.tuple #[.string ⟨#[]⟩, .bool false]) ∧ Below w.heap.size w w' := by
  have HR8 := Lib.hid hr8
  have HR9 := Lib.hid hr9
  clear hr8 hr9
  go_enter Try.func6, Try.ntmps6
  go_wp2_with (first | (go_at_call 9; refine (impl_MsgH es hS _ _ _ _ _ _ _ _ cf _ _ hl hcf _ _ _ _ _ (Kd.C_below HR8.out (by repeat (first | exact Below.refl _ _ | apply bl_alloc | apply bl_drewN | apply bl_drew | refine bl_set ?_ (by simp) | refine bl_then ?_ (by assumption)))) hc8 (Kd.C_below HR9.out (by repeat (first | exact Below.refl _ _ | apply bl_alloc | apply bl_drewN | apply bl_drew | refine bl_set ?_ (by simp) | refine bl_then ?_ (by assumption)))) hc9 false HB).mono ?_; rintro e w1 ⟨rfl, hb1⟩))
  go_ret2
  exact ⟨rfl, (by repeat (first | exact Below.refl _ _ | apply bl_alloc | apply bl_drewN | apply bl_drew | refine bl_set ?_ (by simp) | refine bl_then ?_ (by assumption)))⟩
set_option maxHeartbeats 4000000 in
set_option maxRecDepth 100000 in
theorem impl_Enc_yes (es : List S43) (hS : Short es) (a0 a1 a2 a3 a4 a5 a6 : Int) (a7 : Bool) (cf : List Int) (d : ByteArray) (ls : Bool) (hl : es.length ≤ 1048576) (hcf : cf.length ≤ 1048576) (A8 : Option Addr) (c8 : Nat) (A9 : Option Addr) (c9 : Nat) (w : World)
    (hr8 : Kd.C k43 w A8 es.length es) (hc8 : es.length ≤ c8) (hr9 : Kd.C (Kd.int .i64) w A9 cf.length cf) (hc9 : cf.length ≤ c9) (HB : Hid (msgB a0 a1 a2 a3 a4 a5 a6 es cf d ls = true)) :
    Calls Try.prog 6 #[.agg #[.int .i64 a0, .int .i64 a1, .int .i64 a2, .int .i64 a3, .int .i64 a4, .int .i64 a5, .int .i64 a6, .bool a7, .slice A8 es.length c8, .slice A9 cf.length c9, .string d, .bool ls]] w fun e w' => e = .returned (.tuple #[.string (encS a0 a1 a2 a3 a4 a5 a6 a7 es cf d ls), .bool true]) ∧ Below w.heap.size w w' := by
  obtain ⟨⟨b3, b3'⟩, ⟨b4, b4'⟩, ⟨b5, b5'⟩, ⟨b6, b6'⟩, b8, b9, b10⟩ := msgB_facts HB.out
  have HR8 := Lib.hid hr8
  have HR9 := Lib.hid hr9
  clear hr8 hr9
  have s0 := str3_size (a0 % 256) (a1 % 256) (a2 % 256)
  have s2 := str2_size (flagN a7 % 256) (flagN ls % 256)
  have s3 := varS_size a3 (by omega) (by omega)
  have s4 := varS_size a4 (by omega) (by omega)
  have s5 := varS_size a5 (by omega) (by omega)
  have s6 := varS_size a6 (by omega) (by omega)
  have s7 := byteS_size (flagN a7)
  have s11 := byteS_size (flagN ls)
  have s8 := varS_size es.length (by omega) (by omega)
  go_enter Try.func6, Try.ntmps6
  go_wp2_with fail
  obtain ⟨X, hX⟩ : ∃ X, X = w.alloc (.cells #[.int .i64 a0, .int .i64 a1, .int .i64 a2, .int .i64 a3, .int .i64 a4, .int .i64 a5, .int .i64 a6, .bool a7, .slice A8 es.length c8, .slice A9 cf.length c9, .string d, .bool ls] 27) := ⟨_, rfl⟩
  have KA : Blk 27 w.heap.size #[.int .i64 a0, .int .i64 a1, .int .i64 a2, .int .i64 a3, .int .i64 a4, .int .i64 a5, .int .i64 a6, .bool a7, .slice A8 es.length c8, .slice A9 cf.length c9, .string d, .bool ls] X := by rw [hX]; exact Blk.new _ _ w
  have HX : Below w.heap.size w X := by rw [hX]; exact (by repeat (first | exact Below.refl _ _ | apply bl_alloc | apply bl_drewN | apply bl_drew | refine bl_set ?_ (by simp) | refine bl_then ?_ (by assumption)))
  rw [← hX]
  clear hX
  go_at_call 9
  refine (impl_MsgH es hS _ _ _ _ _ _ _ _ cf _ _ hl hcf _ _ _ _ _ (Kd.C_below HR8.out HX) hc8 (Kd.C_below HR9.out HX) hc9 true HB).mono ?_
  rintro e w1 ⟨rfl, hb1⟩
  have HW1 := bl_then HX hb1
  have K1 := KA.below hb1
  clear hb1 KA HX
  go_wp2_with fail

  have k0 := K1.cell 0 rfl
  have k1 := K1.cell 1 rfl
  have k2 := K1.cell 2 rfl
  have k3 := K1.cell 3 rfl
  have k4 := K1.cell 4 rfl
  have k5 := K1.cell 5 rfl
  have k6 := K1.cell 6 rfl
  have k7 := K1.cell 7 rfl
  have k8 := K1.cell 8 rfl
  have k9 := K1.cell 9 rfl
  have k10 := K1.cell 10 rfl
  have k11 := K1.cell 11 rfl
  have la := K1.lt
  refine wp_region_flow [1] 78 (by kernel_rfl) (by rfl) (by kernel_rfl) (by kernel_rfl) (by kernel_rfl) ?_
  iterate 6 (refine flow_valE ?_; apply Exists.intro; refine ⟨fun A wq hBq hbq hdq => ?_, ?_⟩; focus (obtain ⟨hcq, hfq⟩ := bcell hBq; (try simp [go_sem, baseF, deps, dep1, Region.binds] at hbq); (try simp [go_sem, baseF, deps, dep1, Region.binds, NewSl] at hdq); go_simp; first | exact ⟨Below.refl _ _, rfl⟩ | (rw [if_neg]; (focus (exact ⟨Below.refl _ _, rfl⟩)); (focus ((try simp only [ByteArray.size_append]); omega))) | (fail)))
  (refine flow_newSlE ?_; apply Exists.intro; apply Exists.intro; apply Exists.intro; refine ⟨fun A wq hBq hbq hdq => ?_, ?_⟩; focus (obtain ⟨hcq, hfq⟩ := bcell hBq; (try simp [go_sem, baseF, deps, dep1, Region.binds] at hbq); (try simp [go_sem, baseF, deps, dep1, Region.binds, NewSl] at hdq); go_simp; exact ⟨rfl, rfl⟩))
  (refine flow_valE ?_; apply Exists.intro; refine ⟨fun A wq hBq hbq hdq => ?_, ?_⟩; focus (obtain ⟨hcq, hfq⟩ := bcell hBq; (try simp [go_sem, baseF, deps, dep1, Region.binds] at hbq); (try simp [go_sem, baseF, deps, dep1, Region.binds, NewSl] at hdq); go_simp; first | exact ⟨Below.refl _ _, rfl⟩ | (rw [if_neg]; (focus (exact ⟨Below.refl _ _, rfl⟩)); (focus ((try simp only [ByteArray.size_append]); omega))) | ((go_at_call 15; obtain ⟨g, h1, h2, h3⟩ := hdq; rw [h1]; exact impl_oneByte3 g a0 a1 a2 _ (by simp [World.cell?, h3]) (by simp [World.cell?, h3]) (by simp [World.cell?, h3])))))
  iterate 17 (refine flow_valE ?_; apply Exists.intro; refine ⟨fun A wq hBq hbq hdq => ?_, ?_⟩; focus (obtain ⟨hcq, hfq⟩ := bcell hBq; (try simp [go_sem, baseF, deps, dep1, Region.binds] at hbq); (try simp [go_sem, baseF, deps, dep1, Region.binds, NewSl] at hdq); go_simp; first | exact ⟨Below.refl _ _, rfl⟩ | (rw [if_neg]; (focus (exact ⟨Below.refl _ _, rfl⟩)); (focus ((try simp only [ByteArray.size_append]); omega))) | (first | (go_at_call 16; exact (impl_varOf _ _ (by omega) (by omega))))))
  refine fun x w2 hb2 hall => ?_
  simp only [allT] at hall
  simp [frameOf, Act.put, hall]
  clear hall
  have K2 := K1.below hb2
  have HW2 := bl_then HW1 hb2
  clear hb2 K1 la k0 k1 k2 k3 k4 k5 k6 k7 k8 k9 k10 k11 HW1
  have k0 := K2.cell 0 rfl
  have k1 := K2.cell 1 rfl
  have k2 := K2.cell 2 rfl
  have k3 := K2.cell 3 rfl
  have k4 := K2.cell 4 rfl
  have k5 := K2.cell 5 rfl
  have k6 := K2.cell 6 rfl
  have k7 := K2.cell 7 rfl
  have k8 := K2.cell 8 rfl
  have k9 := K2.cell 9 rfl
  have k10 := K2.cell 10 rfl
  have k11 := K2.cell 11 rfl
  have la := K2.lt
  go_wp2_with fail
  refine wp_region_flowW [4, 1] 78 (by kernel_rfl) (by rfl) (by kernel_rfl) (by kernel_rfl) (by kernel_rfl) ?_
  iterate 7 (refine flow_valE ?_; apply Exists.intro; refine ⟨fun A wq hBq hbq hdq => ?_, ?_⟩; focus (obtain ⟨hcq, hfq⟩ := bcell hBq; (try simp [go_sem, baseF, deps, dep1, Region.binds] at hbq); (try simp [go_sem, baseF, deps, dep1, Region.binds, NewSl] at hdq); go_simp; first | exact ⟨Below.refl _ _, rfl⟩ | (rw [if_neg]; (focus (exact ⟨Below.refl _ _, rfl⟩)); (focus ((try simp only [ByteArray.size_append]); omega))) | (first | (go_at_call 17; exact (impl_flagH _ _)))))
  (refine flow_newSlE ?_; apply Exists.intro; apply Exists.intro; apply Exists.intro; refine ⟨fun A wq hBq hbq hdq => ?_, ?_⟩; focus (obtain ⟨hcq, hfq⟩ := bcell hBq; (try simp [go_sem, baseF, deps, dep1, Region.binds] at hbq); (try simp [go_sem, baseF, deps, dep1, Region.binds, NewSl] at hdq); go_simp; exact ⟨rfl, rfl⟩))
  (refine flow_valE ?_; apply Exists.intro; refine ⟨fun A wq hBq hbq hdq => ?_, ?_⟩; focus (obtain ⟨hcq, hfq⟩ := bcell hBq; (try simp [go_sem, baseF, deps, dep1, Region.binds] at hbq); (try simp [go_sem, baseF, deps, dep1, Region.binds, NewSl] at hdq); go_simp; first | exact ⟨Below.refl _ _, rfl⟩ | (rw [if_neg]; (focus (exact ⟨Below.refl _ _, rfl⟩)); (focus ((try simp only [ByteArray.size_append]); omega))) | ((go_at_call 15; obtain ⟨⟨g, h1, h2, h3⟩, -⟩ := hdq; rw [h1]; exact impl_oneByte2 g (flagN a7) (flagN ls) _ (by simp [World.cell?, h3]) (by simp [World.cell?, h3])))))
  iterate 7 (refine flow_valE ?_; apply Exists.intro; refine ⟨fun A wq hBq hbq hdq => ?_, ?_⟩; focus (obtain ⟨hcq, hfq⟩ := bcell hBq; (try simp [go_sem, baseF, deps, dep1, Region.binds] at hbq); (try simp [go_sem, baseF, deps, dep1, Region.binds, NewSl] at hdq); go_simp; first | exact ⟨Below.refl _ _, rfl⟩ | (rw [if_neg]; (focus (exact ⟨Below.refl _ _, rfl⟩)); (focus ((try simp only [ByteArray.size_append]); omega))) | (first | (go_at_call 16; exact (impl_varOf _ _ (by omega) (by omega))))))
  refine fun x w3 hb3 hall => ?_
  simp only [allT] at hall
  simp [frameOf, Act.put, hall]
  clear hall
  rw [head_two]
  have K3 := K2.below hb3
  have HW3 := bl_then HW2 hb3
  clear hb3 K2 la k0 k1 k2 k3 k4 k5 k6 k7 k8 k9 k10 k11 HW2
  obtain ⟨r, hr⟩ : ∃ r, Hid (entsS es 0 es.length (headS a0 a1 a2 a3 a4 a5 a6 a7 ls es.length) = r) := ⟨_, Lib.hid rfl⟩
  have hrz := entsS_size es es.length 0 (headS a0 a1 a2 a3 a4 a5 a6 a7 ls es.length)
  have hhz : (headS a0 a1 a2 a3 a4 a5 a6 a7 ls es.length).size ≤ 30 := by unfold headS; simp only [ByteArray.size_append]; omega
  rw [hr.out] at hrz
  clear s0 s2 s3 s4 s5 s6 s7 s8 s11
  have k8 := K3.cell 8 rfl
  have la := K3.lt
  go_wp2_with fail
  clear k8 la
  go_loopg [4, 54] es.length (fun kq v4 v5 w' => ∃ (i : Nat) (s : ByteArray), v4 = .string s ∧ v5 = .int .i64 (i : Int) ∧ i + kq = es.length ∧ s.size ≤ 30 + 137 * i ∧ Hid (entsS es i kq s = r) ∧ Below w3.heap.size w3 w')
  case atStart => exact ⟨0, _, rfl, rfl, by omega, hhz, hr, Below.refl _ _⟩
  case round =>
    obtain ⟨i, s, rfl, rfl, hik, hsz, hix, hb⟩ := hrel
    have KW := K3.below hb
    have k8 := KW.cell 8 rfl
    have k9 := KW.cell 9 rfl
    have k10 := KW.cell 10 rfl
    have la := KW.lt
    cases gk with
    | zero =>
      have hlt : ¬ ((i : Int) < (es.length : Int)) := by omega
      have hrv := hix.out
      simp only [entsS] at hrv
      subst hrv
      clear hix
      have HW := bl_then HW3 hb
      have cz := confT_size cf
      have cz1 := shortS_size (confT cf) (by omega)
      have cz2 := shortS_size d (by omega)
      have cl : cf.length ≤ 4 := by rcases b9 with h | h; exact (confOk_short h).2; omega
      go_wp2_with fail
      refine wp_region_flow [4, 1] 78 (by kernel_rfl) (by rfl) (by kernel_rfl) (by kernel_rfl) (by kernel_rfl) ?_
      iterate 12 (refine flow_valE ?_; apply Exists.intro; refine ⟨fun A wq hBq hbq hdq => ?_, ?_⟩; focus (obtain ⟨hcq, hfq⟩ := bcell hBq; (try simp [go_sem, baseF, deps, dep1, Region.binds] at hbq); (try simp [go_sem, baseF, deps, dep1, Region.binds, NewSl] at hdq); go_simp; first | exact ⟨Below.refl _ _, rfl⟩ | (rw [if_neg]; (focus (exact ⟨Below.refl _ _, rfl⟩)); (focus ((try simp only [ByteArray.size_append]); omega))) | (first | (go_at_call 15; exact (impl_oneByteC _ _ cf _ (Kd.C_below HR9.out (bl_then HW hBq)) hc9 hcf)) | (go_at_call 19; exact (impl_shortOf _ _ (by omega))))))
      refine fun x w4 hb4 hall => ?_
      simp only [allT] at hall
      simp [frameOf, Act.put, hall]
      clear hall
      go_wp2
      go_ret2
      refine ⟨?_, bl_then HW hb4⟩
      rw [encS, hr.out]
      rfl
    | succ n =>
      have hlt : (i : Int) < (es.length : Int) := by omega
      obtain ⟨ad, e1, x0, x1, x2⟩ := at_T43 (Kd.C_below HR8.out (bl_then HW3 hb)) i (by omega) hlt
      subst e1
      simp only [Int.toNat_natCast] at x0 x1 x2
      have lx : (ad.add (i * 3)).block < wr.heap.size := World.block_lt_of_cell? wr _ x0
      have E1 := Lib.hid (show wrap64 ((i : Int) + 1) = ((i + 1 : Nat) : Int) from by unfold wrap64; omega)
      have hrv := hix.out
      simp only [entsS] at hrv
      have hix2 := Lib.hid hrv
      clear hrv hix
      have hSi := hS i
      have hze : (shortS (entryT 1 (rd_T43 es (i : Int)).f0 (rd_T43 es (i : Int)).f1 (rd_T43 es (i : Int)).f2)).size ≤ 137 := entS_size es i
      have hzt := entryT_size 1 (rd_T43 es (i : Int)).f0 (rd_T43 es (i : Int)).f1 (rd_T43 es (i : Int)).f2
      go_wp2_with fail
      go_at_call 18
      with_reducible refine (impl_EntryText 1 _ _ _ _ (by omega)).mono ?_
      rintro e w4 ⟨rfl, hb4⟩
      have hb5 : Below w3.heap.size w3 w4 := bl_then hb (by repeat (first | exact Below.refl _ _ | apply bl_alloc | apply bl_drewN | apply bl_drew | refine bl_set ?_ (by simp) | refine bl_then ?_ (by assumption)))
      clear hb hb4 KW k8 k9 k10 la x0 x1 x2 lx
      go_wp2_with fail
      go_at_call 19
      refine (impl_shortOf _ _ (by omega)).mono ?_
      rintro e w5 ⟨rfl, hb6⟩
      have hb7 := bl_then hb5 hb6
      clear hb5 hb6
      go_wp2_with fail
      go_roundg n
      case measure => omega
      case rel => exact ⟨i + 1, _, rfl, by first | rfl | (rw [E1.out]), by omega, by simp only [ByteArray.size_append]; omega, hix2, hb7⟩
end Go.Proofs.Ytmljihfaapoakaa
end

section
namespace Go.Proofs.Ytmljihfaapoakaa
open Go.RowKit Go.Proofs.YtmljihfaapoakaaW.PrintWords PFnMessages
set_option linter.unusedSimpArgs false
set_option linter.unusedVariables false
def encR (a0 a1 a2 a3 a4 a5 a6 : Int) (a7 : Bool) (es : List S43) (cf : List Int) (d : ByteArray) (ls : Bool) : ByteArray × Bool :=
  if msgB a0 a1 a2 a3 a4 a5 a6 es cf d ls = true then (encS a0 a1 a2 a3 a4 a5 a6 a7 es cf d ls, true) else (⟨#[]⟩, false)
theorem spec_encC (a0 a1 a2 a3 a4 a5 a6 : Int) (a7 : Bool) (fs : List S43) (cf : List Int) (d : ByteArray) (ls : Bool) (hS : Short fs) (hl : fs.length ≤ 1048576) (hc : cf.length ≤ 1048576) (r : ByteArray) (b : Bool) (hr : Hid (encR a0 a1 a2 a3 a4 a5 a6 a7 fs cf d ls = (r, b)))
    (B8 : Option Addr) (b8 : Nat) (B9 : Option Addr) (b9 : Nat) (w : World) (h8 : fs.length ≤ b8) (h9 : cf.length ≤ b9) (hC8 : Kd.C k43 w B8 fs.length fs) (hC9 : Kd.C (Kd.int .i64) w B9 cf.length cf) :
    Calls Try.prog 35 #[.agg #[.int .i64 a0, .int .i64 a1, .int .i64 a2, .int .i64 a3, .int .i64 a4, .int .i64 a5, .int .i64 a6, .bool a7, .slice B8 fs.length b8, .slice B9 cf.length b9, .string d, .bool ls]] w fun e w' => e = .returned (.tuple #[.string r, .bool b]) ∧ Below w.heap.size w w' := by
  have h := hr.out
  unfold encR at h
  cases hm : msgB a0 a1 a2 a3 a4 a5 a6 fs cf d ls with
  | false =>
    rw [hm, if_neg (by simp)] at h
    obtain ⟨rfl, rfl⟩ := Prod.mk.inj h
    exact spec_Enc_no fs hS a0 a1 a2 a3 a4 a5 a6 a7 cf d ls hl hc B8 b8 B9 b9 w hC8 h8 hC9 h9 (Lib.hid hm)
  | true =>
    rw [hm, if_pos rfl] at h
    obtain ⟨rfl, rfl⟩ := Prod.mk.inj h
    exact spec_Enc_yes fs hS a0 a1 a2 a3 a4 a5 a6 a7 cf d ls hl hc B8 b8 B9 b9 w hC8 h8 hC9 h9 (Lib.hid hm)
theorem impl_encC (a0 a1 a2 a3 a4 a5 a6 : Int) (a7 : Bool) (fs : List S43) (cf : List Int) (d : ByteArray) (ls : Bool) (hS : Short fs) (hl : fs.length ≤ 1048576) (hc : cf.length ≤ 1048576) (r : ByteArray) (b : Bool) (hr : Hid (encR a0 a1 a2 a3 a4 a5 a6 a7 fs cf d ls = (r, b)))
    (B8 : Option Addr) (b8 : Nat) (B9 : Option Addr) (b9 : Nat) (w : World) (h8 : fs.length ≤ b8) (h9 : cf.length ≤ b9) (hC8 : Kd.C k43 w B8 fs.length fs) (hC9 : Kd.C (Kd.int .i64) w B9 cf.length cf) :
    Calls Try.prog 6 #[.agg #[.int .i64 a0, .int .i64 a1, .int .i64 a2, .int .i64 a3, .int .i64 a4, .int .i64 a5, .int .i64 a6, .bool a7, .slice B8 fs.length b8, .slice B9 cf.length b9, .string d, .bool ls]] w fun e w' => e = .returned (.tuple #[.string r, .bool b]) ∧ Below w.heap.size w w' := by
  have h := hr.out
  unfold encR at h
  cases hm : msgB a0 a1 a2 a3 a4 a5 a6 fs cf d ls with
  | false =>
    rw [hm, if_neg (by simp)] at h
    obtain ⟨rfl, rfl⟩ := Prod.mk.inj h
    exact impl_Enc_no fs hS a0 a1 a2 a3 a4 a5 a6 a7 cf d ls hl hc B8 b8 B9 b9 w hC8 h8 hC9 h9 (Lib.hid hm)
  | true =>
    rw [hm, if_pos rfl] at h
    obtain ⟨rfl, rfl⟩ := Prod.mk.inj h
    exact impl_Enc_yes fs hS a0 a1 a2 a3 a4 a5 a6 a7 cf d ls hl hc B8 b8 B9 b9 w hC8 h8 hC9 h9 (Lib.hid hm)
theorem encS_size {a0 a1 a2 a3 a4 a5 a6 : Int} {a7 : Bool} {es : List S43} {cf : List Int} {d : ByteArray} {ls : Bool} (hm : msgB a0 a1 a2 a3 a4 a5 a6 es cf d ls = true) (hl : es.length ≤ 1000) (hc : cf.length ≤ 1000) (hd : d.size ≤ 1000) : (encS a0 a1 a2 a3 a4 a5 a6 a7 es cf d ls).size ≤ 1000000 := by
  obtain ⟨b0, b1, b2, b3, b4, b5, b6⟩ := msgB_facts hm
  have h1 := entsS_size es es.length 0 (headS a0 a1 a2 a3 a4 a5 a6 a7 ls es.length)
  have h2 := confT_size cf
  have h3 := shortS_size (confT cf) (by omega)
  have h4 := shortS_size d (by omega)
  have h5 : (headS a0 a1 a2 a3 a4 a5 a6 a7 ls es.length).size ≤ 1000 := by
    have s3 := varS_size a3 (by omega) (by omega)
    have s4 := varS_size a4 (by omega) (by omega)
    have s5 := varS_size a5 (by omega) (by omega)
    have s6 := varS_size a6 (by omega) (by omega)
    have s7 := varS_size es.length (by omega) (by omega)
    have s8 := byteS_size (flagN a7)
    have s9 := byteS_size (flagN ls)
    have s0 := str3_size (a0 % 256) (a1 % 256) (a2 % 256)
    unfold headS
    simp only [ByteArray.size_append]
    omega
  unfold encS
  simp only [ByteArray.size_append]
  omega
end Go.Proofs.Ytmljihfaapoakaa
end

section
namespace Go.Proofs.Ytmljihfaapoakaa.PFnMessages
open Go.RowKit Go.Proofs.YtmljihfaapoakaaW.PrintWords Go.Proofs.YtmljihfaapoakaaW.PrintLast Go.Proofs.YtmljihfaapoakaaW.PrintMore
set_option linter.unusedVariables false
set_option linter.unusedSimpArgs false
mutual
def impl_ReadVar.l0 : Nat → ByteArray → Int → Int → Int → Option (Int × Int × Bool)
  | 0, _, _, _, _ => none
  | k + 1, x0, x1, x7, x8 => if x8 < 5 then (impl_ReadVar.j1 k x0 x1 x7 x8 (decide ((wrap64 (x1 + x8)) < (x0.size : Int)))) else (impl_ReadVar.j1 k x0 x1 x7 x8 false)
def impl_ReadVar.j1 : Nat → ByteArray → Int → Int → Int → Bool → Option (Int × Int × Bool)
  | 0, _, _, _, _, _ => none
  | k + 1, x0, x1, x7, x8, x24 => if x24 = true then (if 0 ≤ (wrap64 (x1 + x8)) then (if (wrap64 (x1 + x8)) < (x0.size : Int) then (if 0 ≤ (wrap64 (7 * x8)) then (if (wrap64 (bt x0 (wrap64 (x1 + x8)))) > 127 then (impl_ReadVar.l0 k x0 x1 (Go.bits .or .i64 x7 (shl .i64 (Go.bits .and .i64 (wrap64 (bt x0 (wrap64 (x1 + x8)))) 127) (wrap64 (7 * x8)))) (wrap64 (x8 + 1))) else (if (wrap64 (bt x0 (wrap64 (x1 + x8)))) = 0 then (if x8 > 0 then (some (0, 0, false)) else (if (Go.bits .or .i64 x7 (shl .i64 (Go.bits .and .i64 (wrap64 (bt x0 (wrap64 (x1 + x8)))) 127) (wrap64 (7 * x8)))) > 1000000000 then (some (0, 0, false)) else (some (Go.bits .or .i64 x7 (shl .i64 (Go.bits .and .i64 (wrap64 (bt x0 (wrap64 (x1 + x8)))) 127) (wrap64 (7 * x8))), wrap64 ((wrap64 (x1 + x8)) + 1), true)))) else (if (Go.bits .or .i64 x7 (shl .i64 (Go.bits .and .i64 (wrap64 (bt x0 (wrap64 (x1 + x8)))) 127) (wrap64 (7 * x8)))) > 1000000000 then (some (0, 0, false)) else (some (Go.bits .or .i64 x7 (shl .i64 (Go.bits .and .i64 (wrap64 (bt x0 (wrap64 (x1 + x8)))) 127) (wrap64 (7 * x8))), wrap64 ((wrap64 (x1 + x8)) + 1), true))))) else (none)) else (none)) else (none)) else (some (0, 0, false))
end
def impl_ReadVar.f (k : Nat) (a0 : ByteArray) (a1 : Int) : Option (Int × Int × Bool) := (impl_in.f a1 0 (a0.size : Int)).bind fun t452 => (if t452 = true then (impl_ReadVar.l0 k a0 a1 0 0) else (some (0, 0, false)))
theorem impl_ReadVar.mono_l : ∀ k, (∀ y0 y1 y2 y3, LeO (impl_ReadVar.l0 k y0 y1 y2 y3) (impl_ReadVar.l0 (k + 1) y0 y1 y2 y3)) ∧ (∀ y0 y1 y2 y3 y4, LeO (impl_ReadVar.j1 k y0 y1 y2 y3 y4) (impl_ReadVar.j1 (k + 1) y0 y1 y2 y3 y4))
  | 0 => ⟨fun _ _ _ _ r h => by simp [impl_ReadVar.l0] at h, fun _ _ _ _ _ r h => by simp [impl_ReadVar.j1] at h⟩
  | k + 1 => by
    obtain ⟨ih0, ih1⟩ := impl_ReadVar.mono_l k
    refine ⟨?_, ?_⟩
    · intro y0 y1 y2 y3
      unfold impl_ReadVar.l0
      repeat' first
      | (with_reducible exact ih0 _ _ _ _)
      | (with_reducible exact ih1 _ _ _ _ _)
      | (with_reducible exact LeO.refl _)
      | (with_reducible exact LeO.none _)
      | (with_reducible refine LeO.ite ?_ ?_)
      | (with_reducible refine LeO.bind ?_ (fun _ => ?_))
      | exact ih0 _ _ _ _
      | exact ih1 _ _ _ _ _
      | exact LeO.none _
      | refine LeO.ite ?_ ?_
      | refine LeO.bind ?_ (fun _ => ?_)
    · intro y0 y1 y2 y3 y4
      unfold impl_ReadVar.j1
      repeat' first
      | (with_reducible exact ih0 _ _ _ _)
      | (with_reducible exact ih1 _ _ _ _ _)
      | (with_reducible exact LeO.refl _)
      | (with_reducible exact LeO.none _)
      | (with_reducible refine LeO.ite ?_ ?_)
      | (with_reducible refine LeO.bind ?_ (fun _ => ?_))
      | exact ih0 _ _ _ _
      | exact ih1 _ _ _ _ _
      | exact LeO.none _
      | refine LeO.ite ?_ ?_
      | refine LeO.bind ?_ (fun _ => ?_)
theorem impl_ReadVar.mono : ∀ a0 a1 k, LeO (impl_ReadVar.f k a0 a1) (impl_ReadVar.f (k + 1) a0 a1) := by
  intro a0 a1 k
  obtain ⟨ih0, ih1⟩ := impl_ReadVar.mono_l k
  unfold impl_ReadVar.f
  repeat' first
      | (with_reducible exact ih0 _ _ _ _)
      | (with_reducible exact ih1 _ _ _ _ _)
      | (with_reducible exact LeO.refl _)
      | (with_reducible exact LeO.none _)
      | (with_reducible refine LeO.ite ?_ ?_)
      | (with_reducible refine LeO.bind ?_ (fun _ => ?_))
      | exact ih0 _ _ _ _
      | exact ih1 _ _ _ _ _
      | exact LeO.none _
      | refine LeO.ite ?_ ?_
      | refine LeO.bind ?_ (fun _ => ?_)
set_option maxHeartbeats 8000000 in
set_option maxRecDepth 100000 in
theorem impl_ReadVar.calls (k : Nat) (a0 : ByteArray) (a1 : Int) (r1 : Int) (r2 : Int) (r3 : Bool) (w : World) (h : impl_ReadVar.f k a0 a1 = some (r1, r2, r3)) :
    Calls Try.prog 50 #[.string a0, .int .i64 a1] w fun e w' => e = .returned (.tuple #[.int .i64 r1, .int .i64 r2, .bool r3]) ∧ Drawn0 w w' := by
  have H : ((impl_in.f a1 0 (a0.size : Int)).bind fun t452 => (if t452 = true then (impl_ReadVar.l0 k a0 a1 0 0) else (some (0, 0, false)))) = some (r1, r2, r3) := h
  clear h
  replace H := Option.bind_eq_some_iff.mp H
  obtain ⟨t452, A30, H⟩ := H
  replace H : (if t452 = true then (impl_ReadVar.l0 k a0 a1 0 0) else (some (0, 0, false))) = some (r1, r2, r3) := H
  have A3 := Aside0.mk A30
  clear A30
  by_cases c4 : t452 = true
  · subst c4
    have H1 : (impl_ReadVar.l0 k a0 a1 0 0) = some (r1, r2, r3) := by rw [if_pos rfl] at H; exact H
    clear H
    have H := H1
    clear H1
    have H' := Aside0.mk H
    clear H
    go_enter Try.func50, Try.ntmps50
    go_wp2_with (first | ((with_reducible refine gate_callee (f := 31) rfl ?_); refine goesL_ (some 13) rfl rfl Try.func31 (by kernel_rfl) rfl #[.int .i64 a1, .int .i64 0, .int .i64 (a0.size : Int)] rfl (by (try simp only [List.map_toArray, List.map_cons, List.map_nil]); first | done | rfl | (simp only [List.length_drop, List.length_take]; rfl)) ?_; (with_reducible refine (impl_in.calls a1 0 (a0.size : Int) true _ A3.out).mono ?_); rintro e w' ⟨rfl, ⟨nd, rfl⟩⟩; refine ⟨_, rfl, ?_⟩))
    go_loopg [7, 8] k (fun kq v7 v8 w' => ∃ (x7_1 : Int) (x8_1 : Int), v7 = .int .i64 x7_1 ∧ v8 = .int .i64 x8_1 ∧ Aside0 (impl_ReadVar.l0 kq a0 a1 x7_1 x8_1 = some (r1, r2, r3)) ∧ Aside0 (kq ≤ k) ∧ Drawn0 w w')
    case atStart => exact ⟨(0), (0), (by first | rfl | (simp; done) | (simp [*]; done)), (by first | rfl | (simp; done) | (simp [*]; done)), H', ⟨Nat.le_refl _⟩, by repeat (first | exact Drawn0.refl _ | apply Drawn0.step)⟩
    case round =>
      clear H'
      try clear p2
      try clear c3
      try clear c4
      obtain ⟨x7_1, x8_1, rfl, rfl, HA, HK1, ⟨m1, rfl⟩⟩ := hrel
      cases gk with
      | zero => exact absurd HA.out (by simp [impl_ReadVar.l0])
      | succ k1 =>
        have H := HA.out
        clear HA
        simp only [impl_ReadVar.l0] at H
        have HC5 := Aside0.mk H
        clear H
        go_upto_region 5 with (fail)
        go_cut [24] (fun v24 wc => ∃ (kq : Nat) (x24_4 : Bool), v24 = .bool x24_4 ∧ Aside0 (impl_ReadVar.j1 kq a0 a1 x7_1 x8_1 x24_4 = some (r1, r2, r3)) ∧ Aside0 (kq ≤ k1) ∧ Drawn0 w wc)
        case first =>
          have H := HC5.out
          clear HC5
          by_cases c6 : x8_1 < 5
          · rw [if_pos c6] at H
            have c6b0 : decide (x8_1 < 5) = true := decide_eq_true c6
            clear c6
            (first | rw [c6b0] | (simp only [i64_w, i32_w]; rw [c6b0]) | skip)
            have H' := Aside0.mk H
            clear H
            go_wp2
            go_meet
            case rel => exact ⟨_, (decide ((wrap64 (a1 + x8_1)) < (a0.size : Int))), (by first | rfl | (simp; done) | (simp [*]; done)), H', ⟨by have := HK1.out; first | omega | exact Nat.le_refl _⟩, by repeat (first | exact Drawn0.refl _ | apply Drawn0.step)⟩
          · rw [if_neg c6] at H
            have c6b0 : decide (x8_1 < 5) = false := decide_eq_false c6
            clear c6
            (first | rw [c6b0] | (simp only [i64_w, i32_w]; rw [c6b0]) | skip)
            have H' := Aside0.mk H
            clear H
            go_wp2
            go_meet
            case rel => exact ⟨_, (false), (by first | rfl | (simp; done) | (simp [*]; done)), H', ⟨by have := HK1.out; first | omega | exact Nat.le_refl _⟩, by repeat (first | exact Drawn0.refl _ | apply Drawn0.step)⟩
        case rest =>
          clear HC5
          try clear p2
          try clear c3
          try clear c4
          try clear c5
          try clear c6
          try clear c6b0
          try clear p6
          try clear p2
          obtain ⟨kq, x24_4, rfl, HA, HJ4, ⟨mc4, rfl⟩⟩ := hcut
          cases kq with
          | zero => exact absurd HA.out (by simp [impl_ReadVar.j1])
          | succ kj4 =>
            have H := HA.out
            clear HA
            simp only [impl_ReadVar.j1] at H
            by_cases c7 : x24_4 = true
            · subst c7
              have H1 : (if 0 ≤ (wrap64 (a1 + x8_1)) then (if (wrap64 (a1 + x8_1)) < (a0.size : Int) then (if 0 ≤ (wrap64 (7 * x8_1)) then (if (wrap64 (bt a0 (wrap64 (a1 + x8_1)))) > 127 then (impl_ReadVar.l0 kj4 a0 a1 (Go.bits .or .i64 x7_1 (shl .i64 (Go.bits .and .i64 (wrap64 (bt a0 (wrap64 (a1 + x8_1)))) 127) (wrap64 (7 * x8_1)))) (wrap64 (x8_1 + 1))) else (if (wrap64 (bt a0 (wrap64 (a1 + x8_1)))) = 0 then (if x8_1 > 0 then (some (0, 0, false)) else (if (Go.bits .or .i64 x7_1 (shl .i64 (Go.bits .and .i64 (wrap64 (bt a0 (wrap64 (a1 + x8_1)))) 127) (wrap64 (7 * x8_1)))) > 1000000000 then (some (0, 0, false)) else (some (Go.bits .or .i64 x7_1 (shl .i64 (Go.bits .and .i64 (wrap64 (bt a0 (wrap64 (a1 + x8_1)))) 127) (wrap64 (7 * x8_1))), wrap64 ((wrap64 (a1 + x8_1)) + 1), true)))) else (if (Go.bits .or .i64 x7_1 (shl .i64 (Go.bits .and .i64 (wrap64 (bt a0 (wrap64 (a1 + x8_1)))) 127) (wrap64 (7 * x8_1)))) > 1000000000 then (some (0, 0, false)) else (some (Go.bits .or .i64 x7_1 (shl .i64 (Go.bits .and .i64 (wrap64 (bt a0 (wrap64 (a1 + x8_1)))) 127) (wrap64 (7 * x8_1))), wrap64 ((wrap64 (a1 + x8_1)) + 1), true))))) else (none)) else (none)) else (none)) = some (r1, r2, r3) := by rw [if_pos rfl] at H; exact H
              clear H
              have H := H1
              clear H1
              obtain ⟨ji8, hji8⟩ : ∃ j_ : Int, (wrap64 (a1 + x8_1)) = j_ := ⟨_, rfl⟩
              replace H : (if 0 ≤ (ji8) then (if (ji8) < (a0.size : Int) then (if 0 ≤ (wrap64 (7 * x8_1)) then (if (wrap64 (bt a0 (ji8))) > 127 then (impl_ReadVar.l0 kj4 a0 a1 (Go.bits .or .i64 x7_1 (shl .i64 (Go.bits .and .i64 (wrap64 (bt a0 (ji8))) 127) (wrap64 (7 * x8_1)))) (wrap64 (x8_1 + 1))) else (if (wrap64 (bt a0 (ji8))) = 0 then (if x8_1 > 0 then (some (0, 0, false)) else (if (Go.bits .or .i64 x7_1 (shl .i64 (Go.bits .and .i64 (wrap64 (bt a0 (ji8))) 127) (wrap64 (7 * x8_1)))) > 1000000000 then (some (0, 0, false)) else (some (Go.bits .or .i64 x7_1 (shl .i64 (Go.bits .and .i64 (wrap64 (bt a0 (ji8))) 127) (wrap64 (7 * x8_1))), wrap64 ((ji8) + 1), true)))) else (if (Go.bits .or .i64 x7_1 (shl .i64 (Go.bits .and .i64 (wrap64 (bt a0 (ji8))) 127) (wrap64 (7 * x8_1)))) > 1000000000 then (some (0, 0, false)) else (some (Go.bits .or .i64 x7_1 (shl .i64 (Go.bits .and .i64 (wrap64 (bt a0 (ji8))) 127) (wrap64 (7 * x8_1))), wrap64 ((ji8) + 1), true))))) else (none)) else (none)) else (none)) = some (r1, r2, r3) := by first | (rw [hji8] at H; exact H) | (simp only [hji8] at H ⊢; exact H)
              have hji8w : (IntKind.i64.wrap (a1 + x8_1)) = ji8 := (i64_w _).trans hji8
              by_cases c9 : 0 ≤ (ji8)
              · rw [if_pos c9] at H
                have c9b0 : decide (0 ≤ (ji8)) = true := decide_eq_true c9
                clear c9
                by_cases c10 : (ji8) < (a0.size : Int)
                · rw [if_pos c10] at H
                  have c10b0 : decide ((ji8) < (a0.size : Int)) = true := decide_eq_true c10
                  clear c10
                  obtain ⟨ji12, hji12⟩ : ∃ j_ : Int, (wrap64 (7 * x8_1)) = j_ := ⟨_, rfl⟩
                  replace H : (if 0 ≤ (ji12) then (if (wrap64 (bt a0 (ji8))) > 127 then (impl_ReadVar.l0 kj4 a0 a1 (Go.bits .or .i64 x7_1 (shl .i64 (Go.bits .and .i64 (wrap64 (bt a0 (ji8))) 127) (ji12))) (wrap64 (x8_1 + 1))) else (if (wrap64 (bt a0 (ji8))) = 0 then (if x8_1 > 0 then (some (0, 0, false)) else (if (Go.bits .or .i64 x7_1 (shl .i64 (Go.bits .and .i64 (wrap64 (bt a0 (ji8))) 127) (ji12))) > 1000000000 then (some (0, 0, false)) else (some (Go.bits .or .i64 x7_1 (shl .i64 (Go.bits .and .i64 (wrap64 (bt a0 (ji8))) 127) (ji12)), wrap64 ((ji8) + 1), true)))) else (if (Go.bits .or .i64 x7_1 (shl .i64 (Go.bits .and .i64 (wrap64 (bt a0 (ji8))) 127) (ji12))) > 1000000000 then (some (0, 0, false)) else (some (Go.bits .or .i64 x7_1 (shl .i64 (Go.bits .and .i64 (wrap64 (bt a0 (ji8))) 127) (ji12)), wrap64 ((ji8) + 1), true))))) else (none)) = some (r1, r2, r3) := by first | (rw [hji12] at H; exact H) | (simp only [hji12] at H ⊢; exact H)
                  have hji12w : (IntKind.i64.wrap (7 * x8_1)) = ji12 := (i64_w _).trans hji12
                  by_cases c13 : 0 ≤ (ji12)
                  · rw [if_pos c13] at H
                    have c13b0 := eq_true c13
                    have c13b1 : decide (0 ≤ (ji12)) = true := decide_eq_true c13
                    clear c13
                    obtain ⟨ji14, hji14⟩ : ∃ j_ : Int, (shl .i64 (Go.bits .and .i64 (wrap64 (bt a0 (ji8))) 127) (ji12)) = j_ := ⟨_, rfl⟩
                    replace H : (if (wrap64 (bt a0 (ji8))) > 127 then (impl_ReadVar.l0 kj4 a0 a1 (Go.bits .or .i64 x7_1 (ji14)) (wrap64 (x8_1 + 1))) else (if (wrap64 (bt a0 (ji8))) = 0 then (if x8_1 > 0 then (some (0, 0, false)) else (if (Go.bits .or .i64 x7_1 (ji14)) > 1000000000 then (some (0, 0, false)) else (some (Go.bits .or .i64 x7_1 (ji14), wrap64 ((ji8) + 1), true)))) else (if (Go.bits .or .i64 x7_1 (ji14)) > 1000000000 then (some (0, 0, false)) else (some (Go.bits .or .i64 x7_1 (ji14), wrap64 ((ji8) + 1), true))))) = some (r1, r2, r3) := by first | (rw [hji14] at H; exact H) | (simp only [hji14] at H ⊢; exact H)
                    have hji14_ : (IntKind.i64.wrap ((Go.bits .and .i64 (wrap64 (bt a0 (ji8))) 127) * 2 ^ min (ji12).toNat 64)) = ji14 := hji14
                    have hji14z : (ji12) ≤ 64 → (IntKind.i64.wrap ((Go.bits .and .i64 (wrap64 (bt a0 (ji8))) 127) * 2 ^ (ji12).toNat)) = ji14 := shl_small hji14
                    have hji14y : (wrap64 ((Go.bits .and .i64 (wrap64 (bt a0 (ji8))) 127) * 2 ^ min (ji12).toNat 64)) = ji14 := (i64_w _).symm.trans hji14_
                    have hji14x : (ji12) ≤ 64 → (wrap64 ((Go.bits .and .i64 (wrap64 (bt a0 (ji8))) 127) * 2 ^ (ji12).toNat)) = ji14 := fun h_ => (i64_w _).symm.trans (hji14z h_)
                    by_cases c15 : (wrap64 (bt a0 (ji8))) > 127
                    · rw [if_pos c15] at H
                      have c15b0 : decide (127 < (wrap64 (bt a0 (ji8)))) = true := decide_eq_true c15
                      clear c15
                      have H' := Aside0.mk H
                      clear H
                      have p11 : 0 ≤ ((ji8) : Int) := of_decide_eq_true (by first | (with_reducible assumption) | assumption)
                      have q11 : (ji8) < (a0.size : Int) := of_decide_eq_true (by first | (with_reducible assumption) | assumption)
                      have hx11 := bt_at a0 (ji8)
                      replace p11 := eq_true p11
                      replace q11 := eq_true q11
                      go_wp2
                      go_roundg kj4
                      case measure => have := HK1.out; have := HJ4.out; omega
                      case rel => exact ⟨(Go.bits .or .i64 x7_1 (ji14)), (wrap64 (x8_1 + 1)), (by first | rfl | (simp; done) | (simp only [← hji14] <;> (first | rfl | simp)) | (simp [*]; done)), (by first | rfl | (simp; done) | (simp [*]; done)), H', ⟨by have := HK1.out; have := HJ4.out; omega⟩, by repeat (first | exact Drawn0.refl _ | apply Drawn0.step)⟩
                    · rw [if_neg c15] at H
                      have c15b0 : decide (127 < (wrap64 (bt a0 (ji8)))) = false := decide_eq_false c15
                      clear c15
                      by_cases c16 : (wrap64 (bt a0 (ji8))) = 0
                      · rw [if_pos c16] at H
                        have c16b0 : ((wrap64 (bt a0 (ji8))) == 0) = true := beq_iff_eq.mpr c16
                        have c16b1 : ((wrap64 (bt a0 (ji8))) != 0) = false := bne_eq_false_iff_eq.mpr c16
                        clear c16
                        by_cases c17 : x8_1 > 0
                        · rw [if_pos c17] at H
                          have c17b0 : decide (0 < x8_1) = true := decide_eq_true c17
                          clear c17
                          simp only [Option.some.injEq, Prod.mk.injEq] at H
                          obtain ⟨rfl, rfl, rfl⟩ := H
                          have p11 : 0 ≤ ((ji8) : Int) := of_decide_eq_true (by first | (with_reducible assumption) | assumption)
                          have q11 : (ji8) < (a0.size : Int) := of_decide_eq_true (by first | (with_reducible assumption) | assumption)
                          have hx11 := bt_at a0 (ji8)
                          replace p11 := eq_true p11
                          replace q11 := eq_true q11
                          go_wp2
                          go_ret3
                          exact ⟨by first | rfl | (simp; done) | (simp only [← hji8, ← hji12, ← hji14] <;> (first | rfl | simp)) | (simp [*]; done), by repeat (first | exact Drawn0.refl _ | apply Drawn0.step)⟩
                        · rw [if_neg c17] at H
                          have c17b0 : decide (0 < x8_1) = false := decide_eq_false c17
                          clear c17
                          by_cases c18 : (Go.bits .or .i64 x7_1 (ji14)) > 1000000000
                          · rw [if_pos c18] at H
                            have c18b0 : decide (1000000000 < (Go.bits .or .i64 x7_1 (ji14))) = true := decide_eq_true c18
                            clear c18
                            simp only [Option.some.injEq, Prod.mk.injEq] at H
                            obtain ⟨rfl, rfl, rfl⟩ := H
                            have p11 : 0 ≤ ((ji8) : Int) := of_decide_eq_true (by first | (with_reducible assumption) | assumption)
                            have q11 : (ji8) < (a0.size : Int) := of_decide_eq_true (by first | (with_reducible assumption) | assumption)
                            have hx11 := bt_at a0 (ji8)
                            replace p11 := eq_true p11
                            replace q11 := eq_true q11
                            go_wp2
                            go_ret3
                            exact ⟨by first | rfl | (simp; done) | (simp only [← hji8, ← hji12, ← hji14] <;> (first | rfl | simp)) | (simp [*]; done), by repeat (first | exact Drawn0.refl _ | apply Drawn0.step)⟩
                          · rw [if_neg c18] at H
                            have c18b0 : decide (1000000000 < (Go.bits .or .i64 x7_1 (ji14))) = false := decide_eq_false c18
                            clear c18
                            simp only [Option.some.injEq, Prod.mk.injEq] at H
                            obtain ⟨rfl, rfl, rfl⟩ := H
                            have p11 : 0 ≤ ((ji8) : Int) := of_decide_eq_true (by first | (with_reducible assumption) | assumption)
                            have q11 : (ji8) < (a0.size : Int) := of_decide_eq_true (by first | (with_reducible assumption) | assumption)
                            have hx11 := bt_at a0 (ji8)
                            replace p11 := eq_true p11
                            replace q11 := eq_true q11
                            go_wp2
                            go_ret3
                            exact ⟨by first | rfl | (simp; done) | (simp only [← hji8, ← hji12, ← hji14] <;> (first | rfl | simp)) | (simp [*]; done), by repeat (first | exact Drawn0.refl _ | apply Drawn0.step)⟩
                      · rw [if_neg c16] at H
                        have c16b0 : ((wrap64 (bt a0 (ji8))) == 0) = false := beq_eq_false_iff_ne.mpr c16
                        have c16b1 : ((wrap64 (bt a0 (ji8))) != 0) = true := bne_iff_ne.mpr c16
                        by_cases c19 : (Go.bits .or .i64 x7_1 (ji14)) > 1000000000
                        · rw [if_pos c19] at H
                          have c19b0 : decide (1000000000 < (Go.bits .or .i64 x7_1 (ji14))) = true := decide_eq_true c19
                          clear c19
                          simp only [Option.some.injEq, Prod.mk.injEq] at H
                          obtain ⟨rfl, rfl, rfl⟩ := H
                          have p11 : 0 ≤ ((ji8) : Int) := of_decide_eq_true (by first | (with_reducible assumption) | assumption)
                          have q11 : (ji8) < (a0.size : Int) := of_decide_eq_true (by first | (with_reducible assumption) | assumption)
                          have hx11 := bt_at a0 (ji8)
                          replace p11 := eq_true p11
                          replace q11 := eq_true q11
                          go_wp2
                          go_ret3
                          exact ⟨by first | rfl | (simp; done) | (simp only [← hji8, ← hji12, ← hji14] <;> (first | rfl | simp)) | (simp [*]; done), by repeat (first | exact Drawn0.refl _ | apply Drawn0.step)⟩
                        · rw [if_neg c19] at H
                          have c19b0 : decide (1000000000 < (Go.bits .or .i64 x7_1 (ji14))) = false := decide_eq_false c19
                          clear c19
                          simp only [Option.some.injEq, Prod.mk.injEq] at H
                          obtain ⟨rfl, rfl, rfl⟩ := H
                          have p11 : 0 ≤ ((ji8) : Int) := of_decide_eq_true (by first | (with_reducible assumption) | assumption)
                          have q11 : (ji8) < (a0.size : Int) := of_decide_eq_true (by first | (with_reducible assumption) | assumption)
                          have hx11 := bt_at a0 (ji8)
                          replace p11 := eq_true p11
                          replace q11 := eq_true q11
                          go_wp2
                          go_ret3
                          exact ⟨by first | rfl | (simp; done) | (simp only [← hji8, ← hji12, ← hji14] <;> (first | rfl | simp)) | (simp [*]; done), by repeat (first | exact Drawn0.refl _ | apply Drawn0.step)⟩
                  · rw [if_neg c13] at H
                    exact absurd H (by simp)
                · rw [if_neg c10] at H
                  exact absurd H (by simp)
              · rw [if_neg c9] at H
                exact absurd H (by simp)
            · replace c7 := Bool.eq_false_iff.mpr c7
              subst c7
              have H1 : (some (0, 0, false)) = some (r1, r2, r3) := by rw [if_neg (show ¬ (false = true) by decide)] at H; exact H
              clear H
              have H := H1
              clear H1
              simp only [Option.some.injEq, Prod.mk.injEq] at H
              obtain ⟨rfl, rfl, rfl⟩ := H
              go_wp2
              go_ret3
              exact ⟨by first | rfl | (simp; done) | (simp [*]; done), by repeat (first | exact Drawn0.refl _ | apply Drawn0.step)⟩
  · replace c4 := Bool.eq_false_iff.mpr c4
    subst c4
    have H1 : (some (0, 0, false)) = some (r1, r2, r3) := by rw [if_neg (show ¬ (false = true) by decide)] at H; exact H
    clear H
    have H := H1
    clear H1
    simp only [Option.some.injEq, Prod.mk.injEq] at H
    obtain ⟨rfl, rfl, rfl⟩ := H
    go_enter Try.func50, Try.ntmps50
    go_wp2_with (first | ((with_reducible refine gate_callee (f := 31) rfl ?_); refine goesL_ (some 13) rfl rfl Try.func31 (by kernel_rfl) rfl #[.int .i64 a1, .int .i64 0, .int .i64 (a0.size : Int)] rfl (by (try simp only [List.map_toArray, List.map_cons, List.map_nil]); first | done | rfl | (simp only [List.length_drop, List.length_take]; rfl)) ?_; (with_reducible refine (impl_in.calls a1 0 (a0.size : Int) false _ A3.out).mono ?_); rintro e w' ⟨rfl, ⟨nd, rfl⟩⟩; refine ⟨_, rfl, ?_⟩))
    go_ret3
    exact ⟨by first | rfl | (simp; done) | (simp [*]; done), by repeat (first | exact Drawn0.refl _ | apply Drawn0.step)⟩
end Go.Proofs.Ytmljihfaapoakaa.PFnMessages
end
