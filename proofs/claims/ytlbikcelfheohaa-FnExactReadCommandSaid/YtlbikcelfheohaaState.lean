import Derived.Test.YtlbikcelfheohaaRead
import Derived.Test.YtlbikcelfheohaaPFnExactReadCommandx8
import Derived.Test.YtlbikcelfheohaaPFnExactReadCommandx17
import Derived.Test.YtlbikcelfheohaaPFnExactReadCommandx22
import Derived.Test.YtlbikcelfheohaaPFnExactReadCommandx21
import Derived.Test.YtlbikcelfheohaaPFnExactReadCommandx9
namespace Go.Proofs.Ytlbikcelfheohaa
open Go.RowKit Go.Proofs.YtlbikcelfheohaaW.PrintWords
set_option linter.unusedSimpArgs false
set_option linter.unusedVariables false

/-- Only one block may have turned. -/
structure Upd (g : Nat) (w w' : World) : Prop where
  os : w'.os = w.os
  tape : w'.tape = w.tape
  output : w'.output = w.output
  size : w.heap.size ≤ w'.heap.size
  block : ∀ k, k < w.heap.size → k ≠ g → w'.heap[k]? = w.heap[k]?
theorem Upd.of_below {g : Nat} {w w' : World} (h : Below w.heap.size w w') : Upd g w w' := ⟨h.os, h.tape, h.output, h.size, fun k hk _ => h.block k hk⟩
theorem Upd.refl (g : Nat) (w : World) : Upd g w w := ⟨rfl, rfl, rfl, Nat.le_refl _, fun _ _ _ => rfl⟩
theorem Upd.trans {g : Nat} {a b c : World} (h : Upd g a b) (k : Upd g b c) : Upd g a c :=
  ⟨k.os.trans h.os, k.tape.trans h.tape, k.output.trans h.output, Nat.le_trans h.size k.size, fun i hi hg => (k.block i (Nat.lt_of_lt_of_le hi h.size) hg).trans (h.block i hi hg)⟩
theorem Upd.set {g : Nat} {w w' : World} (h : Upd g w w') (o : Nat) (v : Value) : Upd g w (w'.setCell ⟨g, o, none⟩ v) :=
  ⟨h.os, h.tape, h.output, by simpa using h.size, fun k hk hg => (Below.heap_setCell w' ⟨g, o, none⟩ v k hg).trans (h.block k hk hg)⟩
theorem Upd.alloc {g : Nat} {w w' : World} (h : Upd g w w') (o : Obj) : Upd g w (w'.alloc o) :=
  h.trans (Upd.of_below (bl_alloc (Below.refl _ _) o))
theorem Upd.drewN {g : Nat} {w w' : World} (h : Upd g w w') (n : Nat) : Upd g w (w'.drewN n) := h.trans (Upd.of_below (bl_drewN (Below.refl _ _) n))
theorem Upd.then {g : Nat} {w w' w2 : World} (h : Upd g w w') (k : Below w'.heap.size w' w2) : Upd g w w2 := h.trans (Upd.of_below k)
theorem Upd.below {g : Nat} {w w' w0 : World} (h : Upd g w w') (hb : Below w0.heap.size w0 w) (hg : w0.heap.size ≤ g) : Below w0.heap.size w0 w' :=
  hb.trans ⟨h.os, h.tape, h.output, h.size, fun k hk => h.block k (Nat.lt_of_lt_of_le hk hb.size) (by omega)⟩
theorem ucell {g : Nat} {W w1 : World} (h : Upd g W w1) : (∀ b o, b < W.heap.size → b ≠ g → w1.cell? ⟨b, o, none⟩ = W.cell? ⟨b, o, none⟩) ∧ (∀ b o, b < W.heap.size → b ≠ g → w1.frozen? ⟨b, o, none⟩ = W.frozen? ⟨b, o, none⟩) :=
  ⟨fun b o hb hg => World.cell?_of_block (w := W) (h.block b hb hg), fun b o hb hg => World.frozen?_of_block (w := W) (h.block b hb hg)⟩

/-- A reader's block: the text, the place, whether it was bad. -/
def Rd (T g : Nat) (s : ByteArray) (p : Int) (bad : Bool) (W : World) : Prop := W.heap[g]? = some (.cells #[.string s, .int .i64 p, .bool bad] T (0, 0))
theorem Rd.lt {T g : Nat} {s : ByteArray} {p : Int} {bad : Bool} {W : World} (h : Rd T g s p bad W) : g < W.heap.size := by
  unfold Rd at h
  rcases Nat.lt_or_ge g W.heap.size with h1 | h1
  · exact h1
  · rw [Array.getElem?_eq_none h1] at h; cases h
theorem Rd.cells {T g : Nat} {s : ByteArray} {p : Int} {bad : Bool} {W : World} (h : Rd T g s p bad W) :
    W.cell? ⟨g, 0, none⟩ = some (.string s) ∧ W.cell? ⟨g, 1, none⟩ = some (.int .i64 p) ∧ W.cell? ⟨g, 2, none⟩ = some (.bool bad) ∧ ∀ o, W.frozen? ⟨g, o, none⟩ = false := by
  unfold Rd at h
  refine ⟨?_, ?_, ?_, fun o => ?_⟩ <;> simp [World.cell?, World.frozen?, h]
theorem Rd.upd {T g g' : Nat} {s : ByteArray} {p : Int} {bad : Bool} {W W1 : World} (h : Rd T g s p bad W) (hu : Upd g' W W1) (hg : g ≠ g') : Rd T g s p bad W1 := (hu.block g h.lt hg).trans h
theorem Rd.below {T g : Nat} {s : ByteArray} {p : Int} {bad : Bool} {W W1 : World} (h : Rd T g s p bad W) (hb : Below W.heap.size W W1) : Rd T g s p bad W1 := (hb.block g h.lt).trans h
theorem Rd.far {T g : Nat} {s : ByteArray} {p : Int} {bad : Bool} {W : World} (h : Rd T g s p bad W) {a : Addr} (hg : g ≠ a.block) (v : Value) : Rd T g s p bad (W.setCell a v) := (Below.heap_setCell W a v g hg).trans h
theorem Rd.set1 {T g : Nat} {s : ByteArray} {p : Int} {bad : Bool} {W : World} (h : Rd T g s p bad W) (q : Int) : Rd T g s q bad (W.setCell ⟨g, 1, none⟩ (.int .i64 q)) := by
  unfold Rd at *
  simp [World.setCell, Array.getElem?_modify, h]
theorem Rd.set2 {T g : Nat} {s : ByteArray} {p : Int} {bad : Bool} {W : World} (h : Rd T g s p bad W) (q : Bool) : Rd T g s p q (W.setCell ⟨g, 2, none⟩ (.bool q)) := by
  unfold Rd at *
  simp [World.setCell, Array.getElem?_modify, h]
theorem Rd.new (T : Nat) (s : ByteArray) (p : Int) (bad : Bool) (W : World) : Rd T W.heap.size s p bad (W.alloc (.cells #[.string s, .int .i64 p, .bool bad] T)) := by
  unfold Rd
  simpa using heap_alloc_new W _

/-- What taking a number, a byte, a text does. -/
def rdNum (s : ByteArray) (p : Int) (bad : Bool) : Int × Int × Bool := if bad then (0, p, true) else match rv s p with
  | some (n, e) => (n, e, false)
  | none => (0, p, true)
def rdByte (s : ByteArray) (p : Int) (bad : Bool) : Int × Int × Bool := if bad = true ∨ p ≥ s.size then (0, p, true) else (bt s p, p + 1, false)

theorem impl_ReadVar (s : ByteArray) (p : Int) (w : World) (hs : s.size ≤ 1099511627776) :
    Calls Try.prog 84 #[.string s, .int .i64 p] w fun e w' => e = .returned (.tuple #[.int .i64 (rv3 (rv s p)).1, .int .i64 (rv3 (rv s p)).2.1, .bool (rv3 (rv s p)).2.2]) ∧ Below w.heap.size w w' := by
  refine (PFnExactReadCommand.impl_ReadVar.calls 12 s p _ _ _ w (impl_rv_f s p hs)).mono ?_
  rintro e w' ⟨rfl, nd, rfl⟩
  exact ⟨rfl, bl_drewN (Below.refl _ _) nd⟩
theorem spec_ReadVar (s : ByteArray) (p : Int) (w : World) (hs : s.size ≤ 1099511627776) :
    Calls Try.prog 83 #[.string s, .int .i64 p] w fun e w' => e = .returned (.tuple #[.int .i64 (rv3 (rv s p)).1, .int .i64 (rv3 (rv s p)).2.1, .bool (rv3 (rv s p)).2.2]) ∧ Below w.heap.size w w' := by
  refine (PFnExactReadCommand.spec_ReadVar.calls 20 s p _ _ _ w (spec_rv_f s p hs)).mono ?_
  rintro e w' ⟨rfl, hb⟩
  exact ⟨rfl, hb⟩

attribute [local go_sem] cell_grow

theorem impl_ReadVarH (s : ByteArray) (p : Int) (r : Int × Int × Bool) (w : World) (h : Hid (rv3 (rv s p) = r)) (hs : s.size ≤ 1099511627776) :
    Calls Try.prog 84 #[.string s, .int .i64 p] w fun e w' => e = .returned (.tuple #[.int .i64 r.1, .int .i64 r.2.1, .bool r.2.2]) ∧ Below w.heap.size w w' := by
  have := impl_ReadVar s p w hs
  rw [h.out] at this
  exact this
theorem spec_ReadVarH (s : ByteArray) (p : Int) (r : Int × Int × Bool) (w : World) (h : Hid (rv3 (rv s p) = r)) (hs : s.size ≤ 1099511627776) :
    Calls Try.prog 83 #[.string s, .int .i64 p] w fun e w' => e = .returned (.tuple #[.int .i64 r.1, .int .i64 r.2.1, .bool r.2.2]) ∧ Below w.heap.size w w' := by
  have := spec_ReadVar s p w hs
  rw [h.out] at this
  exact this

set_option maxHeartbeats 1000000 in
theorem impl_number (g : Nat) (s : ByteArray) (p : Int) (bad : Bool) (w : World) (hs : s.size ≤ 1099511627776) (hR : Rd 85 g s p bad w) :
    Calls Try.prog 46 #[.pointer (some ⟨g, 0, none⟩)] w fun e w' =>
      e = .returned (.int .i64 (rdNum s p bad).1) ∧ Rd 85 g s (rdNum s p bad).2.1 (rdNum s p bad).2.2 w' ∧ Upd g w w' := by
  have hlt := hR.lt
  obtain ⟨c0, c1, c2, hf⟩ := hR.cells
  cases bad with
  | true =>
    have Hq := Lib.hid (show rdNum s p true = (0, p, true) from by simp [rdNum])
    go_enter Try.func46, Try.ntmps46
    go_wp2_with fail
    refine wp_region_quiet_below (by kernel_rfl) (by kernel_rfl) ?_
    repeat (first | quiet_step (first | (go_at_call 84; exact Calls.regrown_of (impl_ReadVar _ _ _ hs))) | go_big_quiet_step (fail))
    refine wpQuiet_nil ?_
    intro W2 hw'
    have hbq := bl_regrown hw'
    clear hw'
    obtain ⟨hcq, hfq⟩ := bcell hbq
    go_wp2
    go_ret
    rw [Hq.out]
    exact ⟨rfl, (hR.below hbq).set2 true, ((Upd.refl g w).then hbq).set 2 _⟩
  | false =>
    rcases hq : rv s p with _ | ⟨n, e⟩
    · have Hq := Lib.hid (show rdNum s p false = (0, p, true) from by simp [rdNum, hq])
      have H3 := Lib.hid (show rv3 (rv s p) = (0, 0, false) from by rw [hq]; rfl)
      clear hq
      go_enter Try.func46, Try.ntmps46
      go_wp2_with fail
      refine wp_region_quiet_below (by kernel_rfl) (by kernel_rfl) ?_
      repeat (first | quiet_step (first | (go_at_call 84; exact Calls.regrown_of (impl_ReadVarH _ _ _ _ H3 hs))) | go_big_quiet_step (fail))
      refine wpQuiet_nil ?_
      intro W2 hw'
      have hbq := bl_regrown hw'
      clear hw'
      obtain ⟨hcq, hfq⟩ := bcell hbq
      go_wp2
      go_ret
      rw [Hq.out]
      exact ⟨rfl, (hR.below hbq).set2 true, ((Upd.refl g w).then hbq).set 2 _⟩
    · have Hq := Lib.hid (show rdNum s p false = ((n : Int), (e : Int), false) from by simp [rdNum, hq])
      have H3 := Lib.hid (show rv3 (rv s p) = ((n : Int), (e : Int), true) from by rw [hq]; rfl)
      clear hq
      go_enter Try.func46, Try.ntmps46
      go_wp2_with fail
      refine wp_region_quiet_below (by kernel_rfl) (by kernel_rfl) ?_
      repeat (first | quiet_step (first | (go_at_call 84; exact Calls.regrown_of (impl_ReadVarH _ _ _ _ H3 hs))) | go_big_quiet_step (fail))
      refine wpQuiet_nil ?_
      intro W2 hw'
      have hbq := bl_regrown hw'
      clear hw'
      obtain ⟨hcq, hfq⟩ := bcell hbq
      go_wp2
      go_ret
      rw [Hq.out]
      exact ⟨rfl, (hR.below hbq).set1 e, ((Upd.refl g w).then hbq).set 1 _⟩

set_option maxHeartbeats 1000000 in
theorem spec_l05Var (g : Nat) (s : ByteArray) (p : Int) (bad : Bool) (w : World) (hs : s.size ≤ 1099511627776) (hR : Rd 80 g s p bad w) :
    Calls Try.prog 43 #[.pointer (some ⟨g, 0, none⟩)] w fun e w' =>
      e = .returned (.int .i64 (rdNum s p bad).1) ∧ Rd 80 g s (rdNum s p bad).2.1 (rdNum s p bad).2.2 w' ∧ Upd g w w' := by
  have hlt := hR.lt
  obtain ⟨c0, c1, c2, hf⟩ := hR.cells
  cases bad with
  | true =>
    have Hq := Lib.hid (show rdNum s p true = (0, p, true) from by simp [rdNum])
    go_enter Try.func43, Try.ntmps43
    go_wp2_with fail
    refine wp_region_quiet_below (by kernel_rfl) (by kernel_rfl) ?_
    repeat (first | quiet_step (first | (go_at_call 83; exact Calls.regrown_of (spec_ReadVar _ _ _ hs))) | go_big_quiet_step (fail))
    refine wpQuiet_nil ?_
    intro W2 hw'
    have hbq := bl_regrown hw'
    clear hw'
    obtain ⟨hcq, hfq⟩ := bcell hbq
    go_wp2
    go_ret
    rw [Hq.out]
    exact ⟨rfl, (hR.below hbq).set2 true, ((Upd.refl g w).then hbq).set 2 _⟩
  | false =>
    rcases hq : rv s p with _ | ⟨n, e⟩
    · have Hq := Lib.hid (show rdNum s p false = (0, p, true) from by simp [rdNum, hq])
      have H3 := Lib.hid (show rv3 (rv s p) = (0, 0, false) from by rw [hq]; rfl)
      clear hq
      go_enter Try.func43, Try.ntmps43
      go_wp2_with fail
      refine wp_region_quiet_below (by kernel_rfl) (by kernel_rfl) ?_
      repeat (first | quiet_step (first | (go_at_call 83; exact Calls.regrown_of (spec_ReadVarH _ _ _ _ H3 hs))) | go_big_quiet_step (fail))
      refine wpQuiet_nil ?_
      intro W2 hw'
      have hbq := bl_regrown hw'
      clear hw'
      obtain ⟨hcq, hfq⟩ := bcell hbq
      go_wp2
      go_ret
      rw [Hq.out]
      exact ⟨rfl, (hR.below hbq).set2 true, ((Upd.refl g w).then hbq).set 2 _⟩
    · have Hq := Lib.hid (show rdNum s p false = ((n : Int), (e : Int), false) from by simp [rdNum, hq])
      have H3 := Lib.hid (show rv3 (rv s p) = ((n : Int), (e : Int), true) from by rw [hq]; rfl)
      clear hq
      go_enter Try.func43, Try.ntmps43
      go_wp2_with fail
      refine wp_region_quiet_below (by kernel_rfl) (by kernel_rfl) ?_
      repeat (first | quiet_step (first | (go_at_call 83; exact Calls.regrown_of (spec_ReadVarH _ _ _ _ H3 hs))) | go_big_quiet_step (fail))
      refine wpQuiet_nil ?_
      intro W2 hw'
      have hbq := bl_regrown hw'
      clear hw'
      obtain ⟨hcq, hfq⟩ := bcell hbq
      go_wp2
      go_ret
      rw [Hq.out]
      exact ⟨rfl, (hR.below hbq).set1 e, ((Upd.refl g w).then hbq).set 1 _⟩

/-! what the numbers read are -/
theorem rvGo_range (s : ByteArray) : ∀ (f p acc k n e : Nat), rvGo f s p acc k = some (n, e) → p < e ∧ e ≤ s.size ∧ n ≤ 1000000000
  | 0, _, _, _, _, _, h => by simp [rvGo] at h
  | f + 1, p, acc, k, n, e, h => by
    simp only [rvGo] at h
    split at h
    · split at h
      · split at h
        · cases h
        · rename_i h1 h2 h3
          have hn : ¬ (1000000000 < acc + byN s p * 128 ^ k) := fun x => h3 (.inr x)
          simp only [Option.some.injEq, Prod.mk.injEq] at h
          omega
      · have := rvGo_range s f (p + 1) _ _ n e h
        omega
    · cases h
theorem rv_range {s : ByteArray} {p : Int} {n e : Nat} (h : rv s p = some (n, e)) : 0 ≤ p ∧ p < (e : Int) ∧ e ≤ s.size ∧ n ≤ 1000000000 := by
  unfold rv at h
  split at h
  · rename_i hp
    have := rvGo_range s 5 _ 0 0 n e h
    omega
  · cases h

def rdTake (s : ByteArray) (p : Int) (bad : Bool) (n : Int) : ByteArray × Int × Bool := if bad = true ∨ n > s.size - p then (⟨#[]⟩, p, true) else (s.extract p.toNat (p + n).toNat, p + n, false)


/-- A world's first blocks. -/
def trunc (w : World) (g : Nat) : World := { w with heap := w.heap.extract 0 g }
theorem trunc_size {w : World} {g : Nat} (h : g ≤ w.heap.size) : (trunc w g).heap.size = g := by simp [trunc]; omega
theorem trunc_below {w : World} {g : Nat} (h : g ≤ w.heap.size) : Below (trunc w g).heap.size (trunc w g) w := by
  rw [trunc_size h]
  refine ⟨rfl, rfl, rfl, by rw [trunc_size h]; exact h, fun k hk => ?_⟩
  show w.heap[k]? = (w.heap.extract 0 g)[k]?
  rw [Array.getElem?_extract, if_pos (by omega)]
  simp
theorem upd_of {g : Nat} {w w' w0 : World} (h0 : Below w0.heap.size w0 w) (h1 : Below w0.heap.size w0 w') (hk : KeepBut w w' g none) : Upd g w w' :=
  ⟨h1.os.trans h0.os.symm, h1.tape.trans h0.tape.symm, h1.output.trans h0.output.symm, hk.1, fun k hk' hg => hk.2 k hk' hg (by simp)⟩

theorem take_f (s : ByteArray) (p : Int) (bad : Bool) (n : Int) (hs : s.size ≤ 1099511627776) (hp0 : 0 ≤ p) (hp1 : p ≤ s.size) (hn : 0 ≤ n) (hn1 : n ≤ 1000000000) :
    PFnExactReadCommand.spec_l05Take.f s p bad n = some ((rdTake s p bad n).1, s, (rdTake s p bad n).2.1, (rdTake s p bad n).2.2) := by
  unfold PFnExactReadCommand.spec_l05Take.f rdTake
  have e1 : wrap64 ((s.size : Int) - p) = (s.size : Int) - p := by unfold wrap64; omega
  have e2 : wrap64 (p + n) = p + n := by unfold wrap64; omega
  have e3 : wrap64 (p + n - n) = p := by unfold wrap64; omega
  rw [e1, e2, e3]
  clear e1 e2 e3
  cases bad with
  | true => simp
  | false =>
    by_cases h : n > s.size - p
    · rw [if_neg (by simp), if_pos h, if_pos (.inr h)]
    · rw [if_neg (by simp), if_neg h, if_pos hp0, if_pos (by omega), if_pos (by omega), if_neg (by simpa using h)]
theorem byte_f (s : ByteArray) (p : Int) (bad : Bool) (hs : s.size ≤ 1099511627776) (hp0 : 0 ≤ p) (hp1 : p ≤ s.size) :
    PFnExactReadCommand.impl_reader_byte.f s p bad = some ((rdByte s p bad).1, s, (rdByte s p bad).2.1, (rdByte s p bad).2.2) := by
  unfold PFnExactReadCommand.impl_reader_byte.f rdByte
  have hb := bt_range s p
  have e2 : wrap64 (p + 1) = p + 1 := by unfold wrap64; omega
  have e3 : wrap64 (p + 1 - 1) = p := by unfold wrap64; omega
  have e4 : wrap64 (bt s p) = bt s p := by unfold wrap64; omega
  rw [e2, e3, e4]
  clear e2 e3 e4
  cases bad with
  | true => simp
  | false =>
    by_cases h : p ≥ s.size
    · rw [if_neg (by simp), if_pos h, if_pos (.inr h)]
    · rw [if_neg (by simp), if_neg h, if_pos hp0, if_pos (by omega), if_neg (by simpa using h)]
theorem done_f (s : ByteArray) (p : Int) (bad : Bool) : PFnExactReadCommand.impl_reader_done.f s p bad = some (!bad && p == s.size, s, p, bad) := by
  unfold PFnExactReadCommand.impl_reader_done.f
  cases bad <;> simp

theorem spec_l05Take (g : Nat) (s : ByteArray) (p : Int) (bad : Bool) (n : Int) (w : World) (hs : s.size ≤ 1099511627776) (hp0 : 0 ≤ p) (hp1 : p ≤ s.size) (hn : 0 ≤ n) (hn1 : n ≤ 1000000000) (hR : Rd 80 g s p bad w) :
    Calls Try.prog 82 #[.pointer (some ⟨g, 0, none⟩), .int .i64 n] w fun e w' =>
      e = .returned (.string (rdTake s p bad n).1) ∧ Rd 80 g s (rdTake s p bad n).2.1 (rdTake s p bad n).2.2 w' ∧ Upd g w w' := by
  have hlt := Nat.le_of_lt hR.lt
  refine (PFnExactReadCommand.spec_l05Take.calls g s p bad n _ _ _ _ (trunc w g) w ⟨hR, Nat.le_of_eq (trunc_size hlt)⟩ (trunc_below hlt) (take_f s p bad n hs hp0 hp1 hn hn1)).mono ?_
  rintro e w' ⟨rfl, hI, hB, hK⟩
  exact ⟨rfl, hI.1, upd_of (trunc_below hlt) hB hK⟩
theorem impl_byte (g : Nat) (s : ByteArray) (p : Int) (bad : Bool) (w : World) (hs : s.size ≤ 1099511627776) (hp0 : 0 ≤ p) (hp1 : p ≤ s.size) (hR : Rd 85 g s p bad w) :
    Calls Try.prog 45 #[.pointer (some ⟨g, 0, none⟩)] w fun e w' =>
      e = .returned (.int .i64 (rdByte s p bad).1) ∧ Rd 85 g s (rdByte s p bad).2.1 (rdByte s p bad).2.2 w' ∧ Upd g w w' := by
  have hlt := Nat.le_of_lt hR.lt
  refine (PFnExactReadCommand.impl_reader_byte.calls g s p bad _ _ _ _ (trunc w g) w ⟨hR, Nat.le_of_eq (trunc_size hlt)⟩ (trunc_below hlt) (byte_f s p bad hs hp0 hp1)).mono ?_
  rintro e w' ⟨rfl, hI, hB, hK⟩
  exact ⟨rfl, hI.1, upd_of (trunc_below hlt) hB hK⟩
theorem impl_done (g : Nat) (s : ByteArray) (p : Int) (bad : Bool) (w : World) (hR : Rd 85 g s p bad w) :
    Calls Try.prog 48 #[.pointer (some ⟨g, 0, none⟩)] w fun e w' =>
      e = .returned (.bool (!bad && p == s.size)) ∧ Rd 85 g s p bad w' ∧ Upd g w w' := by
  have hlt := Nat.le_of_lt hR.lt
  refine (PFnExactReadCommand.impl_reader_done.calls g s p bad _ _ _ _ (trunc w g) w ⟨hR, Nat.le_of_eq (trunc_size hlt)⟩ (trunc_below hlt) (done_f s p bad)).mono ?_
  rintro e w' ⟨rfl, hI, hB, hK⟩
  exact ⟨rfl, hI.1, upd_of (trunc_below hlt) hB hK⟩

def rs (s : ByteArray) (p : Int) : Option (ByteArray × Int) := match rv s p with
  | some (n, e) => if n > 20000 ∨ (n : Int) > s.size - e then none else some (s.extract e (e + n), ((e + n : Nat) : Int))
  | none => none
def rs3 : Option (ByteArray × Int) → ByteArray × Int × Bool
  | some (t, e) => (t, e, true)
  | none => (⟨#[]⟩, 0, false)
def rdText (s : ByteArray) (p : Int) (bad : Bool) : ByteArray × Int × Bool := if bad then (⟨#[]⟩, p, true) else match rs s p with
  | some (t, e) => (t, e, false)
  | none => (⟨#[]⟩, p, true)
theorem rs_f (s : ByteArray) (p : Int) (hs : s.size ≤ 1099511627776) : PFnExactReadCommand.impl_ReadShort.f 12 s p = some (rs3 (rs s p)) := by
  unfold PFnExactReadCommand.impl_ReadShort.f rs
  rw [impl_rv_f s p hs]
  rcases hq : rv s p with _ | ⟨n, e⟩
  · rfl
  · obtain ⟨h0, h1, h2, h3⟩ := rv_range hq
    simp only [rv3, Option.bind_some]
    rw [if_pos trivial]
    by_cases c1 : n > 20000
    · rw [if_pos (by omega), if_pos (.inl c1)]; rfl
    · have e1 : wrap64 ((s.size : Int) - (e : Int)) = (s.size : Int) - (e : Int) := by unfold wrap64; omega
      have e2 : wrap64 ((e : Int) + (n : Int)) = ((e + n : Nat) : Int) := by unfold wrap64; omega
      rw [if_neg (by omega), e1, e2]
      clear e1 e2
      by_cases c2 : (n : Int) > s.size - e
      · rw [if_pos c2, if_pos (.inr c2)]; rfl
      · have c3 : ¬ (n > 20000 ∨ (n : Int) > s.size - e) := fun h => h.elim c1 c2
        rw [if_neg c2, if_pos (by omega), if_pos (by omega), if_pos (by omega), if_neg c3, Int.toNat_natCast, Int.toNat_natCast]; rfl
theorem text_f (s : ByteArray) (p : Int) (bad : Bool) (hs : s.size ≤ 1099511627776) :
    PFnExactReadCommand.impl_reader_text.f 12 s p bad = some ((rdText s p bad).1, s, (rdText s p bad).2.1, (rdText s p bad).2.2) := by
  unfold PFnExactReadCommand.impl_reader_text.f rdText
  rw [rs_f s p hs]
  cases bad with
  | true => simp
  | false => rcases rs s p with _ | ⟨t, e⟩ <;> simp [rs3]
theorem bt_extract (s : ByteArray) (a b : Nat) (hab : a < b) (hb : b ≤ s.size) : bt (s.extract a b) 0 = bt s (a : Int) := by
  unfold bt
  have h1 : (0 : Int).toNat < (s.extract a b).size := by simp; omega
  have h2 : (a : Int).toNat < s.size := by simp; omega
  rw [dif_pos h1, dif_pos h2]
  congr 2
  simp [ByteArray.getElem_extract]
theorem one_f (s : ByteArray) (p : Int) (bad : Bool) (hs : s.size ≤ 1099511627776) (hp0 : 0 ≤ p) (hp1 : p ≤ s.size) :
    PFnExactReadCommand.spec_l10One.f s p bad = some ((rdByte s p bad).1, s, (rdByte s p bad).2.1, (rdByte s p bad).2.2) := by
  unfold PFnExactReadCommand.spec_l10One.f
  rw [take_f s p bad 1 hs hp0 hp1 (by omega) (by omega)]
  unfold rdTake rdByte
  simp only [Option.bind_some]
  by_cases h : bad = true ∨ p ≥ s.size
  · have h3 : bad = true ∨ (1 : Int) > s.size - p := by
      rcases h with h | h
      · exact .inl h
      · exact .inr (by omega)
    rw [if_pos h3, if_pos h]
    simp
  · have h2 : ¬ (bad = true ∨ (1 : Int) > s.size - p) := by rintro (x | x); exact h (.inl x); exact h (.inr (by omega))
    rw [if_neg h2, if_neg h]
    obtain ⟨m, rfl⟩ := Int.eq_ofNat_of_zero_le hp0
    have hm : m < s.size := by
      rcases Nat.lt_or_ge m s.size with x | x
      · exact x
      · exact absurd (.inr (by omega)) h
    have e1 : ((m : Int) + 1).toNat = m + 1 := by omega
    have hb := bt_range s (m : Int)
    simp only [Int.toNat_natCast, e1]
    have hsz : (0 : Int) < ((s.extract m (m + 1)).size : Int) := by simp; omega
    rw [if_neg (by simp), if_pos hsz, bt_extract s m (m + 1) (by omega) (by omega)]
    have e4 : wrap64 (bt s (m : Int)) = bt s (m : Int) := by unfold wrap64; omega
    rw [e4]

theorem impl_text (g : Nat) (s : ByteArray) (p : Int) (bad : Bool) (w : World) (hs : s.size ≤ 1099511627776) (hR : Rd 85 g s p bad w) :
    Calls Try.prog 47 #[.pointer (some ⟨g, 0, none⟩)] w fun e w' =>
      e = .returned (.string (rdText s p bad).1) ∧ Rd 85 g s (rdText s p bad).2.1 (rdText s p bad).2.2 w' ∧ Upd g w w' := by
  have hlt := Nat.le_of_lt hR.lt
  refine (PFnExactReadCommand.impl_reader_text.calls 12 g s p bad _ _ _ _ (trunc w g) w ⟨hR, Nat.le_of_eq (trunc_size hlt)⟩ (trunc_below hlt) (text_f s p bad hs)).mono ?_
  rintro e w' ⟨rfl, hI, hB, hK⟩
  exact ⟨rfl, hI.1, upd_of (trunc_below hlt) hB hK⟩
theorem spec_l10One (g : Nat) (s : ByteArray) (p : Int) (bad : Bool) (w : World) (hs : s.size ≤ 1099511627776) (hp0 : 0 ≤ p) (hp1 : p ≤ s.size) (hR : Rd 80 g s p bad w) :
    Calls Try.prog 42 #[.pointer (some ⟨g, 0, none⟩)] w fun e w' =>
      e = .returned (.int .i64 (rdByte s p bad).1) ∧ Rd 80 g s (rdByte s p bad).2.1 (rdByte s p bad).2.2 w' ∧ Upd g w w' := by
  have hlt := Nat.le_of_lt hR.lt
  refine (PFnExactReadCommand.spec_l10One.calls g s p bad _ _ _ _ (trunc w g) w ⟨hR, Nat.le_of_eq (trunc_size hlt)⟩ (trunc_below hlt) (one_f s p bad hs hp0 hp1)).mono ?_
  rintro e w' ⟨rfl, hI, hB, hK⟩
  exact ⟨rfl, hI.1, upd_of (trunc_below hlt) hB hK⟩

theorem rdNum_range (s : ByteArray) (p : Int) (bad : Bool) (hp0 : 0 ≤ p) (hp1 : p ≤ s.size) : 0 ≤ (rdNum s p bad).1 ∧ (rdNum s p bad).1 ≤ 1000000000 ∧ 0 ≤ (rdNum s p bad).2.1 ∧ (rdNum s p bad).2.1 ≤ s.size := by
  unfold rdNum
  cases bad with
  | true => simp; omega
  | false =>
    rcases hq : rv s p with _ | ⟨n, e⟩
    · simp; omega
    · have := rv_range hq
      simp; omega
theorem rdByte_range (s : ByteArray) (p : Int) (bad : Bool) (hp0 : 0 ≤ p) (hp1 : p ≤ s.size) : 0 ≤ (rdByte s p bad).1 ∧ (rdByte s p bad).1 ≤ 255 ∧ 0 ≤ (rdByte s p bad).2.1 ∧ (rdByte s p bad).2.1 ≤ s.size := by
  unfold rdByte
  have := bt_range s p
  split
  · simp; omega
  · rename_i h
    have : ¬ p ≥ s.size := fun x => h (.inr x)
    simp; omega

/-- The reference's short text. -/
def rdShort (s : ByteArray) (p : Int) (bad : Bool) : ByteArray × Int × Bool := rdTake s (rdNum s p bad).2.1 (rdNum s p bad).2.2 (rdNum s p bad).1
set_option maxHeartbeats 1000000 in
theorem spec_l05ReadShort (g : Nat) (s : ByteArray) (p : Int) (bad : Bool) (w : World) (hs : s.size ≤ 1099511627776) (hp0 : 0 ≤ p) (hp1 : p ≤ s.size) (hR : Rd 80 g s p bad w) :
    Calls Try.prog 44 #[.pointer (some ⟨g, 0, none⟩)] w fun e w' =>
      e = .returned (.string (rdShort s p bad).1) ∧ Rd 80 g s (rdShort s p bad).2.1 (rdShort s p bad).2.2 w' ∧ Upd g w w' := by
  have hr := rdNum_range s p bad hp0 hp1
  unfold rdShort
  go_enter Try.func44, Try.ntmps44
  go_wp2_with fail
  refine (spec_l05Var _ _ _ _ _ hs hR).mono ?_
  rintro e w1 ⟨rfl, hR1, hU1⟩
  go_wp2_with fail
  refine (spec_l05Take _ _ _ _ _ _ hs hr.2.2.1 hr.2.2.2 hr.1 hr.2.1 hR1).mono ?_
  rintro e w2 ⟨rfl, hR2, hU2⟩
  go_wp2
  go_ret
  exact ⟨rfl, hR2, hU1.trans hU2⟩
end Go.Proofs.Ytlbikcelfheohaa
