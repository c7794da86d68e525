import Derived.Test.YtmljihfaapoakaaSMessagesA
import Derived.Test.YtmljihfaapoakaaSMessagesB
import Derived.Deep.Cut

section
namespace Go.Proofs.Ytmljihfaapoakaa.PFnMessages
open Go.RowKit Go.Proofs.YtmljihfaapoakaaW.PrintWords
set_option linter.unusedSimpArgs false
set_option linter.unusedVariables false
theorem row_ints {W : World} {b : Nat} (xs : List Int) (hl : xs.length ≤ 1048576) (h : ∀ i p, xs[i]? = some p → W.cell? ⟨b, i, none⟩ = some (.int .i64 p)) : Kd.C (Kd.int .i64) W (some ⟨b, 0, none⟩) xs.length xs := by
  refine ⟨rfl, by omega, fun _ => ⟨_, rfl, fun j p hj => ⟨[.int .i64 p], rfl, rfl, fun i u hu => ?_⟩⟩⟩
  rcases i with _ | i
  · obtain rfl : Value.int .i64 p = u := by simpa using hu
    have : Addr.add ⟨b, 0, none⟩ (j * (Kd.int .i64).sz + 0) = ⟨b, j, none⟩ := by
      show Addr.add ⟨b, 0, none⟩ (j * 1 + 0) = ⟨b, j, none⟩
      unfold Addr.add
      rcases j with _ | j <;> simp
    rw [this]
    exact h j p hj
  · simp at hu
theorem row_strs {W : World} {b : Nat} (xs : List ByteArray) (hl : xs.length ≤ 1048576) (h : ∀ i p, xs[i]? = some p → W.cell? ⟨b, i, none⟩ = some (.string p)) : Kd.C Kd.string W (some ⟨b, 0, none⟩) xs.length xs := by
  refine ⟨rfl, by omega, fun _ => ⟨_, rfl, fun j p hj => ⟨[.string p], rfl, rfl, fun i u hu => ?_⟩⟩⟩
  rcases i with _ | i
  · obtain rfl : Value.string p = u := by simpa using hu
    have : Addr.add ⟨b, 0, none⟩ (j * Kd.string.sz + 0) = ⟨b, j, none⟩ := by
      show Addr.add ⟨b, 0, none⟩ (j * 1 + 0) = ⟨b, j, none⟩
      unfold Addr.add
      rcases j with _ | j <;> simp
    rw [this]
    exact h j p hj
  · simp at hu
theorem blk_ints {T b : Nat} {W : World} (xs : List Int) (hl : xs.length ≤ 1048576) (h : Blk T b (xs.map (Value.int .i64)).toArray W) : Kd.C (Kd.int .i64) W (some ⟨b, 0, none⟩) xs.length xs :=
  row_ints xs hl fun i p hp => h.cell i (by simp [hp])
theorem blk_strs {T b : Nat} {W : World} (xs : List ByteArray) (hl : xs.length ≤ 1048576) (h : Blk T b (xs.map Value.string).toArray W) : Kd.C Kd.string W (some ⟨b, 0, none⟩) xs.length xs :=
  row_strs xs hl fun i p hp => h.cell i (by simp [hp])
def Dw (w0 w : World) (g : Nat) (W : World) : Prop := Cur w0 W g ∧ KeepBut w W g none
theorem Dw.start {w0 w : World} {g : Nat} (h : Cur w0 w g) : Dw w0 w g w := ⟨h, KeepBut.refl _ _ _⟩
theorem Dw.step {w0 w W W' : World} {g : Nat} (h : Dw w0 w g W) (hc : Cur w0 W' g) (hk : KeepBut W W' g none) : Dw w0 w g W' := ⟨hc, h.2.trans hk (.inl rfl)⟩
theorem Dw.below {w0 w W W' : World} {g : Nat} (h : Dw w0 w g W) (hb : Below W.heap.size W W') : Dw w0 w g W' := h.step (h.1.below hb) (KeepBut.of_below hb g none)
theorem Dw.alloc {w0 w W : World} {g : Nat} (h : Dw w0 w g W) (o : Obj) : Dw w0 w g (W.alloc o) := h.below (bl_alloc (Below.refl _ _) o)
theorem Dw.drewN {w0 w W : World} {g : Nat} (h : Dw w0 w g W) (n : Nat) : Dw w0 w g (W.drewN n) := h.below (bl_drewN (Below.refl _ _) n)
theorem Dw.size {w0 w W : World} {g : Nat} (h : Dw w0 w g W) : w.heap.size ≤ W.heap.size := h.2.1
theorem Dw.far {w0 w W : World} {g : Nat} (h : Dw w0 w g W) (hw : g < w.heap.size) {p : Addr} (hp : w.heap.size ≤ p.block) (v : Value) (h0 : w0.heap.size ≤ w.heap.size) : Dw w0 w g (W.setCell p v) := by
  refine ⟨h.1.far (by omega) (by omega) v, ?_, fun i hi hne hr => ?_⟩
  · simpa using h.2.1
  · rw [Below.heap_setCell W p v i (by omega)]
    exact h.2.2 i hi hne hr
theorem calls_at {P : Program} {f : Nat} {args : Array Value} {E : World} {Q : Ending → World → Prop} (R : World → Prop) (h : R E) (k : ∀ W, R W → Calls P f args W Q) : Calls P f args E Q := k E h
set_option maxHeartbeats 1000000 in
set_option maxRecDepth 100000 in
theorem lease_C (A : Option Addr) (n c : Nat) (d : Int) (w : World) :
    Calls Try.prog 72 #[.agg #[.slice A n c, .slice none 0 0, .slice none 0 0, .slice none 0 0], .int .i64 d] w fun e w' => e = .returned (.tuple #[.int .i64 0, .int .i64 0]) ∧ Below w.heap.size w w' := by
  go_enter Try.func72, Try.ntmps72
  go_wp2_with fail
  obtain ⟨X, hX⟩ : ∃ X, X = w.alloc (.cells #[.slice A n c, .slice none 0 0, .slice none 0 0, .slice none 0 0] 102) := ⟨_, rfl⟩
  have k2 : Blk 102 w.heap.size #[.slice A n c, .slice none 0 0, .slice none 0 0, .slice none 0 0] X := by rw [hX]; exact Blk.new _ _ w
  have HX : Below w.heap.size w X := by rw [hX]; exact (by repeat (first | exact Below.refl _ _ | apply bl_alloc | apply bl_drewN | apply bl_drew | refine bl_set ?_ (by simp) | refine bl_then ?_ (by assumption)))
  rw [← hX]
  have c3 := k2.cell 3 rfl
  have l2 := k2.lt
  clear hX
  go_loopg [6] 0 (fun kq v6 w' => v6 = .int .i64 0 ∧ w' = X)
  case atStart => exact ⟨rfl, rfl⟩
  case round =>
    obtain ⟨rfl, rfl⟩ := hrel
    go_wp2_with fail
    go_ret2
    exact ⟨rfl, bl_then HX (by repeat (first | exact Below.refl _ _ | apply bl_alloc | apply bl_drewN | apply bl_drew | refine bl_set ?_ (by simp) | refine bl_then ?_ (by assumption)))⟩
set_option maxHeartbeats 1000000 in
set_option maxRecDepth 100000 in
theorem queue_C (A : Option Addr) (n c : Nat) (d : Int) (w : World) :
    Calls Try.prog 73 #[.agg #[.slice A n c, .slice none 0 0, .slice none 0 0, .slice none 0 0], .int .i64 d] w fun e w' => e = .returned (.agg #[.int .i64 d, .int .i64 0, .slice none 0 0]) ∧ Below w.heap.size w w' := by
  go_enter Try.func73, Try.ntmps73
  go_wp2_with fail
  obtain ⟨X, hX⟩ : ∃ X, X = (w.alloc (.cells #[.slice A n c, .slice none 0 0, .slice none 0 0, .slice none 0 0] 102)).alloc (.cells #[.int .i64 0, .int .i64 0, .slice none 0 0] 109) := ⟨_, rfl⟩
  have k2 : Blk 102 w.heap.size #[.slice A n c, .slice none 0 0, .slice none 0 0, .slice none 0 0] X := by rw [hX]; exact (Blk.new _ _ w).alloc _
  have k4 : Blk 109 (w.heap.size + 1) #[.int .i64 0, .int .i64 0, .slice none 0 0] X := by rw [hX]; exact Blk.newE _ _ (w.alloc _) (by simp)
  have HX : Below w.heap.size w X := by rw [hX]; exact (by repeat (first | exact Below.refl _ _ | apply bl_alloc | apply bl_drewN | apply bl_drew | refine bl_set ?_ (by simp) | refine bl_then ?_ (by assumption)))
  rw [← hX]
  have c3 := k2.cell 2 rfl
  have l2 := k2.lt
  have q0 := k4.cell 0 rfl
  have q1 := k4.cell 1 rfl
  have q2 := k4.cell 2 rfl
  have f0 := k4.free 0
  have f1 := k4.free 1
  have f2 := k4.free 2
  have l4 := k4.lt
  go_loopg [5] 0 (fun kq v6 w' => v6 = .int .i64 0 ∧ w' = X)
  case atStart => exact ⟨rfl, rfl⟩
  case round =>
    obtain ⟨rfl, rfl⟩ := hrel
    go_wp2_with fail
    refine bodyPost_ret (v := .agg #[.int .i64 d, .int .i64 0, .slice none 0 0]) (by simp [results, Try.results73, go_sem]) rfl ⟨rfl, ?_⟩
    exact (by repeat (first | exact Below.refl _ _ | apply bl_alloc | apply bl_drewN | apply bl_drew | refine bl_set ?_ (by simp) | refine bl_then ?_ (by assumption)))
theorem cmd_fill {T b : Nat} {W : World} (h : Blk T b #[.int .i64 0, .int .i64 0, .int .i64 0, .int .i64 0, .int .i64 0, .int .i64 0, .int .i64 0, .int .i64 0, .string ⟨#[]⟩] W) (a0 a1 a2 a3 a4 a5 a6 a7 : Int) (s : ByteArray) :
    Blk T b #[.int .i64 a0, .int .i64 a1, .int .i64 a2, .int .i64 a3, .int .i64 a4, .int .i64 a5, .int .i64 a6, .int .i64 a7, .string s] (((((((((W.setCell ⟨b, 0, none⟩ (.int .i64 a0)).setCell ⟨b, 1, none⟩ (.int .i64 a1)).setCell ⟨b, 2, none⟩ (.int .i64 a2)).setCell ⟨b, 3, none⟩ (.int .i64 a3)).setCell ⟨b, 4, none⟩ (.int .i64 a4)).setCell ⟨b, 5, none⟩ (.int .i64 a5)).setCell ⟨b, 6, none⟩ (.int .i64 a6)).setCell ⟨b, 7, none⟩ (.int .i64 a7)).setCell ⟨b, 8, none⟩ (.string s)) := by
  have z0 := h.set 0 (.int .i64 a0) (cs' := #[.int .i64 a0, .int .i64 0, .int .i64 0, .int .i64 0, .int .i64 0, .int .i64 0, .int .i64 0, .int .i64 0, .string ⟨#[]⟩]) rfl
  have z1 := z0.set 1 (.int .i64 a1) (cs' := #[.int .i64 a0, .int .i64 a1, .int .i64 0, .int .i64 0, .int .i64 0, .int .i64 0, .int .i64 0, .int .i64 0, .string ⟨#[]⟩]) rfl
  have z2 := z1.set 2 (.int .i64 a2) (cs' := #[.int .i64 a0, .int .i64 a1, .int .i64 a2, .int .i64 0, .int .i64 0, .int .i64 0, .int .i64 0, .int .i64 0, .string ⟨#[]⟩]) rfl
  have z3 := z2.set 3 (.int .i64 a3) (cs' := #[.int .i64 a0, .int .i64 a1, .int .i64 a2, .int .i64 a3, .int .i64 0, .int .i64 0, .int .i64 0, .int .i64 0, .string ⟨#[]⟩]) rfl
  have z4 := z3.set 4 (.int .i64 a4) (cs' := #[.int .i64 a0, .int .i64 a1, .int .i64 a2, .int .i64 a3, .int .i64 a4, .int .i64 0, .int .i64 0, .int .i64 0, .string ⟨#[]⟩]) rfl
  have z5 := z4.set 5 (.int .i64 a5) (cs' := #[.int .i64 a0, .int .i64 a1, .int .i64 a2, .int .i64 a3, .int .i64 a4, .int .i64 a5, .int .i64 0, .int .i64 0, .string ⟨#[]⟩]) rfl
  have z6 := z5.set 6 (.int .i64 a6) (cs' := #[.int .i64 a0, .int .i64 a1, .int .i64 a2, .int .i64 a3, .int .i64 a4, .int .i64 a5, .int .i64 a6, .int .i64 0, .string ⟨#[]⟩]) rfl
  have z7 := z6.set 7 (.int .i64 a7) (cs' := #[.int .i64 a0, .int .i64 a1, .int .i64 a2, .int .i64 a3, .int .i64 a4, .int .i64 a5, .int .i64 a6, .int .i64 a7, .string ⟨#[]⟩]) rfl
  have z8 := z7.set 8 (.string s) (cs' := #[.int .i64 a0, .int .i64 a1, .int .i64 a2, .int .i64 a3, .int .i64 a4, .int .i64 a5, .int .i64 a6, .int .i64 a7, .string s]) rfl
  exact z8
theorem dw_fill {w0 w W : World} {g b : Nat} (D : Dw w0 w g W) (hg : g < w.heap.size) (hb : w.heap.size ≤ b) (h0 : w0.heap.size ≤ w.heap.size) (a0 a1 a2 a3 a4 a5 a6 a7 : Int) (s : ByteArray) :
    Dw w0 w g (((((((((W.setCell ⟨b, 0, none⟩ (.int .i64 a0)).setCell ⟨b, 1, none⟩ (.int .i64 a1)).setCell ⟨b, 2, none⟩ (.int .i64 a2)).setCell ⟨b, 3, none⟩ (.int .i64 a3)).setCell ⟨b, 4, none⟩ (.int .i64 a4)).setCell ⟨b, 5, none⟩ (.int .i64 a5)).setCell ⟨b, 6, none⟩ (.int .i64 a6)).setCell ⟨b, 7, none⟩ (.int .i64 a7)).setCell ⟨b, 8, none⟩ (.string s)) := by
  have z0 := D.far hg (p := ⟨b, 0, none⟩) hb (.int .i64 a0) h0
  have z1 := z0.far hg (p := ⟨b, 1, none⟩) hb (.int .i64 a1) h0
  have z2 := z1.far hg (p := ⟨b, 2, none⟩) hb (.int .i64 a2) h0
  have z3 := z2.far hg (p := ⟨b, 3, none⟩) hb (.int .i64 a3) h0
  have z4 := z3.far hg (p := ⟨b, 4, none⟩) hb (.int .i64 a4) h0
  have z5 := z4.far hg (p := ⟨b, 5, none⟩) hb (.int .i64 a5) h0
  have z6 := z5.far hg (p := ⟨b, 6, none⟩) hb (.int .i64 a6) h0
  have z7 := z6.far hg (p := ⟨b, 7, none⟩) hb (.int .i64 a7) h0
  have z8 := z7.far hg (p := ⟨b, 8, none⟩) hb (.string s) h0
  exact z8
theorem wp_at {P : Program} {c : Code} {Q : Exit → Act → World → Prop} {a : Act} {E : World} (R : World → Prop) (h : R E) (k : ∀ W, R W → c.wp P Q a W) : c.wp P Q a E := k E h
def CmdAt (w0 w : World) (g b b5 : Nat) (tok lst : Int) (W : World) : Prop := Dw w0 w g W ∧ Blk 102 w.heap.size #[.slice (some ⟨b, 0, none⟩) 1 1, .slice none 0 0, .slice none 0 0, .slice none 0 0] W ∧ Blk 91 (w.heap.size + 1) #[.int .i64 0, .int .i64 0, .int .i64 0, .int .i64 0, .int .i64 0, .int .i64 0, .int .i64 0, .int .i64 0, .string ⟨#[]⟩] W ∧
  Blk 96 b #[.int .i64 tok, .int .i64 lst, .slice none 0 0] W ∧ ∃ (a0 a1 a2 a3 a4 a5 a6 a7 : Int) (s : ByteArray), s.size ≤ 8 ∧ Blk 91 b5 #[.int .i64 a0, .int .i64 a1, .int .i64 a2, .int .i64 a3, .int .i64 a4, .int .i64 a5, .int .i64 a6, .int .i64 a7, .string s] W
section
variable {w0 w : World} {g b b5 : Nat} {tok lst : Int} {W : World} (hg : g < w.heap.size) (hb : b < w.heap.size) (hne : b ≠ g) (h5 : w.heap.size + 2 ≤ b5) (h0 : w0.heap.size ≤ w.heap.size)
set_option linter.unusedSectionVars false
include hg hb hne h5
theorem CmdAt.step {W' : World} (h : CmdAt w0 w g b b5 tok lst W) (hc : Cur w0 W' g) (hk : KeepBut W W' g none) : CmdAt w0 w g b b5 tok lst W' := by
  obtain ⟨D, k3, k4, kS, a0, a1, a2, a3, a4, a5, a6, a7, s, hs, k5⟩ := h
  exact ⟨D.step hc hk, blk_keep k3 hk (by omega), blk_keep k4 hk (by omega), blk_keep kS hk hne, a0, a1, a2, a3, a4, a5, a6, a7, s, hs, blk_keep k5 hk (by omega)⟩
omit hg hb hne h5 in
theorem CmdAt.alloc (h : CmdAt w0 w g b b5 tok lst W) (o : Obj) : CmdAt w0 w g b b5 tok lst (W.alloc o) := by
  obtain ⟨D, k3, k4, kS, a0, a1, a2, a3, a4, a5, a6, a7, s, hs, k5⟩ := h
  exact ⟨D.alloc o, k3.alloc o, k4.alloc o, kS.alloc o, a0, a1, a2, a3, a4, a5, a6, a7, s, hs, k5.alloc o⟩
omit hg hb hne h5 in
theorem CmdAt.below {W' : World} (h : CmdAt w0 w g b b5 tok lst W) (hb : Below W.heap.size W W') : CmdAt w0 w g b b5 tok lst W' := by
  obtain ⟨D, k3, k4, kS, a0, a1, a2, a3, a4, a5, a6, a7, s, hs, k5⟩ := h
  exact ⟨D.below hb, k3.below hb, k4.below hb, kS.below hb, a0, a1, a2, a3, a4, a5, a6, a7, s, hs, k5.below hb⟩
include h0
theorem CmdAt.far (h : CmdAt w0 w g b b5 tok lst W) {p : Addr} (hp : w.heap.size + 2 ≤ p.block) (hp5 : b5 ≠ p.block) (v : Value) : CmdAt w0 w g b b5 tok lst (W.setCell p v) := by
  obtain ⟨D, k3, k4, kS, a0, a1, a2, a3, a4, a5, a6, a7, s, hs, k5⟩ := h
  exact ⟨D.far hg (by omega) v h0, k3.far (by omega) v, k4.far (by omega) v, kS.far (by omega) v, a0, a1, a2, a3, a4, a5, a6, a7, s, hs, k5.far hp5 v⟩
theorem CmdAt.set (h : CmdAt w0 w g b b5 tok lst W) (o : Nat) (ho : o < 8) (v : Int) : CmdAt w0 w g b b5 tok lst (W.setCell ⟨b5, o, none⟩ (.int .i64 v)) := by
  obtain ⟨D, k3, k4, kS, a0, a1, a2, a3, a4, a5, a6, a7, s, hs, k5⟩ := h
  refine ⟨D.far hg (by show w.heap.size ≤ b5; omega) _ h0, k3.far (by show w.heap.size ≠ b5; omega) _, k4.far (by show w.heap.size + 1 ≠ b5; omega) _, kS.far (by show b ≠ b5; omega) _, ?_⟩
  rcases o with _ | _ | _ | _ | _ | _ | _ | _ | o
  · exact ⟨v, a1, a2, a3, a4, a5, a6, a7, s, hs, k5.set 0 _ rfl⟩
  · exact ⟨a0, v, a2, a3, a4, a5, a6, a7, s, hs, k5.set 1 _ rfl⟩
  · exact ⟨a0, a1, v, a3, a4, a5, a6, a7, s, hs, k5.set 2 _ rfl⟩
  · exact ⟨a0, a1, a2, v, a4, a5, a6, a7, s, hs, k5.set 3 _ rfl⟩
  · exact ⟨a0, a1, a2, a3, v, a5, a6, a7, s, hs, k5.set 4 _ rfl⟩
  · exact ⟨a0, a1, a2, a3, a4, v, a6, a7, s, hs, k5.set 5 _ rfl⟩
  · exact ⟨a0, a1, a2, a3, a4, a5, v, a7, s, hs, k5.set 6 _ rfl⟩
  · exact ⟨a0, a1, a2, a3, a4, a5, a6, v, s, hs, k5.set 7 _ rfl⟩
  · omega
theorem CmdAt.setS (h : CmdAt w0 w g b b5 tok lst W) (v : ByteArray) (hv : v.size ≤ 8) : CmdAt w0 w g b b5 tok lst (W.setCell ⟨b5, 8, none⟩ (.string v)) := by
  obtain ⟨D, k3, k4, kS, a0, a1, a2, a3, a4, a5, a6, a7, s, hs, k5⟩ := h
  exact ⟨D.far hg (by show w.heap.size ≤ b5; omega) _ h0, k3.far (by show w.heap.size ≠ b5; omega) _, k4.far (by show w.heap.size + 1 ≠ b5; omega) _, kS.far (by show b ≠ b5; omega) _, a0, a1, a2, a3, a4, a5, a6, a7, v, hv, k5.set 8 _ rfl⟩
end
attribute [local go_sem] flowUponL lastUpon
set_option maxHeartbeats 4000000 in
set_option maxRecDepth 100000 in
theorem cmd_C {w0 w : World} {g b : Nat} (hc : Cur w0 w g) (tok lst : Int) (hl : 0 ≤ lst ∧ lst ≤ 100) (hS : Blk 96 b #[.int .i64 tok, .int .i64 lst, .slice none 0 0] w) (hne : b ≠ g) :
    Calls Try.prog 70 #[.pointer (some ⟨g, 0, none⟩), .agg #[.slice (some ⟨b, 0, none⟩) 1 1, .slice none 0 0, .slice none 0 0, .slice none 0 0]] w fun e w' => (∃ (a0 a1 a2 a3 a4 a5 a6 a7 : Int) (s : ByteArray), e = .returned (.agg #[.int .i64 a0, .int .i64 a1, .int .i64 a2, .int .i64 a3, .int .i64 a4, .int .i64 a5, .int .i64 a6, .int .i64 a7, .string s]) ∧ s.size ≤ 8) ∧ Dw w0 w g w' := by
  have hb := hS.lt
  have hgl := hc.lt
  have hge := hc.ge
  have hws := hc.bl.size
  go_enter Try.func70, Try.ntmps70
  go_wp2_with fail
  refine calls_at (fun W => Dw w0 w g W ∧ Blk 102 w.heap.size #[.slice (some ⟨b, 0, none⟩) 1 1, .slice none 0 0, .slice none 0 0, .slice none 0 0] W ∧ Blk 91 (w.heap.size + 1) #[.int .i64 0, .int .i64 0, .int .i64 0, .int .i64 0, .int .i64 0, .int .i64 0, .int .i64 0, .int .i64 0, .string ⟨#[]⟩] W ∧ Blk 3 (w.heap.size + 1 + 1) (([1, 2, 2, 3, 4, 4, 4, 4, 5, 5, 6, 6, 6, 7] : List Int).map (Value.int .i64)).toArray W) ?_ ?_
  · exact ⟨(((Dw.start hc).alloc _).alloc _).alloc _, ((Blk.new _ _ w).alloc _).alloc _, (Blk.newE _ _ (w.alloc _) (by simp)).alloc _, Blk.newE _ _ ((w.alloc _).alloc _) (by simp)⟩
  rintro W1 ⟨D1, k3, k4, kl⟩
  refine (pickInt_C _ 14 [1, 2, 2, 3, 4, 4, 4, 4, 5, 5, 6, 6, 6, 7] (by decide) D1.1 (blk_ints _ (by decide) kl) (by decide) (by rintro ad ⟨⟩; show w.heap.size + 1 + 1 ≠ g; omega)).mono ?_
  rintro e W2 ⟨r, rfl, -, hc2, hk2⟩
  have D2 := D1.step hc2 hk2
  replace k3 := blk_keep k3 hk2 (by omega)
  replace k4 := blk_keep k4 hk2 (by omega)
  have z2 := D2.size
  clear D1 hk2 kl hc2 W1
  have c0 := k3.cell 0 rfl
  have l3 := k3.lt
  have kS := blk_keep hS D2.2 hne
  clear hc hS
  go_upto_region 4 with fail
  have h5 : w.heap.size + 2 ≤ W2.heap.size := by have := k4.lt; omega
  obtain ⟨b5, hb5⟩ : ∃ b5, b5 = W2.heap.size := ⟨_, rfl⟩
  refine wp_at (CmdAt w0 w g b b5 tok lst) ⟨D2.alloc _, k3.alloc _, k4.alloc _, kS.alloc _, r, 0, 0, 0, 0, 0, 0, 0, ⟨#[]⟩, by decide, Blk.newE _ _ W2 hb5⟩ ?_
  rw [← hb5] at h5 ⊢
  clear D2 k3 k4 kS c0 l3 z2 hb5 W2
  intro W hW
  go_cut [31] from 24 to 31 (fun v31 wx => ∃ q : Bool, v31 = .bool q ∧ CmdAt w0 w g b b5 tok lst wx)
  case first =>
    obtain ⟨D, k3, k4, kS, a0, a1, a2, a3, a4, a5, a6, a7, s, hs, k5⟩ := id hW
    have c5 := k5.cell 0 rfl
    have l5 := k5.lt
    obtain ⟨q, hq⟩ : ∃ q, (a0 == 7) = q := ⟨_, rfl⟩
    cases q with
    | false =>
      go_wp2_with fail
      go_meet
      exact ⟨_, rfl, hW⟩
    | true =>
      go_wp2_with fail
      refine (once_C 3 D.1).mono ?_
      rintro e W3 ⟨q, rfl, hc3, hk3⟩
      go_wp2_with fail
      go_meet
      exact ⟨_, rfl, hW.step hgl hb hne h5 hc3 hk3⟩
  case rest =>
    obtain ⟨q, rfl, hV⟩ := hcut
    clear hW W
    go_upto_if 31 with fail
    go_cut [] from 32 to 32 (fun wx => CmdAt w0 w g b b5 tok lst wx)
    case first =>
      obtain ⟨D, k3, k4, kS, a0, a1, a2, a3, a4, a5, a6, a7, s, hs, k5⟩ := id hV
      have c5 := k5.cell 0 rfl
      have f5 := k5.free 0
      have l5 := k5.lt
      cases q with
      | false =>
        go_wp2_with fail
        go_meet
        exact hV
      | true =>
        go_wp2_with fail
        go_meet
        exact hV.set hgl hb hne h5 hws 0 (by decide) _
    case rest =>
      have hU := hcut
      clear hV hcut
      go_upto_region 6 with fail
      go_cut [41] from 33 to 41 (fun v41 wx => ∃ q : Bool, v41 = .bool q ∧ CmdAt w0 w g b b5 tok lst wx)
      case first =>
        obtain ⟨D, k3, k4, kS, a0, a1, a2, a3, a4, a5, a6, a7, s, hs, k5⟩ := id hU
        have c5 := k5.cell 0 rfl
        have l5 := k5.lt
        have c0 := k3.cell 0 rfl
        have l3 := k3.lt
        obtain ⟨q, hq⟩ : ∃ q, (a0 != 1) = q := ⟨_, rfl⟩
        cases q with
        | false =>
          go_wp2_with fail
          go_meet
          exact ⟨_, rfl, hU⟩
        | true =>
          go_wp2_with fail
          go_meet
          exact ⟨_, rfl, hU⟩
      case rest =>
        obtain ⟨q, rfl, hV⟩ := hcut
        clear hU
        go_upto_if 41 with fail
        go_cut [6] from 42 to 72 (fun v6 wx => CmdAt w0 w g b b5 tok lst wx)
        case first =>
          cases q with
          | false =>
            go_wp2_with fail
            go_meet
            exact hV
          | true =>
            go_upto_region 7 with fail
            go_cut [6] from 42 to 50 (fun v6 wx => ∃ b6, v6 = .pointer (some ⟨b6, 0, none⟩) ∧ b6 ≠ b5 ∧ w.heap.size + 2 ≤ b6 ∧ CmdAt w0 w g b b5 tok lst wx ∧ Blk 96 b6 #[.int .i64 tok, .int .i64 lst, .slice none 0 0] wx)
            case first =>
              obtain ⟨D, k3, k4, kS, a0, a1, a2, a3, a4, a5, a6, a7, s, hs, k5⟩ := id hV
              have c0 := k3.cell 0 rfl
              have l3 := k3.lt
              have cS0 := kS.cell 0 rfl
              have cS1 := kS.cell 1 rfl
              have cS2 := kS.cell 2 rfl
              have lS := kS.lt
              have n3 : w.heap.size ≠ g := by omega
              have l5 := k5.lt
              refine wp_region_flowL (L := LD w0 g) (LD.drew w0 g) (LD.trans w0 g) [0, 3] 137 (by kernel_rfl) (by rfl) (by kernel_rfl) (by kernel_rfl) (by kernel_rfl) (by kernel_rfl) ?_
              iterate 9 (refine flowL_valE ?_; apply Exists.intro; refine ⟨fun A wq hLq hbq hdq => ?_, ?_⟩; focus (obtain ⟨hkc, hkf⟩ := kcell hLq.2; have hkz := hLq.2.1; (try simp [go_sem, baseF, deps, dep1, Region.binds] at hbq); (try simp [go_sem, baseF, deps, dep1, Region.binds] at hdq); go_simp; first | exact ⟨LD.refl _ _ _, rfl⟩ | (first | (go_at_call 43; refine (below_C _ (hLq.1 D.1)).mono ?_; rintro e w3 ⟨r3, rfl, ⟨hr0, hr1, -⟩, hc3, hk3⟩; obtain rfl : r3 = 0 := (by have := hr1 (by decide); omega); exact ⟨rfl, fun _ => hc3, hk3⟩))))
              have hgc := D.1.lt
              refine flowL_R (fun W v => ∃ b6, v = .pointer (some ⟨b6, 0, none⟩) ∧ wc.heap.size ≤ b6 ∧ Blk 96 b6 #[.int .i64 0, .int .i64 0, .slice none 0 0] W) (fun W W' v ⟨b6, e, hb6, hk⟩ hL => ⟨b6, e, hb6, blk_keep hk hL.2 (by omega)⟩) (fun A wq hLq hbq hdq => ?_) ?_
              · (try simp [go_sem, baseF, deps, dep1, Region.binds] at hbq)
                go_simp
                exact ⟨LD.below (bl_alloc (Below.refl _ _) _), hLq.2.1, Blk.new _ _ wq⟩
              with_reducible refine flowL_last ?_
              intro x wq hLq hall
              simp only [allT] at hall
              obtain ⟨⟨b6, x9, hb6, k6⟩, hall⟩ := hall
              have hq := hV.step hgl hb hne h5 (hLq.1 D.1) hLq.2
              have z6 := hLq.2.1
              have c60 := k6.cell 0 rfl
              have c61 := k6.cell 1 rfl
              have c62 := k6.cell 2 rfl
              have f60 := k6.free 0
              have f61 := k6.free 1
              have f62 := k6.free 2
              have l6 := k6.lt
              refine ⟨?_⟩
              simp [frameOf, Act.put, List.dropLast, x9, hall]
              clear hall
              go_simp
              go_wp2_with fail
              go_meet
              exact ⟨b6, rfl, by omega, by omega, ((hq.far hgl hb hne h5 hws (by show w.heap.size + 2 ≤ b6; omega) (by show b5 ≠ b6; omega) _).far hgl hb hne h5 hws (by show w.heap.size + 2 ≤ b6; omega) (by show b5 ≠ b6; omega) _).far hgl hb hne h5 hws (by show w.heap.size + 2 ≤ b6; omega) (by show b5 ≠ b6; omega) _, ((k6.set 0 _ rfl).set 1 _ rfl).set 2 _ rfl⟩
            case rest =>
              obtain ⟨b6, rfl, n65, h6, hU, k6⟩ := hcut
              clear hV
              obtain ⟨D, k3, k4, kS, a0, a1, a2, a3, a4, a5, a6, a7, s, hs, k5⟩ := id hU
              have c50 := k5.cell 1 rfl
              have f50 := k5.free 1
              have c51 := k5.cell 2 rfl
              have f51 := k5.free 2
              have l5 := k5.lt
              have l6 := k6.lt
              have c60 := k6.cell 0 rfl
              have c61 := k6.cell 1 rfl
              have n6g : b6 ≠ g := by omega
              go_wp2_with fail
              refine calls_at (fun W => CmdAt w0 w g b b5 tok lst W ∧ Blk 96 b6 #[.int .i64 tok, .int .i64 lst, .slice none 0 0] W) ⟨(hU.set hgl hb hne h5 hws 1 (by decide) _).set hgl hb hne h5 hws 2 (by decide) _, (k6.far (by exact n65) _).far (by exact n65) _⟩ ?_
              rintro W3 ⟨hA, k6'⟩
              clear hU k6 c50 f50 c51 f51 l5 l6 c60 c61 D k3 k4 kS k5
              refine (below_C 8 hA.1.1).mono ?_
              rintro e W4 ⟨r4, rfl, hr4, hc4, hk4⟩
              have hB := hA.step hgl hb hne h5 hc4 hk4
              have k6 := blk_keep k6' hk4 n6g
              clear hA k6' hk4 W3 hc4
              have l6 := k6.lt
              have c61 := k6.cell 1 rfl
              obtain ⟨qa, hqa⟩ : ∃ qa, (r4 == 0) = qa := ⟨_, rfl⟩
              obtain ⟨qb, hqb⟩ : ∃ qb, (r4 == 1) = qb := ⟨_, rfl⟩
              cases qa with
              | true =>
                go_wp2_with fail
                refine (below_C _ hB.1.1).mono ?_
                rintro e W5 ⟨r5, rfl, hr5, hc5, hk5⟩
                have hC := hB.step hgl hb hne h5 hc5 hk5
                obtain ⟨D, k3, k4, kS, a0, a1, a2, a3, a4, a5, a6, a7, s, hs, k5⟩ := id hC
                have c50 := k5.cell 2 rfl
                have f50 := k5.free 2
                have l5 := k5.lt
                go_wp2_with fail
                go_meet
                exact hC.set hgl hb hne h5 hws 2 (by decide) _
              | false =>
                cases qb with
                | true =>
                  go_wp2_with fail
                  refine (below_C _ hB.1.1).mono ?_
                  rintro e W5 ⟨r5, rfl, hr5, hc5, hk5⟩
                  have hC := hB.step hgl hb hne h5 hc5 hk5
                  obtain ⟨D, k3, k4, kS, a0, a1, a2, a3, a4, a5, a6, a7, s, hs, k5⟩ := id hC
                  have c50 := k5.cell 1 rfl
                  have f50 := k5.free 1
                  have l5 := k5.lt
                  go_wp2_with fail
                  go_meet
                  exact hC.set hgl hb hne h5 hws 1 (by decide) _
                | false =>
                  go_wp2_with fail
                  go_meet
                  exact hB
        case rest =>
          have hU := hcut
          clear hV hcut
          go_wp2_with fail
          refine (below_C 3 hU.1.1).mono ?_
          rintro e W5 ⟨r5, rfl, hr5, hc_, hk_⟩
          have hV := hU.step hgl hb hne h5 hc_ hk_
          clear hc_ hk_ hU hr5
          go_wp2_with fail
          refine (below_C 2 hV.1.1).mono ?_
          rintro e W6 ⟨r6, rfl, hr6, hc_, hk_⟩
          have hX := hV.step hgl hb hne h5 hc_ hk_
          clear hc_ hk_ hV hr6
          obtain ⟨D, k3, k4, kS, a0, a1, a2, a3, a4, a5, a6, a7, s, hs, k5⟩ := id hX
          have c5 := k5.cell 0 rfl
          have l5 := k5.lt
          obtain ⟨o2, ho2⟩ : ∃ q, (a0 == 2) = q := ⟨_, rfl⟩
          obtain ⟨o3, ho3⟩ : ∃ q, (a0 == 3) = q := ⟨_, rfl⟩
          obtain ⟨o4, ho4⟩ : ∃ q, (a0 == 4) = q := ⟨_, rfl⟩
          obtain ⟨o5, ho5⟩ : ∃ q, (a0 == 5) = q := ⟨_, rfl⟩
          obtain ⟨o6, ho6⟩ : ∃ q, (a0 == 6) = q := ⟨_, rfl⟩
          have l3 := k3.lt
          have d0 := k3.cell 0 rfl
          have d1 := k3.cell 1 rfl
          have d2 := k3.cell 2 rfl
          have d3 := k3.cell 3 rfl
          have g3 := k5.cell 3 rfl
          have g4 := k5.cell 4 rfl
          have e3 := k5.free 3
          have e4 := k5.free 4
          have n35 : w.heap.size ≠ b5 := by omega
          cases o2 with
          | true =>
            go_upto_region 36 with fail
            refine wp_at (CmdAt w0 w g b b5 tok lst) ((hX.set hgl hb hne h5 hws 3 (by decide) _).set hgl hb hne h5 hws 4 (by decide) _) ?_
            intro Wz hz
            obtain ⟨D, k3, k4, kS, a0, a1, a2, a3, a4, a5, a6, a7, s, hs, k5⟩ := id hz
            have q0 := k5.cell 0 rfl
            have r0 := k4.cell 0 rfl
            have f0 := k4.free 0
            have q1 := k5.cell 1 rfl
            have r1 := k4.cell 1 rfl
            have f1 := k4.free 1
            have q2 := k5.cell 2 rfl
            have r2 := k4.cell 2 rfl
            have f2 := k4.free 2
            have q3 := k5.cell 3 rfl
            have r3 := k4.cell 3 rfl
            have f3 := k4.free 3
            have q4 := k5.cell 4 rfl
            have r4 := k4.cell 4 rfl
            have f4 := k4.free 4
            have q5 := k5.cell 5 rfl
            have r5 := k4.cell 5 rfl
            have f5 := k4.free 5
            have q6 := k5.cell 6 rfl
            have r6 := k4.cell 6 rfl
            have f6 := k4.free 6
            have q7 := k5.cell 7 rfl
            have r7 := k4.cell 7 rfl
            have f7 := k4.free 7
            have q8 := k5.cell 8 rfl
            have r8 := k4.cell 8 rfl
            have f8 := k4.free 8
            have l5 := k5.lt
            have l4 := k4.lt
            have n45 : w.heap.size + 1 ≠ b5 := by omega
            go_wp2_with fail
            exact bodyPost_ret (results_cell_row rfl _ _ (w.heap.size + 1) 91 #[.int .i64 a0, .int .i64 a1, .int .i64 a2, .int .i64 a3, .int .i64 a4, .int .i64 a5, .int .i64 a6, .int .i64 a7, .string s] (0, 0) _ rfl (cmd_fill k4 a0 a1 a2 a3 a4 a5 a6 a7 s) Try.underlying91 rfl (by kernel_rfl)) rfl ⟨⟨a0, a1, a2, a3, a4, a5, a6, a7, s, rfl, hs⟩, dw_fill D hgl (Nat.le_succ _) hws a0 a1 a2 a3 a4 a5 a6 a7 s⟩
          | false =>
            cases o3 with
            | true =>
              go_upto_region 36 with fail
              refine wp_at (CmdAt w0 w g b b5 tok lst) ((hX.set hgl hb hne h5 hws 3 (by decide) _).set hgl hb hne h5 hws 4 (by decide) _) ?_
              intro Wz hz
              obtain ⟨D, k3, k4, kS, a0, a1, a2, a3, a4, a5, a6, a7, s, hs, k5⟩ := id hz
              have q0 := k5.cell 0 rfl
              have r0 := k4.cell 0 rfl
              have f0 := k4.free 0
              have q1 := k5.cell 1 rfl
              have r1 := k4.cell 1 rfl
              have f1 := k4.free 1
              have q2 := k5.cell 2 rfl
              have r2 := k4.cell 2 rfl
              have f2 := k4.free 2
              have q3 := k5.cell 3 rfl
              have r3 := k4.cell 3 rfl
              have f3 := k4.free 3
              have q4 := k5.cell 4 rfl
              have r4 := k4.cell 4 rfl
              have f4 := k4.free 4
              have q5 := k5.cell 5 rfl
              have r5 := k4.cell 5 rfl
              have f5 := k4.free 5
              have q6 := k5.cell 6 rfl
              have r6 := k4.cell 6 rfl
              have f6 := k4.free 6
              have q7 := k5.cell 7 rfl
              have r7 := k4.cell 7 rfl
              have f7 := k4.free 7
              have q8 := k5.cell 8 rfl
              have r8 := k4.cell 8 rfl
              have f8 := k4.free 8
              have l5 := k5.lt
              have l4 := k4.lt
              have n45 : w.heap.size + 1 ≠ b5 := by omega
              go_wp2_with fail
              exact bodyPost_ret (results_cell_row rfl _ _ (w.heap.size + 1) 91 #[.int .i64 a0, .int .i64 a1, .int .i64 a2, .int .i64 a3, .int .i64 a4, .int .i64 a5, .int .i64 a6, .int .i64 a7, .string s] (0, 0) _ rfl (cmd_fill k4 a0 a1 a2 a3 a4 a5 a6 a7 s) Try.underlying91 rfl (by kernel_rfl)) rfl ⟨⟨a0, a1, a2, a3, a4, a5, a6, a7, s, rfl, hs⟩, dw_fill D hgl (Nat.le_succ _) hws a0 a1 a2 a3 a4 a5 a6 a7 s⟩
            | false =>
              cases o4 with
              | true =>
                go_wp2_with fail
                refine calls_at (fun W => CmdAt w0 w g b b5 tok lst W ∧ Blk 9 W6.heap.size (([⟨#[97]⟩, ⟨#[98]⟩, ⟨#[104, 101, 108, 108, 111]⟩, ⟨#[120, 49]⟩, ⟨#[120, 50]⟩] : List ByteArray).map Value.string).toArray W) ⟨((hX.set hgl hb hne h5 hws 3 (by decide) _).alloc _), Blk.newE _ _ _ (by simp)⟩ ?_
                rintro W7 ⟨hY, kl⟩
                clear c5 l5 l3 d0 d1 d2 d3 g3 g4 e3 e4 D k3 k4 kS k5
                refine (pick_C _ 5 ([⟨#[97]⟩, ⟨#[98]⟩, ⟨#[104, 101, 108, 108, 111]⟩, ⟨#[120, 49]⟩, ⟨#[120, 50]⟩] : List ByteArray) (by decide) hY.1.1 (blk_strs _ (by decide) kl) (by decide) (by rintro ad ⟨⟩; show W6.heap.size ≠ g; have := hX.1.1.lt; omega)).mono ?_
                rintro e W8 ⟨r8, rfl, hm, hc8, hk8⟩
                have hZ := hY.step hgl hb hne h5 hc8 hk8
                have hr8 : r8.size ≤ 8 := by simp only [List.mem_cons, List.not_mem_nil, or_false] at hm; rcases hm with rfl | rfl | rfl | rfl | rfl <;> decide
                clear hY kl hc8 hk8 hm
                obtain ⟨D, k3, k4, kS, a0, a1, a2, a3, a4, a5, a6, a7, s, hs, k5⟩ := id hZ
                have c58 := k5.cell 8 rfl
                have f58 := k5.free 8
                have l5 := k5.lt
                go_upto_region 36 with fail
                refine wp_at (CmdAt w0 w g b b5 tok lst) (hZ.setS hgl hb hne h5 hws _ hr8) ?_
                intro Wz hz
                obtain ⟨D, k3, k4, kS, a0, a1, a2, a3, a4, a5, a6, a7, s, hs, k5⟩ := id hz
                have q0 := k5.cell 0 rfl
                have r0 := k4.cell 0 rfl
                have f0 := k4.free 0
                have q1 := k5.cell 1 rfl
                have r1 := k4.cell 1 rfl
                have f1 := k4.free 1
                have q2 := k5.cell 2 rfl
                have r2 := k4.cell 2 rfl
                have f2 := k4.free 2
                have q3 := k5.cell 3 rfl
                have r3 := k4.cell 3 rfl
                have f3 := k4.free 3
                have q4 := k5.cell 4 rfl
                have r4 := k4.cell 4 rfl
                have f4 := k4.free 4
                have q5 := k5.cell 5 rfl
                have r5 := k4.cell 5 rfl
                have f5 := k4.free 5
                have q6 := k5.cell 6 rfl
                have r6 := k4.cell 6 rfl
                have f6 := k4.free 6
                have q7 := k5.cell 7 rfl
                have r7 := k4.cell 7 rfl
                have f7 := k4.free 7
                have q8 := k5.cell 8 rfl
                have r8 := k4.cell 8 rfl
                have f8 := k4.free 8
                have l5 := k5.lt
                have l4 := k4.lt
                have n45 : w.heap.size + 1 ≠ b5 := by omega
                go_wp2_with fail
                exact bodyPost_ret (results_cell_row rfl _ _ (w.heap.size + 1) 91 #[.int .i64 a0, .int .i64 a1, .int .i64 a2, .int .i64 a3, .int .i64 a4, .int .i64 a5, .int .i64 a6, .int .i64 a7, .string s] (0, 0) _ rfl (cmd_fill k4 a0 a1 a2 a3 a4 a5 a6 a7 s) Try.underlying91 rfl (by kernel_rfl)) rfl ⟨⟨a0, a1, a2, a3, a4, a5, a6, a7, s, rfl, hs⟩, dw_fill D hgl (Nat.le_succ _) hws a0 a1 a2 a3 a4 a5 a6 a7 s⟩
              | false =>
                cases o5 with
                | true =>
                  go_wp2_with fail
                  refine calls_at (fun W => CmdAt w0 w g b b5 tok lst W) (hX.set hgl hb hne h5 hws 4 (by decide) _) ?_
                  intro W7 hY
                  clear c5 l5 l3 d0 d1 d2 d3 g3 g4 e3 e4 D k3 k4 kS k5
                  refine (below_C 3 hY.1.1).mono ?_
                  rintro e W8 ⟨r8, rfl, hr8, hc_, hk_⟩
                  have hZ := hY.step hgl hb hne h5 hc_ hk_
                  clear hc_ hk_ hY hr8
                  obtain ⟨D, k3, k4, kS, a0, a1, a2, a3, a4, a5, a6, a7, s, hs, k5⟩ := id hZ
                  have c55 := k5.cell 5 rfl
                  have f55 := k5.free 5
                  have l5 := k5.lt
                  go_upto_region 36 with fail
                  refine wp_at (CmdAt w0 w g b b5 tok lst) (hZ.set hgl hb hne h5 hws 5 (by decide) _) ?_
                  intro Wz hz
                  obtain ⟨D, k3, k4, kS, a0, a1, a2, a3, a4, a5, a6, a7, s, hs, k5⟩ := id hz
                  have q0 := k5.cell 0 rfl
                  have r0 := k4.cell 0 rfl
                  have f0 := k4.free 0
                  have q1 := k5.cell 1 rfl
                  have r1 := k4.cell 1 rfl
                  have f1 := k4.free 1
                  have q2 := k5.cell 2 rfl
                  have r2 := k4.cell 2 rfl
                  have f2 := k4.free 2
                  have q3 := k5.cell 3 rfl
                  have r3 := k4.cell 3 rfl
                  have f3 := k4.free 3
                  have q4 := k5.cell 4 rfl
                  have r4 := k4.cell 4 rfl
                  have f4 := k4.free 4
                  have q5 := k5.cell 5 rfl
                  have r5 := k4.cell 5 rfl
                  have f5 := k4.free 5
                  have q6 := k5.cell 6 rfl
                  have r6 := k4.cell 6 rfl
                  have f6 := k4.free 6
                  have q7 := k5.cell 7 rfl
                  have r7 := k4.cell 7 rfl
                  have f7 := k4.free 7
                  have q8 := k5.cell 8 rfl
                  have r8 := k4.cell 8 rfl
                  have f8 := k4.free 8
                  have l5 := k5.lt
                  have l4 := k4.lt
                  have n45 : w.heap.size + 1 ≠ b5 := by omega
                  go_wp2_with fail
                  exact bodyPost_ret (results_cell_row rfl _ _ (w.heap.size + 1) 91 #[.int .i64 a0, .int .i64 a1, .int .i64 a2, .int .i64 a3, .int .i64 a4, .int .i64 a5, .int .i64 a6, .int .i64 a7, .string s] (0, 0) _ rfl (cmd_fill k4 a0 a1 a2 a3 a4 a5 a6 a7 s) Try.underlying91 rfl (by kernel_rfl)) rfl ⟨⟨a0, a1, a2, a3, a4, a5, a6, a7, s, rfl, hs⟩, dw_fill D hgl (Nat.le_succ _) hws a0 a1 a2 a3 a4 a5 a6 a7 s⟩
                | false =>
                  cases o6 with
                  | true =>
                    go_wp2_with fail
                    refine calls_at (fun W => CmdAt w0 w g b b5 tok lst W) (hX.set hgl hb hne h5 hws 4 (by decide) _) ?_
                    intro W7 hY
                    clear c5 l5 l3 d0 d1 d2 d3 g3 g4 e3 e4 D k3 k4 kS k5
                    refine (lease_C _ _ _ _ _).mono ?_
                    rintro e W8 ⟨rfl, hb8⟩
                    have hZ := hY.below hb8
                    clear hY hb8
                    obtain ⟨D, k3, k4, kS, a0, a1, a2, a3, a4, a5, a6, a7, s, hs, k5⟩ := id hZ
                    have c56 := k5.cell 6 rfl
                    have f56 := k5.free 6
                    have l5 := k5.lt
                    have l3 := k3.lt
                    have d0 := k3.cell 0 rfl
                    have d1 := k3.cell 1 rfl
                    have d2 := k3.cell 2 rfl
                    have d3 := k3.cell 3 rfl
                    go_wp2_with fail
                    refine calls_at (fun W => CmdAt w0 w g b b5 tok lst W) (hZ.set hgl hb hne h5 hws 6 (by decide) _) ?_
                    intro W9 hY
                    clear c56 f56 l5 l3 d0 d1 d2 d3 D k3 k4 kS k5
                    refine (queue_C _ _ _ _ _).mono ?_
                    rintro e W10 ⟨rfl, hb10⟩
                    have hU := hY.below hb10
                    clear hY hb10 hZ
                    go_upto_region 32 with fail
                    obtain ⟨b9, hb9⟩ : ∃ b9, b9 = W10.heap.size := ⟨_, rfl⟩
                    refine wp_at (fun W => CmdAt w0 w g b b5 tok lst W ∧ Blk 109 b9 #[.int .i64 (wrap64 (1 + r5)), .int .i64 0, .slice none 0 0] W) ⟨hU.alloc _, Blk.newE _ _ W10 hb9⟩ ?_
                    rw [← hb9]
                    have n9 : g ≠ b9 := by have := hU.1.1.lt; omega
                    clear hU hb9
                    rintro Wa ⟨hY, k9⟩
                    go_cut [] from 118 to 127 (fun wx => CmdAt w0 w g b b5 tok lst wx)
                    case first =>
                      obtain ⟨D, k3, k4, kS, a0, a1, a2, a3, a4, a5, a6, a7, s, hs, k5⟩ := id hY
                      have q1 := k9.cell 1 rfl
                      have q2 := k9.cell 2 rfl
                      have l9 := k9.lt
                      have n9q : b9 ≠ g := fun e => n9 e.symm
                      refine wp_region_flowL (L := LD w0 g) (LD.drew w0 g) (LD.trans w0 g) [0, 5, 9] 137 (by kernel_rfl) (by rfl) (by kernel_rfl) (by kernel_rfl) (by kernel_rfl) (by kernel_rfl) ?_
                      iterate 10 (refine flowL_valE ?_; apply Exists.intro; refine ⟨fun A wq hLq hbq hdq => ?_, ?_⟩; focus (obtain ⟨hkc, hkf⟩ := kcell hLq.2; have hkz := hLq.2.1; (try simp [go_sem, baseF, deps, dep1, Region.binds] at hbq); (try simp [go_sem, baseF, deps, dep1, Region.binds] at hdq); go_simp; first | exact ⟨LD.refl _ _ _, rfl⟩ | (first | (go_at_call 43; refine (below_C _ (hLq.1 D.1)).mono ?_; rintro e w3 ⟨r3, rfl, ⟨hr0, hr1, -⟩, hc3, hk3⟩; obtain rfl : r3 = 0 := (by have h9 := hr1 (by decide); first | omega | (unfold wrap64 at h9; omega) | (rw [show IntKind.i64.wrap 1 = 1 from by decide] at h9; omega)); exact ⟨rfl, fun _ => hc3, hk3⟩))))
                      with_reducible refine flowL_last ?_
                      intro x wq hLq hall
                      simp only [allT] at hall
                      have hq := hY.step hgl hb hne h5 (hLq.1 D.1) hLq.2
                      clear hY
                      obtain ⟨D', k3', k4', kS', a0', a1', a2', a3', a4', a5', a6', a7', s', hs', k5'⟩ := id hq
                      have c57 := k5'.cell 7 rfl
                      have f57 := k5'.free 7
                      have l5 := k5'.lt
                      refine ⟨?_⟩
                      simp [frameOf, Act.put, List.dropLast, hall]
                      clear hall
                      go_simp
                      go_wp2_with fail
                      go_meet
                      exact hq.set hgl hb hne h5 hws 7 (by decide) _
                    case rest =>
                      have hV := hcut
                      clear hY k9 hcut
                      go_wp2_with fail
                      refine (once_C 8 hV.1.1).mono ?_
                      rintro e Wb ⟨qo, rfl, hc_, hk_⟩
                      have hS := hV.step hgl hb hne h5 hc_ hk_
                      clear hV hc_ hk_
                      cases qo with
                      | false =>
                        go_upto_region 36 with fail
                        refine wp_at (CmdAt w0 w g b b5 tok lst) (hS) ?_
                        intro Wz hz
                        obtain ⟨D, k3, k4, kS, a0, a1, a2, a3, a4, a5, a6, a7, s, hs, k5⟩ := id hz
                        have q0 := k5.cell 0 rfl
                        have r0 := k4.cell 0 rfl
                        have f0 := k4.free 0
                        have q1 := k5.cell 1 rfl
                        have r1 := k4.cell 1 rfl
                        have f1 := k4.free 1
                        have q2 := k5.cell 2 rfl
                        have r2 := k4.cell 2 rfl
                        have f2 := k4.free 2
                        have q3 := k5.cell 3 rfl
                        have r3 := k4.cell 3 rfl
                        have f3 := k4.free 3
                        have q4 := k5.cell 4 rfl
                        have r4 := k4.cell 4 rfl
                        have f4 := k4.free 4
                        have q5 := k5.cell 5 rfl
                        have r5 := k4.cell 5 rfl
                        have f5 := k4.free 5
                        have q6 := k5.cell 6 rfl
                        have r6 := k4.cell 6 rfl
                        have f6 := k4.free 6
                        have q7 := k5.cell 7 rfl
                        have r7 := k4.cell 7 rfl
                        have f7 := k4.free 7
                        have q8 := k5.cell 8 rfl
                        have r8 := k4.cell 8 rfl
                        have f8 := k4.free 8
                        have l5 := k5.lt
                        have l4 := k4.lt
                        have n45 : w.heap.size + 1 ≠ b5 := by omega
                        go_wp2_with fail
                        exact bodyPost_ret (results_cell_row rfl _ _ (w.heap.size + 1) 91 #[.int .i64 a0, .int .i64 a1, .int .i64 a2, .int .i64 a3, .int .i64 a4, .int .i64 a5, .int .i64 a6, .int .i64 a7, .string s] (0, 0) _ rfl (cmd_fill k4 a0 a1 a2 a3 a4 a5 a6 a7 s) Try.underlying91 rfl (by kernel_rfl)) rfl ⟨⟨a0, a1, a2, a3, a4, a5, a6, a7, s, rfl, hs⟩, dw_fill D hgl (Nat.le_succ _) hws a0 a1 a2 a3 a4 a5 a6 a7 s⟩
                      | true =>
                        go_wp2_with fail
                        refine (below_C 4 hS.1.1).mono ?_
                        rintro e Wc ⟨rc, rfl, hrc, hc_, hk_⟩
                        have hT := hS.step hgl hb hne h5 hc_ hk_
                        clear hc_ hk_ hS hrc
                        obtain ⟨D, k3, k4, kS, a0, a1, a2, a3, a4, a5, a6, a7, s, hs, k5⟩ := id hT
                        have c56 := k5.cell 6 rfl
                        have f56 := k5.free 6
                        have l5 := k5.lt
                        go_wp2_with fail
                        refine calls_at (fun W => CmdAt w0 w g b b5 tok lst W) (hT.set hgl hb hne h5 hws 6 (by decide) _) ?_
                        intro Wd hM
                        clear c56 f56 l5 D k3 k4 kS k5
                        refine (below_C 6 hM.1.1).mono ?_
                        rintro e We ⟨re, rfl, hre, hc_, hk_⟩
                        have hN := hM.step hgl hb hne h5 hc_ hk_
                        clear hc_ hk_ hM hre
                        obtain ⟨D, k3, k4, kS, a0, a1, a2, a3, a4, a5, a6, a7, s, hs, k5⟩ := id hN
                        have c57 := k5.cell 7 rfl
                        have f57 := k5.free 7
                        have l5 := k5.lt
                        go_upto_region 36 with fail
                        refine wp_at (CmdAt w0 w g b b5 tok lst) (hN.set hgl hb hne h5 hws 7 (by decide) _) ?_
                        intro Wz hz
                        obtain ⟨D, k3, k4, kS, a0, a1, a2, a3, a4, a5, a6, a7, s, hs, k5⟩ := id hz
                        have q0 := k5.cell 0 rfl
                        have r0 := k4.cell 0 rfl
                        have f0 := k4.free 0
                        have q1 := k5.cell 1 rfl
                        have r1 := k4.cell 1 rfl
                        have f1 := k4.free 1
                        have q2 := k5.cell 2 rfl
                        have r2 := k4.cell 2 rfl
                        have f2 := k4.free 2
                        have q3 := k5.cell 3 rfl
                        have r3 := k4.cell 3 rfl
                        have f3 := k4.free 3
                        have q4 := k5.cell 4 rfl
                        have r4 := k4.cell 4 rfl
                        have f4 := k4.free 4
                        have q5 := k5.cell 5 rfl
                        have r5 := k4.cell 5 rfl
                        have f5 := k4.free 5
                        have q6 := k5.cell 6 rfl
                        have r6 := k4.cell 6 rfl
                        have f6 := k4.free 6
                        have q7 := k5.cell 7 rfl
                        have r7 := k4.cell 7 rfl
                        have f7 := k4.free 7
                        have q8 := k5.cell 8 rfl
                        have r8 := k4.cell 8 rfl
                        have f8 := k4.free 8
                        have l5 := k5.lt
                        have l4 := k4.lt
                        have n45 : w.heap.size + 1 ≠ b5 := by omega
                        go_wp2_with fail
                        exact bodyPost_ret (results_cell_row rfl _ _ (w.heap.size + 1) 91 #[.int .i64 a0, .int .i64 a1, .int .i64 a2, .int .i64 a3, .int .i64 a4, .int .i64 a5, .int .i64 a6, .int .i64 a7, .string s] (0, 0) _ rfl (cmd_fill k4 a0 a1 a2 a3 a4 a5 a6 a7 s) Try.underlying91 rfl (by kernel_rfl)) rfl ⟨⟨a0, a1, a2, a3, a4, a5, a6, a7, s, rfl, hs⟩, dw_fill D hgl (Nat.le_succ _) hws a0 a1 a2 a3 a4 a5 a6 a7 s⟩
                  | false =>
                    go_upto_region 36 with fail
                    refine wp_at (CmdAt w0 w g b b5 tok lst) (hX) ?_
                    intro Wz hz
                    obtain ⟨D, k3, k4, kS, a0, a1, a2, a3, a4, a5, a6, a7, s, hs, k5⟩ := id hz
                    have q0 := k5.cell 0 rfl
                    have r0 := k4.cell 0 rfl
                    have f0 := k4.free 0
                    have q1 := k5.cell 1 rfl
                    have r1 := k4.cell 1 rfl
                    have f1 := k4.free 1
                    have q2 := k5.cell 2 rfl
                    have r2 := k4.cell 2 rfl
                    have f2 := k4.free 2
                    have q3 := k5.cell 3 rfl
                    have r3 := k4.cell 3 rfl
                    have f3 := k4.free 3
                    have q4 := k5.cell 4 rfl
                    have r4 := k4.cell 4 rfl
                    have f4 := k4.free 4
                    have q5 := k5.cell 5 rfl
                    have r5 := k4.cell 5 rfl
                    have f5 := k4.free 5
                    have q6 := k5.cell 6 rfl
                    have r6 := k4.cell 6 rfl
                    have f6 := k4.free 6
                    have q7 := k5.cell 7 rfl
                    have r7 := k4.cell 7 rfl
                    have f7 := k4.free 7
                    have q8 := k5.cell 8 rfl
                    have r8 := k4.cell 8 rfl
                    have f8 := k4.free 8
                    have l5 := k5.lt
                    have l4 := k4.lt
                    have n45 : w.heap.size + 1 ≠ b5 := by omega
                    go_wp2_with fail
                    exact bodyPost_ret (results_cell_row rfl _ _ (w.heap.size + 1) 91 #[.int .i64 a0, .int .i64 a1, .int .i64 a2, .int .i64 a3, .int .i64 a4, .int .i64 a5, .int .i64 a6, .int .i64 a7, .string s] (0, 0) _ rfl (cmd_fill k4 a0 a1 a2 a3 a4 a5 a6 a7 s) Try.underlying91 rfl (by kernel_rfl)) rfl ⟨⟨a0, a1, a2, a3, a4, a5, a6, a7, s, rfl, hs⟩, dw_fill D hgl (Nat.le_succ _) hws a0 a1 a2 a3 a4 a5 a6 a7 s⟩
end Go.Proofs.Ytmljihfaapoakaa.PFnMessages
end

section
namespace Go.Proofs.Ytmljihfaapoakaa.PFnMessages
open Go.RowKit Go.Proofs.YtmljihfaapoakaaW.PrintWords Go.Proofs.YtmljihfaapoakaaW.PrintLast Go.Proofs.YtmljihfaapoakaaW.PrintMore
set_option linter.unusedVariables false
set_option linter.unusedSimpArgs false
def spec_l01Var.l0 : Nat → Int → List Int → Option (ByteArray)
  | 0, _, _ => none
  | k + 1, x0, x3 => if x0 > 127 then (if x3.length < 140737488355328 then (spec_l01Var.l0 k (wrap64 (Int.tdiv x0 128)) (x3 ++ [(wrap64 ((Int.tmod x0 128) + 128)) % 256])) else (none)) else (if x3.length < 140737488355328 then (some (strOfNums (x3 ++ [(x0) % 256]))) else (none))
def spec_l01Var.f (k : Nat) (a0 : Int) : Option (ByteArray) := spec_l01Var.l0 k a0 (([] : List Int))
theorem spec_l01Var.mono_l : ∀ k, (∀ y0 y1, LeO (spec_l01Var.l0 k y0 y1) (spec_l01Var.l0 (k + 1) y0 y1))
  | 0 => fun _ _ r h => by simp [spec_l01Var.l0] at h
  | k + 1 => by
    have ih0 := spec_l01Var.mono_l k
    · intro y0 y1
      unfold spec_l01Var.l0
      repeat' first
      | (with_reducible exact ih0 _ _)
      | (with_reducible exact LeO.refl _)
      | (with_reducible exact LeO.none _)
      | (with_reducible refine LeO.ite ?_ ?_)
      | (with_reducible refine LeO.bind ?_ (fun _ => ?_))
      | exact ih0 _ _
      | exact LeO.none _
      | refine LeO.ite ?_ ?_
      | refine LeO.bind ?_ (fun _ => ?_)
theorem spec_l01Var.mono : ∀ a0 k, LeO (spec_l01Var.f k a0) (spec_l01Var.f (k + 1) a0) := by
  intro a0 k
  have ih0 := spec_l01Var.mono_l k
  unfold spec_l01Var.f
  repeat' first
      | (with_reducible exact ih0 _ _)
      | (with_reducible exact LeO.refl _)
      | (with_reducible exact LeO.none _)
      | (with_reducible refine LeO.ite ?_ ?_)
      | (with_reducible refine LeO.bind ?_ (fun _ => ?_))
      | exact ih0 _ _
      | exact LeO.none _
      | refine LeO.ite ?_ ?_
      | refine LeO.bind ?_ (fun _ => ?_)
set_option maxHeartbeats 8000000 in
set_option maxRecDepth 100000 in
theorem spec_l01Var.calls (k : Nat) (a0 : Int) (r : ByteArray) (w : World) (h : spec_l01Var.f k a0 = some r) :
    Calls Try.prog 54 #[.int .i64 a0] w fun e w' => e = .returned (.string r) ∧ Below w.heap.size w w' := by
  have HB := Aside0.mk (Below.refl w.heap.size w)
  have H : (spec_l01Var.l0 k a0 (([] : List Int))) = some r := h
  clear h
  obtain ⟨y159, hy159⟩ : ∃ y_ : List Int, y_ = (([] : List Int)) := ⟨_, rfl⟩
  replace H : (spec_l01Var.l0 k a0 y159) = some r := by first | (rw [hy159]; with_reducible exact H) | (have H2_ := (Option.bind_some _ _).symm.trans H; rw [hy159]; with_reducible exact H2_) | (have H2_ := (Option.bind_some _ _).symm.trans H; with_reducible exact H2_) | with_reducible exact H | (rw [hy159]; exact H) | exact H
  have Ny159 := Aside0.mk hy159
  clear hy159
  have H' := Aside0.mk H
  clear H
  go_enter Try.func54, Try.ntmps54
  go_wp2_with (first | ((with_reducible refine gate_dst (N := 4) rfl ?_); refine Kd.R_lit (Kd.int .u8) _ 5 ?hg (N := 4) ?hd (xs := ([] : List Int)) (inner := []) (ok := fun _ => True) (okp := fun _ => True) ?hr ?hp (fun _ hk => hk) trivial (Below.refl _ _) (Nat.le_refl _) (by simp) ?_; (case hd => rfl); (case hg => rfl); (case hr => first | (go_simp; done) | (go_simp; rfl)); (case hp => exact (Reps.none _ _)); intro v160 w2 ho3 hb hg_ hnew_; clear hg_ hnew_; (first | rw [← Ny159.out] at ho3 | (simp only [Int.reduceToNat] at ho3; rw [← Ny159.out] at ho3)); have n0_ := Aside0.mk (Kd.R_lower ho3 (below_size (by repeat (first | (with_reducible first | exact HB.out | apply below_alloc | apply pw_below_drewN | apply below_drew1) | exact HB.out)))); have n1_ := Aside0.mk (below_step (by repeat (first | (with_reducible first | exact HB.out | apply below_alloc | apply pw_below_drewN | apply below_drew1) | exact HB.out)) hb); clear HB; have HO161 := n0_; have HB := n1_; clear n0_ n1_; clear hb ho3))
  go_loopg [0, 3] k (fun kq v0 v3 w' => ∃ (x0_1 : Int) (x3_1 : List Int), v0 = .int .i64 x0_1 ∧ Aside0 (spec_l01Var.l0 kq x0_1 x3_1 = some r) ∧ Aside0 (kq ≤ k) ∧ Aside0 (Kd.R (Kd.int .u8) 5 w' w.heap.size (fun _ => True) v3 x3_1) ∧ Aside0 (Below w.heap.size w w'))
  case atStart => exact ⟨(a0), (y159), (by first | rfl | (simp; done) | (simp [*]; done)), H', ⟨Nat.le_refl _⟩, ⟨by (with_reducible repeat (first | apply Kd.R_alloc | apply Kd.R_drewN | apply Kd.R_drew)); exact HO161.out⟩, ⟨by repeat (first | (with_reducible first | exact HB.out | apply below_alloc | apply pw_below_drewN | apply below_drew1) | exact HB.out)⟩⟩
  case round =>
    clear H'
    try clear p2
    obtain ⟨x0_1, x3_1, rfl, HA, HK1, HO_3, HB⟩ := hrel
    cases gk with
    | zero => exact absurd HA.out (by simp [spec_l01Var.l0])
    | succ k1 =>
      have H := HA.out
      clear HA
      simp only [spec_l01Var.l0] at H
      by_cases c4 : x0_1 > 127
      · rw [if_pos c4] at H
        have c4b0 : decide (127 < x0_1) = true := decide_eq_true c4
        clear c4
        by_cases c5 : x3_1.length < 140737488355328
        · rw [if_pos c5] at H
          have LMc5 := Aside0.mk c5
          clear c5
          obtain ⟨y162, hy162⟩ : ∃ y_ : List Int, y_ = (x3_1 ++ [(wrap64 ((Int.tmod x0_1 128) + 128)) % 256]) := ⟨_, rfl⟩
          replace H : (spec_l01Var.l0 k1 (wrap64 (Int.tdiv x0_1 128)) y162) = some r := by first | (rw [hy162]; with_reducible exact H) | (have H2_ := (Option.bind_some _ _).symm.trans H; rw [hy162]; with_reducible exact H2_) | (have H2_ := (Option.bind_some _ _).symm.trans H; with_reducible exact H2_) | with_reducible exact H | (rw [hy162]; exact H) | exact H
          have Ny162 := Aside0.mk hy162
          clear hy162
          have H' := Aside0.mk H
          clear H
          go_wp2_with (first | ((with_reducible refine gate_builtin (b := .append) (xs := #[.tmp 7, .tmp 12]) rfl ?_); at_builtin; refine Kd.R_append (Kd.int .u8) (w0 := w) w.heap.size rfl (.tmp 7) (.tmp 12) 22 5 (.int .u8 0) 1 rfl Try.underlying22 info5 rfl (by decide) (by omega) u3 x3_1 ((wrap64 ((Int.tmod x0_1 128) + 128)) % 256) [.int .u8 ((wrap64 ((Int.tmod x0_1 128) + 128)) % 256)] (fun _ => True) (fun _ => False) rfl rfl ?aP (fun _ hk => hk.elim) ?aF ?aO ?aB ?aS ?aL ?_; (case aP => exact rfl); (case aB => exact (by repeat (first | (with_reducible first | exact HB.out | apply below_alloc | apply pw_below_drewN | apply below_drew1) | exact HB.out))); (case aF => exact (fun _ _ => trivial)); (case aO => exact (by (with_reducible repeat (first | apply Kd.R_alloc | apply Kd.R_drewN | apply Kd.R_drew)); exact HO_3.out)); (case aS => exact (below_size (by repeat (first | (with_reducible first | exact HB.out | apply below_alloc | apply pw_below_drewN | apply below_drew1) | exact HB.out)))); (case aL => have := LMc5.out; omega); intro v163 w6 ho hb hg hat; rw [← Ny162.out] at ho; have n0_ := Aside0.mk (hb); have n1_ := Aside0.mk (ho); clear HB; clear HO_3; have HB := n0_; have HO164 := n1_; clear n0_ n1_; clear ho hb hg hat))
          go_roundg k1
          case measure => have := HK1.out; omega
          case rel => exact ⟨(wrap64 (Int.tdiv x0_1 128)), (y162), (by first | rfl | (simp; done) | (simp [*]; done)), H', ⟨by have := HK1.out; omega⟩, ⟨by (with_reducible repeat (first | apply Kd.R_alloc | apply Kd.R_drewN | apply Kd.R_drew)); exact HO164.out⟩, ⟨by repeat (first | (with_reducible first | exact HB.out | apply below_alloc | apply pw_below_drewN | apply below_drew1) | exact HB.out)⟩⟩
        · rw [if_neg c5] at H
          exact absurd H (by simp)
      · rw [if_neg c4] at H
        have c4b0 : decide (127 < x0_1) = false := decide_eq_false c4
        clear c4
        by_cases c7 : x3_1.length < 140737488355328
        · rw [if_pos c7] at H
          have LMc7 := Aside0.mk c7
          clear c7
          obtain ⟨y165, hy165⟩ : ∃ y_ : List Int, y_ = (x3_1 ++ [(x0_1) % 256]) := ⟨_, rfl⟩
          replace H : (some (strOfNums y165)) = some r := by first | (rw [hy165]; with_reducible exact H) | (have H2_ := (Option.bind_some _ _).symm.trans H; rw [hy165]; with_reducible exact H2_) | (have H2_ := (Option.bind_some _ _).symm.trans H; with_reducible exact H2_) | with_reducible exact H | (rw [hy165]; exact H) | exact H
          have Ny165 := Aside0.mk hy165
          clear hy165
          obtain rfl := Option.some.inj H
          go_wp2_with (first | ((with_reducible refine gate_builtin (b := .append) (xs := #[.tmp 16, .tmp 19]) rfl ?_); at_builtin; refine Kd.R_append (Kd.int .u8) (w0 := w) w.heap.size rfl (.tmp 16) (.tmp 19) 22 5 (.int .u8 0) 1 rfl Try.underlying22 info5 rfl (by decide) (by omega) u3 x3_1 ((x0_1) % 256) [.int .u8 ((x0_1) % 256)] (fun _ => True) (fun _ => False) rfl rfl ?aP (fun _ hk => hk.elim) ?aF ?aO ?aB ?aS ?aL ?_; (case aP => exact rfl); (case aB => exact (by repeat (first | (with_reducible first | exact HB.out | apply below_alloc | apply pw_below_drewN | apply below_drew1) | exact HB.out))); (case aF => exact (fun _ _ => trivial)); (case aO => exact (by (with_reducible repeat (first | apply Kd.R_alloc | apply Kd.R_drewN | apply Kd.R_drew)); exact HO_3.out)); (case aS => exact (below_size (by repeat (first | (with_reducible first | exact HB.out | apply below_alloc | apply pw_below_drewN | apply below_drew1) | exact HB.out)))); (case aL => have := LMc7.out; omega); intro v166 w8 ho hb hg hat; rw [← Ny165.out] at ho; have n0_ := Aside0.mk (hb); have n1_ := Aside0.mk (ho); clear HB; clear HO_3; have HB := n0_; have HO167 := n1_; clear n0_ n1_; clear ho hb hg hat; have hcv9 := own_string (P := Try.prog) Try.underlying22 Try.underlying5 Try.underlying9 (Kd.own_of_R HO167.out)))
          go_ret
          exact ⟨by first | rfl | (simp [errW_none, errW_some] <;> rfl) | (simp [*, errW_none, errW_some] <;> rfl), by repeat (first | (with_reducible first | exact HB.out | apply below_alloc | apply pw_below_drewN | apply below_drew1) | exact HB.out)⟩
        · rw [if_neg c7] at H
          exact absurd H (by simp)
end Go.Proofs.Ytmljihfaapoakaa.PFnMessages
end

section
namespace Go.Proofs.Ytmljihfaapoakaa.PFnMessages
open Go.RowKit Go.Proofs.YtmljihfaapoakaaW.PrintWords Go.Proofs.YtmljihfaapoakaaW.PrintLast Go.Proofs.YtmljihfaapoakaaW.PrintMore
set_option linter.unusedVariables false
set_option linter.unusedSimpArgs false
def impl_in.f (a0 : Int) (a1 : Int) (a2 : Int) : Option (Bool) := if a0 ≥ a1 then (some (decide (a0 ≤ a2))) else (some false)
set_option maxHeartbeats 8000000 in
set_option maxRecDepth 100000 in
theorem impl_in.calls (a0 : Int) (a1 : Int) (a2 : Int) (r : Bool) (w : World) (h : impl_in.f a0 a1 a2 = some r) :
    Calls Try.prog 31 #[.int .i64 a0, .int .i64 a1, .int .i64 a2] w fun e w' => e = .returned (.bool r) ∧ Drawn0 w w' := by
  have H : (if a0 ≥ a1 then (some (decide (a0 ≤ a2))) else (some false)) = some r := h
  clear h
  by_cases c4 : a0 ≥ a1
  · rw [if_pos c4] at H
    have c4b0 : decide (a1 ≤ a0) = true := decide_eq_true c4
    clear c4
    obtain rfl := Option.some.inj H
    go_enter Try.func31, Try.ntmps31
    go_wp2
    go_ret
    exact ⟨by first | rfl | (simp; done) | (simp [*]; done), by repeat (first | exact Drawn0.refl _ | apply Drawn0.step)⟩
  · rw [if_neg c4] at H
    have c4b0 : decide (a1 ≤ a0) = false := decide_eq_false c4
    clear c4
    obtain rfl := Option.some.inj H
    go_enter Try.func31, Try.ntmps31
    go_wp2
    go_ret
    exact ⟨by first | rfl | (simp; done) | (simp [*]; done), by repeat (first | exact Drawn0.refl _ | apply Drawn0.step)⟩
end Go.Proofs.Ytmljihfaapoakaa.PFnMessages
end

section
namespace Go.Proofs.Ytmljihfaapoakaa.PFnMessages
open Go.RowKit Go.Proofs.YtmljihfaapoakaaW.PrintWords Go.Proofs.YtmljihfaapoakaaW.PrintLast Go.Proofs.YtmljihfaapoakaaW.PrintMore
set_option linter.unusedVariables false
set_option linter.unusedSimpArgs false
def impl_VarText.l0 : Nat → Int → List Int → Option (ByteArray × Bool)
  | 0, _, _ => none
  | k + 1, x0, x4 => if x0 > 127 then (if x4.length < 140737488355328 then (impl_VarText.l0 k (x0 / 128) (x4 ++ [(Go.bits .or .i64 (Go.bits .and .i64 x0 127) 128) % 256])) else (none)) else (if x4.length < 140737488355328 then (some (strOfNums (x4 ++ [(x0) % 256]), true)) else (none))
def impl_VarText.f (k : Nat) (a0 : Int) : Option (ByteArray × Bool) := (impl_in.f a0 0 1000000000).bind fun t405 => (if t405 = true then (impl_VarText.l0 k a0 (([] : List Int))) else (some ((⟨#[]⟩ : ByteArray), false)))
theorem impl_VarText.mono_l : ∀ k, (∀ y0 y1, LeO (impl_VarText.l0 k y0 y1) (impl_VarText.l0 (k + 1) y0 y1))
  | 0 => fun _ _ r h => by simp [impl_VarText.l0] at h
  | k + 1 => by
    have ih0 := impl_VarText.mono_l k
    · intro y0 y1
      unfold impl_VarText.l0
      repeat' first
      | (with_reducible exact ih0 _ _)
      | (with_reducible exact LeO.refl _)
      | (with_reducible exact LeO.none _)
      | (with_reducible refine LeO.ite ?_ ?_)
      | (with_reducible refine LeO.bind ?_ (fun _ => ?_))
      | exact ih0 _ _
      | exact LeO.none _
      | refine LeO.ite ?_ ?_
      | refine LeO.bind ?_ (fun _ => ?_)
theorem impl_VarText.mono : ∀ a0 k, LeO (impl_VarText.f k a0) (impl_VarText.f (k + 1) a0) := by
  intro a0 k
  have ih0 := impl_VarText.mono_l k
  unfold impl_VarText.f
  repeat' first
      | (with_reducible exact ih0 _ _)
      | (with_reducible exact LeO.refl _)
      | (with_reducible exact LeO.none _)
      | (with_reducible refine LeO.ite ?_ ?_)
      | (with_reducible refine LeO.bind ?_ (fun _ => ?_))
      | exact ih0 _ _
      | exact LeO.none _
      | refine LeO.ite ?_ ?_
      | refine LeO.bind ?_ (fun _ => ?_)
set_option maxHeartbeats 8000000 in
set_option maxRecDepth 100000 in
theorem impl_VarText.calls (k : Nat) (a0 : Int) (r1 : ByteArray) (r2 : Bool) (w : World) (h : impl_VarText.f k a0 = some (r1, r2)) :
    Calls Try.prog 48 #[.int .i64 a0] w fun e w' => e = .returned (.tuple #[.string r1, .bool r2]) ∧ Below w.heap.size w w' := by
  have HB := Aside0.mk (Below.refl w.heap.size w)
  have H : ((impl_in.f a0 0 1000000000).bind fun t405 => (if t405 = true then (impl_VarText.l0 k a0 (([] : List Int))) else (some ((⟨#[]⟩ : ByteArray), false)))) = some (r1, r2) := h
  clear h
  replace H := Option.bind_eq_some_iff.mp H
  obtain ⟨t405, A20, H⟩ := H
  replace H : (if t405 = true then (impl_VarText.l0 k a0 (([] : List Int))) else (some ((⟨#[]⟩ : ByteArray), false))) = some (r1, r2) := H
  have A2 := Aside0.mk A20
  clear A20
  by_cases c3 : t405 = true
  · subst c3
    have H1 : (impl_VarText.l0 k a0 (([] : List Int))) = some (r1, r2) := by rw [if_pos rfl] at H; exact H
    clear H
    have H := H1
    clear H1
    obtain ⟨y406, hy406⟩ : ∃ y_ : List Int, y_ = (([] : List Int)) := ⟨_, rfl⟩
    replace H : (impl_VarText.l0 k a0 y406) = some (r1, r2) := by first | (rw [hy406]; with_reducible exact H) | (have H2_ := (Option.bind_some _ _).symm.trans H; rw [hy406]; with_reducible exact H2_) | (have H2_ := (Option.bind_some _ _).symm.trans H; with_reducible exact H2_) | with_reducible exact H | (rw [hy406]; exact H) | exact H
    have Ny406 := Aside0.mk hy406
    clear hy406
    have H' := Aside0.mk H
    clear H
    go_enter Try.func48, Try.ntmps48
    go_wp2_with (first | ((with_reducible refine gate_callee (f := 31) rfl ?_); refine goesL_ (some 6) rfl rfl Try.func31 (by kernel_rfl) rfl #[.int .i64 a0, .int .i64 0, .int .i64 1000000000] rfl (by (try simp only [List.map_toArray, List.map_cons, List.map_nil]); first | done | rfl | (simp only [List.length_drop, List.length_take]; rfl)) ?_; (with_reducible refine (impl_in.calls a0 0 1000000000 true _ A2.out).mono ?_); rintro e w' ⟨rfl, ⟨nd, rfl⟩⟩; refine ⟨_, rfl, ?_⟩) | ((with_reducible refine gate_dst (N := 8) rfl ?_); refine Kd.R_lit (Kd.int .u8) _ 5 ?hg (N := 8) ?hd (xs := ([] : List Int)) (inner := []) (ok := fun _ => True) (okp := fun _ => True) ?hr ?hp (fun _ hk => hk) trivial (Below.refl _ _) (Nat.le_refl _) (by simp) ?_; (case hd => rfl); (case hg => rfl); (case hr => first | (go_simp; done) | (go_simp; rfl)); (case hp => exact (Reps.none _ _)); intro v407 w4 ho5 hb hg_ hnew_; clear hg_ hnew_; (first | rw [← Ny406.out] at ho5 | (simp only [Int.reduceToNat] at ho5; rw [← Ny406.out] at ho5)); have n0_ := Aside0.mk (Kd.R_lower ho5 (below_size (by repeat (first | (with_reducible first | exact HB.out | apply below_alloc | apply pw_below_drewN | apply below_drew1) | exact HB.out)))); have n1_ := Aside0.mk (below_step (by repeat (first | (with_reducible first | exact HB.out | apply below_alloc | apply pw_below_drewN | apply below_drew1) | exact HB.out)) hb); clear HB; have HO408 := n0_; have HB := n1_; clear n0_ n1_; clear hb ho5))
    go_loopg [0, 4] k (fun kq v0 v4 w' => ∃ (x0_1 : Int) (x4_1 : List Int), v0 = .int .i64 x0_1 ∧ Aside0 (impl_VarText.l0 kq x0_1 x4_1 = some (r1, r2)) ∧ Aside0 (kq ≤ k) ∧ Aside0 (Kd.R (Kd.int .u8) 5 w' w.heap.size (fun _ => True) v4 x4_1) ∧ Aside0 (Below w.heap.size w w'))
    case atStart => exact ⟨(a0), (y406), (by first | rfl | (simp; done) | (simp [*]; done)), H', ⟨Nat.le_refl _⟩, ⟨by (with_reducible repeat (first | apply Kd.R_alloc | apply Kd.R_drewN | apply Kd.R_drew)); exact HO408.out⟩, ⟨by repeat (first | (with_reducible first | exact HB.out | apply below_alloc | apply pw_below_drewN | apply below_drew1) | exact HB.out)⟩⟩
    case round =>
      clear H'
      try clear p2
      try clear c3
      try clear c4
      obtain ⟨x0_1, x4_1, rfl, HA, HK1, HO_4, HB⟩ := hrel
      cases gk with
      | zero => exact absurd HA.out (by simp [impl_VarText.l0])
      | succ k1 =>
        have H := HA.out
        clear HA
        simp only [impl_VarText.l0] at H
        by_cases c6 : x0_1 > 127
        · rw [if_pos c6] at H
          have c6b0 : decide (127 < x0_1) = true := decide_eq_true c6
          clear c6
          by_cases c7 : x4_1.length < 140737488355328
          · rw [if_pos c7] at H
            have LMc7 := Aside0.mk c7
            clear c7
            obtain ⟨y409, hy409⟩ : ∃ y_ : List Int, y_ = (x4_1 ++ [(Go.bits .or .i64 (Go.bits .and .i64 x0_1 127) 128) % 256]) := ⟨_, rfl⟩
            replace H : (impl_VarText.l0 k1 (x0_1 / 128) y409) = some (r1, r2) := by first | (rw [hy409]; with_reducible exact H) | (have H2_ := (Option.bind_some _ _).symm.trans H; rw [hy409]; with_reducible exact H2_) | (have H2_ := (Option.bind_some _ _).symm.trans H; with_reducible exact H2_) | with_reducible exact H | (rw [hy409]; exact H) | exact H
            have Ny409 := Aside0.mk hy409
            clear hy409
            have H' := Aside0.mk H
            clear H
            go_wp2_with (first | ((with_reducible refine gate_builtin (b := .append) (xs := #[.tmp 11, .tmp 16]) rfl ?_); at_builtin; refine Kd.R_append (Kd.int .u8) (w0 := w) w.heap.size rfl (.tmp 11) (.tmp 16) 22 5 (.int .u8 0) 1 rfl Try.underlying22 info5 rfl (by decide) (by omega) u4 x4_1 ((Go.bits .or .i64 (Go.bits .and .i64 x0_1 127) 128) % 256) [.int .u8 ((Go.bits .or .i64 (Go.bits .and .i64 x0_1 127) 128) % 256)] (fun _ => True) (fun _ => False) rfl rfl ?aP (fun _ hk => hk.elim) ?aF ?aO ?aB ?aS ?aL ?_; (case aP => exact rfl); (case aB => exact (by repeat (first | (with_reducible first | exact HB.out | apply below_alloc | apply pw_below_drewN | apply below_drew1) | exact HB.out))); (case aF => exact (fun _ _ => trivial)); (case aO => exact (by (with_reducible repeat (first | apply Kd.R_alloc | apply Kd.R_drewN | apply Kd.R_drew)); exact HO_4.out)); (case aS => exact (below_size (by repeat (first | (with_reducible first | exact HB.out | apply below_alloc | apply pw_below_drewN | apply below_drew1) | exact HB.out)))); (case aL => have := LMc7.out; omega); intro v410 w8 ho hb hg hat; rw [← Ny409.out] at ho; have n0_ := Aside0.mk (hb); have n1_ := Aside0.mk (ho); clear HB; clear HO_4; have HB := n0_; have HO411 := n1_; clear n0_ n1_; clear ho hb hg hat))
            go_roundg k1
            case measure => have := HK1.out; omega
            case rel => exact ⟨(x0_1 / 128), (y409), (by first | rfl | (simp; done) | (simp [*]; done)), H', ⟨by have := HK1.out; omega⟩, ⟨by (with_reducible repeat (first | apply Kd.R_alloc | apply Kd.R_drewN | apply Kd.R_drew)); exact HO411.out⟩, ⟨by repeat (first | (with_reducible first | exact HB.out | apply below_alloc | apply pw_below_drewN | apply below_drew1) | exact HB.out)⟩⟩
          · rw [if_neg c7] at H
            exact absurd H (by simp)
        · rw [if_neg c6] at H
          have c6b0 : decide (127 < x0_1) = false := decide_eq_false c6
          clear c6
          by_cases c9 : x4_1.length < 140737488355328
          · rw [if_pos c9] at H
            have LMc9 := Aside0.mk c9
            clear c9
            obtain ⟨y412, hy412⟩ : ∃ y_ : List Int, y_ = (x4_1 ++ [(x0_1) % 256]) := ⟨_, rfl⟩
            replace H : (some (strOfNums y412, true)) = some (r1, r2) := by first | (rw [hy412]; with_reducible exact H) | (have H2_ := (Option.bind_some _ _).symm.trans H; rw [hy412]; with_reducible exact H2_) | (have H2_ := (Option.bind_some _ _).symm.trans H; with_reducible exact H2_) | with_reducible exact H | (rw [hy412]; exact H) | exact H
            have Ny412 := Aside0.mk hy412
            clear hy412
            simp only [Option.some.injEq, Prod.mk.injEq] at H
            obtain ⟨rfl, rfl⟩ := H
            go_wp2_with (first | ((with_reducible refine gate_builtin (b := .append) (xs := #[.tmp 20, .tmp 23]) rfl ?_); at_builtin; refine Kd.R_append (Kd.int .u8) (w0 := w) w.heap.size rfl (.tmp 20) (.tmp 23) 22 5 (.int .u8 0) 1 rfl Try.underlying22 info5 rfl (by decide) (by omega) u4 x4_1 ((x0_1) % 256) [.int .u8 ((x0_1) % 256)] (fun _ => True) (fun _ => False) rfl rfl ?aP (fun _ hk => hk.elim) ?aF ?aO ?aB ?aS ?aL ?_; (case aP => exact rfl); (case aB => exact (by repeat (first | (with_reducible first | exact HB.out | apply below_alloc | apply pw_below_drewN | apply below_drew1) | exact HB.out))); (case aF => exact (fun _ _ => trivial)); (case aO => exact (by (with_reducible repeat (first | apply Kd.R_alloc | apply Kd.R_drewN | apply Kd.R_drew)); exact HO_4.out)); (case aS => exact (below_size (by repeat (first | (with_reducible first | exact HB.out | apply below_alloc | apply pw_below_drewN | apply below_drew1) | exact HB.out)))); (case aL => have := LMc9.out; omega); intro v413 w10 ho hb hg hat; rw [← Ny412.out] at ho; have n0_ := Aside0.mk (hb); have n1_ := Aside0.mk (ho); clear HB; clear HO_4; have HB := n0_; have HO414 := n1_; clear n0_ n1_; clear ho hb hg hat; have hcv11 := own_string (P := Try.prog) Try.underlying22 Try.underlying5 Try.underlying9 (Kd.own_of_R HO414.out)))
            go_ret2
            exact ⟨by first | rfl | (simp [errW_none, errW_some] <;> rfl) | (simp [*, errW_none, errW_some] <;> rfl), by repeat (first | (with_reducible first | exact HB.out | apply below_alloc | apply pw_below_drewN | apply below_drew1) | exact HB.out)⟩
          · rw [if_neg c9] at H
            exact absurd H (by simp)
  · replace c3 := Bool.eq_false_iff.mpr c3
    subst c3
    have H1 : (some ((⟨#[]⟩ : ByteArray), false)) = some (r1, r2) := by rw [if_neg (show ¬ (false = true) by decide)] at H; exact H
    clear H
    have H := H1
    clear H1
    simp only [Option.some.injEq, Prod.mk.injEq] at H
    obtain ⟨rfl, rfl⟩ := H
    go_enter Try.func48, Try.ntmps48
    go_wp2_with (first | ((with_reducible refine gate_callee (f := 31) rfl ?_); refine goesL_ (some 6) rfl rfl Try.func31 (by kernel_rfl) rfl #[.int .i64 a0, .int .i64 0, .int .i64 1000000000] rfl (by (try simp only [List.map_toArray, List.map_cons, List.map_nil]); first | done | rfl | (simp only [List.length_drop, List.length_take]; rfl)) ?_; (with_reducible refine (impl_in.calls a0 0 1000000000 false _ A2.out).mono ?_); rintro e w' ⟨rfl, ⟨nd, rfl⟩⟩; refine ⟨_, rfl, ?_⟩))
    go_ret2
    exact ⟨by first | rfl | (simp [errW_none, errW_some] <;> rfl) | (simp [*, errW_none, errW_some] <;> rfl), by repeat (first | (with_reducible first | exact HB.out | apply below_alloc | apply pw_below_drewN | apply below_drew1) | exact HB.out)⟩
end Go.Proofs.Ytmljihfaapoakaa.PFnMessages
end

section
namespace Go.Proofs.Ytmljihfaapoakaa.PFnMessages
open Go.RowKit Go.Proofs.YtmljihfaapoakaaW.PrintWords Go.Proofs.YtmljihfaapoakaaW.PrintLast Go.Proofs.YtmljihfaapoakaaW.PrintMore
set_option linter.unusedVariables false
set_option linter.unusedSimpArgs false
def impl_oneByte.l0 : Nat → List Int → List Int → Int → Int → Option (ByteArray)
  | 0, _, _, _, _ => none
  | k + 1, x3, x7, x8, x9 => if x9 < x8 then (if 0 ≤ x9 then (if x9 < (x7.length : Int) then (if x3.length < 140737488355328 then (impl_oneByte.l0 k (x3 ++ [(rd x7 x9) % 256]) x7 x8 (wrap64 (x9 + 1))) else (none)) else (none)) else (none)) else (some (strOfNums x3))
def impl_oneByte.f (k : Nat) (l0 : List Int) : Option (ByteArray) := impl_oneByte.l0 k (([] : List Int)) l0 (l0.length : Int) 0
theorem impl_oneByte.mono_l : ∀ k, (∀ y0 y1 y2 y3, LeO (impl_oneByte.l0 k y0 y1 y2 y3) (impl_oneByte.l0 (k + 1) y0 y1 y2 y3))
  | 0 => fun _ _ _ _ r h => by simp [impl_oneByte.l0] at h
  | k + 1 => by
    have ih0 := impl_oneByte.mono_l k
    · intro y0 y1 y2 y3
      unfold impl_oneByte.l0
      repeat' first
      | (with_reducible exact ih0 _ _ _ _)
      | (with_reducible exact LeO.refl _)
      | (with_reducible exact LeO.none _)
      | (with_reducible refine LeO.ite ?_ ?_)
      | (with_reducible refine LeO.bind ?_ (fun _ => ?_))
      | exact ih0 _ _ _ _
      | exact LeO.none _
      | refine LeO.ite ?_ ?_
      | refine LeO.bind ?_ (fun _ => ?_)
theorem impl_oneByte.mono : ∀ a0 k, LeO (impl_oneByte.f k a0) (impl_oneByte.f (k + 1) a0) := by
  intro a0 k
  have ih0 := impl_oneByte.mono_l k
  unfold impl_oneByte.f
  repeat' first
      | (with_reducible exact ih0 _ _ _ _)
      | (with_reducible exact LeO.refl _)
      | (with_reducible exact LeO.none _)
      | (with_reducible refine LeO.ite ?_ ?_)
      | (with_reducible refine LeO.bind ?_ (fun _ => ?_))
      | exact ih0 _ _ _ _
      | exact LeO.none _
      | refine LeO.ite ?_ ?_
      | refine LeO.bind ?_ (fun _ => ?_)
set_option maxHeartbeats 8000000 in
set_option maxRecDepth 100000 in
theorem impl_oneByte.calls (k : Nat) (A0 : Option Addr) (c0 : Nat) (l0 : List Int) (r : ByteArray) (w : World) (hr0 : Kd.C (Kd.int .i64) w A0 l0.length l0) (hc0 : l0.length ≤ c0) (h : impl_oneByte.f k l0 = some r) :
    Calls Try.prog 15 #[.slice A0 l0.length c0] w fun e w' => e = .returned (.string r) ∧ Below w.heap.size w w' := by
  have HR0 := Aside0.mk hr0
  have HC0 := Aside0.mk hc0
  clear hr0 hc0
  have HB := Aside0.mk (Below.refl w.heap.size w)
  have H : (impl_oneByte.l0 k (([] : List Int)) l0 (l0.length : Int) 0) = some r := h
  clear h
  obtain ⟨y398, hy398⟩ : ∃ y_ : List Int, y_ = (([] : List Int)) := ⟨_, rfl⟩
  replace H : (impl_oneByte.l0 k y398 l0 (l0.length : Int) 0) = some r := by first | (rw [hy398]; with_reducible exact H) | (have H2_ := (Option.bind_some _ _).symm.trans H; rw [hy398]; with_reducible exact H2_) | (have H2_ := (Option.bind_some _ _).symm.trans H; with_reducible exact H2_) | with_reducible exact H | (rw [hy398]; exact H) | exact H
  have Ny398 := Aside0.mk hy398
  clear hy398
  have H' := Aside0.mk H
  clear H
  go_enter Try.func15, Try.ntmps15
  go_wp2_with (first | ((with_reducible refine gate_dst (N := 6) rfl ?_); refine Kd.R_lit (Kd.int .u8) _ 5 ?hg (N := 6) ?hd (xs := ([] : List Int)) (inner := []) (ok := fun _ => True) (okp := fun _ => True) ?hr ?hp (fun _ hk => hk) trivial (Below.refl _ _) (Nat.le_refl _) (by simp) ?_; (case hd => rfl); (case hg => rfl); (case hr => first | (go_simp; done) | (go_simp; rfl)); (case hp => exact (Reps.none _ _)); intro v399 w2 ho3 hb hg_ hnew_; clear hg_ hnew_; (first | rw [← Ny398.out] at ho3 | (simp only [Int.reduceToNat] at ho3; rw [← Ny398.out] at ho3)); have n0_ := Aside0.mk (Kd.R_lower ho3 (below_size (by repeat (first | (with_reducible first | exact HB.out | apply below_alloc | apply pw_below_drewN | apply below_drew1) | exact HB.out)))); have n1_ := Aside0.mk (below_step (by repeat (first | (with_reducible first | exact HB.out | apply below_alloc | apply pw_below_drewN | apply below_drew1) | exact HB.out)) hb); clear HB; have HO400 := n0_; have HB := n1_; clear n0_ n1_; clear hb ho3))
  go_loopg [3, 9] k (fun kq v3 v9 w' => ∃ (x3_1 : List Int) (x9_1 : Int), v9 = .int .i64 x9_1 ∧ Aside0 (impl_oneByte.l0 kq x3_1 l0 (l0.length : Int) x9_1 = some r) ∧ Aside0 (kq ≤ k) ∧ Aside0 (Kd.R (Kd.int .u8) 5 w' w.heap.size (fun _ => True) v3 x3_1) ∧ Aside0 (Below w.heap.size w w'))
  case atStart => exact ⟨(y398), (0), (by first | rfl | (simp; done) | (simp [*]; done)), H', ⟨Nat.le_refl _⟩, ⟨by (with_reducible repeat (first | apply Kd.R_alloc | apply Kd.R_drewN | apply Kd.R_drew)); exact HO400.out⟩, ⟨by repeat (first | (with_reducible first | exact HB.out | apply below_alloc | apply pw_below_drewN | apply below_drew1) | exact HB.out)⟩⟩
  case round =>
    clear H'
    try clear c1
    try clear p2
    obtain ⟨x3_1, x9_1, rfl, HA, HK1, HO_3, HB⟩ := hrel
    cases gk with
    | zero => exact absurd HA.out (by simp [impl_oneByte.l0])
    | succ k1 =>
      have H := HA.out
      clear HA
      simp only [impl_oneByte.l0] at H
      by_cases c4 : x9_1 < (l0.length : Int)
      · rw [if_pos c4] at H
        have c4b0 : decide (x9_1 < (l0.length : Int)) = true := decide_eq_true c4
        clear c4
        by_cases c5 : 0 ≤ x9_1
        · rw [if_pos c5] at H
          have c5b0 : decide (0 ≤ x9_1) = true := decide_eq_true c5
          clear c5
          by_cases c6 : x9_1 < (l0.length : Int)
          · rw [if_pos c6] at H
            have c6b0 : decide (x9_1 < (l0.length : Int)) = true := decide_eq_true c6
            clear c6
            by_cases c7 : x3_1.length < 140737488355328
            · rw [if_pos c7] at H
              have LMc7 := Aside0.mk c7
              clear c7
              obtain ⟨y402, hy402⟩ : ∃ y_ : List Int, y_ = (x3_1 ++ [(rd l0 x9_1) % 256]) := ⟨_, rfl⟩
              replace H : (impl_oneByte.l0 k1 y402 l0 (l0.length : Int) (wrap64 (x9_1 + 1))) = some r := by first | (rw [hy402]; with_reducible exact H) | (have H2_ := (Option.bind_some _ _).symm.trans H; rw [hy402]; with_reducible exact H2_) | (have H2_ := (Option.bind_some _ _).symm.trans H; with_reducible exact H2_) | with_reducible exact H | (rw [hy402]; exact H) | exact H
              have Ny402 := Aside0.mk hy402
              clear hy402
              have H' := Aside0.mk H
              clear H
              have p401 : 0 ≤ (x9_1 : Int) := of_decide_eq_true (by first | (with_reducible assumption) | assumption)
              have q401 : x9_1 < (l0.length : Int) := of_decide_eq_true (by first | (with_reducible assumption) | assumption)
              obtain ⟨ad401, e401, hx401_0⟩ := Kd.at_int HR0.out x9_1 p401 q401
              cases e401
              replace hx401_0 := (HB.out.cell (World.block_lt_of_cell? w _ hx401_0)).trans hx401_0
              replace p401 := eq_true p401
              replace q401 := eq_true q401
              go_wp2_with (first | ((with_reducible refine gate_builtin (b := .append) (xs := #[.tmp 13, .tmp 16]) rfl ?_); at_builtin; refine Kd.R_append (Kd.int .u8) (w0 := w) w.heap.size rfl (.tmp 13) (.tmp 16) 22 5 (.int .u8 0) 1 rfl Try.underlying22 info5 rfl (by decide) (by omega) u3 x3_1 ((rd l0 x9_1) % 256) [.int .u8 ((rd l0 x9_1) % 256)] (fun _ => True) (fun _ => False) rfl rfl ?aP (fun _ hk => hk.elim) ?aF ?aO ?aB ?aS ?aL ?_; (case aP => exact rfl); (case aB => exact (by repeat (first | (with_reducible first | exact HB.out | apply below_alloc | apply pw_below_drewN | apply below_drew1) | exact HB.out))); (case aF => exact (fun _ _ => trivial)); (case aO => exact (by (with_reducible repeat (first | apply Kd.R_alloc | apply Kd.R_drewN | apply Kd.R_drew)); exact HO_3.out)); (case aS => exact (below_size (by repeat (first | (with_reducible first | exact HB.out | apply below_alloc | apply pw_below_drewN | apply below_drew1) | exact HB.out)))); (case aL => have := LMc7.out; omega); intro v403 w8 ho hb hg hat; rw [← Ny402.out] at ho; have n0_ := Aside0.mk (hb); have n1_ := Aside0.mk (ho); clear HB; clear HO_3; have HB := n0_; have HO404 := n1_; clear n0_ n1_; clear ho hb hg hat))
              go_roundg k1
              case measure => have := HK1.out; omega
              case rel => exact ⟨(y402), (wrap64 (x9_1 + 1)), (by first | rfl | (simp; done) | (simp [*]; done)), H', ⟨by have := HK1.out; omega⟩, ⟨by (with_reducible repeat (first | apply Kd.R_alloc | apply Kd.R_drewN | apply Kd.R_drew)); exact HO404.out⟩, ⟨by repeat (first | (with_reducible first | exact HB.out | apply below_alloc | apply pw_below_drewN | apply below_drew1) | exact HB.out)⟩⟩
            · rw [if_neg c7] at H
              exact absurd H (by simp)
          · rw [if_neg c6] at H
            exact absurd H (by simp)
        · rw [if_neg c5] at H
          exact absurd H (by simp)
      · rw [if_neg c4] at H
        have c4b0 : decide (x9_1 < (l0.length : Int)) = false := decide_eq_false c4
        clear c4
        obtain rfl := Option.some.inj H
        have hcv9 := own_string (P := Try.prog) Try.underlying22 Try.underlying5 Try.underlying9 (Kd.own_of_R HO_3.out)
        go_wp2
        go_ret
        exact ⟨by first | rfl | (simp [errW_none, errW_some] <;> rfl) | (simp [*, errW_none, errW_some] <;> rfl), by repeat (first | (with_reducible first | exact HB.out | apply below_alloc | apply pw_below_drewN | apply below_drew1) | exact HB.out)⟩
end Go.Proofs.Ytmljihfaapoakaa.PFnMessages
end
