import Derived.Test.YtmljihfaapoakaaSMessagesA
import Derived.Test.YtmljihfaapoakaaSMessagesJ
import Derived.Test.YtmljihfaapoakaaSMessagesK
import Derived.Test.YtmljihfaapoakaaSMessagesI
import Derived.Deep.Cut
import Derived.Test.YtmljihfaapoakaaSMessagesD

section
namespace Go.Proofs.Ytmljihfaapoakaa.PFnMessages
open Go.RowKit Go.Proofs.YtmljihfaapoakaaW.PrintWords Go.Proofs.YtmljihfaapoakaaW.PrintLast Go.Proofs.YtmljihfaapoakaaW.PrintMore
set_option linter.unusedVariables false
set_option linter.unusedSimpArgs false
def IsS48 (w0 W : World) (g : Nat) (f0 : ByteArray) (f1 : Int) (f2 : Bool) : Prop := W.heap[g]? = some (.cells #[.string f0, .int .i64 f1, .bool f2] 48 (0, 0)) ∧ w0.heap.size ≤ g
theorem IsS48.grown {w0 W : World} {g : Nat} {f0 : ByteArray} {f1 : Int} {f2 : Bool} {W1 : World} {row : Option Nat} (h : IsS48 w0 W g f0 f1 f2) (hw : W.grownBy W1 row) (hne : some g ≠ row) : IsS48 w0 W1 g f0 f1 f2 := by
  obtain ⟨hb, hg⟩ := h
  exact ⟨blk_grown hb hw hne, hg⟩
theorem IsS48.kept {w0 W : World} {g : Nat} {f0 : ByteArray} {f1 : Int} {f2 : Bool} {W1 : World} {S : Nat → Prop} (h : IsS48 w0 W g f0 f1 f2) (hk : Kept W W1 S) (hne : ¬ S g) : IsS48 w0 W1 g f0 f1 f2 := by
  obtain ⟨hb, hg⟩ := h
  exact ⟨blk_kept hb hk hne, hg⟩
theorem IsS48.below {w0 W : World} {g : Nat} {f0 : ByteArray} {f1 : Int} {f2 : Bool} {W1 : World} (h : IsS48 w0 W g f0 f1 f2) (hw : Below W.heap.size W W1) : IsS48 w0 W1 g f0 f1 f2 := h.grown (grown_of_below hw none) (by simp)
theorem IsS48.alloc {w0 W : World} {g : Nat} {f0 : ByteArray} {f1 : Int} {f2 : Bool} (h : IsS48 w0 W g f0 f1 f2) (o : Obj) : IsS48 w0 (W.alloc o) g f0 f1 f2 := h.below (below_alloc (Below.refl _ _) o)
theorem IsS48.drewN {w0 W : World} {g : Nat} {f0 : ByteArray} {f1 : Int} {f2 : Bool} (h : IsS48 w0 W g f0 f1 f2) (m : Nat) : IsS48 w0 (W.drewN m) g f0 f1 f2 := h
theorem IsS48.drew {w0 W : World} {g : Nat} {f0 : ByteArray} {f1 : Int} {f2 : Bool} (h : IsS48 w0 W g f0 f1 f2) : IsS48 w0 W.drew g f0 f1 f2 := h
theorem IsS48.at_ {w0 W : World} {g : Nat} {f0 : ByteArray} {f1 : Int} {f2 : Bool} {w' : World} {m : Nat} (hq : W.drewN m = w') (h : IsS48 w0 W g f0 f1 f2) : IsS48 w0 w' g f0 f1 f2 := by subst hq; exact IsS48.drewN h m
theorem IsS48.apart {w0 W : World} {g : Nat} {f0 : ByteArray} {f1 : Int} {f2 : Bool} {α : Type} {d : Kd α} {e : Nat} {base : Nat} {ok : Nat → Prop} {v : Value} {xs : List α} (h : IsS48 w0 W g f0 f1 f2) (ho : d.R e W base ok v xs) (ht : ∀ q, q ∈ e :: d.E → q ≠ 48) : d.R e W base (fun k => ok k ∧ k ≠ g) v xs := by
  obtain ⟨hb, hg⟩ := h
  exact Kd.R_types ho hb ht
theorem IsS48.own_ne {w0 W : World} {g : Nat} {f0 : ByteArray} {f1 : Int} {f2 : Bool} {α : Type} {d : Kd α} {e : Nat} {base : Nat} {ok : Nat → Prop} {v : Value} {xs : List α} (h : IsS48 w0 W g f0 f1 f2) (ho : d.R e W base ok v xs) (ht : e ≠ 48) : some g ≠ v.ownBlock := by
  obtain ⟨hb, hg⟩ := h
  exact Kd.R_ne ho hb ht
theorem IsS48.lt {w0 W : World} {g : Nat} {f0 : ByteArray} {f1 : Int} {f2 : Bool} (h : IsS48 w0 W g f0 f1 f2) : g < W.heap.size := by
  obtain ⟨hb, hg⟩ := h
  exact blk_lt hb
theorem IsS48.ge {w0 W : World} {g : Nat} {f0 : ByteArray} {f1 : Int} {f2 : Bool} (h : IsS48 w0 W g f0 f1 f2) : w0.heap.size ≤ g := by
  obtain ⟨hb, hg⟩ := h
  exact hg
theorem IsS48.far {w0 W : World} {g : Nat} {f0 : ByteArray} {f1 : Int} {f2 : Bool} {p : Addr} (h : IsS48 w0 W g f0 f1 f2) (hne : g ≠ p.block) (u : Value) : IsS48 w0 (W.setCell p u) g f0 f1 f2 := by
  obtain ⟨hb, hg⟩ := h
  exact ⟨blk_far hb hne u, hg⟩
theorem cellS48_0 {W : World} {g : Nat} {f0 : ByteArray} {f1 : Int} {f2 : Bool} (h : W.heap[g]? = some (.cells #[.string f0, .int .i64 f1, .bool f2] 48 (0, 0))) : W.cell? ⟨g, 0, none⟩ = some (.string f0) := (blk_cell h 0).trans rfl
theorem IsS48.set_0 {w0 W : World} {g : Nat} {f0 : ByteArray} {f1 : Int} {f2 : Bool} (h : IsS48 w0 W g f0 f1 f2) (x : ByteArray) : IsS48 w0 (W.setCell ⟨g, 0, none⟩ (.string x)) g x f1 f2 := by
  obtain ⟨hb, hg⟩ := h
  exact ⟨by simpa using blk_set hb 0 (.string x), hg⟩
theorem cellS48_1 {W : World} {g : Nat} {f0 : ByteArray} {f1 : Int} {f2 : Bool} (h : W.heap[g]? = some (.cells #[.string f0, .int .i64 f1, .bool f2] 48 (0, 0))) : W.cell? ⟨g, 1, none⟩ = some (.int .i64 f1) := (blk_cell h 1).trans rfl
theorem IsS48.set_1 {w0 W : World} {g : Nat} {f0 : ByteArray} {f1 : Int} {f2 : Bool} (h : IsS48 w0 W g f0 f1 f2) (x : Int) : IsS48 w0 (W.setCell ⟨g, 1, none⟩ (.int .i64 x)) g f0 x f2 := by
  obtain ⟨hb, hg⟩ := h
  exact ⟨by simpa using blk_set hb 1 (.int .i64 x), hg⟩
theorem cellS48_2 {W : World} {g : Nat} {f0 : ByteArray} {f1 : Int} {f2 : Bool} (h : W.heap[g]? = some (.cells #[.string f0, .int .i64 f1, .bool f2] 48 (0, 0))) : W.cell? ⟨g, 2, none⟩ = some (.bool f2) := (blk_cell h 2).trans rfl
theorem IsS48.set_2 {w0 W : World} {g : Nat} {f0 : ByteArray} {f1 : Int} {f2 : Bool} (h : IsS48 w0 W g f0 f1 f2) (x : Bool) : IsS48 w0 (W.setCell ⟨g, 2, none⟩ (.bool x)) g f0 f1 x := by
  obtain ⟨hb, hg⟩ := h
  exact ⟨by simpa using blk_set hb 2 (.bool x), hg⟩
theorem IsS48.new (w0 W : World) (f0 : ByteArray) (f1 : Int) (f2 : Bool) (hB : Below w0.heap.size w0 W) : IsS48 w0 (W.alloc (.cells #[.string f0, .int .i64 f1, .bool f2] 48)) W.heap.size f0 f1 f2 := ⟨by simpa using heap_alloc_new W _, hB.size⟩
def impl_reader_byte.f (s0_0 : ByteArray) (s0_1 : Int) (s0_2 : Bool) : Option (Int × ByteArray × Int × Bool) := if s0_2 = true then (some (0, s0_0, s0_1, true)) else (if s0_1 ≥ (s0_0.size : Int) then (some (0, s0_0, s0_1, true)) else (if 0 ≤ (wrap64 ((wrap64 (s0_1 + 1)) - 1)) then (if (wrap64 ((wrap64 (s0_1 + 1)) - 1)) < (s0_0.size : Int) then (some (wrap64 (bt s0_0 (wrap64 ((wrap64 (s0_1 + 1)) - 1))), s0_0, wrap64 (s0_1 + 1), s0_2)) else (none)) else (none)))
set_option maxHeartbeats 8000000 in
set_option maxRecDepth 100000 in
theorem impl_reader_byte.calls (g : Nat) (s0_0 : ByteArray) (s0_1 : Int) (s0_2 : Bool) (r1 : Int) (r2 : ByteArray) (r3 : Int) (r4 : Bool) (w0 w : World) (hI : IsS48 w0 w g s0_0 s0_1 s0_2) (hB : Below w0.heap.size w0 w) (h : impl_reader_byte.f s0_0 s0_1 s0_2 = some (r1, r2, r3, r4)) :
    Calls Try.prog 20 #[.pointer (some ⟨g, 0, none⟩)] w fun e w' => e = .returned (.int .i64 r1) ∧ IsS48 w0 w' g r2 r3 r4 ∧ Below w0.heap.size w0 w' ∧ KeepBut w w' g none := by
  have HI0 := Aside0.mk hI
  have HK := Aside0.mk (KeepBut.refl w g none)
  have HL := Aside0.mk hB.size
  clear hI
  have HW0 := Aside0.mk hB.size
  have HB := Aside0.mk hB
  clear hB
  have H : (if s0_2 = true then (some (0, s0_0, s0_1, true)) else (if s0_1 ≥ (s0_0.size : Int) then (some (0, s0_0, s0_1, true)) else (if 0 ≤ (wrap64 ((wrap64 (s0_1 + 1)) - 1)) then (if (wrap64 ((wrap64 (s0_1 + 1)) - 1)) < (s0_0.size : Int) then (some (wrap64 (bt s0_0 (wrap64 ((wrap64 (s0_1 + 1)) - 1))), s0_0, wrap64 (s0_1 + 1), s0_2)) else (none)) else (none)))) = some (r1, r2, r3, r4) := h
  clear h
  by_cases c2 : s0_2 = true
  · subst c2
    have H1 : (some (0, s0_0, s0_1, true)) = some (r1, r2, r3, r4) := by rw [if_pos rfl] at H; exact H
    clear H
    have H := H1
    clear H1
    simp only [Option.some.injEq, Prod.mk.injEq] at H
    obtain ⟨rfl, rfl, rfl, rfl⟩ := H
    obtain ⟨HGz3, hgz3⟩ := HI0.out
    have hcz3_0 := cellS48_0 HGz3
    have hcz3_1 := cellS48_1 HGz3
    have hcz3_2 := cellS48_2 HGz3
    have hfz3_0 := blk_frozen HGz3 0
    have hfz3_1 := blk_frozen HGz3 1
    have hfz3_2 := blk_frozen HGz3 2
    clear HGz3 hgz3
    go_enter Try.func20, Try.ntmps20
    go_wp2
    repeat (go_quiet (fail); try go_wp2)
    go_ret
    exact ⟨by first | rfl | (simp [errW_none, errW_some] <;> rfl) | (simp [*, errW_none, errW_some] <;> rfl), by repeat (first | (with_reducible first | exact HI0.out | apply IsS48.alloc | apply IsS48.drewN | apply IsS48.drew | apply IsS48.set_0 | apply IsS48.set_1 | apply IsS48.set_2) | exact HI0.out), by repeat (first | (with_reducible first | exact HB.out | apply below_alloc | apply pw_below_drewN | apply below_drew1 | refine below_set ?_ (IsS48.ge HI0.out)) | exact HB.out), by repeat (first | (with_reducible first | exact HK.out | apply KeepBut.set_ | apply keep_drewN | apply keep_drew | apply keep_alloc) | exact HK.out)⟩
  · replace c2 := Bool.eq_false_iff.mpr c2
    subst c2
    have H1 : (if s0_1 ≥ (s0_0.size : Int) then (some (0, s0_0, s0_1, true)) else (if 0 ≤ (wrap64 ((wrap64 (s0_1 + 1)) - 1)) then (if (wrap64 ((wrap64 (s0_1 + 1)) - 1)) < (s0_0.size : Int) then (some (wrap64 (bt s0_0 (wrap64 ((wrap64 (s0_1 + 1)) - 1))), s0_0, wrap64 (s0_1 + 1), false)) else (none)) else (none))) = some (r1, r2, r3, r4) := by rw [if_neg (show ¬ (false = true) by decide)] at H; exact H
    clear H
    have H := H1
    clear H1
    by_cases c4 : s0_1 ≥ (s0_0.size : Int)
    · rw [if_pos c4] at H
      have c4b0 : decide ((s0_0.size : Int) ≤ s0_1) = true := decide_eq_true c4
      clear c4
      simp only [Option.some.injEq, Prod.mk.injEq] at H
      obtain ⟨rfl, rfl, rfl, rfl⟩ := H
      obtain ⟨HGz5, hgz5⟩ := HI0.out
      have hcz5_0 := cellS48_0 HGz5
      have hcz5_1 := cellS48_1 HGz5
      have hcz5_2 := cellS48_2 HGz5
      have hfz5_0 := blk_frozen HGz5 0
      have hfz5_1 := blk_frozen HGz5 1
      have hfz5_2 := blk_frozen HGz5 2
      clear HGz5 hgz5
      go_enter Try.func20, Try.ntmps20
      go_wp2
      repeat (go_quiet (fail); try go_wp2)
      go_ret
      exact ⟨by first | rfl | (simp [errW_none, errW_some] <;> rfl) | (simp [*, errW_none, errW_some] <;> rfl), by repeat (first | (with_reducible first | exact HI0.out | apply IsS48.alloc | apply IsS48.drewN | apply IsS48.drew | apply IsS48.set_0 | apply IsS48.set_1 | apply IsS48.set_2) | exact HI0.out), by repeat (first | (with_reducible first | exact HB.out | apply below_alloc | apply pw_below_drewN | apply below_drew1 | refine below_set ?_ (IsS48.ge HI0.out)) | exact HB.out), by repeat (first | (with_reducible first | exact HK.out | apply KeepBut.set_ | apply keep_drewN | apply keep_drew | apply keep_alloc) | exact HK.out)⟩
    · rw [if_neg c4] at H
      have c4b0 : decide ((s0_0.size : Int) ≤ s0_1) = false := decide_eq_false c4
      clear c4
      obtain ⟨ji6, hji6⟩ : ∃ j_ : Int, (wrap64 ((wrap64 (s0_1 + 1)) - 1)) = j_ := ⟨_, rfl⟩
      replace H : (if 0 ≤ (ji6) then (if (ji6) < (s0_0.size : Int) then (some (wrap64 (bt s0_0 (ji6)), s0_0, wrap64 (s0_1 + 1), false)) else (none)) else (none)) = some (r1, r2, r3, r4) := by first | (rw [hji6] at H; exact H) | (simp only [hji6] at H ⊢; exact H)
      have hji6w : (IntKind.i64.wrap ((wrap64 (s0_1 + 1)) - 1)) = ji6 := (i64_w _).trans hji6
      by_cases c7 : 0 ≤ (ji6)
      · rw [if_pos c7] at H
        have c7b0 : decide (0 ≤ (ji6)) = true := decide_eq_true c7
        clear c7
        by_cases c8 : (ji6) < (s0_0.size : Int)
        · rw [if_pos c8] at H
          have c8b0 : decide ((ji6) < (s0_0.size : Int)) = true := decide_eq_true c8
          clear c8
          simp only [Option.some.injEq, Prod.mk.injEq] at H
          obtain ⟨rfl, rfl, rfl, rfl⟩ := H
          obtain ⟨HGz10, hgz10⟩ := HI0.out
          have hcz10_0 := cellS48_0 HGz10
          have hcz10_1 := cellS48_1 HGz10
          have hcz10_2 := cellS48_2 HGz10
          have hfz10_0 := blk_frozen HGz10 0
          have hfz10_1 := blk_frozen HGz10 1
          have hfz10_2 := blk_frozen HGz10 2
          clear HGz10 hgz10
          have p9 : 0 ≤ ((ji6) : Int) := of_decide_eq_true (by first | (with_reducible assumption) | assumption)
          have q9 : (ji6) < (s0_0.size : Int) := of_decide_eq_true (by first | (with_reducible assumption) | assumption)
          have hx9 := bt_at s0_0 (ji6)
          replace p9 := eq_true p9
          replace q9 := eq_true q9
          go_enter Try.func20, Try.ntmps20
          go_wp2
          repeat (go_quiet (fail); try go_wp2)
          go_ret
          exact ⟨by first | rfl | (simp [errW_none, errW_some] <;> rfl) | (simp only [← hji6]; first | rfl | (simp [errW_none, errW_some] <;> rfl)) | (simp [*, errW_none, errW_some] <;> rfl), by repeat (first | (with_reducible first | exact HI0.out | apply IsS48.alloc | apply IsS48.drewN | apply IsS48.drew | apply IsS48.set_0 | apply IsS48.set_1 | apply IsS48.set_2) | exact HI0.out), by repeat (first | (with_reducible first | exact HB.out | apply below_alloc | apply pw_below_drewN | apply below_drew1 | refine below_set ?_ (IsS48.ge HI0.out)) | exact HB.out), by repeat (first | (with_reducible first | exact HK.out | apply KeepBut.set_ | apply keep_drewN | apply keep_drew | apply keep_alloc) | exact HK.out)⟩
        · rw [if_neg c8] at H
          exact absurd H (by simp)
      · rw [if_neg c7] at H
        exact absurd H (by simp)
end Go.Proofs.Ytmljihfaapoakaa.PFnMessages
end

section
namespace Go.Proofs.Ytmljihfaapoakaa.PFnMessages
open Go.RowKit Go.Proofs.YtmljihfaapoakaaW.PrintWords Go.Proofs.YtmljihfaapoakaaW.PrintLast Go.Proofs.YtmljihfaapoakaaW.PrintMore
set_option linter.unusedVariables false
set_option linter.unusedSimpArgs false
def impl_reader_done.f (s0_0 : ByteArray) (s0_1 : Int) (s0_2 : Bool) : Option (Bool × ByteArray × Int × Bool) := if s0_2 = true then (some (false, s0_0, s0_1, s0_2)) else (some ((s0_1 == (s0_0.size : Int)), s0_0, s0_1, s0_2))
set_option maxHeartbeats 8000000 in
set_option maxRecDepth 100000 in
theorem impl_reader_done.calls (g : Nat) (s0_0 : ByteArray) (s0_1 : Int) (s0_2 : Bool) (r1 : Bool) (r2 : ByteArray) (r3 : Int) (r4 : Bool) (w0 w : World) (hI : IsS48 w0 w g s0_0 s0_1 s0_2) (hB : Below w0.heap.size w0 w) (h : impl_reader_done.f s0_0 s0_1 s0_2 = some (r1, r2, r3, r4)) :
    Calls Try.prog 27 #[.pointer (some ⟨g, 0, none⟩)] w fun e w' => e = .returned (.bool r1) ∧ IsS48 w0 w' g r2 r3 r4 ∧ Below w0.heap.size w0 w' ∧ KeepBut w w' g none := by
  have HI0 := Aside0.mk hI
  have HK := Aside0.mk (KeepBut.refl w g none)
  have HL := Aside0.mk hB.size
  clear hI
  have HW0 := Aside0.mk hB.size
  have HB := Aside0.mk hB
  clear hB
  have H : (if s0_2 = true then (some (false, s0_0, s0_1, s0_2)) else (some ((s0_1 == (s0_0.size : Int)), s0_0, s0_1, s0_2))) = some (r1, r2, r3, r4) := h
  clear h
  by_cases c2 : s0_2 = true
  · subst c2
    have H1 : (some (false, s0_0, s0_1, true)) = some (r1, r2, r3, r4) := by rw [if_pos rfl] at H; exact H
    clear H
    have H := H1
    clear H1
    simp only [Option.some.injEq, Prod.mk.injEq] at H
    obtain ⟨rfl, rfl, rfl, rfl⟩ := H
    obtain ⟨HGz3, hgz3⟩ := HI0.out
    have hcz3_0 := cellS48_0 HGz3
    have hcz3_1 := cellS48_1 HGz3
    have hcz3_2 := cellS48_2 HGz3
    have hfz3_0 := blk_frozen HGz3 0
    have hfz3_1 := blk_frozen HGz3 1
    have hfz3_2 := blk_frozen HGz3 2
    clear HGz3 hgz3
    go_enter Try.func27, Try.ntmps27
    go_wp2
    repeat (go_quiet (fail); try go_wp2)
    go_ret
    exact ⟨by first | rfl | (simp [errW_none, errW_some] <;> rfl) | (simp [*, errW_none, errW_some] <;> rfl), by repeat (first | (with_reducible first | exact HI0.out | apply IsS48.alloc | apply IsS48.drewN | apply IsS48.drew | apply IsS48.set_0 | apply IsS48.set_1 | apply IsS48.set_2) | exact HI0.out), by repeat (first | (with_reducible first | exact HB.out | apply below_alloc | apply pw_below_drewN | apply below_drew1 | refine below_set ?_ (IsS48.ge HI0.out)) | exact HB.out), by repeat (first | (with_reducible first | exact HK.out | apply KeepBut.set_ | apply keep_drewN | apply keep_drew | apply keep_alloc) | exact HK.out)⟩
  · replace c2 := Bool.eq_false_iff.mpr c2
    subst c2
    have H1 : (some ((s0_1 == (s0_0.size : Int)), s0_0, s0_1, false)) = some (r1, r2, r3, r4) := by rw [if_neg (show ¬ (false = true) by decide)] at H; exact H
    clear H
    have H := H1
    clear H1
    simp only [Option.some.injEq, Prod.mk.injEq] at H
    obtain ⟨rfl, rfl, rfl, rfl⟩ := H
    obtain ⟨HGz4, hgz4⟩ := HI0.out
    have hcz4_0 := cellS48_0 HGz4
    have hcz4_1 := cellS48_1 HGz4
    have hcz4_2 := cellS48_2 HGz4
    have hfz4_0 := blk_frozen HGz4 0
    have hfz4_1 := blk_frozen HGz4 1
    have hfz4_2 := blk_frozen HGz4 2
    clear HGz4 hgz4
    go_enter Try.func27, Try.ntmps27
    go_wp2
    repeat (go_quiet (fail); try go_wp2)
    go_ret
    exact ⟨by first | rfl | (simp [errW_none, errW_some] <;> rfl) | (simp [*, errW_none, errW_some] <;> rfl), by repeat (first | (with_reducible first | exact HI0.out | apply IsS48.alloc | apply IsS48.drewN | apply IsS48.drew | apply IsS48.set_0 | apply IsS48.set_1 | apply IsS48.set_2) | exact HI0.out), by repeat (first | (with_reducible first | exact HB.out | apply below_alloc | apply pw_below_drewN | apply below_drew1 | refine below_set ?_ (IsS48.ge HI0.out)) | exact HB.out), by repeat (first | (with_reducible first | exact HK.out | apply KeepBut.set_ | apply keep_drewN | apply keep_drew | apply keep_alloc) | exact HK.out)⟩
end Go.Proofs.Ytmljihfaapoakaa.PFnMessages
end

section
namespace Go.Proofs.Ytmljihfaapoakaa.PFnMessages
open Go.RowKit Go.Proofs.YtmljihfaapoakaaW.PrintWords Go.Proofs.YtmljihfaapoakaaW.PrintLast Go.Proofs.YtmljihfaapoakaaW.PrintMore
set_option linter.unusedVariables false
set_option linter.unusedSimpArgs false
def impl_ReadShort.f (k : Nat) (a0 : ByteArray) (a1 : Int) : Option (ByteArray × Int × Bool) := (impl_ReadVar.f k a0 a1).bind fun bt489 => (if bt489.2.2 = true then (if bt489.1 > 20000 then (some ((⟨#[]⟩ : ByteArray), 0, false)) else (if bt489.1 > (wrap64 ((a0.size : Int) - bt489.2.1)) then (some ((⟨#[]⟩ : ByteArray), 0, false)) else (if 0 ≤ bt489.2.1 then (if bt489.2.1 ≤ (wrap64 (bt489.2.1 + bt489.1)) then (if (wrap64 (bt489.2.1 + bt489.1)) ≤ (a0.size : Int) then (some (a0.extract (bt489.2.1 : Int).toNat ((wrap64 (bt489.2.1 + bt489.1)) : Int).toNat, wrap64 (bt489.2.1 + bt489.1), true)) else (none)) else (none)) else (none)))) else (some ((⟨#[]⟩ : ByteArray), 0, false)))
theorem impl_ReadShort.mono : ∀ a0 a1 k, LeO (impl_ReadShort.f k a0 a1) (impl_ReadShort.f (k + 1) a0 a1) := by
  intro a0 a1 k
  unfold impl_ReadShort.f
  repeat' first
      | (with_reducible exact impl_ReadVar.mono _ _ _)
      | (with_reducible exact LeO.refl _)
      | (with_reducible exact LeO.none _)
      | (with_reducible refine LeO.ite ?_ ?_)
      | (with_reducible refine LeO.bind ?_ (fun _ => ?_))
      | exact impl_ReadVar.mono _ _ _
      | exact LeO.none _
      | refine LeO.ite ?_ ?_
      | refine LeO.bind ?_ (fun _ => ?_)
set_option maxHeartbeats 8000000 in
set_option maxRecDepth 100000 in
theorem impl_ReadShort.calls (k : Nat) (a0 : ByteArray) (a1 : Int) (r1 : ByteArray) (r2 : Int) (r3 : Bool) (w : World) (h : impl_ReadShort.f k a0 a1 = some (r1, r2, r3)) :
    Calls Try.prog 52 #[.string a0, .int .i64 a1] w fun e w' => e = .returned (.tuple #[.string r1, .int .i64 r2, .bool r3]) ∧ Drawn0 w w' := by
  have H : ((impl_ReadVar.f k a0 a1).bind fun bt489 => (if bt489.2.2 = true then (if bt489.1 > 20000 then (some ((⟨#[]⟩ : ByteArray), 0, false)) else (if bt489.1 > (wrap64 ((a0.size : Int) - bt489.2.1)) then (some ((⟨#[]⟩ : ByteArray), 0, false)) else (if 0 ≤ bt489.2.1 then (if bt489.2.1 ≤ (wrap64 (bt489.2.1 + bt489.1)) then (if (wrap64 (bt489.2.1 + bt489.1)) ≤ (a0.size : Int) then (some (a0.extract (bt489.2.1 : Int).toNat ((wrap64 (bt489.2.1 + bt489.1)) : Int).toNat, wrap64 (bt489.2.1 + bt489.1), true)) else (none)) else (none)) else (none)))) else (some ((⟨#[]⟩ : ByteArray), 0, false)))) = some (r1, r2, r3) := h
  clear h
  replace H := Option.bind_eq_some_iff.mp H
  obtain ⟨⟨t489, t490, t491⟩, A30, H⟩ := H
  replace H : (if t491 = true then (if t489 > 20000 then (some ((⟨#[]⟩ : ByteArray), 0, false)) else (if t489 > (wrap64 ((a0.size : Int) - t490)) then (some ((⟨#[]⟩ : ByteArray), 0, false)) else (if 0 ≤ t490 then (if t490 ≤ (wrap64 (t490 + t489)) then (if (wrap64 (t490 + t489)) ≤ (a0.size : Int) then (some (a0.extract (t490 : Int).toNat ((wrap64 (t490 + t489)) : Int).toNat, wrap64 (t490 + t489), true)) else (none)) else (none)) else (none)))) else (some ((⟨#[]⟩ : ByteArray), 0, false))) = some (r1, r2, r3) := H
  have A3 := Aside0.mk A30
  clear A30
  by_cases c4 : t491 = true
  · subst c4
    have H1 : (if t489 > 20000 then (some ((⟨#[]⟩ : ByteArray), 0, false)) else (if t489 > (wrap64 ((a0.size : Int) - t490)) then (some ((⟨#[]⟩ : ByteArray), 0, false)) else (if 0 ≤ t490 then (if t490 ≤ (wrap64 (t490 + t489)) then (if (wrap64 (t490 + t489)) ≤ (a0.size : Int) then (some (a0.extract (t490 : Int).toNat ((wrap64 (t490 + t489)) : Int).toNat, wrap64 (t490 + t489), true)) else (none)) else (none)) else (none)))) = some (r1, r2, r3) := by rw [if_pos rfl] at H; exact H
    clear H
    have H := H1
    clear H1
    by_cases c5 : t489 > 20000
    · rw [if_pos c5] at H
      have c5b0 : decide (20000 < t489) = true := decide_eq_true c5
      clear c5
      simp only [Option.some.injEq, Prod.mk.injEq] at H
      obtain ⟨rfl, rfl, rfl⟩ := H
      go_enter Try.func52, Try.ntmps52
      go_wp2_with (first | ((with_reducible refine gate_callee (f := 50) rfl ?_); refine goesL_ (some 13) rfl rfl Try.func50 (by kernel_rfl) rfl #[.string a0, .int .i64 a1] rfl (by (try simp only [List.map_toArray, List.map_cons, List.map_nil]); first | done | rfl | (simp only [List.length_drop, List.length_take]; rfl)) ?_; (with_reducible refine (impl_ReadVar.calls k a0 a1 t489 t490 true _ A3.out).mono ?_); rintro e w' ⟨rfl, ⟨nd, rfl⟩⟩; refine ⟨_, rfl, ?_⟩))
      go_ret3
      exact ⟨by first | rfl | (simp; done) | (simp [*]; done), by repeat (first | exact Drawn0.refl _ | apply Drawn0.step)⟩
    · rw [if_neg c5] at H
      have c5b0 : decide (20000 < t489) = false := decide_eq_false c5
      clear c5
      by_cases c6 : t489 > (wrap64 ((a0.size : Int) - t490))
      · rw [if_pos c6] at H
        have c6b0 : decide ((wrap64 ((a0.size : Int) - t490)) < t489) = true := decide_eq_true c6
        clear c6
        simp only [Option.some.injEq, Prod.mk.injEq] at H
        obtain ⟨rfl, rfl, rfl⟩ := H
        go_enter Try.func52, Try.ntmps52
        go_wp2_with (first | ((with_reducible refine gate_callee (f := 50) rfl ?_); refine goesL_ (some 13) rfl rfl Try.func50 (by kernel_rfl) rfl #[.string a0, .int .i64 a1] rfl (by (try simp only [List.map_toArray, List.map_cons, List.map_nil]); first | done | rfl | (simp only [List.length_drop, List.length_take]; rfl)) ?_; (with_reducible refine (impl_ReadVar.calls k a0 a1 t489 t490 true _ A3.out).mono ?_); rintro e w' ⟨rfl, ⟨nd, rfl⟩⟩; refine ⟨_, rfl, ?_⟩))
        go_ret3
        exact ⟨by first | rfl | (simp; done) | (simp [*]; done), by repeat (first | exact Drawn0.refl _ | apply Drawn0.step)⟩
      · rw [if_neg c6] at H
        have c6b0 : decide ((wrap64 ((a0.size : Int) - t490)) < t489) = false := decide_eq_false c6
        clear c6
        by_cases c7 : 0 ≤ t490
        · rw [if_pos c7] at H
          have c7b0 := eq_true c7
          have c7b1 : decide (0 ≤ t490) = true := decide_eq_true c7
          clear c7
          by_cases c8 : t490 ≤ (wrap64 (t490 + t489))
          · rw [if_pos c8] at H
            have c8b0 := eq_true c8
            have c8b1 : decide (t490 ≤ (wrap64 (t490 + t489))) = true := decide_eq_true c8
            by_cases c9 : (wrap64 (t490 + t489)) ≤ (a0.size : Int)
            · rw [if_pos c9] at H
              have c9b0 := eq_true c9
              have c9b1 : decide ((wrap64 (t490 + t489)) ≤ (a0.size : Int)) = true := decide_eq_true c9
              simp only [Option.some.injEq, Prod.mk.injEq] at H
              obtain ⟨rfl, rfl, rfl⟩ := H
              go_enter Try.func52, Try.ntmps52
              go_wp2_with (first | ((with_reducible refine gate_callee (f := 50) rfl ?_); refine goesL_ (some 13) rfl rfl Try.func50 (by kernel_rfl) rfl #[.string a0, .int .i64 a1] rfl (by (try simp only [List.map_toArray, List.map_cons, List.map_nil]); first | done | rfl | (simp only [List.length_drop, List.length_take]; rfl)) ?_; (with_reducible refine (impl_ReadVar.calls k a0 a1 t489 t490 true _ A3.out).mono ?_); rintro e w' ⟨rfl, ⟨nd, rfl⟩⟩; refine ⟨_, rfl, ?_⟩))
              go_ret3
              exact ⟨by first | rfl | (simp; done) | (simp [*]; done), by repeat (first | exact Drawn0.refl _ | apply Drawn0.step)⟩
            · rw [if_neg c9] at H
              exact absurd H (by simp)
          · rw [if_neg c8] at H
            exact absurd H (by simp)
        · rw [if_neg c7] at H
          exact absurd H (by simp)
  · replace c4 := Bool.eq_false_iff.mpr c4
    subst c4
    have H1 : (some ((⟨#[]⟩ : ByteArray), 0, false)) = some (r1, r2, r3) := by rw [if_neg (show ¬ (false = true) by decide)] at H; exact H
    clear H
    have H := H1
    clear H1
    simp only [Option.some.injEq, Prod.mk.injEq] at H
    obtain ⟨rfl, rfl, rfl⟩ := H
    go_enter Try.func52, Try.ntmps52
    go_wp2_with (first | ((with_reducible refine gate_callee (f := 50) rfl ?_); refine goesL_ (some 13) rfl rfl Try.func50 (by kernel_rfl) rfl #[.string a0, .int .i64 a1] rfl (by (try simp only [List.map_toArray, List.map_cons, List.map_nil]); first | done | rfl | (simp only [List.length_drop, List.length_take]; rfl)) ?_; (with_reducible refine (impl_ReadVar.calls k a0 a1 t489 t490 false _ A3.out).mono ?_); rintro e w' ⟨rfl, ⟨nd, rfl⟩⟩; refine ⟨_, rfl, ?_⟩))
    go_ret3
    exact ⟨by first | rfl | (simp; done) | (simp [*]; done), by repeat (first | exact Drawn0.refl _ | apply Drawn0.step)⟩
end Go.Proofs.Ytmljihfaapoakaa.PFnMessages
end

section
namespace Go.Proofs.Ytmljihfaapoakaa.PFnMessages
open Go.RowKit Go.Proofs.YtmljihfaapoakaaW.PrintWords Go.Proofs.YtmljihfaapoakaaW.PrintLast Go.Proofs.YtmljihfaapoakaaW.PrintMore
set_option linter.unusedVariables false
set_option linter.unusedSimpArgs false
def impl_reader_text.f (k : Nat) (s0_0 : ByteArray) (s0_1 : Int) (s0_2 : Bool) : Option (ByteArray × ByteArray × Int × Bool) := (impl_ReadShort.f k s0_0 s0_1).bind fun bt492 => (if s0_2 = true then (some ((⟨#[]⟩ : ByteArray), s0_0, s0_1, true)) else (if bt492.2.2 = true then (some (bt492.1, s0_0, bt492.2.1, s0_2)) else (some ((⟨#[]⟩ : ByteArray), s0_0, s0_1, true))))
theorem impl_reader_text.mono : ∀ a0 a1 a2 k, LeO (impl_reader_text.f k a0 a1 a2) (impl_reader_text.f (k + 1) a0 a1 a2) := by
  intro a0 a1 a2 k
  unfold impl_reader_text.f
  repeat' first
      | (with_reducible exact impl_ReadShort.mono _ _ _)
      | (with_reducible exact LeO.refl _)
      | (with_reducible exact LeO.none _)
      | (with_reducible refine LeO.ite ?_ ?_)
      | (with_reducible refine LeO.bind ?_ (fun _ => ?_))
      | exact impl_ReadShort.mono _ _ _
      | exact LeO.none _
      | refine LeO.ite ?_ ?_
      | refine LeO.bind ?_ (fun _ => ?_)
set_option maxHeartbeats 8000000 in
set_option maxRecDepth 100000 in
theorem impl_reader_text.calls (k : Nat) (g : Nat) (s0_0 : ByteArray) (s0_1 : Int) (s0_2 : Bool) (r1 : ByteArray) (r2 : ByteArray) (r3 : Int) (r4 : Bool) (w0 w : World) (hI : IsS48 w0 w g s0_0 s0_1 s0_2) (hB : Below w0.heap.size w0 w) (h : impl_reader_text.f k s0_0 s0_1 s0_2 = some (r1, r2, r3, r4)) :
    Calls Try.prog 25 #[.pointer (some ⟨g, 0, none⟩)] w fun e w' => e = .returned (.string r1) ∧ IsS48 w0 w' g r2 r3 r4 ∧ Below w0.heap.size w0 w' ∧ KeepBut w w' g none := by
  have HI0 := Aside0.mk hI
  have HK := Aside0.mk (KeepBut.refl w g none)
  have HL := Aside0.mk hB.size
  clear hI
  have HW0 := Aside0.mk hB.size
  have HB := Aside0.mk hB
  clear hB
  have H : ((impl_ReadShort.f k s0_0 s0_1).bind fun bt492 => (if s0_2 = true then (some ((⟨#[]⟩ : ByteArray), s0_0, s0_1, true)) else (if bt492.2.2 = true then (some (bt492.1, s0_0, bt492.2.1, s0_2)) else (some ((⟨#[]⟩ : ByteArray), s0_0, s0_1, true))))) = some (r1, r2, r3, r4) := h
  clear h
  replace H := Option.bind_eq_some_iff.mp H
  obtain ⟨⟨t492, t493, t494⟩, A20, H⟩ := H
  replace H : (if s0_2 = true then (some ((⟨#[]⟩ : ByteArray), s0_0, s0_1, true)) else (if t494 = true then (some (t492, s0_0, t493, s0_2)) else (some ((⟨#[]⟩ : ByteArray), s0_0, s0_1, true)))) = some (r1, r2, r3, r4) := H
  have A2 := Aside0.mk A20
  clear A20
  by_cases c3 : s0_2 = true
  · subst c3
    have H1 : (some ((⟨#[]⟩ : ByteArray), s0_0, s0_1, true)) = some (r1, r2, r3, r4) := by rw [if_pos rfl] at H; exact H
    clear H
    have H := H1
    clear H1
    simp only [Option.some.injEq, Prod.mk.injEq] at H
    obtain ⟨rfl, rfl, rfl, rfl⟩ := H
    obtain ⟨HGz4, hgz4⟩ := HI0.out
    have hcz4_0 := cellS48_0 HGz4
    have hcz4_1 := cellS48_1 HGz4
    have hcz4_2 := cellS48_2 HGz4
    have hfz4_0 := blk_frozen HGz4 0
    have hfz4_1 := blk_frozen HGz4 1
    have hfz4_2 := blk_frozen HGz4 2
    clear HGz4 hgz4
    go_enter Try.func25, Try.ntmps25
    go_wp2_with (first | (go_at_call 52; (with_reducible refine (impl_ReadShort.calls k s0_0 s0_1 t492 t493 t494 _ A2.out).mono ?_); rintro e w' ⟨rfl, ⟨nd, rfl⟩⟩; (try first | exact ⟨rfl, _, World.drewN_drewN _ _ _⟩ | exact ⟨rfl, _, Eq.trans (World.drewN_drewN _ _ _) (congrArg (World.drewN _) (Nat.add_assoc _ _ _))⟩)))
    repeat (go_quiet (first | (go_at_call 52; (with_reducible refine (impl_ReadShort.calls k s0_0 s0_1 t492 t493 t494 _ A2.out).mono ?_); rintro e w' ⟨rfl, ⟨nd, rfl⟩⟩; (try first | exact ⟨rfl, _, World.drewN_drewN _ _ _⟩ | exact ⟨rfl, _, Eq.trans (World.drewN_drewN _ _ _) (congrArg (World.drewN _) (Nat.add_assoc _ _ _))⟩))); try go_wp2_with (first | (go_at_call 52; (with_reducible refine (impl_ReadShort.calls k s0_0 s0_1 t492 t493 t494 _ A2.out).mono ?_); rintro e w' ⟨rfl, ⟨nd, rfl⟩⟩; (try first | exact ⟨rfl, _, World.drewN_drewN _ _ _⟩ | exact ⟨rfl, _, Eq.trans (World.drewN_drewN _ _ _) (congrArg (World.drewN _) (Nat.add_assoc _ _ _))⟩))))
    go_ret
    exact ⟨by first | rfl | (simp [errW_none, errW_some] <;> rfl) | (simp [*, errW_none, errW_some] <;> rfl), by repeat (first | (with_reducible first | exact HI0.out | apply IsS48.alloc | apply IsS48.drewN | apply IsS48.drew | apply IsS48.set_0 | apply IsS48.set_1 | apply IsS48.set_2) | exact HI0.out), by repeat (first | (with_reducible first | exact HB.out | apply below_alloc | apply pw_below_drewN | apply below_drew1 | refine below_set ?_ (IsS48.ge HI0.out)) | exact HB.out), by repeat (first | (with_reducible first | exact HK.out | apply KeepBut.set_ | apply keep_drewN | apply keep_drew | apply keep_alloc) | exact HK.out)⟩
  · replace c3 := Bool.eq_false_iff.mpr c3
    subst c3
    have H1 : (if t494 = true then (some (t492, s0_0, t493, false)) else (some ((⟨#[]⟩ : ByteArray), s0_0, s0_1, true))) = some (r1, r2, r3, r4) := by rw [if_neg (show ¬ (false = true) by decide)] at H; exact H
    clear H
    have H := H1
    clear H1
    by_cases c5 : t494 = true
    · subst c5
      have H1 : (some (t492, s0_0, t493, false)) = some (r1, r2, r3, r4) := by rw [if_pos rfl] at H; exact H
      clear H
      have H := H1
      clear H1
      simp only [Option.some.injEq, Prod.mk.injEq] at H
      obtain ⟨rfl, rfl, rfl, rfl⟩ := H
      obtain ⟨HGz6, hgz6⟩ := HI0.out
      have hcz6_0 := cellS48_0 HGz6
      have hcz6_1 := cellS48_1 HGz6
      have hcz6_2 := cellS48_2 HGz6
      have hfz6_0 := blk_frozen HGz6 0
      have hfz6_1 := blk_frozen HGz6 1
      have hfz6_2 := blk_frozen HGz6 2
      clear HGz6 hgz6
      go_enter Try.func25, Try.ntmps25
      go_wp2_with (first | (go_at_call 52; (with_reducible refine (impl_ReadShort.calls k s0_0 s0_1 t492 t493 true _ A2.out).mono ?_); rintro e w' ⟨rfl, ⟨nd, rfl⟩⟩; (try first | exact ⟨rfl, _, World.drewN_drewN _ _ _⟩ | exact ⟨rfl, _, Eq.trans (World.drewN_drewN _ _ _) (congrArg (World.drewN _) (Nat.add_assoc _ _ _))⟩)))
      repeat (go_quiet (first | (go_at_call 52; (with_reducible refine (impl_ReadShort.calls k s0_0 s0_1 t492 t493 true _ A2.out).mono ?_); rintro e w' ⟨rfl, ⟨nd, rfl⟩⟩; (try first | exact ⟨rfl, _, World.drewN_drewN _ _ _⟩ | exact ⟨rfl, _, Eq.trans (World.drewN_drewN _ _ _) (congrArg (World.drewN _) (Nat.add_assoc _ _ _))⟩))); try go_wp2_with (first | (go_at_call 52; (with_reducible refine (impl_ReadShort.calls k s0_0 s0_1 t492 t493 true _ A2.out).mono ?_); rintro e w' ⟨rfl, ⟨nd, rfl⟩⟩; (try first | exact ⟨rfl, _, World.drewN_drewN _ _ _⟩ | exact ⟨rfl, _, Eq.trans (World.drewN_drewN _ _ _) (congrArg (World.drewN _) (Nat.add_assoc _ _ _))⟩))))
      go_ret
      exact ⟨by first | rfl | (simp [errW_none, errW_some] <;> rfl) | (simp [*, errW_none, errW_some] <;> rfl), by repeat (first | (with_reducible first | exact HI0.out | apply IsS48.alloc | apply IsS48.drewN | apply IsS48.drew | apply IsS48.set_0 | apply IsS48.set_1 | apply IsS48.set_2) | exact HI0.out), by repeat (first | (with_reducible first | exact HB.out | apply below_alloc | apply pw_below_drewN | apply below_drew1 | refine below_set ?_ (IsS48.ge HI0.out)) | exact HB.out), by repeat (first | (with_reducible first | exact HK.out | apply KeepBut.set_ | apply keep_drewN | apply keep_drew | apply keep_alloc) | exact HK.out)⟩
    · replace c5 := Bool.eq_false_iff.mpr c5
      subst c5
      have H1 : (some ((⟨#[]⟩ : ByteArray), s0_0, s0_1, true)) = some (r1, r2, r3, r4) := by rw [if_neg (show ¬ (false = true) by decide)] at H; exact H
      clear H
      have H := H1
      clear H1
      simp only [Option.some.injEq, Prod.mk.injEq] at H
      obtain ⟨rfl, rfl, rfl, rfl⟩ := H
      obtain ⟨HGz7, hgz7⟩ := HI0.out
      have hcz7_0 := cellS48_0 HGz7
      have hcz7_1 := cellS48_1 HGz7
      have hcz7_2 := cellS48_2 HGz7
      have hfz7_0 := blk_frozen HGz7 0
      have hfz7_1 := blk_frozen HGz7 1
      have hfz7_2 := blk_frozen HGz7 2
      clear HGz7 hgz7
      go_enter Try.func25, Try.ntmps25
      go_wp2_with (first | (go_at_call 52; (with_reducible refine (impl_ReadShort.calls k s0_0 s0_1 t492 t493 false _ A2.out).mono ?_); rintro e w' ⟨rfl, ⟨nd, rfl⟩⟩; (try first | exact ⟨rfl, _, World.drewN_drewN _ _ _⟩ | exact ⟨rfl, _, Eq.trans (World.drewN_drewN _ _ _) (congrArg (World.drewN _) (Nat.add_assoc _ _ _))⟩)))
      repeat (go_quiet (first | (go_at_call 52; (with_reducible refine (impl_ReadShort.calls k s0_0 s0_1 t492 t493 false _ A2.out).mono ?_); rintro e w' ⟨rfl, ⟨nd, rfl⟩⟩; (try first | exact ⟨rfl, _, World.drewN_drewN _ _ _⟩ | exact ⟨rfl, _, Eq.trans (World.drewN_drewN _ _ _) (congrArg (World.drewN _) (Nat.add_assoc _ _ _))⟩))); try go_wp2_with (first | (go_at_call 52; (with_reducible refine (impl_ReadShort.calls k s0_0 s0_1 t492 t493 false _ A2.out).mono ?_); rintro e w' ⟨rfl, ⟨nd, rfl⟩⟩; (try first | exact ⟨rfl, _, World.drewN_drewN _ _ _⟩ | exact ⟨rfl, _, Eq.trans (World.drewN_drewN _ _ _) (congrArg (World.drewN _) (Nat.add_assoc _ _ _))⟩))))
      go_ret
      exact ⟨by first | rfl | (simp [errW_none, errW_some] <;> rfl) | (simp [*, errW_none, errW_some] <;> rfl), by repeat (first | (with_reducible first | exact HI0.out | apply IsS48.alloc | apply IsS48.drewN | apply IsS48.drew | apply IsS48.set_0 | apply IsS48.set_1 | apply IsS48.set_2) | exact HI0.out), by repeat (first | (with_reducible first | exact HB.out | apply below_alloc | apply pw_below_drewN | apply below_drew1 | refine below_set ?_ (IsS48.ge HI0.out)) | exact HB.out), by repeat (first | (with_reducible first | exact HK.out | apply KeepBut.set_ | apply keep_drewN | apply keep_drew | apply keep_alloc) | exact HK.out)⟩
end Go.Proofs.Ytmljihfaapoakaa.PFnMessages
end

section
namespace Go.Proofs.Ytmljihfaapoakaa
open Go.RowKit Go.Proofs.YtmljihfaapoakaaW.PrintWords
set_option linter.unusedSimpArgs false
set_option linter.unusedVariables false
def Rd (T g : Nat) (s : ByteArray) (p : Int) (bad : Bool) (W : World) : Prop := W.heap[g]? = some (.cells #[.string s, .int .i64 p, .bool bad] T (0, 0))
theorem Rd.lt {T g : Nat} {s : ByteArray} {p : Int} {bad : Bool} {W : World} (h : Rd T g s p bad W) : g < W.heap.size := by
  unfold Rd at h
  rcases Nat.lt_or_ge g W.heap.size with h1 | h1
  · exact h1
  · rw [Array.getElem?_eq_none h1] at h; cases h
theorem Rd.cells {T g : Nat} {s : ByteArray} {p : Int} {bad : Bool} {W : World} (h : Rd T g s p bad W) :
    W.cell? ⟨g, 0, none⟩ = some (.string s) ∧ W.cell? ⟨g, 1, none⟩ = some (.int .i64 p) ∧ W.cell? ⟨g, 2, none⟩ = some (.bool bad) ∧ ∀ o, W.frozen? ⟨g, o, none⟩ = false := by
  unfold Rd at h
  refine ⟨?_, ?_, ?_, fun o => ?_⟩ <;> simp [World.cell?, World.frozen?, h]
theorem Rd.upd {T g g' : Nat} {s : ByteArray} {p : Int} {bad : Bool} {W W1 : World} (h : Rd T g s p bad W) (hu : Upd g' W W1) (hg : g ≠ g') : Rd T g s p bad W1 := (hu.block g h.lt hg).trans h
theorem Rd.below {T g : Nat} {s : ByteArray} {p : Int} {bad : Bool} {W W1 : World} (h : Rd T g s p bad W) (hb : Below W.heap.size W W1) : Rd T g s p bad W1 := (hb.block g h.lt).trans h
theorem Rd.far {T g : Nat} {s : ByteArray} {p : Int} {bad : Bool} {W : World} (h : Rd T g s p bad W) {a : Addr} (hg : g ≠ a.block) (v : Value) : Rd T g s p bad (W.setCell a v) := (Below.heap_setCell W a v g hg).trans h
theorem Rd.set1 {T g : Nat} {s : ByteArray} {p : Int} {bad : Bool} {W : World} (h : Rd T g s p bad W) (q : Int) : Rd T g s q bad (W.setCell ⟨g, 1, none⟩ (.int .i64 q)) := by
  unfold Rd at *
  simp [World.setCell, Array.getElem?_modify, h]
theorem Rd.set2 {T g : Nat} {s : ByteArray} {p : Int} {bad : Bool} {W : World} (h : Rd T g s p bad W) (q : Bool) : Rd T g s p q (W.setCell ⟨g, 2, none⟩ (.bool q)) := by
  unfold Rd at *
  simp [World.setCell, Array.getElem?_modify, h]
theorem Rd.new (T : Nat) (s : ByteArray) (p : Int) (bad : Bool) (W : World) : Rd T W.heap.size s p bad (W.alloc (.cells #[.string s, .int .i64 p, .bool bad] T)) := by
  unfold Rd
  simpa using heap_alloc_new W _
def rdNum (s : ByteArray) (p : Int) (bad : Bool) : Int × Int × Bool := if bad then (0, p, true) else match rv s p with
  | some (n, e) => (n, e, false)
  | none => (0, p, true)
def rdByte (s : ByteArray) (p : Int) (bad : Bool) : Int × Int × Bool := if bad = true ∨ p ≥ s.size then (0, p, true) else (bt s p, p + 1, false)
theorem impl_ReadVar (s : ByteArray) (p : Int) (w : World) (hs : s.size ≤ 1099511627776) :
    Calls Try.prog 50 #[.string s, .int .i64 p] w fun e w' => e = .returned (.tuple #[.int .i64 (rv3 (rv s p)).1, .int .i64 (rv3 (rv s p)).2.1, .bool (rv3 (rv s p)).2.2]) ∧ Below w.heap.size w w' := by
  refine (PFnMessages.impl_ReadVar.calls 12 s p _ _ _ w (impl_rv_f s p hs)).mono ?_
  rintro e w' ⟨rfl, nd, rfl⟩
  exact ⟨rfl, bl_drewN (Below.refl _ _) nd⟩
theorem spec_ReadVar (s : ByteArray) (p : Int) (w : World) (hs : s.size ≤ 1099511627776) :
    Calls Try.prog 60 #[.string s, .int .i64 p] w fun e w' => e = .returned (.tuple #[.int .i64 (rv3 (rv s p)).1, .int .i64 (rv3 (rv s p)).2.1, .bool (rv3 (rv s p)).2.2]) ∧ Below w.heap.size w w' := by
  refine (PFnMessages.spec_ReadVar.calls 20 s p _ _ _ w (spec_rv_f s p hs)).mono ?_
  rintro e w' ⟨rfl, hb⟩
  exact ⟨rfl, hb⟩
attribute [local go_sem] cell_grow
theorem impl_ReadVarH (s : ByteArray) (p : Int) (r : Int × Int × Bool) (w : World) (h : Hid (rv3 (rv s p) = r)) (hs : s.size ≤ 1099511627776) :
    Calls Try.prog 50 #[.string s, .int .i64 p] w fun e w' => e = .returned (.tuple #[.int .i64 r.1, .int .i64 r.2.1, .bool r.2.2]) ∧ Below w.heap.size w w' := by
  have := impl_ReadVar s p w hs
  rw [h.out] at this
  exact this
theorem spec_ReadVarH (s : ByteArray) (p : Int) (r : Int × Int × Bool) (w : World) (h : Hid (rv3 (rv s p) = r)) (hs : s.size ≤ 1099511627776) :
    Calls Try.prog 60 #[.string s, .int .i64 p] w fun e w' => e = .returned (.tuple #[.int .i64 r.1, .int .i64 r.2.1, .bool r.2.2]) ∧ Below w.heap.size w w' := by
  have := spec_ReadVar s p w hs
  rw [h.out] at this
  exact this
set_option maxHeartbeats 1000000 in
theorem impl_number (g : Nat) (s : ByteArray) (p : Int) (bad : Bool) (w : World) (hs : s.size ≤ 1099511627776) (hR : Rd 48 g s p bad w) :
    Calls Try.prog 21 #[.pointer (some ⟨g, 0, none⟩)] w fun e w' =>
      e = .returned (.int .i64 (rdNum s p bad).1) ∧ Rd 48 g s (rdNum s p bad).2.1 (rdNum s p bad).2.2 w' ∧ Upd g w w' := by
  have hlt := hR.lt
  obtain ⟨c0, c1, c2, hf⟩ := hR.cells
  cases bad with
  | true =>
    have Hq := Lib.hid (show rdNum s p true = (0, p, true) from by simp [rdNum])
    go_enter Try.func21, Try.ntmps21
    go_wp2_with fail
    refine wp_region_quiet_below (by kernel_rfl) (by kernel_rfl) ?_
    repeat (first | quiet_step (first | (go_at_call 50; exact Calls.regrown_of (impl_ReadVar _ _ _ hs))) | go_big_quiet_step (fail))
    refine wpQuiet_nil ?_
    intro W2 hw'
    have hbq := bl_regrown hw'
    clear hw'
    obtain ⟨hcq, hfq⟩ := bcell hbq
    go_wp2
    go_ret
    rw [Hq.out]
    exact ⟨rfl, (hR.below hbq).set2 true, ((Upd.refl g w).then hbq).set 2 _⟩
  | false =>
    rcases hq : rv s p with _ | ⟨n, e⟩
    · have Hq := Lib.hid (show rdNum s p false = (0, p, true) from by simp [rdNum, hq])
      have H3 := Lib.hid (show rv3 (rv s p) = (0, 0, false) from by rw [hq]; rfl)
      clear hq
      go_enter Try.func21, Try.ntmps21
      go_wp2_with fail
      refine wp_region_quiet_below (by kernel_rfl) (by kernel_rfl) ?_
      repeat (first | quiet_step (first | (go_at_call 50; exact Calls.regrown_of (impl_ReadVarH _ _ _ _ H3 hs))) | go_big_quiet_step (fail))
      refine wpQuiet_nil ?_
      intro W2 hw'
      have hbq := bl_regrown hw'
      clear hw'
      obtain ⟨hcq, hfq⟩ := bcell hbq
      go_wp2
      go_ret
      rw [Hq.out]
      exact ⟨rfl, (hR.below hbq).set2 true, ((Upd.refl g w).then hbq).set 2 _⟩
    · have Hq := Lib.hid (show rdNum s p false = ((n : Int), (e : Int), false) from by simp [rdNum, hq])
      have H3 := Lib.hid (show rv3 (rv s p) = ((n : Int), (e : Int), true) from by rw [hq]; rfl)
      clear hq
      go_enter Try.func21, Try.ntmps21
      go_wp2_with fail
      refine wp_region_quiet_below (by kernel_rfl) (by kernel_rfl) ?_
      repeat (first | quiet_step (first | (go_at_call 50; exact Calls.regrown_of (impl_ReadVarH _ _ _ _ H3 hs))) | go_big_quiet_step (fail))
      refine wpQuiet_nil ?_
      intro W2 hw'
      have hbq := bl_regrown hw'
      clear hw'
      obtain ⟨hcq, hfq⟩ := bcell hbq
      go_wp2
      go_ret
      rw [Hq.out]
      exact ⟨rfl, (hR.below hbq).set1 e, ((Upd.refl g w).then hbq).set 1 _⟩
set_option maxHeartbeats 1000000 in
theorem spec_l05Var (g : Nat) (s : ByteArray) (p : Int) (bad : Bool) (w : World) (hs : s.size ≤ 1099511627776) (hR : Rd 63 g s p bad w) :
    Calls Try.prog 38 #[.pointer (some ⟨g, 0, none⟩)] w fun e w' =>
      e = .returned (.int .i64 (rdNum s p bad).1) ∧ Rd 63 g s (rdNum s p bad).2.1 (rdNum s p bad).2.2 w' ∧ Upd g w w' := by
  have hlt := hR.lt
  obtain ⟨c0, c1, c2, hf⟩ := hR.cells
  cases bad with
  | true =>
    have Hq := Lib.hid (show rdNum s p true = (0, p, true) from by simp [rdNum])
    go_enter Try.func38, Try.ntmps38
    go_wp2_with fail
    refine wp_region_quiet_below (by kernel_rfl) (by kernel_rfl) ?_
    repeat (first | quiet_step (first | (go_at_call 60; exact Calls.regrown_of (spec_ReadVar _ _ _ hs))) | go_big_quiet_step (fail))
    refine wpQuiet_nil ?_
    intro W2 hw'
    have hbq := bl_regrown hw'
    clear hw'
    obtain ⟨hcq, hfq⟩ := bcell hbq
    go_wp2
    go_ret
    rw [Hq.out]
    exact ⟨rfl, (hR.below hbq).set2 true, ((Upd.refl g w).then hbq).set 2 _⟩
  | false =>
    rcases hq : rv s p with _ | ⟨n, e⟩
    · have Hq := Lib.hid (show rdNum s p false = (0, p, true) from by simp [rdNum, hq])
      have H3 := Lib.hid (show rv3 (rv s p) = (0, 0, false) from by rw [hq]; rfl)
      clear hq
      go_enter Try.func38, Try.ntmps38
      go_wp2_with fail
      refine wp_region_quiet_below (by kernel_rfl) (by kernel_rfl) ?_
      repeat (first | quiet_step (first | (go_at_call 60; exact Calls.regrown_of (spec_ReadVarH _ _ _ _ H3 hs))) | go_big_quiet_step (fail))
      refine wpQuiet_nil ?_
      intro W2 hw'
      have hbq := bl_regrown hw'
      clear hw'
      obtain ⟨hcq, hfq⟩ := bcell hbq
      go_wp2
      go_ret
      rw [Hq.out]
      exact ⟨rfl, (hR.below hbq).set2 true, ((Upd.refl g w).then hbq).set 2 _⟩
    · have Hq := Lib.hid (show rdNum s p false = ((n : Int), (e : Int), false) from by simp [rdNum, hq])
      have H3 := Lib.hid (show rv3 (rv s p) = ((n : Int), (e : Int), true) from by rw [hq]; rfl)
      clear hq
      go_enter Try.func38, Try.ntmps38
      go_wp2_with fail
      refine wp_region_quiet_below (by kernel_rfl) (by kernel_rfl) ?_
      repeat (first | quiet_step (first | (go_at_call 60; exact Calls.regrown_of (spec_ReadVarH _ _ _ _ H3 hs))) | go_big_quiet_step (fail))
      refine wpQuiet_nil ?_
      intro W2 hw'
      have hbq := bl_regrown hw'
      clear hw'
      obtain ⟨hcq, hfq⟩ := bcell hbq
      go_wp2
      go_ret
      rw [Hq.out]
      exact ⟨rfl, (hR.below hbq).set1 e, ((Upd.refl g w).then hbq).set 1 _⟩
theorem rvGo_range (s : ByteArray) : ∀ (f p acc k n e : Nat), rvGo f s p acc k = some (n, e) → p < e ∧ e ≤ s.size ∧ n ≤ 1000000000
  | 0, _, _, _, _, _, h => by simp [rvGo] at h
  | f + 1, p, acc, k, n, e, h => by
    simp only [rvGo] at h
    split at h
    · split at h
      · split at h
        · cases h
        · rename_i h1 h2 h3
          have hn : ¬ (1000000000 < acc + byN s p * 128 ^ k) := fun x => h3 (.inr x)
          simp only [Option.some.injEq, Prod.mk.injEq] at h
          omega
      · have := rvGo_range s f (p + 1) _ _ n e h
        omega
    · cases h
theorem rv_range {s : ByteArray} {p : Int} {n e : Nat} (h : rv s p = some (n, e)) : 0 ≤ p ∧ p < (e : Int) ∧ e ≤ s.size ∧ n ≤ 1000000000 := by
  unfold rv at h
  split at h
  · rename_i hp
    have := rvGo_range s 5 _ 0 0 n e h
    omega
  · cases h
def rdTake (s : ByteArray) (p : Int) (bad : Bool) (n : Int) : ByteArray × Int × Bool := if bad = true ∨ n > s.size - p then (⟨#[]⟩, p, true) else (s.extract p.toNat (p + n).toNat, p + n, false)
def trunc (w : World) (g : Nat) : World := { w with heap := w.heap.extract 0 g }
theorem trunc_size {w : World} {g : Nat} (h : g ≤ w.heap.size) : (trunc w g).heap.size = g := by simp [trunc]; omega
theorem trunc_below {w : World} {g : Nat} (h : g ≤ w.heap.size) : Below (trunc w g).heap.size (trunc w g) w := by
  rw [trunc_size h]
  refine ⟨rfl, rfl, rfl, by rw [trunc_size h]; exact h, fun k hk => ?_⟩
  show w.heap[k]? = (w.heap.extract 0 g)[k]?
  rw [Array.getElem?_extract, if_pos (by omega)]
  simp
theorem upd_of {g : Nat} {w w' w0 : World} (h0 : Below w0.heap.size w0 w) (h1 : Below w0.heap.size w0 w') (hk : KeepBut w w' g none) : Upd g w w' :=
  ⟨h1.os.trans h0.os.symm, h1.tape.trans h0.tape.symm, h1.output.trans h0.output.symm, hk.1, fun k hk' hg => hk.2 k hk' hg (by simp)⟩
theorem take_f (s : ByteArray) (p : Int) (bad : Bool) (n : Int) (hs : s.size ≤ 1099511627776) (hp0 : 0 ≤ p) (hp1 : p ≤ s.size) (hn : 0 ≤ n) (hn1 : n ≤ 1000000000) :
    PFnMessages.spec_l05Take.f s p bad n = some ((rdTake s p bad n).1, s, (rdTake s p bad n).2.1, (rdTake s p bad n).2.2) := by
  unfold PFnMessages.spec_l05Take.f rdTake
  have e1 : wrap64 ((s.size : Int) - p) = (s.size : Int) - p := by unfold wrap64; omega
  have e2 : wrap64 (p + n) = p + n := by unfold wrap64; omega
  have e3 : wrap64 (p + n - n) = p := by unfold wrap64; omega
  rw [e1, e2, e3]
  clear e1 e2 e3
  cases bad with
  | true => simp
  | false =>
    by_cases h : n > s.size - p
    · rw [if_neg (by simp), if_pos h, if_pos (.inr h)]
    · rw [if_neg (by simp), if_neg h, if_pos hp0, if_pos (by omega), if_pos (by omega), if_neg (by simpa using h)]
theorem byte_f (s : ByteArray) (p : Int) (bad : Bool) (hs : s.size ≤ 1099511627776) (hp0 : 0 ≤ p) (hp1 : p ≤ s.size) :
    PFnMessages.impl_reader_byte.f s p bad = some ((rdByte s p bad).1, s, (rdByte s p bad).2.1, (rdByte s p bad).2.2) := by
  unfold PFnMessages.impl_reader_byte.f rdByte
  have hb := bt_range s p
  have e2 : wrap64 (p + 1) = p + 1 := by unfold wrap64; omega
  have e3 : wrap64 (p + 1 - 1) = p := by unfold wrap64; omega
  have e4 : wrap64 (bt s p) = bt s p := by unfold wrap64; omega
  rw [e2, e3, e4]
  clear e2 e3 e4
  cases bad with
  | true => simp
  | false =>
    by_cases h : p ≥ s.size
    · rw [if_neg (by simp), if_pos h, if_pos (.inr h)]
    · rw [if_neg (by simp), if_neg h, if_pos hp0, if_pos (by omega), if_neg (by simpa using h)]
theorem done_f (s : ByteArray) (p : Int) (bad : Bool) : PFnMessages.impl_reader_done.f s p bad = some (!bad && p == s.size, s, p, bad) := by
  unfold PFnMessages.impl_reader_done.f
  cases bad <;> simp
theorem spec_l05Take (g : Nat) (s : ByteArray) (p : Int) (bad : Bool) (n : Int) (w : World) (hs : s.size ≤ 1099511627776) (hp0 : 0 ≤ p) (hp1 : p ≤ s.size) (hn : 0 ≤ n) (hn1 : n ≤ 1000000000) (hR : Rd 63 g s p bad w) :
    Calls Try.prog 37 #[.pointer (some ⟨g, 0, none⟩), .int .i64 n] w fun e w' =>
      e = .returned (.string (rdTake s p bad n).1) ∧ Rd 63 g s (rdTake s p bad n).2.1 (rdTake s p bad n).2.2 w' ∧ Upd g w w' := by
  have hlt := Nat.le_of_lt hR.lt
  refine (PFnMessages.spec_l05Take.calls g s p bad n _ _ _ _ (trunc w g) w ⟨hR, Nat.le_of_eq (trunc_size hlt)⟩ (trunc_below hlt) (take_f s p bad n hs hp0 hp1 hn hn1)).mono ?_
  rintro e w' ⟨rfl, hI, hB, hK⟩
  exact ⟨rfl, hI.1, upd_of (trunc_below hlt) hB hK⟩
theorem impl_byte (g : Nat) (s : ByteArray) (p : Int) (bad : Bool) (w : World) (hs : s.size ≤ 1099511627776) (hp0 : 0 ≤ p) (hp1 : p ≤ s.size) (hR : Rd 48 g s p bad w) :
    Calls Try.prog 20 #[.pointer (some ⟨g, 0, none⟩)] w fun e w' =>
      e = .returned (.int .i64 (rdByte s p bad).1) ∧ Rd 48 g s (rdByte s p bad).2.1 (rdByte s p bad).2.2 w' ∧ Upd g w w' := by
  have hlt := Nat.le_of_lt hR.lt
  refine (PFnMessages.impl_reader_byte.calls g s p bad _ _ _ _ (trunc w g) w ⟨hR, Nat.le_of_eq (trunc_size hlt)⟩ (trunc_below hlt) (byte_f s p bad hs hp0 hp1)).mono ?_
  rintro e w' ⟨rfl, hI, hB, hK⟩
  exact ⟨rfl, hI.1, upd_of (trunc_below hlt) hB hK⟩
theorem impl_done (g : Nat) (s : ByteArray) (p : Int) (bad : Bool) (w : World) (hR : Rd 48 g s p bad w) :
    Calls Try.prog 27 #[.pointer (some ⟨g, 0, none⟩)] w fun e w' =>
      e = .returned (.bool (!bad && p == s.size)) ∧ Rd 48 g s p bad w' ∧ Upd g w w' := by
  have hlt := Nat.le_of_lt hR.lt
  refine (PFnMessages.impl_reader_done.calls g s p bad _ _ _ _ (trunc w g) w ⟨hR, Nat.le_of_eq (trunc_size hlt)⟩ (trunc_below hlt) (done_f s p bad)).mono ?_
  rintro e w' ⟨rfl, hI, hB, hK⟩
  exact ⟨rfl, hI.1, upd_of (trunc_below hlt) hB hK⟩
def rs (s : ByteArray) (p : Int) : Option (ByteArray × Int) := match rv s p with
  | some (n, e) => if n > 20000 ∨ (n : Int) > s.size - e then none else some (s.extract e (e + n), ((e + n : Nat) : Int))
  | none => none
def rs3 : Option (ByteArray × Int) → ByteArray × Int × Bool
  | some (t, e) => (t, e, true)
  | none => (⟨#[]⟩, 0, false)
def rdText (s : ByteArray) (p : Int) (bad : Bool) : ByteArray × Int × Bool := if bad then (⟨#[]⟩, p, true) else match rs s p with
  | some (t, e) => (t, e, false)
  | none => (⟨#[]⟩, p, true)
theorem rs_f (s : ByteArray) (p : Int) (hs : s.size ≤ 1099511627776) : PFnMessages.impl_ReadShort.f 12 s p = some (rs3 (rs s p)) := by
  unfold PFnMessages.impl_ReadShort.f rs
  rw [impl_rv_f s p hs]
  rcases hq : rv s p with _ | ⟨n, e⟩
  · rfl
  · obtain ⟨h0, h1, h2, h3⟩ := rv_range hq
    simp only [rv3, Option.bind_some]
    rw [if_pos trivial]
    by_cases c1 : n > 20000
    · rw [if_pos (by omega), if_pos (.inl c1)]; rfl
    · have e1 : wrap64 ((s.size : Int) - (e : Int)) = (s.size : Int) - (e : Int) := by unfold wrap64; omega
      have e2 : wrap64 ((e : Int) + (n : Int)) = ((e + n : Nat) : Int) := by unfold wrap64; omega
      rw [if_neg (by omega), e1, e2]
      clear e1 e2
      by_cases c2 : (n : Int) > s.size - e
      · rw [if_pos c2, if_pos (.inr c2)]; rfl
      · have c3 : ¬ (n > 20000 ∨ (n : Int) > s.size - e) := fun h => h.elim c1 c2
        rw [if_neg c2, if_pos (by omega), if_pos (by omega), if_pos (by omega), if_neg c3, Int.toNat_natCast, Int.toNat_natCast]; rfl
theorem text_f (s : ByteArray) (p : Int) (bad : Bool) (hs : s.size ≤ 1099511627776) :
    PFnMessages.impl_reader_text.f 12 s p bad = some ((rdText s p bad).1, s, (rdText s p bad).2.1, (rdText s p bad).2.2) := by
  unfold PFnMessages.impl_reader_text.f rdText
  rw [rs_f s p hs]
  cases bad with
  | true => simp
  | false => rcases rs s p with _ | ⟨t, e⟩ <;> simp [rs3]
theorem impl_text (g : Nat) (s : ByteArray) (p : Int) (bad : Bool) (w : World) (hs : s.size ≤ 1099511627776) (hR : Rd 48 g s p bad w) :
    Calls Try.prog 25 #[.pointer (some ⟨g, 0, none⟩)] w fun e w' =>
      e = .returned (.string (rdText s p bad).1) ∧ Rd 48 g s (rdText s p bad).2.1 (rdText s p bad).2.2 w' ∧ Upd g w w' := by
  have hlt := Nat.le_of_lt hR.lt
  refine (PFnMessages.impl_reader_text.calls 12 g s p bad _ _ _ _ (trunc w g) w ⟨hR, Nat.le_of_eq (trunc_size hlt)⟩ (trunc_below hlt) (text_f s p bad hs)).mono ?_
  rintro e w' ⟨rfl, hI, hB, hK⟩
  exact ⟨rfl, hI.1, upd_of (trunc_below hlt) hB hK⟩
theorem rdNum_range (s : ByteArray) (p : Int) (bad : Bool) (hp0 : 0 ≤ p) (hp1 : p ≤ s.size) : 0 ≤ (rdNum s p bad).1 ∧ (rdNum s p bad).1 ≤ 1000000000 ∧ 0 ≤ (rdNum s p bad).2.1 ∧ (rdNum s p bad).2.1 ≤ s.size := by
  unfold rdNum
  cases bad with
  | true => simp; omega
  | false =>
    rcases hq : rv s p with _ | ⟨n, e⟩
    · simp; omega
    · have := rv_range hq
      simp; omega
theorem rdByte_range (s : ByteArray) (p : Int) (bad : Bool) (hp0 : 0 ≤ p) (hp1 : p ≤ s.size) : 0 ≤ (rdByte s p bad).1 ∧ (rdByte s p bad).1 ≤ 255 ∧ 0 ≤ (rdByte s p bad).2.1 ∧ (rdByte s p bad).2.1 ≤ s.size := by
  unfold rdByte
  have := bt_range s p
  split
  · simp; omega
  · rename_i h
    have : ¬ p ≥ s.size := fun x => h (.inr x)
    simp; omega
def rdShort (s : ByteArray) (p : Int) (bad : Bool) : ByteArray × Int × Bool := rdTake s (rdNum s p bad).2.1 (rdNum s p bad).2.2 (rdNum s p bad).1
set_option maxHeartbeats 1000000 in
theorem spec_l05ReadShort (g : Nat) (s : ByteArray) (p : Int) (bad : Bool) (w : World) (hs : s.size ≤ 1099511627776) (hp0 : 0 ≤ p) (hp1 : p ≤ s.size) (hR : Rd 63 g s p bad w) :
    Calls Try.prog 40 #[.pointer (some ⟨g, 0, none⟩)] w fun e w' =>
      e = .returned (.string (rdShort s p bad).1) ∧ Rd 63 g s (rdShort s p bad).2.1 (rdShort s p bad).2.2 w' ∧ Upd g w w' := by
  have hr := rdNum_range s p bad hp0 hp1
  unfold rdShort
  go_enter Try.func40, Try.ntmps40
  go_wp2_with fail
  refine (spec_l05Var _ _ _ _ _ hs hR).mono ?_
  rintro e w1 ⟨rfl, hR1, hU1⟩
  go_wp2_with fail
  refine (spec_l05Take _ _ _ _ _ _ hs hr.2.2.1 hr.2.2.2 hr.1 hr.2.1 hR1).mono ?_
  rintro e w2 ⟨rfl, hR2, hU2⟩
  go_wp2
  go_ret
  exact ⟨rfl, hR2, hU1.trans hU2⟩
end Go.Proofs.Ytmljihfaapoakaa
end

section
namespace Go.Proofs.Ytmljihfaapoakaa.PFnMessages
open Go.RowKit Go.Proofs.YtmljihfaapoakaaW.PrintWords Go.Proofs.YtmljihfaapoakaaW.PrintLast Go.Proofs.YtmljihfaapoakaaW.PrintMore
set_option linter.unusedVariables false
set_option linter.unusedSimpArgs false
def impl_reader_rest.f (s0_0 : ByteArray) (s0_1 : Int) (s0_2 : Bool) : Option (ByteArray × ByteArray × Int × Bool) := if 0 ≤ s0_1 then (if s0_1 ≤ (s0_0.size : Int) then (some (s0_0.extract (s0_1 : Int).toNat s0_0.size, s0_0, (s0_0.size : Int), s0_2)) else (none)) else (none)
set_option maxHeartbeats 8000000 in
set_option maxRecDepth 100000 in
theorem impl_reader_rest.calls (g : Nat) (s0_0 : ByteArray) (s0_1 : Int) (s0_2 : Bool) (r1 : ByteArray) (r2 : ByteArray) (r3 : Int) (r4 : Bool) (w0 w : World) (hI : IsS48 w0 w g s0_0 s0_1 s0_2) (hB : Below w0.heap.size w0 w) (h : impl_reader_rest.f s0_0 s0_1 s0_2 = some (r1, r2, r3, r4)) :
    Calls Try.prog 51 #[.pointer (some ⟨g, 0, none⟩)] w fun e w' => e = .returned (.string r1) ∧ IsS48 w0 w' g r2 r3 r4 ∧ Below w0.heap.size w0 w' ∧ KeepBut w w' g none := by
  have HI0 := Aside0.mk hI
  have HK := Aside0.mk (KeepBut.refl w g none)
  have HL := Aside0.mk hB.size
  clear hI
  have HW0 := Aside0.mk hB.size
  have HB := Aside0.mk hB
  clear hB
  have H : (if 0 ≤ s0_1 then (if s0_1 ≤ (s0_0.size : Int) then (some (s0_0.extract (s0_1 : Int).toNat s0_0.size, s0_0, (s0_0.size : Int), s0_2)) else (none)) else (none)) = some (r1, r2, r3, r4) := h
  clear h
  by_cases c2 : 0 ≤ s0_1
  · rw [if_pos c2] at H
    have c2b0 := eq_true c2
    have c2b1 : decide (0 ≤ s0_1) = true := decide_eq_true c2
    clear c2
    by_cases c3 : s0_1 ≤ (s0_0.size : Int)
    · rw [if_pos c3] at H
      have c3b0 := eq_true c3
      have c3b1 : decide (s0_1 ≤ (s0_0.size : Int)) = true := decide_eq_true c3
      clear c3
      simp only [Option.some.injEq, Prod.mk.injEq] at H
      obtain ⟨rfl, rfl, rfl, rfl⟩ := H
      obtain ⟨HGz4, hgz4⟩ := HI0.out
      have hcz4_0 := cellS48_0 HGz4
      have hcz4_1 := cellS48_1 HGz4
      have hcz4_2 := cellS48_2 HGz4
      have hfz4_0 := blk_frozen HGz4 0
      have hfz4_1 := blk_frozen HGz4 1
      have hfz4_2 := blk_frozen HGz4 2
      clear HGz4 hgz4
      go_enter Try.func51, Try.ntmps51
      go_wp2
      repeat (go_quiet (fail); try go_wp2)
      go_ret
      exact ⟨by first | rfl | (simp [errW_none, errW_some] <;> rfl) | (simp [*, errW_none, errW_some] <;> rfl), by repeat (first | (with_reducible first | exact HI0.out | apply IsS48.alloc | apply IsS48.drewN | apply IsS48.drew | apply IsS48.set_0 | apply IsS48.set_1 | apply IsS48.set_2) | exact HI0.out), by repeat (first | (with_reducible first | exact HB.out | apply below_alloc | apply pw_below_drewN | apply below_drew1 | refine below_set ?_ (IsS48.ge HI0.out)) | exact HB.out), by repeat (first | (with_reducible first | exact HK.out | apply KeepBut.set_ | apply keep_drewN | apply keep_drew | apply keep_alloc) | exact HK.out)⟩
    · rw [if_neg c3] at H
      exact absurd H (by simp)
  · rw [if_neg c2] at H
    exact absurd H (by simp)
end Go.Proofs.Ytmljihfaapoakaa.PFnMessages
end

section
namespace Go.Proofs.Ytmljihfaapoakaa
open Go.RowKit Go.Proofs.YtmljihfaapoakaaW.PrintWords
set_option linter.unusedSimpArgs false
set_option linter.unusedVariables false
theorem rdNumH_range {s : ByteArray} {p : Int} {bad : Bool} {n p' : Int} {bad' : Bool} (h : Hid (rdNum s p bad = (n, p', bad'))) (hp : 0 ≤ p ∧ p ≤ s.size) : 0 ≤ p' ∧ p' ≤ s.size := by
  have := rdNum_range s p bad hp.1 hp.2
  rw [h.out] at this
  exact this.2.2
theorem rdByteH_range {s : ByteArray} {p : Int} {bad : Bool} {n p' : Int} {bad' : Bool} (h : Hid (rdByte s p bad = (n, p', bad'))) (hp : 0 ≤ p ∧ p ≤ s.size) : 0 ≤ p' ∧ p' ≤ s.size := by
  have := rdByte_range s p bad hp.1 hp.2
  rw [h.out] at this
  exact this.2.2
theorem rbyteH (g : Nat) (s : ByteArray) (p : Int) (bad : Bool) (n : Int) (p' : Int) (bad' : Bool) (w : World) (h : Hid (rdByte s p bad = (n, p', bad'))) (hs : s.size ≤ 1099511627776) (hp : 0 ≤ p ∧ p ≤ s.size) (hR : Rd 48 g s p bad w) :
    Calls Try.prog 20 #[.pointer (some ⟨g, 0, none⟩)] w fun e w' => e = .returned (.int .i64 n) ∧ Rd 48 g s p' bad' w' ∧ Upd g w w' := by
  have := impl_byte g s p bad w hs hp.1 hp.2 hR
  rw [h.out] at this
  exact this
theorem rnumH (g : Nat) (s : ByteArray) (p : Int) (bad : Bool) (n : Int) (p' : Int) (bad' : Bool) (w : World) (h : Hid (rdNum s p bad = (n, p', bad'))) (hs : s.size ≤ 1099511627776) (hR : Rd 48 g s p bad w) :
    Calls Try.prog 21 #[.pointer (some ⟨g, 0, none⟩)] w fun e w' => e = .returned (.int .i64 n) ∧ Rd 48 g s p' bad' w' ∧ Upd g w w' := by
  have := impl_number g s p bad w hs hR
  rw [h.out] at this
  exact this
theorem rrestH (g : Nat) (s : ByteArray) (p : Int) (bad : Bool) (w : World) (hp : 0 ≤ p ∧ p ≤ s.size) (hR : Rd 48 g s p bad w) :
    Calls Try.prog 51 #[.pointer (some ⟨g, 0, none⟩)] w fun e w' => e = .returned (.string (s.extract p.toNat s.size)) ∧ Rd 48 g s s.size bad w' ∧ Upd g w w' := by
  have hlt := Nat.le_of_lt hR.lt
  refine (PFnMessages.impl_reader_rest.calls g s p bad (s.extract p.toNat s.size) s s.size bad (trunc w g) w ⟨hR, Nat.le_of_eq (trunc_size hlt)⟩ (trunc_below hlt) ?_).mono ?_
  · unfold PFnMessages.impl_reader_rest.f
    rw [if_pos hp.1, if_pos hp.2]
  · rintro e w' ⟨rfl, hI, hB, hK⟩
    exact ⟨rfl, hI.1, upd_of (trunc_below hlt) hB hK⟩
theorem calls_at' {P : Program} {f : Nat} {args : Array Value} {E : World} {Q : Ending → World → Prop} (R : World → Prop) (h : R E) (k : ∀ W, R W → Calls P f args W Q) : Calls P f args E Q := k E h
theorem wp_at' {P : Program} {c : Code} {Q : Exit → Act → World → Prop} {a : Act} {E : World} (R : World → Prop) (h : R E) (k : ∀ W, R W → c.wp P Q a W) : c.wp P Q a E := k E h
def rentV (b : Bool) (ix t k : Int) (d : ByteArray) : Value := if b then .tuple #[.int .i64 ix, .agg #[.int .i64 t, .int .i64 k, .string d], .bool true] else .tuple #[.int .i64 0, .agg #[.int .i64 0, .int .i64 0, .string ⟨#[]⟩], .bool false]
set_option maxHeartbeats 4000000 in
set_option maxRecDepth 100000 in
theorem impl_ReadEntry (s : ByteArray) (hs : s.size ≤ 1099511627776) (mk ix t k p1 p2 p3 p4 : Int) (q1 q2 q3 q4 : Bool) (d : ByteArray) (w : World)
    (h1 : Hid (rdByte s 0 false = (mk, p1, q1))) (h2 : Hid (rdNum s p1 q1 = (ix, p2, q2))) (h3 : Hid (rdNum s p2 q2 = (t, p3, q3))) (h4 : Hid (rdByte s p3 q3 = (k, p4, q4))) (h5 : Hid (s.extract p4.toNat s.size = d))
    (eo ei e69 : Bool) (H1 : Hid (entryOk t k d = eo)) (H2 : Hid (inB ix 1 1000000 = ei)) (H3 : (mk != 69) = !e69) :
    Calls Try.prog 24 #[.string s] w fun e w' => e = .returned (rentV (!q4 && e69 && eo && ei) ix t k d) ∧ Below w.heap.size w w' := by
  have g0 : 0 ≤ (0 : Int) ∧ (0 : Int) ≤ s.size := by omega
  have g1 := rdByteH_range h1 g0
  have g2 := rdNumH_range h2 g1
  have g3 := rdNumH_range h3 g2
  have g4 := rdByteH_range h4 g3
  have hd : d.size ≤ 1099511627776 := by rw [← h5.out, ByteArray.size_extract]; omega
  go_enter Try.func24, Try.ntmps24
  go_wp2_with fail
  refine calls_at' (fun W => Blk 43 w.heap.size #[.int .i64 0, .int .i64 0, .string ⟨#[]⟩] W ∧ Rd 48 (w.heap.size + 1) s 0 false W ∧ Below w.heap.size w W) ⟨(Blk.new _ _ w).alloc _, by have := Rd.new 48 s 0 false (w.alloc (.cells #[.int .i64 0, .int .i64 0, .string ⟨#[]⟩] 43)); simpa using this, (by repeat (first | exact Below.refl _ _ | apply bl_alloc | apply bl_drewN | apply bl_drew | refine bl_set ?_ (by simp) | refine bl_then ?_ (by assumption)))⟩ ?_
  rintro W0 ⟨k3, R0, B0⟩
  refine (rbyteH _ _ _ _ _ _ _ _ h1 hs g0 R0).mono ?_
  rintro e W1 ⟨rfl, R1, U1⟩
  replace k3 := k3.upd U1 (by omega)
  have B1 := U1.below B0 (by omega)
  clear R0 U1 B0 W0
  go_wp2_with fail
  refine (rnumH _ _ _ _ _ _ _ _ h2 hs R1).mono ?_
  rintro e W2 ⟨rfl, R2, U2⟩
  replace k3 := k3.upd U2 (by omega)
  have B2 := U2.below B1 (by omega)
  clear R1 U2 B1 W1
  go_wp2_with fail
  refine (rnumH _ _ _ _ _ _ _ _ h3 hs R2).mono ?_
  rintro e W3 ⟨rfl, R3, U3⟩
  replace k3 := k3.upd U3 (by omega)
  have B3 := U3.below B2 (by omega)
  have l3 := R3.lt
  clear R2 U3 B2 W2
  go_wp2_with fail
  obtain ⟨b8, hb8⟩ : ∃ b8, b8 = W3.heap.size := ⟨_, rfl⟩
  refine calls_at' (fun W => Blk 43 w.heap.size #[.int .i64 0, .int .i64 0, .string ⟨#[]⟩] W ∧ Rd 48 (w.heap.size + 1) s p3 q3 W ∧ Below w.heap.size w W ∧ Blk 43 b8 #[.int .i64 t, .int .i64 0, .string ⟨#[]⟩] W) ⟨k3.alloc _, R3.below (bl_alloc (Below.refl _ _) _), bl_alloc B3 _, Blk.newE _ _ W3 hb8⟩ ?_
  rw [← hb8]
  have n8 : w.heap.size + 1 < b8 := by omega
  clear hb8 k3 R3 B3 l3 W3
  rintro W4 ⟨k3, R4, B4, k8⟩
  refine (rbyteH _ _ _ _ _ _ _ _ h4 hs g3 R4).mono ?_
  rintro e W5 ⟨rfl, R5, U5⟩
  replace k3 := k3.upd U5 (by omega)
  replace k8 := k8.upd U5 (by omega)
  have B5 := U5.below B4 (by omega)
  clear R4 U5 B4 W4
  have c81 := k8.cell 1 rfl
  have f81 := k8.free 1
  have l8 := k8.lt
  go_wp2_with fail
  refine calls_at' (fun W => Blk 43 w.heap.size #[.int .i64 0, .int .i64 0, .string ⟨#[]⟩] W ∧ Rd 48 (w.heap.size + 1) s p4 q4 W ∧ Below w.heap.size w W ∧ Blk 43 b8 #[.int .i64 t, .int .i64 k, .string ⟨#[]⟩] W) ⟨k3.far (by show w.heap.size ≠ b8; omega) _, R5.far (by show w.heap.size + 1 ≠ b8; omega) _, bl_set B5 (by show w.heap.size ≤ b8; omega), k8.set 1 _ rfl⟩ ?_
  clear c81 f81 l8 k3 R5 B5 k8 W5
  rintro W6 ⟨k3, R6, B6, k8⟩
  have hr := rrestH _ _ _ _ _ g4 R6
  rw [h5.out] at hr
  refine hr.mono ?_
  clear hr
  rintro e W7 ⟨rfl, R7, U7⟩
  replace k3 := k3.upd U7 (by omega)
  replace k8 := k8.upd U7 (by omega)
  have B7 := U7.below B6 (by omega)
  clear R6 U7 B6 W6
  have c82 := k8.cell 2 rfl
  have f82 := k8.free 2
  have l8 := k8.lt
  go_upto_region 7 with fail
  refine wp_at' (fun W => Blk 43 w.heap.size #[.int .i64 0, .int .i64 0, .string ⟨#[]⟩] W ∧ Rd 48 (w.heap.size + 1) s s.size q4 W ∧ Below w.heap.size w W ∧ Blk 43 b8 #[.int .i64 t, .int .i64 k, .string d] W) ⟨k3.far (by show w.heap.size ≠ b8; omega) _, R7.far (by show w.heap.size + 1 ≠ b8; omega) _, bl_set B7 (by show w.heap.size ≤ b8; omega), k8.set 2 _ rfl⟩ ?_
  clear c82 f82 l8 k3 R7 B7 k8 W7
  rintro W8 ⟨k3, R8, B8, k8⟩
  obtain ⟨r0, r1, r2, rf⟩ := R8.cells
  have rl := R8.lt
  have c80 := k8.cell 0 rfl
  have c81 := k8.cell 1 rfl
  have c82 := k8.cell 2 rfl
  have l8 := k8.lt
  have x0 := k3.cell 0 rfl
  have x1 := k3.cell 1 rfl
  have x2 := k3.cell 2 rfl
  have y0 := k3.free 0
  have y1 := k3.free 1
  have y2 := k3.free 2
  have l3 := k3.lt
  have n38 : w.heap.size ≠ b8 := by omega
  rcases q4 with _ | _
  · rcases e69 with _ | _
    · go_wp2_with fail
      refine bodyPost_ret (v := .tuple #[.int .i64 0, .agg #[.int .i64 0, .int .i64 0, .string ⟨#[]⟩], .bool false]) ?_ rfl ⟨rfl, ?_⟩
      · simp only [results, Try.results24]
        go_simp
      · first | exact bl_set (bl_set (bl_set B8 (Nat.le_refl _)) (Nat.le_refl _)) (Nat.le_refl _) | exact B8
    · rcases eo with _ | _
      · go_wp2_with fail
        refine (impl_EntryOkH _ _ _ false _ H1 hd).mono ?_
        rintro e W9 ⟨rfl, hb9⟩
        clear r0 r1 r2 rf rl c80 c81 c82 l8 x0 x1 x2 y0 y1 y2 l3 R8
        replace k3 := k3.below hb9
        replace k8 := k8.below hb9
        replace B8 := bl_then B8 hb9
        clear hb9 W8
        have c80 := k8.cell 0 rfl
        have c81 := k8.cell 1 rfl
        have c82 := k8.cell 2 rfl
        have l8 := k8.lt
        have x0 := k3.cell 0 rfl
        have x1 := k3.cell 1 rfl
        have x2 := k3.cell 2 rfl
        have y0 := k3.free 0
        have y1 := k3.free 1
        have y2 := k3.free 2
        have l3 := k3.lt
        go_wp2_with fail
        refine bodyPost_ret (v := .tuple #[.int .i64 0, .agg #[.int .i64 0, .int .i64 0, .string ⟨#[]⟩], .bool false]) ?_ rfl ⟨rfl, ?_⟩
        · simp only [results, Try.results24]
          go_simp
        · first | exact bl_set (bl_set (bl_set B8 (Nat.le_refl _)) (Nat.le_refl _)) (Nat.le_refl _) | exact B8
      · go_wp2_with fail
        refine (impl_EntryOkH _ _ _ true _ H1 hd).mono ?_
        rintro e W9 ⟨rfl, hb9⟩
        clear r0 r1 r2 rf rl c80 c81 c82 l8 x0 x1 x2 y0 y1 y2 l3 R8
        replace k3 := k3.below hb9
        replace k8 := k8.below hb9
        replace B8 := bl_then B8 hb9
        clear hb9 W8
        have c80 := k8.cell 0 rfl
        have c81 := k8.cell 1 rfl
        have c82 := k8.cell 2 rfl
        have l8 := k8.lt
        have x0 := k3.cell 0 rfl
        have x1 := k3.cell 1 rfl
        have x2 := k3.cell 2 rfl
        have y0 := k3.free 0
        have y1 := k3.free 1
        have y2 := k3.free 2
        have l3 := k3.lt
        rcases ei with _ | _
        · go_wp2_with (first | (go_at_call 31; (with_reducible refine (impl_inH' _ _ _ false _ H2).mono ?_); rintro e w' ⟨rfl, rfl⟩))
          refine bodyPost_ret (v := .tuple #[.int .i64 0, .agg #[.int .i64 0, .int .i64 0, .string ⟨#[]⟩], .bool false]) ?_ rfl ⟨rfl, ?_⟩
          · simp only [results, Try.results24]
            go_simp
          · first | exact bl_set (bl_set (bl_set B8 (Nat.le_refl _)) (Nat.le_refl _)) (Nat.le_refl _) | exact B8
        · go_wp2_with (first | (go_at_call 31; (with_reducible refine (impl_inH' _ _ _ true _ H2).mono ?_); rintro e w' ⟨rfl, rfl⟩))
          go_region
          all_goals go_wp2_with fail
          all_goals refine bodyPost_ret (v := .tuple #[.int .i64 ix, .agg #[.int .i64 t, .int .i64 k, .string d], .bool true]) ?_ rfl ⟨rfl, ?_⟩
          rotate_left
          · repeat (first | exact B8 | apply bl_drew | apply bl_drewN | refine bl_set ?_ (Nat.le_refl _))
          simp only [results, Try.results24]
          go_simp
  · go_wp2_with fail
    refine bodyPost_ret (v := .tuple #[.int .i64 0, .agg #[.int .i64 0, .int .i64 0, .string ⟨#[]⟩], .bool false]) ?_ rfl ⟨rfl, ?_⟩
    · simp only [results, Try.results24]
      go_simp
    · first | exact bl_set (bl_set (bl_set B8 (Nat.le_refl _)) (Nat.le_refl _)) (Nat.le_refl _) | exact B8
end Go.Proofs.Ytmljihfaapoakaa
end

section
namespace Go.Proofs.Ytmljihfaapoakaa
open Go.RowKit Go.Proofs.YtmljihfaapoakaaW.PrintWords
set_option linter.unusedSimpArgs false
set_option linter.unusedVariables false
theorem nums8_append (a b : ByteArray) : nums8 (a ++ b) = nums8 a ++ nums8 b := by simp [nums8, ByteArray.data_append]
theorem nums8_str (xs : List Int) (h : ∀ x ∈ xs, 0 ≤ x ∧ x < 256) : nums8 (strOfNums xs) = xs.map Int.toNat := by
  unfold nums8
  rw [strOfNums_data, List.map_map]
  apply List.map_congr_left
  intro x hx
  have := h x hx
  simp only [Function.comp]
  rw [UInt8.toNat_ofNat']
  omega
theorem byN_at {s : ByteArray} {pre rest : List Nat} {b : Nat} (h : nums8 s = pre ++ b :: rest) : byN s pre.length = b ∧ pre.length < s.size := by
  have hl : pre.length < s.size := by rw [← nums8_length, h]; simp
  have h1 := byN_nums s pre.length hl
  rw [h] at h1
  simp at h1
  exact ⟨h1.symm, hl⟩
theorem rvGo_fwd (s : ByteArray) : ∀ (f m k acc : Nat) (pre post : List Nat), 1 ≤ f → m < 128 ^ f → nums8 s = pre ++ (varN m).map Int.toNat ++ post → (0 < k → m ≠ 0) → acc + m * 128 ^ k ≤ 1000000000 →
    rvGo f s pre.length acc k = some (acc + m * 128 ^ k, pre.length + (varN m).length)
  | 0, _, _, _, _, _, h, _, _, _, _ => by omega
  | f + 1, m, k, acc, pre, post, _, hm, hs, hk, hl => by
    unfold rvGo
    by_cases h7 : m ≤ 127
    · have hv : varN m = [(m : Int)] := by rw [varN, dif_pos h7]
      rw [hv] at hs ⊢
      obtain ⟨hb, hp⟩ := byN_at (s := s) (pre := pre) (b := m) (rest := post) (by rw [hs]; simp)
      rw [if_pos hp, hb, if_pos (by omega), if_neg (by rintro (⟨h1, h2⟩ | h1); exact hk h2 h1; omega)]
      simp
    · have hv : varN m = ((m % 128 + 128 : Nat) : Int) :: varN (m / 128) := by rw [varN, dif_neg h7]
      rw [hv] at hs ⊢
      obtain ⟨hb, hp⟩ := byN_at (s := s) (pre := pre) (b := m % 128 + 128) (rest := (varN (m / 128)).map Int.toNat ++ post) (by rw [hs]; simp; omega)
      rw [if_pos hp, hb, if_neg (by omega)]
      have hf : 1 ≤ f := by
        rcases f with _ | f
        · simp at hm; omega
        · omega
      have e1 : acc + (m % 128 + 128 - 128) * 128 ^ k + m / 128 * 128 ^ (k + 1) = acc + m * 128 ^ k := by
        have : m = m % 128 + 128 * (m / 128) := by omega
        conv => rhs; rw [this]
        rw [Nat.add_sub_cancel, Nat.add_mul, Nat.pow_succ]
        have e2 : m / 128 * (128 ^ k * 128) = 128 * (m / 128) * 128 ^ k := by rw [Nat.mul_comm (128 ^ k) 128, ← Nat.mul_assoc, Nat.mul_comm (m / 128) 128]
        rw [e2]
        omega
      have ih := rvGo_fwd s f (m / 128) (k + 1) (acc + (m % 128 + 128 - 128) * 128 ^ k) (pre ++ [m % 128 + 128]) post hf (by rw [Nat.pow_succ] at hm; omega) (by rw [hs]; simp; omega) (by intro _; omega) (by rw [e1]; exact hl)
      rw [e1] at ih
      simp only [List.length_append, List.length_singleton] at ih
      rw [ih]
      simp only [List.length_cons]
      congr 2
      omega
theorem rdNum_fwd {s : ByteArray} {n : Int} {pre post : List Nat} {p : Int} (h0 : 0 ≤ n) (h1 : n ≤ 1000000000) (hs : nums8 s = pre ++ (varN n.toNat).map Int.toNat ++ post) (hp : p = pre.length) :
    rdNum s p false = (n, ((pre.length + (varN n.toNat).length : Nat) : Int), false) := by
  subst hp
  obtain ⟨m, rfl⟩ := Int.eq_ofNat_of_zero_le h0
  simp only [Int.toNat_natCast] at hs ⊢
  have hz : pre.length ≤ s.size := by rw [← nums8_length, hs]; simp
  have := rvGo_fwd s 5 m 0 0 pre post (by omega) (by omega) hs (by omega) (by omega)
  unfold rdNum rv
  rw [if_neg (by simp), if_pos ⟨by omega, by omega⟩, Int.toNat_natCast, this]
  simp
theorem rdByte_fwd {s : ByteArray} {b : Nat} {pre post : List Nat} {p : Int} (hs : nums8 s = pre ++ b :: post) (hp : p = pre.length) : rdByte s p false = ((b : Int), ((pre.length + 1 : Nat) : Int), false) := by
  subst hp
  obtain ⟨hb, hl⟩ := byN_at hs
  unfold rdByte
  rw [if_neg (by simp; omega), bt_byN, hb]
  simp
theorem extract_tail (a b : ByteArray) : (a ++ b).extract a.size (a ++ b).size = b := by
  apply ByteArray.ext
  have h1 : a.data.extract a.size (a.size + b.size) = #[] := by
    apply Array.eq_empty_of_size_eq_zero
    rw [Array.size_extract]
    show min (a.size + b.size) a.size - a.size = 0
    omega
  have h2 : b.data.extract 0 b.size = b.data := by
    show b.data.extract 0 b.data.size = b.data
    simp
  simp [ByteArray.data_extract, ByteArray.data_append, ByteArray.size_append, h1, h2]
theorem entry_reads (i t k : Int) (d : ByteArray) (hok : entryOk t k d = true) (hi : inB i 1 1000000 = true) : ∃ p2 p3 p4 : Int,
    rdByte (entryS i t k d) 0 false = (69, 1, false) ∧ rdNum (entryS i t k d) 1 false = (i, p2, false) ∧ rdNum (entryS i t k d) p2 false = (t, p3, false) ∧ rdByte (entryS i t k d) p3 false = (k, p4, false) ∧ (entryS i t k d).extract p4.toNat (entryS i t k d).size = d := by
  obtain ⟨ht0, ht1, hk0, hk1, hdz⟩ := entryOk_parts hok
  obtain ⟨hi0, hi1⟩ := inB_iff.1 hi
  have n1 : nums8 (⟨#[69]⟩ : ByteArray) = [69] := rfl
  have n2 : nums8 (varS i) = (varN i.toNat).map Int.toNat := nums8_str _ (varN_range _)
  have n3 : nums8 (varS t) = (varN t.toNat).map Int.toNat := nums8_str _ (varN_range _)
  have n4 : nums8 (byteS k) = [k.toNat] := by
    have : byteS k = strOfNums [k] := by unfold byteS; rw [show k % 256 = k from by omega]
    rw [this, nums8_str [k] (by intro x hx; simp at hx; omega)]
    rfl
  have hs : nums8 (entryS i t k d) = [69] ++ (varN i.toNat).map Int.toNat ++ (varN t.toNat).map Int.toNat ++ [k.toNat] ++ nums8 d := by
    unfold entryS
    rw [nums8_append, nums8_append, nums8_append, nums8_append, n1, n2, n3, n4]
  have a1 := rdByte_fwd (s := entryS i t k d) (b := 69) (pre := []) (p := 0) (post := (varN i.toNat).map Int.toNat ++ ((varN t.toNat).map Int.toNat ++ ([k.toNat] ++ nums8 d))) (by rw [hs]; simp) rfl
  have a2 := rdNum_fwd (s := entryS i t k d) (n := i) (pre := [69]) (p := 1) (post := (varN t.toNat).map Int.toNat ++ ([k.toNat] ++ nums8 d)) (by omega) (by omega) (by rw [hs]; simp) rfl
  have a3 := rdNum_fwd (s := entryS i t k d) (n := t) (pre := [69] ++ (varN i.toNat).map Int.toNat) (p := (([69] : List Nat).length + (varN i.toNat).length : Nat)) (post := [k.toNat] ++ nums8 d) (by omega) (by omega) (by rw [hs]; simp) (by simp; omega)
  have a4 := rdByte_fwd (s := entryS i t k d) (b := k.toNat) (pre := [69] ++ (varN i.toNat).map Int.toNat ++ (varN t.toNat).map Int.toNat) (p := ((([69] ++ (varN i.toNat).map Int.toNat : List Nat)).length + (varN t.toNat).length : Nat)) (post := nums8 d) (by rw [hs]; simp) (by simp; omega)
  refine ⟨_, _, _, a1, a2, a3, by rw [a4, show ((k.toNat : Nat) : Int) = k from by omega], ?_⟩
  rw [Int.toNat_natCast]
  have hz : ([69] ++ (varN i.toNat).map Int.toNat ++ (varN t.toNat).map Int.toNat).length + 1 = ((⟨#[69]⟩ : ByteArray) ++ varS i ++ varS t ++ byteS k).size := by
    have : ((⟨#[69]⟩ : ByteArray) ++ varS i ++ varS t ++ byteS k).size = (nums8 ((⟨#[69]⟩ : ByteArray) ++ varS i ++ varS t ++ byteS k)).length := (nums8_length _).symm
    rw [this, nums8_append, nums8_append, nums8_append, n1, n2, n3, n4]
    simp
    try omega
  rw [hz]
  exact extract_tail _ d
end Go.Proofs.Ytmljihfaapoakaa
end

section
namespace Go.Proofs.Ytmljihfaapoakaa
open Go.RowKit Go.Proofs.YtmljihfaapoakaaW.PrintWords
set_option linter.unusedSimpArgs false
set_option linter.unusedVariables false
theorem ba_ext {a b : ByteArray} (h : a.toList = b.toList) : a = b := by
  rw [ByteArray.toList_eq, ByteArray.toList_eq] at h
  apply ByteArray.ext
  exact Array.toList_inj.1 h
theorem rvGo_bytes (s : ByteArray) (a : Nat) : ∀ (f k n e : Nat), (∀ b ∈ part s a k, 128 ≤ b ∧ b < 256) → a + k ≤ s.size → rvGo f s (a + k) (val (part s a k)) k = some (n, e) →
    ∃ m, e = a + m ∧ a + m ≤ s.size ∧ varN n = (part s a m).map (fun x : Nat => (x : Int))
  | 0, _, _, _, _, _, h => by simp [rvGo] at h
  | f + 1, k, n, e, hb, hle, h => by
    simp only [rvGo] at h
    by_cases hp : a + k < s.size
    · rw [if_pos hp] at h
      have hv := byN_lt s (a + k)
      have hps := part_succ s a k hp
      have hpl := part_length s a k hle
      have hval : val (part s a (k + 1)) = val (part s a k) + byN s (a + k) % 128 * 128 ^ k := by rw [hps, val_snoc, hpl]
      by_cases hlt : byN s (a + k) < 128
      · rw [if_pos hlt] at h
        rw [Nat.mod_eq_of_lt hlt] at hval
        split at h
        · cases h
        · rename_i hno
          simp only [Option.some.injEq, Prod.mk.injEq] at h
          obtain ⟨hn, he⟩ := h
          refine ⟨k + 1, by omega, by omega, ?_⟩
          have hcan := varN_canon (part s a k) (byN s (a + k)) hb hlt
          rw [← hps] at hcan
          rw [← hn, ← hval]
          refine hcan.2 ?_
          by_cases h0 : byN s (a + k) = 0
          · left
            have hk0 : k = 0 := by
              rcases Nat.eq_zero_or_pos k with h | h
              · exact h
              · exact absurd (.inl ⟨h0, h⟩) hno
            subst hk0
            exact part_zero s a
          · exact .inr h0
      · rw [if_neg hlt] at h
        have hb' : ∀ b ∈ part s a (k + 1), 128 ≤ b ∧ b < 256 := by
          intro b hbm
          rw [hps] at hbm
          rcases List.mem_append.1 hbm with h | h
          · exact hb b h
          · simp at h; omega
        have hmod : byN s (a + k) % 128 = byN s (a + k) - 128 := by omega
        rw [hmod] at hval
        rw [← hval] at h
        exact rvGo_bytes s a f (k + 1) n e hb' (by omega) h
    · rw [if_neg hp] at h
      cases h
theorem rv_bytes {s : ByteArray} {p : Int} {n e : Nat} (h : rv s p = some (n, e)) : s.extract p.toNat e = varS n := by
  have hr := rv_range h
  obtain ⟨a, rfl⟩ := Int.eq_ofNat_of_zero_le hr.1
  unfold rv at h
  rw [if_pos (by omega)] at h
  have hz : part s a 0 = [] := part_zero s a
  obtain ⟨m, rfl, hm, hv⟩ := rvGo_bytes s a 5 0 n e (by rw [hz]; simp) (by omega) (by rw [hz]; simpa [val] using h)
  apply ba_ext
  unfold varS
  rw [Int.toNat_natCast, Int.toNat_natCast]
  exact ((same_bytes n s a (a + m) hm).2 hv).symm
theorem extract_join (s : ByteArray) (a b c : Nat) (h1 : a ≤ b) (h2 : b ≤ c) : s.extract a b ++ s.extract b c = s.extract a c := by
  apply ByteArray.ext
  simp [ByteArray.data_append, ByteArray.data_extract, Nat.min_eq_left h1, Nat.max_eq_right h2]
theorem num_bytes {s : ByteArray} {p n p' : Int} {q : Bool} (h : rdNum s p q = (n, p', false)) : q = false ∧ 0 ≤ p ∧ p ≤ p' ∧ p' ≤ s.size ∧ s.extract p.toNat p'.toNat = varS n := by
  unfold rdNum at h
  cases q with
  | true => simp at h
  | false =>
    rcases hq : rv s p with _ | ⟨m, e⟩
    · rw [hq] at h; simp at h
    · rw [hq] at h
      have hr := rv_range hq
      have hb := rv_bytes hq
      simp at h
      obtain ⟨rfl, rfl⟩ := h
      exact ⟨rfl, by omega, by omega, by omega, by simpa using hb⟩
theorem byte_bytes {s : ByteArray} {p n p' : Int} {q : Bool} (hp : 0 ≤ p) (h : rdByte s p q = (n, p', false)) : q = false ∧ 0 ≤ p ∧ p ≤ p' ∧ p' ≤ s.size ∧ s.extract p.toNat p'.toNat = byteS n := by
  unfold rdByte at h
  split at h
  · simp at h
  · rename_i hno
    simp at h
    obtain ⟨rfl, rfl⟩ := h
    have hq : q = false := by cases q; rfl; exact absurd (.inl rfl) hno
    have hlt : p < s.size := by
      have : ¬ p ≥ s.size := fun x => hno (.inr x)
      omega
    obtain ⟨a, rfl⟩ := Int.eq_ofNat_of_zero_le hp
    refine ⟨hq, by omega, by omega, by omega, ?_⟩
    have ha : a < s.size := by omega
    have hr := bt_range s (a : Int)
    apply ByteArray.ext
    apply Array.toList_inj.1
    have e1 : ((a : Int) + 1).toNat = a + 1 := by omega
    rw [Int.toNat_natCast, e1]
    unfold byteS
    rw [strOfNums_data]
    have e2 : (s.extract a (a + 1)).data.toList = (s.data.toList.take (a + 1)).drop a := by simp [ByteArray.data_extract, List.drop_take]
    rw [e2]
    have hl : a < s.data.toList.length := by simpa using ha
    rw [List.take_succ_eq_append_getElem hl, List.drop_append_of_le_length (by simp; omega), List.drop_of_length_le (by simp; omega)]
    have hbt : bt s (a : Int) = ((s.data.toList[a]).toNat : Int) := by
      unfold bt
      rw [dif_pos (by simpa using ha)]
      simp
      rfl
    rw [hbt]
    have ha' : a < s.data.size := by simpa using ha
    have hlt2 := (s.data[a]).toNat_lt
    have e3 : (((s.data[a]).toNat : Int) % 256).toNat = (s.data[a]).toNat := by omega
    simp [e3]
theorem short_bytes {s t : ByteArray} {p p' : Int} {q : Bool} (hp : 0 ≤ p) (hps : p ≤ s.size) (h : rdShort s p q = (t, p', false)) : q = false ∧ 0 ≤ p ∧ p ≤ p' ∧ p' ≤ s.size ∧ s.extract p.toNat p'.toNat = shortS t := by
  unfold rdShort at h
  rcases hn : rdNum s p q with ⟨n, pn, qn⟩
  have hrange := rdNum_range s p q hp hps
  rw [hn] at h hrange
  simp only at h hrange
  unfold rdTake at h
  split at h
  · simp at h
  · rename_i hno
    simp at h
    obtain ⟨rfl, rfl⟩ := h
    have hqn : qn = false := by cases qn; rfl; exact absurd (.inl rfl) hno
    subst hqn
    have hle : n ≤ s.size - pn := by
      have : ¬ n > s.size - pn := fun x => hno (.inr x)
      omega
    obtain ⟨h1, h2, h3, h4, h5⟩ := num_bytes hn
    refine ⟨h1, h2, by omega, by omega, ?_⟩
    rw [← extract_join s p.toNat pn.toNat (pn + n).toNat (by omega) (by omega), h5]
    unfold shortS
    congr 1
    have : (s.extract pn.toNat (pn + n).toNat).size = n.toNat := by simp; omega
    rw [this, Int.toNat_of_nonneg hrange.1]
theorem short_of_text {s t : ByteArray} {p p' : Int} {q : Bool} (h : rdText s p q = (t, p', false)) : rdShort s p q = (t, p', false) := by
  unfold rdText at h
  cases q with
  | true => simp at h
  | false =>
    unfold rs at h
    rcases hq : rv s p with _ | ⟨n, e⟩
    · rw [hq] at h; simp at h
    · rw [hq] at h
      have hr := rv_range hq
      simp only at h
      by_cases hc : n > 20000 ∨ (n : Int) > s.size - e
      · rw [if_pos hc] at h; simp at h
      · rw [if_neg hc] at h
        simp at h
        obtain ⟨rfl, rfl⟩ := h
        have hn : rdNum s p false = ((n : Int), (e : Int), false) := by simp [rdNum, hq]
        unfold rdShort
        rw [hn]
        unfold rdTake
        have hle : ¬ ((n : Int) > s.size - e) := fun x => hc (.inr x)
        rw [if_neg (by simpa using hle)]
        have e1 : ((e : Int) + (n : Int)).toNat = e + n := by omega
        simp only [Int.toNat_natCast, e1]
end Go.Proofs.Ytmljihfaapoakaa
end
