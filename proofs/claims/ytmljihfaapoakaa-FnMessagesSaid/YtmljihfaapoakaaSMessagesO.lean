/-
  FnMessages: whatever the arguments (any values of the parameters' types that can be read), the law returns true and each argument reads afterwards as it read before. Conditions: none.
-/
import Derived.Test.YtmljihfaapoakaaSMessagesH
import Derived.Test.YtmljihfaapoakaaSMessagesJ
import Derived.Test.YtmljihfaapoakaaSMessagesN
import Derived.Test.YtmljihfaapoakaaSMessagesA
import Derived.Test.YtmljihfaapoakaaSMessagesI
import Derived.Test.YtmljihfaapoakaaSMessagesG
import Derived.Test.YtmljihfaapoakaaRows
import Derived.WalkKit
import Derived.ProofKit
import Derived.OpenShut
import Derived.ShutString
import Derived.ChangeOld
import Derived.Below
import Derived.SizedLaws
import Derived.Carry
import Derived.KernelRfl

section
namespace Go.Proofs.Ytmljihfaapoakaa.PFnMessages
open Go.RowKit Go.Proofs.YtmljihfaapoakaaW.PrintWords
set_option linter.unusedSimpArgs false
set_option linter.unusedVariables false
theorem msg_fillB {w W : World} {b : Nat} {vE vC : Value} {es : List S43} {cf : List Int} (D : Below w.heap.size w W) (hb : w.heap.size ≤ b) (h : Blk 27 b #[.int .i64 0, .int .i64 0, .int .i64 0, .int .i64 0, .int .i64 0, .int .i64 0, .int .i64 0, .bool false, .slice none 0 0, .slice none 0 0, .string ⟨#[]⟩, .bool false] W) (he : Ents w W vE es) (hi : Ints w W vC cf) (m : MsgF) :
    Blk 27 b #[.int .i64 m.a0, .int .i64 m.a1, .int .i64 m.a2, .int .i64 m.a3, .int .i64 m.a4, .int .i64 m.a5, .int .i64 m.a6, .bool m.a7, vE, vC, .string m.d, .bool m.ls] ((((((((((((W.setCell ⟨b, 0, none⟩ (.int .i64 m.a0)).setCell ⟨b, 1, none⟩ (.int .i64 m.a1)).setCell ⟨b, 2, none⟩ (.int .i64 m.a2)).setCell ⟨b, 3, none⟩ (.int .i64 m.a3)).setCell ⟨b, 4, none⟩ (.int .i64 m.a4)).setCell ⟨b, 5, none⟩ (.int .i64 m.a5)).setCell ⟨b, 6, none⟩ (.int .i64 m.a6)).setCell ⟨b, 7, none⟩ (.bool m.a7)).setCell ⟨b, 8, none⟩ (vE)).setCell ⟨b, 9, none⟩ (vC)).setCell ⟨b, 10, none⟩ (.string m.d)).setCell ⟨b, 11, none⟩ (.bool m.ls)) ∧ Ents w ((((((((((((W.setCell ⟨b, 0, none⟩ (.int .i64 m.a0)).setCell ⟨b, 1, none⟩ (.int .i64 m.a1)).setCell ⟨b, 2, none⟩ (.int .i64 m.a2)).setCell ⟨b, 3, none⟩ (.int .i64 m.a3)).setCell ⟨b, 4, none⟩ (.int .i64 m.a4)).setCell ⟨b, 5, none⟩ (.int .i64 m.a5)).setCell ⟨b, 6, none⟩ (.int .i64 m.a6)).setCell ⟨b, 7, none⟩ (.bool m.a7)).setCell ⟨b, 8, none⟩ (vE)).setCell ⟨b, 9, none⟩ (vC)).setCell ⟨b, 10, none⟩ (.string m.d)).setCell ⟨b, 11, none⟩ (.bool m.ls)) vE es ∧ Ints w ((((((((((((W.setCell ⟨b, 0, none⟩ (.int .i64 m.a0)).setCell ⟨b, 1, none⟩ (.int .i64 m.a1)).setCell ⟨b, 2, none⟩ (.int .i64 m.a2)).setCell ⟨b, 3, none⟩ (.int .i64 m.a3)).setCell ⟨b, 4, none⟩ (.int .i64 m.a4)).setCell ⟨b, 5, none⟩ (.int .i64 m.a5)).setCell ⟨b, 6, none⟩ (.int .i64 m.a6)).setCell ⟨b, 7, none⟩ (.bool m.a7)).setCell ⟨b, 8, none⟩ (vE)).setCell ⟨b, 9, none⟩ (vC)).setCell ⟨b, 10, none⟩ (.string m.d)).setCell ⟨b, 11, none⟩ (.bool m.ls)) vC cf ∧ Below w.heap.size w ((((((((((((W.setCell ⟨b, 0, none⟩ (.int .i64 m.a0)).setCell ⟨b, 1, none⟩ (.int .i64 m.a1)).setCell ⟨b, 2, none⟩ (.int .i64 m.a2)).setCell ⟨b, 3, none⟩ (.int .i64 m.a3)).setCell ⟨b, 4, none⟩ (.int .i64 m.a4)).setCell ⟨b, 5, none⟩ (.int .i64 m.a5)).setCell ⟨b, 6, none⟩ (.int .i64 m.a6)).setCell ⟨b, 7, none⟩ (.bool m.a7)).setCell ⟨b, 8, none⟩ (vE)).setCell ⟨b, 9, none⟩ (vC)).setCell ⟨b, 10, none⟩ (.string m.d)).setCell ⟨b, 11, none⟩ (.bool m.ls)) := by
  have z0 := h.set 0 (.int .i64 m.a0) (cs' := #[.int .i64 m.a0, .int .i64 0, .int .i64 0, .int .i64 0, .int .i64 0, .int .i64 0, .int .i64 0, .bool false, .slice none 0 0, .slice none 0 0, .string ⟨#[]⟩, .bool false]) rfl
  have z1 := z0.set 1 (.int .i64 m.a1) (cs' := #[.int .i64 m.a0, .int .i64 m.a1, .int .i64 0, .int .i64 0, .int .i64 0, .int .i64 0, .int .i64 0, .bool false, .slice none 0 0, .slice none 0 0, .string ⟨#[]⟩, .bool false]) rfl
  have z2 := z1.set 2 (.int .i64 m.a2) (cs' := #[.int .i64 m.a0, .int .i64 m.a1, .int .i64 m.a2, .int .i64 0, .int .i64 0, .int .i64 0, .int .i64 0, .bool false, .slice none 0 0, .slice none 0 0, .string ⟨#[]⟩, .bool false]) rfl
  have z3 := z2.set 3 (.int .i64 m.a3) (cs' := #[.int .i64 m.a0, .int .i64 m.a1, .int .i64 m.a2, .int .i64 m.a3, .int .i64 0, .int .i64 0, .int .i64 0, .bool false, .slice none 0 0, .slice none 0 0, .string ⟨#[]⟩, .bool false]) rfl
  have z4 := z3.set 4 (.int .i64 m.a4) (cs' := #[.int .i64 m.a0, .int .i64 m.a1, .int .i64 m.a2, .int .i64 m.a3, .int .i64 m.a4, .int .i64 0, .int .i64 0, .bool false, .slice none 0 0, .slice none 0 0, .string ⟨#[]⟩, .bool false]) rfl
  have z5 := z4.set 5 (.int .i64 m.a5) (cs' := #[.int .i64 m.a0, .int .i64 m.a1, .int .i64 m.a2, .int .i64 m.a3, .int .i64 m.a4, .int .i64 m.a5, .int .i64 0, .bool false, .slice none 0 0, .slice none 0 0, .string ⟨#[]⟩, .bool false]) rfl
  have z6 := z5.set 6 (.int .i64 m.a6) (cs' := #[.int .i64 m.a0, .int .i64 m.a1, .int .i64 m.a2, .int .i64 m.a3, .int .i64 m.a4, .int .i64 m.a5, .int .i64 m.a6, .bool false, .slice none 0 0, .slice none 0 0, .string ⟨#[]⟩, .bool false]) rfl
  have z7 := z6.set 7 (.bool m.a7) (cs' := #[.int .i64 m.a0, .int .i64 m.a1, .int .i64 m.a2, .int .i64 m.a3, .int .i64 m.a4, .int .i64 m.a5, .int .i64 m.a6, .bool m.a7, .slice none 0 0, .slice none 0 0, .string ⟨#[]⟩, .bool false]) rfl
  have z8 := z7.set 8 (vE) (cs' := #[.int .i64 m.a0, .int .i64 m.a1, .int .i64 m.a2, .int .i64 m.a3, .int .i64 m.a4, .int .i64 m.a5, .int .i64 m.a6, .bool m.a7, vE, .slice none 0 0, .string ⟨#[]⟩, .bool false]) rfl
  have z9 := z8.set 9 (vC) (cs' := #[.int .i64 m.a0, .int .i64 m.a1, .int .i64 m.a2, .int .i64 m.a3, .int .i64 m.a4, .int .i64 m.a5, .int .i64 m.a6, .bool m.a7, vE, vC, .string ⟨#[]⟩, .bool false]) rfl
  have z10 := z9.set 10 (.string m.d) (cs' := #[.int .i64 m.a0, .int .i64 m.a1, .int .i64 m.a2, .int .i64 m.a3, .int .i64 m.a4, .int .i64 m.a5, .int .i64 m.a6, .bool m.a7, vE, vC, .string m.d, .bool false]) rfl
  have z11 := z10.set 11 (.bool m.ls) (cs' := #[.int .i64 m.a0, .int .i64 m.a1, .int .i64 m.a2, .int .i64 m.a3, .int .i64 m.a4, .int .i64 m.a5, .int .i64 m.a6, .bool m.a7, vE, vC, .string m.d, .bool m.ls]) rfl
  have e0 := he.far h (by decide) 0 (.int .i64 m.a0)
  have e1 := e0.far z0 (by decide) 1 (.int .i64 m.a1)
  have e2 := e1.far z1 (by decide) 2 (.int .i64 m.a2)
  have e3 := e2.far z2 (by decide) 3 (.int .i64 m.a3)
  have e4 := e3.far z3 (by decide) 4 (.int .i64 m.a4)
  have e5 := e4.far z4 (by decide) 5 (.int .i64 m.a5)
  have e6 := e5.far z5 (by decide) 6 (.int .i64 m.a6)
  have e7 := e6.far z6 (by decide) 7 (.bool m.a7)
  have e8 := e7.far z7 (by decide) 8 (vE)
  have e9 := e8.far z8 (by decide) 9 (vC)
  have e10 := e9.far z9 (by decide) 10 (.string m.d)
  have e11 := e10.far z10 (by decide) 11 (.bool m.ls)
  have f0 := hi.far h (by decide) 0 (.int .i64 m.a0)
  have f1 := f0.far z0 (by decide) 1 (.int .i64 m.a1)
  have f2 := f1.far z1 (by decide) 2 (.int .i64 m.a2)
  have f3 := f2.far z2 (by decide) 3 (.int .i64 m.a3)
  have f4 := f3.far z3 (by decide) 4 (.int .i64 m.a4)
  have f5 := f4.far z4 (by decide) 5 (.int .i64 m.a5)
  have f6 := f5.far z5 (by decide) 6 (.int .i64 m.a6)
  have f7 := f6.far z6 (by decide) 7 (.bool m.a7)
  have f8 := f7.far z7 (by decide) 8 (vE)
  have f9 := f8.far z8 (by decide) 9 (vC)
  have f10 := f9.far z9 (by decide) 10 (.string m.d)
  have f11 := f10.far z10 (by decide) 11 (.bool m.ls)
  have d0 := bl_set (p := ⟨b, 0, none⟩) (v := .int .i64 m.a0) D hb
  have d1 := bl_set (p := ⟨b, 1, none⟩) (v := .int .i64 m.a1) d0 hb
  have d2 := bl_set (p := ⟨b, 2, none⟩) (v := .int .i64 m.a2) d1 hb
  have d3 := bl_set (p := ⟨b, 3, none⟩) (v := .int .i64 m.a3) d2 hb
  have d4 := bl_set (p := ⟨b, 4, none⟩) (v := .int .i64 m.a4) d3 hb
  have d5 := bl_set (p := ⟨b, 5, none⟩) (v := .int .i64 m.a5) d4 hb
  have d6 := bl_set (p := ⟨b, 6, none⟩) (v := .int .i64 m.a6) d5 hb
  have d7 := bl_set (p := ⟨b, 7, none⟩) (v := .bool m.a7) d6 hb
  have d8 := bl_set (p := ⟨b, 8, none⟩) (v := vE) d7 hb
  have d9 := bl_set (p := ⟨b, 9, none⟩) (v := vC) d8 hb
  have d10 := bl_set (p := ⟨b, 10, none⟩) (v := .string m.d) d9 hb
  have d11 := bl_set (p := ⟨b, 11, none⟩) (v := .bool m.ls) d10 hb
  exact ⟨z11, e11, f11, d11⟩
set_option maxHeartbeats 4000000 in
set_option maxRecDepth 100000 in
theorem drawEncode_C (A : Option Addr) (c : Nat) (bs : List Int) (w : World) (hb : bs.length ≤ 1048576) (hr : Kd.C (Kd.int .u8) w A bs.length bs) (hc : bs.length ≤ c) :
    Calls Try.prog 5 #[.slice A bs.length c] w fun e w' => MsgV 5 w w' e ∧ Below w.heap.size w w' := by
  go_enter Try.func5, Try.ntmps5
  go_wp2_with fail
  obtain ⟨E, hE⟩ : ∃ E, E = w.alloc (.cells #[.int .i64 0, .int .i64 0, .int .i64 0, .int .i64 0, .int .i64 0, .int .i64 0, .int .i64 0, .bool false, .slice none 0 0, .slice none 0 0, .string ⟨#[]⟩, .bool false] 27) := ⟨_, rfl⟩
  have k2 : Blk 27 w.heap.size #[.int .i64 0, .int .i64 0, .int .i64 0, .int .i64 0, .int .i64 0, .int .i64 0, .int .i64 0, .bool false, .slice none 0 0, .slice none 0 0, .string ⟨#[]⟩, .bool false] E := by rw [hE]; exact Blk.new _ _ w
  have HE : Below w.heap.size w E := by rw [hE]; exact (by repeat (first | exact Below.refl _ _ | apply bl_alloc | apply bl_drewN | apply bl_drew | refine bl_set ?_ (by simp) | refine bl_then ?_ (by assumption)))
  rw [← hE]
  (try clear hE)
  refine (new_C A c bs E hb (Kd.C_below hr HE) hc).mono ?_
  rintro e W1 ⟨g, rfl, hC1⟩
  (try clear hr)
  go_wp2_with fail
  refine (msgAny_C hC1).mono ?_
  rintro e W2 ⟨⟨m, vE, es, vC, cf, rfl, hn, he, hi, hd⟩, DD⟩
  have HB := bl_then HE DD.1.bl
  have hsz : w.heap.size ≤ W1.heap.size := Nat.le_trans HE.size hC1.bl.size
  replace he := he.lower hsz
  replace hi := hi.lower hsz
  replace k2 := k2.below DD.1.bl
  (try clear DD); (try clear hC1); (try clear HE)
  obtain ⟨AE, cE, rfl, -, -⟩ := Kd.R_reads he.1
  obtain ⟨AC, cC, rfl, -, -⟩ := Kd.R_reads hi.1
  have HEs := Lib.hid he
  have HIs := Lib.hid hi
  (try clear he); (try clear hi)
  have x0 := k2.cell 0 rfl
  have y0 := k2.free 0
  have x1 := k2.cell 1 rfl
  have y1 := k2.free 1
  have x2 := k2.cell 2 rfl
  have y2 := k2.free 2
  have x3 := k2.cell 3 rfl
  have y3 := k2.free 3
  have x4 := k2.cell 4 rfl
  have y4 := k2.free 4
  have x5 := k2.cell 5 rfl
  have y5 := k2.free 5
  have x6 := k2.cell 6 rfl
  have y6 := k2.free 6
  have x7 := k2.cell 7 rfl
  have y7 := k2.free 7
  have x8 := k2.cell 8 rfl
  have y8 := k2.free 8
  have x9 := k2.cell 9 rfl
  have y9 := k2.free 9
  have x10 := k2.cell 10 rfl
  have y10 := k2.free 10
  have x11 := k2.cell 11 rfl
  have y11 := k2.free 11
  have l2 := k2.lt
  go_wp2_with fail
  obtain ⟨z1, z2, z3, z4⟩ := msg_fillB HB (Nat.le_refl _) k2 HEs.out HIs.out m
  exact bodyPost_ret (results_cell_row rfl _ _ w.heap.size 27 #[.int .i64 m.a0, .int .i64 m.a1, .int .i64 m.a2, .int .i64 m.a3, .int .i64 m.a4, .int .i64 m.a5, .int .i64 m.a6, .bool m.a7, .slice AE es.length cE, .slice AC cf.length cC, .string m.d, .bool m.ls] (0, 0) _ rfl z1 Try.underlying27 rfl (by kernel_rfl)) rfl ⟨⟨m, _, es, _, cf, rfl, hn, z2, z3, hd⟩, z4⟩
set_option maxHeartbeats 4000000 in
set_option maxRecDepth 100000 in
theorem drawDecode_C (A : Option Addr) (c : Nat) (bs : List Int) (w : World) (hb : bs.length ≤ 1048576) (hr : Kd.C (Kd.int .u8) w A bs.length bs) (hc : bs.length ≤ c) :
    Calls Try.prog 11 #[.slice A bs.length c] w fun e w' => (∃ r : ByteArray, e = .returned (.string r) ∧ r.size ≤ 1048576) ∧ Below w.heap.size w w' := by
  go_enter Try.func11, Try.ntmps11
  go_wp2_with fail
  refine (new_C A c bs w hb hr hc).mono ?_
  rintro e W1 ⟨g, rfl, hC1⟩
  (try clear hr)
  go_wp2_with fail
  refine (msgAny_C hC1).mono ?_
  rintro e W2 ⟨⟨m, vE, es, vC, cf, rfl, hn, he, hi, hd⟩, DD⟩
  have hC2 := DD.1
  have HB := DD.1.bl
  (try clear DD); (try clear hC1)
  obtain ⟨AE, cE, rfl, h1, hE⟩ := Kd.R_reads he.1
  obtain ⟨AC, cC, rfl, h2, hI⟩ := Kd.R_reads hi.1
  have hS : Short es := short_of_mem (fun x hx => by have := he.2 x hx; omega)
  have hcl := hi.2
  go_wp2_with fail
  obtain ⟨p, hp⟩ : ∃ p, encR m.a0 m.a1 m.a2 m.a3 m.a4 m.a5 m.a6 m.a7 es cf m.d m.ls = p := ⟨_, rfl⟩
  obtain ⟨r, b⟩ := p
  have hrs : r.size ≤ 1000000 := by
    unfold encR at hp
    split at hp
    · rename_i hm
      obtain ⟨rfl, -⟩ := Prod.mk.inj hp
      exact encS_size hm (by omega) (by omega) (by omega)
    · obtain ⟨rfl, -⟩ := Prod.mk.inj hp
      exact Nat.zero_le _
  refine (spec_encC m.a0 m.a1 m.a2 m.a3 m.a4 m.a5 m.a6 m.a7 es cf m.d m.ls hS (by omega) (by omega) r b (Lib.hid hp) _ _ _ _ W2 h1 h2 hE hI).mono ?_
  rintro e W3 ⟨rfl, hb3⟩
  have hC3 := hC2.below hb3
  (try clear hb3); (try clear hC2); (try clear hE); (try clear hI); (try clear he); (try clear hi)
  go_wp2_with fail
  refine (spoilt_C r hrs hC3).mono ?_
  rintro e W4 ⟨⟨r4, rfl, h4⟩, D4⟩
  go_wp2_with fail
  go_ret
  exact ⟨⟨r4, rfl, by omega⟩, D4.1.bl⟩
end Go.Proofs.Ytmljihfaapoakaa.PFnMessages
end

section
namespace Go.Proofs.Ytmljihfaapoakaa.PFnMessages
open Go.RowKit Go.Proofs.YtmljihfaapoakaaW.PrintWords Go.Proofs.YtmljihfaapoakaaW.PrintLast Go.Proofs.YtmljihfaapoakaaW.PrintMore
set_option linter.unusedVariables false
set_option linter.unusedSimpArgs false
def laws_sameInts.l0 : Nat → List Int → List Int → Int → Option (Bool)
  | 0, _, _, _ => none
  | k + 1, x0, x1, x5 => if x5 < (x0.length : Int) then (if 0 ≤ x5 then (if x5 < (x1.length : Int) then (if (rd x0 x5) = (rd x1 x5) then (laws_sameInts.l0 k x0 x1 (wrap64 (x5 + 1))) else (some false)) else (none)) else (none)) else (some true)
def laws_sameInts.f (k : Nat) (l0 : List Int) (l1 : List Int) : Option (Bool) := if (l0.length : Int) = (l1.length : Int) then (laws_sameInts.l0 k l0 l1 0) else (some false)
theorem laws_sameInts.mono_l : ∀ k, (∀ y0 y1 y2, LeO (laws_sameInts.l0 k y0 y1 y2) (laws_sameInts.l0 (k + 1) y0 y1 y2))
  | 0 => fun _ _ _ r h => by simp [laws_sameInts.l0] at h
  | k + 1 => by
    have ih0 := laws_sameInts.mono_l k
    · intro y0 y1 y2
      unfold laws_sameInts.l0
      repeat' first
      | (with_reducible exact ih0 _ _ _)
      | (with_reducible exact LeO.refl _)
      | (with_reducible exact LeO.none _)
      | (with_reducible refine LeO.ite ?_ ?_)
      | (with_reducible refine LeO.bind ?_ (fun _ => ?_))
      | exact ih0 _ _ _
      | exact LeO.none _
      | refine LeO.ite ?_ ?_
      | refine LeO.bind ?_ (fun _ => ?_)
theorem laws_sameInts.mono : ∀ a0 a1 k, LeO (laws_sameInts.f k a0 a1) (laws_sameInts.f (k + 1) a0 a1) := by
  intro a0 a1 k
  have ih0 := laws_sameInts.mono_l k
  unfold laws_sameInts.f
  repeat' first
      | (with_reducible exact ih0 _ _ _)
      | (with_reducible exact LeO.refl _)
      | (with_reducible exact LeO.none _)
      | (with_reducible refine LeO.ite ?_ ?_)
      | (with_reducible refine LeO.bind ?_ (fun _ => ?_))
      | exact ih0 _ _ _
      | exact LeO.none _
      | refine LeO.ite ?_ ?_
      | refine LeO.bind ?_ (fun _ => ?_)
set_option maxHeartbeats 8000000 in
set_option maxRecDepth 100000 in
theorem laws_sameInts.calls (k : Nat) (A0 : Option Addr) (c0 : Nat) (l0 : List Int) (A1 : Option Addr) (c1 : Nat) (l1 : List Int) (r : Bool) (w : World) (hr0 : Kd.C (Kd.int .i64) w A0 l0.length l0) (hc0 : l0.length ≤ c0) (hr1 : Kd.C (Kd.int .i64) w A1 l1.length l1) (hc1 : l1.length ≤ c1) (h : laws_sameInts.f k l0 l1 = some r) :
    Calls Try.prog 34 #[.slice A0 l0.length c0, .slice A1 l1.length c1] w fun e w' => e = .returned (.bool r) ∧ Drawn0 w w' := by
  have HR0 := Aside0.mk hr0
  have HC0 := Aside0.mk hc0
  clear hr0 hc0
  have HR1 := Aside0.mk hr1
  have HC1 := Aside0.mk hc1
  clear hr1 hc1
  have H : (if (l0.length : Int) = (l1.length : Int) then (laws_sameInts.l0 k l0 l1 0) else (some false)) = some r := h
  clear h
  by_cases c3 : (l0.length : Int) = (l1.length : Int)
  · rw [if_pos c3] at H
    have c3b0 : ((l0.length : Int) == (l1.length : Int)) = true := beq_iff_eq.mpr c3
    have c3b1 : ((l0.length : Int) != (l1.length : Int)) = false := bne_eq_false_iff_eq.mpr c3
    have c3b2 : (l0.length == l1.length) = true := by first | simpa using c3 | (simp at c3 ⊢; omega)
    clear c3
    have H' := Aside0.mk H
    clear H
    go_enter Try.func34, Try.ntmps34
    go_wp2
    repeat (go_quiet (fail); try go_wp2)
    go_loopg [5] k (fun kq v5 w' => ∃ (x5_1 : Int), v5 = .int .i64 x5_1 ∧ Aside0 (laws_sameInts.l0 kq l0 l1 x5_1 = some r) ∧ Aside0 (kq ≤ k) ∧ Drawn0 w w')
    case atStart => exact ⟨(0), (by first | rfl | (simp; done) | (simp [*]; done)), H', ⟨Nat.le_refl _⟩, by repeat (first | exact Drawn0.refl _ | apply Drawn0.step)⟩
    case round =>
      clear H'
      try clear c1
      try clear p2
      try clear c3
      try clear c3b0
      try clear c3b1
      try clear c3b2
      obtain ⟨x5_1, rfl, HA, HK1, ⟨m1, rfl⟩⟩ := hrel
      cases gk with
      | zero => exact absurd HA.out (by simp [laws_sameInts.l0])
      | succ k1 =>
        have H := HA.out
        clear HA
        simp only [laws_sameInts.l0] at H
        by_cases c4 : x5_1 < (l0.length : Int)
        · rw [if_pos c4] at H
          have c4b0 : decide (x5_1 < (l0.length : Int)) = true := decide_eq_true c4
          clear c4
          by_cases c5 : 0 ≤ x5_1
          · rw [if_pos c5] at H
            have c5b0 : decide (0 ≤ x5_1) = true := decide_eq_true c5
            clear c5
            by_cases c6 : x5_1 < (l1.length : Int)
            · rw [if_pos c6] at H
              have c6b0 : decide (x5_1 < (l1.length : Int)) = true := decide_eq_true c6
              clear c6
              by_cases c7 : (rd l0 x5_1) = (rd l1 x5_1)
              · rw [if_pos c7] at H
                have c7b0 : ((rd l0 x5_1) == (rd l1 x5_1)) = true := beq_iff_eq.mpr c7
                have c7b1 : ((rd l0 x5_1) != (rd l1 x5_1)) = false := bne_eq_false_iff_eq.mpr c7
                clear c7
                have H' := Aside0.mk H
                clear H
                have p585 : 0 ≤ (x5_1 : Int) := of_decide_eq_true (by first | (with_reducible assumption) | assumption)
                have q585 : x5_1 < (l0.length : Int) := of_decide_eq_true (by first | (with_reducible assumption) | assumption)
                obtain ⟨ad585, e585, hx585_0⟩ := Kd.at_int HR0.out x5_1 p585 q585
                cases e585
                replace p585 := eq_true p585
                replace q585 := eq_true q585
                have p586 : 0 ≤ (x5_1 : Int) := of_decide_eq_true (by first | (with_reducible assumption) | assumption)
                have q586 : x5_1 < (l1.length : Int) := of_decide_eq_true (by first | (with_reducible assumption) | assumption)
                obtain ⟨ad586, e586, hx586_0⟩ := Kd.at_int HR1.out x5_1 p586 q586
                cases e586
                replace p586 := eq_true p586
                replace q586 := eq_true q586
                go_wp2
                repeat (go_quiet (fail); try go_wp2)
                go_roundg k1
                case measure => have := HK1.out; omega
                case rel => exact ⟨(wrap64 (x5_1 + 1)), (by first | rfl | (simp; done) | (simp [*]; done)), H', ⟨by have := HK1.out; omega⟩, by repeat (first | exact Drawn0.refl _ | apply Drawn0.step)⟩
              · rw [if_neg c7] at H
                have c7b0 : ((rd l0 x5_1) == (rd l1 x5_1)) = false := beq_eq_false_iff_ne.mpr c7
                have c7b1 : ((rd l0 x5_1) != (rd l1 x5_1)) = true := bne_iff_ne.mpr c7
                obtain rfl := Option.some.inj H
                have p585 : 0 ≤ (x5_1 : Int) := of_decide_eq_true (by first | (with_reducible assumption) | assumption)
                have q585 : x5_1 < (l0.length : Int) := of_decide_eq_true (by first | (with_reducible assumption) | assumption)
                obtain ⟨ad585, e585, hx585_0⟩ := Kd.at_int HR0.out x5_1 p585 q585
                cases e585
                replace p585 := eq_true p585
                replace q585 := eq_true q585
                have p586 : 0 ≤ (x5_1 : Int) := of_decide_eq_true (by first | (with_reducible assumption) | assumption)
                have q586 : x5_1 < (l1.length : Int) := of_decide_eq_true (by first | (with_reducible assumption) | assumption)
                obtain ⟨ad586, e586, hx586_0⟩ := Kd.at_int HR1.out x5_1 p586 q586
                cases e586
                replace p586 := eq_true p586
                replace q586 := eq_true q586
                go_wp2
                repeat (go_quiet (fail); try go_wp2)
                go_ret
                exact ⟨by first | rfl | (simp; done) | (simp [*]; done), by repeat (first | exact Drawn0.refl _ | apply Drawn0.step)⟩
            · rw [if_neg c6] at H
              exact absurd H (by simp)
          · rw [if_neg c5] at H
            exact absurd H (by simp)
        · rw [if_neg c4] at H
          have c4b0 : decide (x5_1 < (l0.length : Int)) = false := decide_eq_false c4
          clear c4
          obtain rfl := Option.some.inj H
          go_wp2
          repeat (go_quiet (fail); try go_wp2)
          go_ret
          exact ⟨by first | rfl | (simp; done) | (simp [*]; done), by repeat (first | exact Drawn0.refl _ | apply Drawn0.step)⟩
  · rw [if_neg c3] at H
    have c3b0 : ((l0.length : Int) == (l1.length : Int)) = false := beq_eq_false_iff_ne.mpr c3
    have c3b1 : ((l0.length : Int) != (l1.length : Int)) = true := bne_iff_ne.mpr c3
    have c3b2 : (l0.length == l1.length) = false := by first | simpa using c3 | (simp at c3 ⊢; omega)
    obtain rfl := Option.some.inj H
    go_enter Try.func34, Try.ntmps34
    go_wp2
    repeat (go_quiet (fail); try go_wp2)
    go_ret
    exact ⟨by first | rfl | (simp; done) | (simp [*]; done), by repeat (first | exact Drawn0.refl _ | apply Drawn0.step)⟩
end Go.Proofs.Ytmljihfaapoakaa.PFnMessages
end

section
namespace Go.Proofs.Ytmljihfaapoakaa
open Go.RowKit Go.Proofs.YtmljihfaapoakaaW.PrintWords PFnMessages
set_option linter.unusedSimpArgs false
set_option linter.unusedVariables false
theorem sameI_l0 (xs : List Int) : ∀ (n k i : Nat), n + i = xs.length → n < k → xs.length < 4611686018427387904 → laws_sameInts.l0 k xs xs i = some true
  | 0, 0, _, _, hk, _ => by omega
  | 0, k + 1, i, h, hk, hl => by
    unfold laws_sameInts.l0
    rw [if_neg (by omega)]
  | n + 1, 0, _, _, hk, _ => by omega
  | n + 1, k + 1, i, h, hk, hl => by
    have e1 : wrap64 ((i : Int) + 1) = ((i + 1 : Nat) : Int) := by unfold wrap64; omega
    unfold laws_sameInts.l0
    rw [if_pos (by omega), if_pos (by omega), if_pos (by omega), if_pos rfl, e1]
    clear e1
    exact sameI_l0 xs n k (i + 1) (by omega) (by omega) hl
theorem sameInts_C (A : Option Addr) (a : Nat) (B : Option Addr) (b : Nat) (xs : List Int) (w : World) (hl : xs.length ≤ 1048576) (ha : xs.length ≤ a) (hb : xs.length ≤ b) (hA : Kd.C (Kd.int .i64) w A xs.length xs) (hB : Kd.C (Kd.int .i64) w B xs.length xs) :
    Calls Try.prog 34 #[.slice A xs.length a, .slice B xs.length b] w fun e w' => e = .returned (.bool true) ∧ Below w.heap.size w w' := by
  refine (PFnMessages.laws_sameInts.calls 1048577 A a xs B b xs true w hA ha hB hb ?_).mono ?_
  · unfold laws_sameInts.f
    rw [if_pos rfl]
    exact sameI_l0 xs xs.length 1048577 0 (by omega) (by omega) (by omega)
  · rintro e w' h
    first | exact h | (obtain ⟨rfl, n, rfl⟩ := h; exact ⟨rfl, bl_drewN (Below.refl _ _) n⟩)
set_option maxHeartbeats 4000000 in
set_option maxRecDepth 100000 in
theorem laws_sameMC (es : List S43) (a0 a1 a2 a3 a4 a5 a6 : Int) (a7 : Bool) (cf : List Int) (d : ByteArray) (ls : Bool) (hl : es.length ≤ 1048576) (hcl : cf.length ≤ 1048576) (B8 : Option Addr) (b8 : Nat) (B9 : Option Addr) (b9 : Nat) (D8 : Option Addr) (d8 : Nat) (D9 : Option Addr) (d9 : Nat) (w : World) (h8 : es.length ≤ b8) (h9 : cf.length ≤ b9) (hC8 : Kd.C k43 w B8 es.length es) (hC9 : Kd.C (Kd.int .i64) w B9 cf.length cf)
    (g8 : es.length ≤ d8) (g9 : cf.length ≤ d9) (gC8 : Kd.C k43 w D8 es.length es) (gC9 : Kd.C (Kd.int .i64) w D9 cf.length cf) :
    Calls Try.prog 10 #[.agg #[.int .i64 a0, .int .i64 a1, .int .i64 a2, .int .i64 a3, .int .i64 a4, .int .i64 a5, .int .i64 a6, .bool a7, .slice B8 es.length b8, .slice B9 cf.length b9, .string d, .bool ls], .agg #[.int .i64 a0, .int .i64 a1, .int .i64 a2, .int .i64 a3, .int .i64 a4, .int .i64 a5, .int .i64 a6, .bool a7, .slice D8 es.length d8, .slice D9 cf.length d9, .string d, .bool ls]] w fun e w' => e = .returned (.bool true) ∧ Below w.heap.size w w' := by
  obtain ⟨c1, hc1⟩ : ∃ c, c = #[Value.int .i64 a0, .int .i64 a1, .int .i64 a2, .int .i64 a3, .int .i64 a4, .int .i64 a5, .int .i64 a6, .bool a7, .slice B8 es.length b8, .slice B9 cf.length b9, .string d, .bool ls] := ⟨_, rfl⟩
  obtain ⟨c2, hc2⟩ : ∃ c, c = #[Value.int .i64 a0, .int .i64 a1, .int .i64 a2, .int .i64 a3, .int .i64 a4, .int .i64 a5, .int .i64 a6, .bool a7, .slice D8 es.length d8, .slice D9 cf.length d9, .string d, .bool ls] := ⟨_, rfl⟩
  have HB8 := Lib.hid hC8
  have HB9 := Lib.hid hC9
  have HD8 := Lib.hid gC8
  have HD9 := Lib.hid gC9
  clear hC8 hC9 gC8 gC9
  go_enter Try.func10, Try.ntmps10
  go_wp2_with fail
  refine calls_at (fun X => Below w.heap.size w X ∧ Blk 27 w.heap.size c1 X ∧ Blk 27 (w.heap.size + 1) c2 X ∧ Kd.C k43 X B8 es.length es ∧ Kd.C k43 X D8 es.length es ∧ Kd.C (Kd.int .i64) X B9 cf.length cf ∧ Kd.C (Kd.int .i64) X D9 cf.length cf) ⟨(by repeat (first | exact Below.refl _ _ | apply bl_alloc | apply bl_drewN | apply bl_drew | refine bl_set ?_ (by simp) | refine bl_then ?_ (by assumption))), by rw [hc1]; exact (Blk.new _ _ w).alloc _, by rw [hc2]; exact Blk.newE _ _ (w.alloc _) (by simp), Kd.C_below HB8.out (by repeat (first | exact Below.refl _ _ | apply bl_alloc | apply bl_drewN | apply bl_drew | refine bl_set ?_ (by simp) | refine bl_then ?_ (by assumption))), Kd.C_below HD8.out (by repeat (first | exact Below.refl _ _ | apply bl_alloc | apply bl_drewN | apply bl_drew | refine bl_set ?_ (by simp) | refine bl_then ?_ (by assumption))), Kd.C_below HB9.out (by repeat (first | exact Below.refl _ _ | apply bl_alloc | apply bl_drewN | apply bl_drew | refine bl_set ?_ (by simp) | refine bl_then ?_ (by assumption))), Kd.C_below HD9.out (by repeat (first | exact Below.refl _ _ | apply bl_alloc | apply bl_drewN | apply bl_drew | refine bl_set ?_ (by simp) | refine bl_then ?_ (by assumption)))⟩ ?_
  clear HB8 HB9 HD8 HD9
  rintro X ⟨B1, k1, k2, hB8, hD8, hB9, hD9⟩
  refine (sameInts_C B9 b9 D9 d9 cf X hcl h9 g9 hB9 hD9).mono ?_
  rintro e X2 ⟨rfl, hb2⟩
  replace B1 := bl_then B1 hb2
  replace k1 := k1.below hb2
  replace k2 := k2.below hb2
  have HB8 := Lib.hid (Kd.C_below hB8 hb2)
  have HD8 := Lib.hid (Kd.C_below hD8 hb2)
  clear hB8 hD8 hB9 hD9 hb2 X
  go_wp2_with fail
  go_loopg [5] es.length (fun kq v5 w' => ∃ i : Nat, v5 = .int .i64 (i : Int) ∧ i + kq = es.length ∧ Below w.heap.size w w' ∧ Blk 27 w.heap.size c1 w' ∧ Blk 27 (w.heap.size + 1) c2 w' ∧ Kd.C k43 w' B8 es.length es ∧ Kd.C k43 w' D8 es.length es)
  case atStart => exact ⟨0, rfl, by omega, B1, k1, k2, HB8.out, HD8.out⟩
  case round =>
    obtain ⟨i, rfl, hik, hB, m1, m2, hB8, hD8⟩ := hrel
    clear B1 k1 k2 HB8 HD8
    have HB8 := Lib.hid hB8
    have HD8 := Lib.hid hD8
    clear hB8 hD8
    subst hc1 hc2
    have l1 := m1.lt
    have l2 := m2.lt
    have x8 := m1.cell 8 rfl
    have y8 := m2.cell 8 rfl
    cases gk with
    | zero =>
      have hlt : ¬ ((i : Int) < (es.length : Int)) := by omega
      have x0 := m1.cell 0 rfl
      have x1 := m1.cell 1 rfl
      have x2 := m1.cell 2 rfl
      have x3 := m1.cell 3 rfl
      have x4 := m1.cell 4 rfl
      have x5 := m1.cell 5 rfl
      have x6 := m1.cell 6 rfl
      have x7 := m1.cell 7 rfl
      have x10 := m1.cell 10 rfl
      have x11 := m1.cell 11 rfl
      have y0 := m2.cell 0 rfl
      have y1 := m2.cell 1 rfl
      have y2 := m2.cell 2 rfl
      have y3 := m2.cell 3 rfl
      have y4 := m2.cell 4 rfl
      have y5 := m2.cell 5 rfl
      have y6 := m2.cell 6 rfl
      have y7 := m2.cell 7 rfl
      have y10 := m2.cell 10 rfl
      have y11 := m2.cell 11 rfl
      go_wp2_with fail
      go_ret
      first | exact ⟨rfl, hB⟩ | exact ⟨by simp, hB⟩
    | succ n =>
      have hlt : (i : Int) < (es.length : Int) := by omega
      have E1 := Lib.hid (show wrap64 ((i : Int) + 1) = ((i + 1 : Nat) : Int) from by unfold wrap64; omega)
      go_upto_region 6 with fail
      obtain ⟨ad1, hA1, u0, u1, u2⟩ := at_T43 HB8.out (i : Int) (by omega) (by omega)
      subst hA1
      obtain ⟨ad2, hA2, z0, z1, z2⟩ := at_T43 HD8.out (i : Int) (by omega) (by omega)
      subst hA2
      rw [Int.toNat_natCast] at u0 u1 u2 z0 z1 z2
      have hi0 : (0 : Int) ≤ (i : Int) := by omega
      refine wp_region_flow [2, 3, 5] 107 (by kernel_rfl) (by rfl) (by kernel_rfl) (by kernel_rfl) (by kernel_rfl) ?_
      iterate 4 (refine flow_valE ?_; apply Exists.intro; refine ⟨fun A wq hBq hbq hdq => ?_, ?_⟩; focus (obtain ⟨hcq, hfq⟩ := bcell hBq; (try simp [go_sem, baseF, deps, dep1, Region.binds] at hbq); (try simp [go_sem, baseF, deps, dep1, Region.binds, NewSl] at hdq); go_simp; first | exact ⟨Below.refl _ _, rfl⟩ | (rw [if_neg]; (focus (exact ⟨Below.refl _ _, rfl⟩)); (focus ((try simp only [ByteArray.size_append]); omega))) | (fail)))
      refine flow_valE ?_
      refine ⟨.agg #[.int .i64 (rd_T43 es (i : Int)).f0, .int .i64 (rd_T43 es (i : Int)).f1, .string (rd_T43 es (i : Int)).f2], fun A wq hBq hbq hdq => ?_, ?_⟩
      · have t0 := (hBq.cell (World.block_lt_of_cell? _ _ u0)).trans u0
        have t1 := (hBq.cell (World.block_lt_of_cell? _ _ u1)).trans u1
        have t2 := (hBq.cell (World.block_lt_of_cell? _ _ u2)).trans u2
        (try simp [go_sem, baseF, deps, dep1, Region.binds] at hbq)
        (try simp [go_sem, baseF, deps, dep1, Region.binds, NewSl] at hdq)
        go_simp
        first | exact Below.refl _ _ | exact ⟨Below.refl _ _, rfl⟩
      iterate 4 (refine flow_valE ?_; apply Exists.intro; refine ⟨fun A wq hBq hbq hdq => ?_, ?_⟩; focus (obtain ⟨hcq, hfq⟩ := bcell hBq; (try simp [go_sem, baseF, deps, dep1, Region.binds] at hbq); (try simp [go_sem, baseF, deps, dep1, Region.binds, NewSl] at hdq); go_simp; first | exact ⟨Below.refl _ _, rfl⟩ | (rw [if_neg]; (focus (exact ⟨Below.refl _ _, rfl⟩)); (focus ((try simp only [ByteArray.size_append]); omega))) | (fail)))
      refine flow_valE ?_
      refine ⟨.agg #[.int .i64 (rd_T43 es (i : Int)).f0, .int .i64 (rd_T43 es (i : Int)).f1, .string (rd_T43 es (i : Int)).f2], fun A wq hBq hbq hdq => ?_, ?_⟩
      · have t0 := (hBq.cell (World.block_lt_of_cell? _ _ z0)).trans z0
        have t1 := (hBq.cell (World.block_lt_of_cell? _ _ z1)).trans z1
        have t2 := (hBq.cell (World.block_lt_of_cell? _ _ z2)).trans z2
        (try simp [go_sem, baseF, deps, dep1, Region.binds] at hbq)
        (try simp [go_sem, baseF, deps, dep1, Region.binds, NewSl] at hdq)
        go_simp
        first | exact Below.refl _ _ | exact ⟨Below.refl _ _, rfl⟩
      (refine flow_valE ?_; apply Exists.intro; refine ⟨fun A wq hBq hbq hdq => ?_, ?_⟩; focus (obtain ⟨hcq, hfq⟩ := bcell hBq; (try simp [go_sem, baseF, deps, dep1, Region.binds] at hbq); (try simp [go_sem, baseF, deps, dep1, Region.binds, NewSl] at hdq); go_simp; first | exact ⟨Below.refl _ _, rfl⟩ | (rw [if_neg]; (focus (exact ⟨Below.refl _ _, rfl⟩)); (focus ((try simp only [ByteArray.size_append]); omega))) | (fail)))
      refine fun x wq hBq hall => ?_
      simp only [allT] at hall
      simp [frameOf, Act.put, hall]
      clear hall
      have hB' := bl_then hB hBq
      have m1' := m1.below hBq
      have m2' := m2.below hBq
      have HB8' := Lib.hid (Kd.C_below HB8.out hBq)
      have HD8' := Lib.hid (Kd.C_below HD8.out hBq)
      clear u0 u1 u2 z0 z1 z2 x8 y8 l1 l2 hBq m1 m2 HB8 HD8 hB
      go_wp2_with fail
      go_roundg n
      case measure => omega
      case rel => exact ⟨i + 1, by first | rfl | (rw [E1.out]), by omega, hB', m1', m2', HB8'.out, HD8'.out⟩
end Go.Proofs.Ytmljihfaapoakaa
end

section
namespace Go.Proofs.Ytmljihfaapoakaa.PFnMessages
open Go.RowKit Go.Proofs.YtmljihfaapoakaaW.PrintWords Go.Proofs.YtmljihfaapoakaaW.PrintLast Go.Proofs.YtmljihfaapoakaaW.PrintMore
set_option linter.unusedVariables false
set_option linter.unusedSimpArgs false
def laws_big.f (l0 : List Int) : Option (Bool) := some (decide ((l0.length : Int) > 1048576))
set_option maxHeartbeats 8000000 in
set_option maxRecDepth 100000 in
theorem laws_big.calls (A0 : Option Addr) (c0 : Nat) (l0 : List Int) (r : Bool) (w : World) (hr0 : Kd.C (Kd.int .u8) w A0 l0.length l0) (hc0 : l0.length ≤ c0) (h : laws_big.f l0 = some r) :
    Calls Try.prog 4 #[.slice A0 l0.length c0] w fun e w' => e = .returned (.bool r) ∧ Drawn0 w w' := by
  have HR0 := Aside0.mk hr0
  have HC0 := Aside0.mk hc0
  clear hr0 hc0
  have H : (some (decide ((l0.length : Int) > 1048576))) = some r := h
  clear h
  obtain rfl := Option.some.inj H
  go_enter Try.func4, Try.ntmps4
  go_wp2
  go_ret
  exact ⟨by first | rfl | (simp; done) | (simp [*]; done), by repeat (first | exact Drawn0.refl _ | apply Drawn0.step)⟩
end Go.Proofs.Ytmljihfaapoakaa.PFnMessages
end

section
namespace Go.Proofs.Ytmljihfaapoakaa
open Go.RowKit Go.Proofs.YtmljihfaapoakaaW.PrintWords PFnMessages
set_option linter.unusedSimpArgs false
set_option linter.unusedVariables false
theorem big_C (A : Option Addr) (c : Nat) (bs : List Int) (q : Bool) (w : World) (hq : Hid (decide ((bs.length : Int) > 1048576) = q)) (hr : Kd.C (Kd.int .u8) w A bs.length bs) (hc : bs.length ≤ c) :
    Calls Try.prog 4 #[.slice A bs.length c] w fun e w' => e = .returned (.bool q) ∧ Below w.heap.size w w' := by
  obtain rfl := hq.out
  refine (PFnMessages.laws_big.calls A c bs _ w hr hc rfl).mono ?_
  rintro e w' h
  first | exact h | (obtain ⟨rfl, n, rfl⟩ := h; exact ⟨rfl, bl_drewN (Below.refl _ _) n⟩) | (obtain ⟨rfl, rfl⟩ := h; exact ⟨rfl, Below.refl _ _⟩)
theorem dec_of_enc (a0 a1 a2 a3 a4 a5 a6 : Int) (a7 : Bool) (es : List S43) (cf : List Int) (d : ByteArray) (ls : Bool) (s : ByteArray) (ok : Bool) (hp : encR a0 a1 a2 a3 a4 a5 a6 a7 es cf d ls = (s, ok)) (hl : es.length ≤ 1000) (hc : cf.length ≤ 1000) (hd : d.size ≤ 1000) :
    msgB a0 a1 a2 a3 a4 a5 a6 es cf d ls = ok ∧ ∃ (b0 b1 b2 b3 b4 b5 b6 : Int) (b7 : Bool) (fs : List S43) (gf : List Int) (dd : ByteArray) (bl r : Bool), (ok = true → (b0 = a0 ∧ b1 = a1 ∧ b2 = a2 ∧ b3 = a3 ∧ b4 = a4 ∧ b5 = a5 ∧ b6 = a6) ∧ (b7 = a7 ∧ fs = es ∧ gf = cf ∧ dd = d ∧ bl = ls) ∧ r = true) ∧
      ∀ w, Calls Try.prog 7 #[.string s] w fun e w' => MB w w' e b0 b1 b2 b3 b4 b5 b6 b7 fs gf dd bl r := by
  unfold encR at hp
  cases hm : msgB a0 a1 a2 a3 a4 a5 a6 es cf d ls with
  | true =>
    rw [hm, if_pos rfl] at hp
    obtain ⟨rfl, rfl⟩ := Prod.mk.inj hp
    have hz := encS_size (a7 := a7) hm hl hc hd
    obtain ⟨-, -, -, -, h⟩ := decode_yes _ (by omega) a0 a1 a2 a3 a4 a5 a6 a7 es cf d ls hm rfl
    exact ⟨rfl, a0, a1, a2, a3, a4, a5, a6, a7, es, cf, d, ls, true, fun _ => ⟨⟨rfl, rfl, rfl, rfl, rfl, rfl, rfl⟩, ⟨rfl, rfl, rfl, rfl, rfl⟩, rfl⟩, h⟩
  | false =>
    rw [hm, if_neg (by simp)] at hp
    obtain ⟨rfl, rfl⟩ := Prod.mk.inj hp
    obtain ⟨b0, b1, b2, b3, b4, b5, b6, b7, fs, gf, dd, bl, r, -, -, -, -, -, h⟩ := decode_full ⟨#[]⟩ (by decide)
    exact ⟨rfl, b0, b1, b2, b3, b4, b5, b6, b7, fs, gf, dd, bl, r, fun h => (by cases h), h⟩
set_option maxHeartbeats 4000000 in
set_option maxRecDepth 100000 in
theorem FnMessages_walk (v : Value) (W : World) (h : ArgOf Try.prog W 22 v) :
    Calls Try.prog 3 #[v] W fun e w' => e = .returned (.bool true) ∧ Below W.heap.size W w' := by
  obtain ⟨A, bs, c, rfl, hcap, hC, hlen, -⟩ := arg_slice Try.underlying22 (by kernel_rfl) (opens_int Try.underlying5) h
  (try clear h)
  have HC := Lib.hid hC
  (try clear hC)
  by_cases hbig : (bs.length : Int) > 1048576
  · have hq := Lib.hid (decide_eq_true hbig)
    (try clear hbig)
    go_enter Try.func3, Try.ntmps3
    go_wp2_with fail
    refine (big_C A c bs true W hq HC.out hcap).mono ?_
    rintro e W1 ⟨rfl, B1⟩
    go_wp2_with fail
    go_ret
    exact ⟨rfl, B1⟩
  have hb : bs.length ≤ 1048576 := by omega
  have hq := Lib.hid (decide_eq_false hbig)
  (try clear hbig)
  go_enter Try.func3, Try.ntmps3
  go_wp2_with fail
  refine (big_C A c bs false W hq HC.out hcap).mono ?_
  rintro e W1 ⟨rfl, B1⟩
  go_wp2_with fail
  refine (PFnMessages.drawEncode_C A c bs W1 hb (Kd.C_below HC.out B1) hcap).mono ?_
  rintro e W2 ⟨⟨m, vE, es, vC, cf, rfl, hn, hE, hI, hd⟩, B2'⟩
  have B2 := bl_then B1 B2'
  (try clear B1); (try clear B2')
  obtain ⟨AE, cE, rfl, hcE, hE'⟩ := Kd.R_reads hE.1
  obtain ⟨AC, cC, rfl, hcC, hI'⟩ := Kd.R_reads hI.1
  have hS : Short es := short_of_mem (fun x hx => by have := hE.2 x hx; omega)
  have hcl := hI.2
  have HEs := Lib.hid hE'
  have HIs := Lib.hid hI'
  (try clear hE); (try clear hI); (try clear hE'); (try clear hI')
  obtain ⟨⟨s, ok⟩, hp⟩ : ∃ p, encR m.a0 m.a1 m.a2 m.a3 m.a4 m.a5 m.a6 m.a7 es cf m.d m.ls = p := ⟨_, rfl⟩
  obtain ⟨hmB, b0, b1, b2, b3, b4, b5, b6, b7, fs, gf, dd, bl, rt, hback, hdec⟩ := dec_of_enc m.a0 m.a1 m.a2 m.a3 m.a4 m.a5 m.a6 m.a7 es cf m.d m.ls s ok hp (by omega) (by omega) (by omega)
  have Hp := Lib.hid hp
  have HmB := Lib.hid hmB
  have Hdec := Lib.hid hdec
  (try clear hp); (try clear hmB); (try clear hdec)
  go_wp2_with fail
  obtain ⟨t3, ht3⟩ : ∃ b, b = W2.heap.size := ⟨_, rfl⟩
  refine calls_at (fun X => Below W.heap.size W X ∧ Blk 27 t3 #[.int .i64 m.a0, .int .i64 m.a1, .int .i64 m.a2, .int .i64 m.a3, .int .i64 m.a4, .int .i64 m.a5, .int .i64 m.a6, .bool m.a7, .slice AE es.length cE, .slice AC cf.length cC, .string m.d, .bool m.ls] X ∧ Kd.C k43 X AE es.length es ∧ Kd.C (Kd.int .i64) X AC cf.length cf) ⟨bl_alloc B2 _, Blk.newE _ _ W2 ht3, Kd.C_below HEs.out (bl_alloc (Below.refl _ _) _), Kd.C_below HIs.out (bl_alloc (Below.refl _ _) _)⟩ ?_
  (try rw [← ht3])
  (try clear ht3); (try clear HEs); (try clear HIs); (try clear B2)
  rintro X ⟨B2, k3, hE, hI⟩
  refine (impl_encC m.a0 m.a1 m.a2 m.a3 m.a4 m.a5 m.a6 m.a7 es cf m.d m.ls hS (by omega) (by omega) s ok Hp _ _ _ _ X hcE hcC hE hI).mono ?_
  rintro e W3 ⟨rfl, hb3⟩
  have B3 := bl_then B2 hb3
  have K3 := k3.below hb3
  have HEs := Lib.hid (Kd.C_below hE hb3)
  have HIs := Lib.hid (Kd.C_below hI hb3)
  (try clear B2); (try clear k3); (try clear hE); (try clear hI); (try clear hb3)
  go_wp2_with fail
  refine (Hdec.out W3).mono ?_
  rintro e W4 ⟨u8, u9, rfl, R8, R9, hb4⟩
  obtain ⟨B8, b8, rfl, h8, C8⟩ := Kd.R_reads R8
  obtain ⟨B9, b9, rfl, h9, C9⟩ := Kd.R_reads R9
  have B4 := bl_then B3 hb4
  have K4 := K3.below hb4
  have HE4 := Lib.hid (Kd.C_below HEs.out hb4)
  have HI4 := Lib.hid (Kd.C_below HIs.out hb4)
  have HC8 := Lib.hid C8
  have HC9 := Lib.hid C9
  (try clear B3); (try clear K3); (try clear HEs); (try clear HIs); (try clear hb4); (try clear R8); (try clear R9); (try clear C8); (try clear C9)
  have l3 := K4.lt
  have x0 := K4.cell 0 rfl
  have x1 := K4.cell 1 rfl
  have x2 := K4.cell 2 rfl
  have x3 := K4.cell 3 rfl
  have x4 := K4.cell 4 rfl
  have x5 := K4.cell 5 rfl
  have x6 := K4.cell 6 rfl
  have x7 := K4.cell 7 rfl
  have x8 := K4.cell 8 rfl
  have x9 := K4.cell 9 rfl
  have x10 := K4.cell 10 rfl
  have x11 := K4.cell 11 rfl
  go_wp2_with fail
  obtain ⟨t6, ht6⟩ : ∃ b, b = W4.heap.size := ⟨_, rfl⟩
  refine calls_at (fun X => Below W.heap.size W X ∧ Blk 27 t3 #[.int .i64 m.a0, .int .i64 m.a1, .int .i64 m.a2, .int .i64 m.a3, .int .i64 m.a4, .int .i64 m.a5, .int .i64 m.a6, .bool m.a7, .slice AE es.length cE, .slice AC cf.length cC, .string m.d, .bool m.ls] X ∧ Blk 27 t6 #[.int .i64 b0, .int .i64 b1, .int .i64 b2, .int .i64 b3, .int .i64 b4, .int .i64 b5, .int .i64 b6, .bool b7, .slice B8 fs.length b8, .slice B9 gf.length b9, .string dd, .bool bl] X ∧ Kd.C k43 X AE es.length es ∧ Kd.C (Kd.int .i64) X AC cf.length cf ∧ Kd.C k43 X B8 fs.length fs ∧ Kd.C (Kd.int .i64) X B9 gf.length gf) ⟨bl_alloc B4 _, K4.alloc _, Blk.newE _ _ W4 ht6, Kd.C_below HE4.out (bl_alloc (Below.refl _ _) _), Kd.C_below HI4.out (bl_alloc (Below.refl _ _) _), Kd.C_below HC8.out (bl_alloc (Below.refl _ _) _), Kd.C_below HC9.out (bl_alloc (Below.refl _ _) _)⟩ ?_
  (try rw [← ht6])
  have n36 : t3 < t6 := by omega
  (try clear ht6); (try clear HE4); (try clear HI4); (try clear HC8); (try clear HC9); (try clear B4); (try clear K4); (try clear l3); (try clear x0); (try clear x1); (try clear x2); (try clear x3); (try clear x4); (try clear x5); (try clear x6); (try clear x7); (try clear x8); (try clear x9); (try clear x10); (try clear x11)
  rintro X ⟨B4, k3, k6, hE, hI, h8C, h9C⟩
  refine (spec_MsgH es hS m.a0 m.a1 m.a2 m.a3 m.a4 m.a5 m.a6 m.a7 cf m.d m.ls (by omega) (by omega) _ _ _ _ X hE hcE hI hcC ok HmB).mono ?_
  rintro e W5 ⟨rfl, hb5⟩
  have B5 := bl_then B4 hb5
  have K3 := k3.below hb5
  have K6 := k6.below hb5
  have HE5 := Lib.hid (Kd.C_below hE hb5)
  have HI5 := Lib.hid (Kd.C_below hI hb5)
  have H85 := Lib.hid (Kd.C_below h8C hb5)
  have H95 := Lib.hid (Kd.C_below h9C hb5)
  (try clear B4); (try clear k3); (try clear k6); (try clear hE); (try clear hI); (try clear h8C); (try clear h9C); (try clear hb5)
  have l3 := K3.lt
  have x0 := K3.cell 0 rfl
  have x1 := K3.cell 1 rfl
  have x2 := K3.cell 2 rfl
  have x3 := K3.cell 3 rfl
  have x4 := K3.cell 4 rfl
  have x5 := K3.cell 5 rfl
  have x6 := K3.cell 6 rfl
  have x7 := K3.cell 7 rfl
  have x8 := K3.cell 8 rfl
  have x9 := K3.cell 9 rfl
  have x10 := K3.cell 10 rfl
  have x11 := K3.cell 11 rfl
  go_wp2_with fail
  refine (impl_MsgH es hS m.a0 m.a1 m.a2 m.a3 m.a4 m.a5 m.a6 m.a7 cf m.d m.ls (by omega) (by omega) _ _ _ _ W5 HE5.out hcE HI5.out hcC ok HmB).mono ?_
  rintro e W6 ⟨rfl, hb6⟩
  have B6 := bl_then B5 hb6
  replace K3 := K3.below hb6
  replace K6 := K6.below hb6
  replace HE5 := Lib.hid (Kd.C_below HE5.out hb6)
  replace HI5 := Lib.hid (Kd.C_below HI5.out hb6)
  replace H85 := Lib.hid (Kd.C_below H85.out hb6)
  replace H95 := Lib.hid (Kd.C_below H95.out hb6)
  (try clear B5); (try clear hb6); (try clear l3); (try clear x0); (try clear x1); (try clear x2); (try clear x3); (try clear x4); (try clear x5); (try clear x6); (try clear x7); (try clear x8); (try clear x9); (try clear x10); (try clear x11)
  have l3 := K3.lt
  have l6 := K6.lt
  cases ok with
  | false =>
    go_wp2_with fail
    refine (PFnMessages.drawDecode_C A c bs W6 hb (Kd.C_below HC.out B6) hcap).mono ?_
    rintro e WD ⟨⟨t, rfl, ht⟩, BD'⟩
    have BD := bl_then B6 BD'
    (try clear BD'); (try clear B6); (try clear K3); (try clear K6); (try clear HE5); (try clear HI5); (try clear H85); (try clear H95); (try clear l3); (try clear l6)
    (try clear HmB); (try clear Hp); (try clear Hdec); (try clear hback)
    obtain ⟨n0, n1, n2, n3, n4, n5, n6, n7, hs, hf, ee, nl, may, hSh, hhl, hfl, hmay, hsd, hid⟩ := decode_full t ht
    have Hsd := Lib.hid hsd
    have Hid2 := Lib.hid hid
    (try clear hsd); (try clear hid)
    obtain ⟨⟨r, b⟩, hp⟩ : ∃ p, encR n0 n1 n2 n3 n4 n5 n6 n7 hs hf ee nl = p := ⟨_, rfl⟩
    have hrt : may = true → r = t := fun h => by
      obtain ⟨h1, h2⟩ := hmay h
      unfold encR at hp
      rw [h1, if_pos rfl, h2] at hp
      exact (Prod.mk.inj hp).1.symm
    have Hp := Lib.hid hp
    (try clear hp); (try clear hmay)
    go_wp2_with fail
    refine (Hid2.out WD).mono ?_
    rintro e Wa ⟨u8, u9, rfl, R8, R9, hba⟩
    obtain ⟨D8, d8, rfl, g8, C8⟩ := Kd.R_reads R8
    obtain ⟨D9, d9, rfl, g9, C9⟩ := Kd.R_reads R9
    have Ba := bl_then BD hba
    have HC8 := Lib.hid C8
    have HC9 := Lib.hid C9
    (try clear BD); (try clear hba); (try clear R8); (try clear R9); (try clear C8); (try clear C9)
    go_wp2_with fail
    obtain ⟨t9, ht9⟩ : ∃ b, b = Wa.heap.size := ⟨_, rfl⟩
    refine calls_at (fun X => Below W.heap.size W X ∧ Blk 27 t9 #[.int .i64 n0, .int .i64 n1, .int .i64 n2, .int .i64 n3, .int .i64 n4, .int .i64 n5, .int .i64 n6, .bool n7, .slice D8 hs.length d8, .slice D9 hf.length d9, .string ee, .bool nl] X ∧ Kd.C k43 X D8 hs.length hs ∧ Kd.C (Kd.int .i64) X D9 hf.length hf) ⟨bl_alloc Ba _, Blk.newE _ _ Wa ht9, Kd.C_below HC8.out (bl_alloc (Below.refl _ _) _), Kd.C_below HC9.out (bl_alloc (Below.refl _ _) _)⟩ ?_
    (try rw [← ht9])
    (try clear ht9); (try clear HC8); (try clear HC9); (try clear Ba)
    rintro X ⟨Ba, k9, h8C, h9C⟩
    refine (Hsd.out X).mono ?_
    rintro e Wb ⟨u8, u9, rfl, R8, R9, hbb⟩
    obtain ⟨F8, f8, rfl, -, -⟩ := Kd.R_reads R8
    obtain ⟨F9, f9, rfl, -, -⟩ := Kd.R_reads R9
    have Bb := bl_then Ba hbb
    have K9 := k9.below hbb
    have H8b := Lib.hid (Kd.C_below h8C hbb)
    have H9b := Lib.hid (Kd.C_below h9C hbb)
    (try clear Ba); (try clear k9); (try clear h8C); (try clear h9C); (try clear hbb); (try clear R8); (try clear R9)
    have l9 := K9.lt
    have z0 := K9.cell 0 rfl
    have z1 := K9.cell 1 rfl
    have z2 := K9.cell 2 rfl
    have z3 := K9.cell 3 rfl
    have z4 := K9.cell 4 rfl
    have z5 := K9.cell 5 rfl
    have z6 := K9.cell 6 rfl
    have z7 := K9.cell 7 rfl
    have z8 := K9.cell 8 rfl
    have z9 := K9.cell 9 rfl
    have z10 := K9.cell 10 rfl
    have z11 := K9.cell 11 rfl
    go_wp2_with fail
    refine (impl_encC n0 n1 n2 n3 n4 n5 n6 n7 hs hf ee nl hSh (by omega) (by omega) r b Hp _ _ _ _ _ g8 g9 (Kd.C_below H8b.out (bl_alloc (Below.refl _ _) _)) (Kd.C_below H9b.out (bl_alloc (Below.refl _ _) _))).mono ?_
    rintro e Wc ⟨rfl, hbc⟩
    have Bc := bl_then (bl_alloc Bb _) hbc
    (try clear Bb); (try clear hbc); (try clear K9); (try clear H8b); (try clear H9b); (try clear l9)
    cases may with
    | false =>
      go_wp2_with fail
      go_ret
      exact ⟨rfl, Bc⟩
    | true =>
      obtain rfl := hrt rfl
      go_wp2_with fail
      go_ret
      first | exact ⟨rfl, Bc⟩ | exact ⟨by simp, Bc⟩
  | true =>
    obtain ⟨⟨rfl, rfl, rfl, rfl, rfl, rfl, rfl⟩, ⟨rfl, rfl, rfl, rfl, rfl⟩, rfl⟩ := hback rfl
    have x0 := K3.cell 0 rfl
    have x1 := K3.cell 1 rfl
    have x2 := K3.cell 2 rfl
    have x3 := K3.cell 3 rfl
    have x4 := K3.cell 4 rfl
    have x5 := K3.cell 5 rfl
    have x6 := K3.cell 6 rfl
    have x7 := K3.cell 7 rfl
    have x8 := K3.cell 8 rfl
    have x9 := K3.cell 9 rfl
    have x10 := K3.cell 10 rfl
    have x11 := K3.cell 11 rfl
    have y0 := K6.cell 0 rfl
    have y1 := K6.cell 1 rfl
    have y2 := K6.cell 2 rfl
    have y3 := K6.cell 3 rfl
    have y4 := K6.cell 4 rfl
    have y5 := K6.cell 5 rfl
    have y6 := K6.cell 6 rfl
    have y7 := K6.cell 7 rfl
    have y8 := K6.cell 8 rfl
    have y9 := K6.cell 9 rfl
    have y10 := K6.cell 10 rfl
    have y11 := K6.cell 11 rfl
    go_wp2_with fail
    refine (laws_sameMC fs m.a0 m.a1 m.a2 m.a3 m.a4 m.a5 m.a6 m.a7 gf m.d m.ls (by omega) (by omega) _ _ _ _ _ _ _ _ W6 h8 h9 H85.out H95.out hcE hcC HE5.out HI5.out).mono ?_
    rintro e W7 ⟨rfl, hb7⟩
    have B7 := bl_then B6 hb7
    (try clear hb7); (try clear B6); (try clear x0); (try clear x1); (try clear x2); (try clear x3); (try clear x4); (try clear x5); (try clear x6); (try clear x7); (try clear x8); (try clear x9); (try clear x10); (try clear x11); (try clear y0); (try clear y1); (try clear y2); (try clear y3); (try clear y4); (try clear y5); (try clear y6); (try clear y7); (try clear y8); (try clear y9); (try clear y10); (try clear y11)
    go_wp2_with fail
    refine (PFnMessages.drawDecode_C A c bs W7 hb (Kd.C_below HC.out B7) hcap).mono ?_
    rintro e WD ⟨⟨t, rfl, ht⟩, BD'⟩
    have BD := bl_then B7 BD'
    (try clear BD'); (try clear B6); (try clear K3); (try clear K6); (try clear HE5); (try clear HI5); (try clear H85); (try clear H95); (try clear l3); (try clear l6)
    (try clear HmB); (try clear Hp); (try clear Hdec)
    obtain ⟨n0, n1, n2, n3, n4, n5, n6, n7, hs, hf, ee, nl, may, hSh, hhl, hfl, hmay, hsd, hid⟩ := decode_full t ht
    have Hsd := Lib.hid hsd
    have Hid2 := Lib.hid hid
    (try clear hsd); (try clear hid)
    obtain ⟨⟨r, b⟩, hp⟩ : ∃ p, encR n0 n1 n2 n3 n4 n5 n6 n7 hs hf ee nl = p := ⟨_, rfl⟩
    have hrt : may = true → r = t := fun h => by
      obtain ⟨h1, h2⟩ := hmay h
      unfold encR at hp
      rw [h1, if_pos rfl, h2] at hp
      exact (Prod.mk.inj hp).1.symm
    have Hp := Lib.hid hp
    (try clear hp); (try clear hmay)
    go_wp2_with fail
    refine (Hid2.out WD).mono ?_
    rintro e Wa ⟨u8, u9, rfl, R8, R9, hba⟩
    obtain ⟨D8, d8, rfl, g8, C8⟩ := Kd.R_reads R8
    obtain ⟨D9, d9, rfl, g9, C9⟩ := Kd.R_reads R9
    have Ba := bl_then BD hba
    have HC8 := Lib.hid C8
    have HC9 := Lib.hid C9
    (try clear BD); (try clear hba); (try clear R8); (try clear R9); (try clear C8); (try clear C9)
    go_wp2_with fail
    obtain ⟨t9, ht9⟩ : ∃ b, b = Wa.heap.size := ⟨_, rfl⟩
    refine calls_at (fun X => Below W.heap.size W X ∧ Blk 27 t9 #[.int .i64 n0, .int .i64 n1, .int .i64 n2, .int .i64 n3, .int .i64 n4, .int .i64 n5, .int .i64 n6, .bool n7, .slice D8 hs.length d8, .slice D9 hf.length d9, .string ee, .bool nl] X ∧ Kd.C k43 X D8 hs.length hs ∧ Kd.C (Kd.int .i64) X D9 hf.length hf) ⟨bl_alloc Ba _, Blk.newE _ _ Wa ht9, Kd.C_below HC8.out (bl_alloc (Below.refl _ _) _), Kd.C_below HC9.out (bl_alloc (Below.refl _ _) _)⟩ ?_
    (try rw [← ht9])
    (try clear ht9); (try clear HC8); (try clear HC9); (try clear Ba)
    rintro X ⟨Ba, k9, h8C, h9C⟩
    refine (Hsd.out X).mono ?_
    rintro e Wb ⟨u8, u9, rfl, R8, R9, hbb⟩
    obtain ⟨F8, f8, rfl, -, -⟩ := Kd.R_reads R8
    obtain ⟨F9, f9, rfl, -, -⟩ := Kd.R_reads R9
    have Bb := bl_then Ba hbb
    have K9 := k9.below hbb
    have H8b := Lib.hid (Kd.C_below h8C hbb)
    have H9b := Lib.hid (Kd.C_below h9C hbb)
    (try clear Ba); (try clear k9); (try clear h8C); (try clear h9C); (try clear hbb); (try clear R8); (try clear R9)
    have l9 := K9.lt
    have z0 := K9.cell 0 rfl
    have z1 := K9.cell 1 rfl
    have z2 := K9.cell 2 rfl
    have z3 := K9.cell 3 rfl
    have z4 := K9.cell 4 rfl
    have z5 := K9.cell 5 rfl
    have z6 := K9.cell 6 rfl
    have z7 := K9.cell 7 rfl
    have z8 := K9.cell 8 rfl
    have z9 := K9.cell 9 rfl
    have z10 := K9.cell 10 rfl
    have z11 := K9.cell 11 rfl
    go_wp2_with fail
    refine (impl_encC n0 n1 n2 n3 n4 n5 n6 n7 hs hf ee nl hSh (by omega) (by omega) r b Hp _ _ _ _ _ g8 g9 (Kd.C_below H8b.out (bl_alloc (Below.refl _ _) _)) (Kd.C_below H9b.out (bl_alloc (Below.refl _ _) _))).mono ?_
    rintro e Wc ⟨rfl, hbc⟩
    have Bc := bl_then (bl_alloc Bb _) hbc
    (try clear Bb); (try clear hbc); (try clear K9); (try clear H8b); (try clear H9b); (try clear l9)
    cases may with
    | false =>
      go_wp2_with fail
      go_ret
      exact ⟨rfl, Bc⟩
    | true =>
      obtain rfl := hrt rfl
      go_wp2_with fail
      go_ret
      first | exact ⟨rfl, Bc⟩ | exact ⟨by simp, Bc⟩
end Go.Proofs.Ytmljihfaapoakaa
end

section
namespace Go.Proofs.Ytmljihfaapoakaa.fnMessages
open Go.ChangeShapes Go.WideShapes Go.ChangeAt Go.RowKit
theorem own : ownKnob Try.prog.godebug = none := by kernel_rfl
theorem laidOut : laidOutB Try.prog = true := by kernel_rfl
set_option maxRecDepth 100000 in
theorem lifted (os : Os) (started : os.Started) (H : Type) (enc : TypeId × Value → H) :
    ReturnsInHanded {} Try.checked os 3 .any (Rows.fnMessagesSpec.pre6 enc Try.prog Try.f3 Rows.fnMessagesRow.domain false) (Rows.fnMessagesSpec.post enc Try.prog Try.f3 false true false false) := by
  refine returnsInHanded_of_change_sized (C := Try.checked) own started (by kernel_rfl) Try.func3
    (ChangeSpec.witness6 (enc := enc) (C := Try.checked) false ⟨#[], #[.slice none 0 0], []⟩ 20 (by kernel_rfl) (by kernel_rfl) (by kernel_rfl) (by kernel_rfl)) ?_
  intro W base args ds gs before hval0 hW hcnd hsz0 _
  have hval : ∀ (j : Nat) t v, Try.f3.params[j]? = some t → args[j]? = some v → Value.okWide Try.prog W .any base t v := hval0
  have hW' := hW
  obtain ⟨p, q, hA0, hV, rfl, hfz, hnd⟩ := hW
  have hA : DataW.TrodAll enc Try.prog W 0 (fun _ => true) true Try.f3.params.toList args.toList ds p := hA0
  rw [Try.params3] at hA hval
  obtain ⟨v0, vs0, d0, ds0, p0, q0, hargs, rfl, rfl, h0, r0⟩ := trodAll_cons hA
  obtain ⟨rfl, rfl, rfl⟩ := trodAll_nil r0
  obtain rfl : args = #[v0] := by cases args; simp_all
  obtain ⟨rfl, rfl⟩ := trodVars_none hV
  have k0 := h0
  have lt0 : ∀ x ∈ p0, x.block < W.heap.size := by obtain ⟨m, hm⟩ := k0; exact DataW.trod_lt m _ _ _ hm
  have a0 : ArgOf Try.prog W 22 v0 := ⟨⟨base, hval 0 22 v0 rfl rfl⟩, by obtain ⟨m, hm⟩ := k0; exact ⟨H, enc, m, _, hm⟩⟩
  clear hA0 hval0 hsz0
  refine (FnMessages_walk v0 W a0).mono fun e W' ⟨he, bel⟩ => ?_
  subst he
  exact ⟨_, rfl, _, _, _, [], _, [], hW', trodAll_mk1 (shut_bool Try.underlying4 _), (trodAll_cons_mk (Below.trod laidOut (by kernel_rfl) (of_decide_eq_true (by kernel_rfl)) k0 bel lt0) trodAll_mk0), rfl, bel.frame _, fun h => by cases h⟩
theorem over : Rows.fnMessagesRow.holds Try.pinned (OpenSpec.ofChange Rows.fnMessagesSpec) :=
  OpenClaim.holds_of_wide 3 Try.f3 rfl rfl rfl rfl rfl rfl rfl ⟨rfl, rfl, rfl, rfl, rfl⟩ rfl rfl rfl rfl rfl (by kernel_rfl) Try.func3 (by kernel_rfl)
    (of_decide_eq_true (by kernel_rfl)) (by unfold Func.isWrapper; first | (rw [if_pos (by decide +kernel)]; kernel_rfl) | (rw [if_neg (by decide +kernel)]; exact ⟨rfl, rfl⟩))
    (fun os started H enc _ => lifted os started H enc)
theorem proved : Rows.FnMessagesSaid := over
#print axioms proved
end Go.Proofs.Ytmljihfaapoakaa.fnMessages
namespace Go.Proofs.Ytmljihfaapoakaa
theorem fnMessages_holds : Rows.FnMessagesSaid := fnMessages.proved
end Go.Proofs.Ytmljihfaapoakaa
end
