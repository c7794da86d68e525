import Derived.Test.YtmljihfaapoakaaSMessagesM
import Derived.Test.YtmljihfaapoakaaSMessagesJ
import Derived.Test.YtmljihfaapoakaaSMessagesG

section
namespace Go.Proofs.Ytmljihfaapoakaa
open Go.RowKit Go.Proofs.YtmljihfaapoakaaW.PrintWords PFnMessages
set_option linter.unusedSimpArgs false
set_option linter.unusedVariables false
set_option maxHeartbeats 4000000 in
set_option maxRecDepth 100000 in
theorem impl_Decode (s : ByteArray) (hs : s.size ≤ 1048576) (a0 a1 a2 a3 a4 a5 a6 n p0 p1 p2 p3 p4 p5 p6 p7 p8 p9 p10 p11 p12 : Int) (a7 ls q0 q1 q2 q3 q4 q5 q6 q7 q8 q9 q10 q11 q12 : Bool) (es : List S43) (ct d : ByteArray) (w : World)
    (h0 : Hid (rdByte s 0 false = (a0, p0, q0))) (h1 : Hid (rdByte s p0 q0 = (a1, p1, q1))) (h2 : Hid (rdByte s p1 q1 = (a2, p2, q2))) (h3 : Hid (rdNum s p2 q2 = (a3, p3, q3))) (h4 : Hid (rdNum s p3 q3 = (a4, p4, q4))) (h5 : Hid (rdNum s p4 q4 = (a5, p5, q5))) (h6 : Hid (rdNum s p5 q5 = (a6, p6, q6)))
    (h7 : Hid (rdFlag s p6 q6 = (a7, p7, q7))) (h8 : Hid (rdFlag s p7 q7 = (ls, p8, q8))) (h9 : Hid (rdMany s p8 q8 4 = (n, p9, q9))) (h10 : Hid (iRun s n.toNat p9 q9 [] = (p10, q10, es))) (h11 : Hid (rdText s p10 q10 = (ct, p11, q11))) (h12 : Hid (rdText s p11 q11 = (d, p12, q12)))
    (dn mk : Bool) (hdn : Hid ((!q12 && p12 == s.size) = dn)) (hmk : Hid (msgB a0 a1 a2 a3 a4 a5 a6 es (bytesFrom ct 0 ct.size) d ls = mk)) (hSE : Short es) (hEl : es.length ≤ 4) :
    Calls Try.prog 7 #[.string s] w fun e w' => DecBack w w' e (dn && mk) a0 a1 a2 a3 a4 a5 a6 a7 es (bytesFrom ct 0 ct.size) d ls := by
  have g : 0 ≤ (0 : Int) ∧ (0 : Int) ≤ s.size := by omega
  have r0 := byte_r h0.out g
  have r1 := byte_r h1.out ⟨r0.1, r0.2.1⟩
  have r2 := byte_r h2.out ⟨r1.1, r1.2.1⟩
  have r3 := num_r h3.out ⟨r2.1, r2.2.1⟩
  have r4 := num_r h4.out ⟨r3.1, r3.2.1⟩
  have r5 := num_r h5.out ⟨r4.1, r4.2.1⟩
  have r6 := num_r h6.out ⟨r5.1, r5.2.1⟩
  have r7 := flag_r h7.out ⟨r6.1, r6.2.1⟩
  have r8 := flag_r h8.out r7
  have r9 := many_r h9.out (by omega) r8
  have r10 := run_r s _ _ _ _ _ _ _ h10.out ⟨r9.1, r9.2.1⟩
  have r11 := text_r h11.out r10
  have r12 := text_r h12.out ⟨r11.1, r11.2.1⟩
  have hs1 : s.size ≤ 1099511627776 := by omega
  go_enter Try.func7, Try.ntmps7
  go_wp2_with fail
  refine calls_at' (fun W => Blk 27 w.heap.size #[.int .i64 0, .int .i64 0, .int .i64 0, .int .i64 0, .int .i64 0, .int .i64 0, .int .i64 0, .bool false, .slice none 0 0, .slice none 0 0, .string ⟨#[]⟩, .bool false] W ∧ Rd 48 (w.heap.size + 1) s 0 false W ∧ Below w.heap.size w W) ⟨(Blk.new _ _ w).alloc _, by have := Rd.new 48 s 0 false (w.alloc (.cells #[.int .i64 0, .int .i64 0, .int .i64 0, .int .i64 0, .int .i64 0, .int .i64 0, .int .i64 0, .bool false, .slice none 0 0, .slice none 0 0, .string ⟨#[]⟩, .bool false] 27)); simpa using this, (by repeat (first | exact Below.refl _ _ | apply bl_alloc | apply bl_drewN | apply bl_drew | refine bl_set ?_ (by simp) | refine bl_then ?_ (by assumption)))⟩ ?_
  rintro W0 ⟨k2, R0, B0⟩
  refine (rbyteH _ _ _ _ _ _ _ _ h0 hs1 g R0).mono ?_
  rintro e W1 ⟨rfl, R1, U1⟩
  replace k2 := k2.upd U1 (by omega)
  have B1 := U1.below B0 (by omega)
  have l1 := R1.lt
  clear R0 U1 B0 W0
  go_wp2_with fail
  obtain ⟨b, hb⟩ : ∃ b, b = W1.heap.size := ⟨_, rfl⟩
  refine calls_at' (DAt 48 w s p0 q0 b #[.int .i64 a0, .int .i64 0, .int .i64 0, .int .i64 0, .int .i64 0, .int .i64 0, .int .i64 0, .bool false, .slice none 0 0, .slice none 0 0, .string ⟨#[]⟩, .bool false]) ⟨k2.alloc _, R1.below (bl_alloc (Below.refl _ _) _), bl_alloc B1 _, Blk.newE _ _ W1 hb, by omega⟩ ?_
  try rw [← hb]
  clear hb k2 R1 B1 l1 W1
  intro W D
  refine (rbyteH _ _ _ _ _ _ _ _ h1 hs1 ⟨r0.1, r0.2.1⟩ D.2.1).mono ?_
  rintro e W' ⟨rfl, R, U⟩
  replace D := D.upd R U
  clear R U W
  have c := D.2.2.2.1.cell 1 rfl
  have f := D.2.2.2.1.free 1
  have l := D.2.2.2.1.lt
  go_wp2_with fail
  refine calls_at' (DAt 48 w s p1 q1 b #[.int .i64 a0, .int .i64 a1, .int .i64 0, .int .i64 0, .int .i64 0, .int .i64 0, .int .i64 0, .bool false, .slice none 0 0, .slice none 0 0, .string ⟨#[]⟩, .bool false]) (D.set rfl) ?_
  clear c f l D W'
  intro W D
  refine (rbyteH _ _ _ _ _ _ _ _ h2 hs1 ⟨r1.1, r1.2.1⟩ D.2.1).mono ?_
  rintro e W' ⟨rfl, R, U⟩
  replace D := D.upd R U
  clear R U W
  have c := D.2.2.2.1.cell 2 rfl
  have f := D.2.2.2.1.free 2
  have l := D.2.2.2.1.lt
  go_wp2_with fail
  refine calls_at' (DAt 48 w s p2 q2 b #[.int .i64 a0, .int .i64 a1, .int .i64 a2, .int .i64 0, .int .i64 0, .int .i64 0, .int .i64 0, .bool false, .slice none 0 0, .slice none 0 0, .string ⟨#[]⟩, .bool false]) (D.set rfl) ?_
  clear c f l D W'
  intro W D
  refine (rnumH _ _ _ _ _ _ _ _ h3 hs1 D.2.1).mono ?_
  rintro e W' ⟨rfl, R, U⟩
  replace D := D.upd R U
  clear R U W
  have c := D.2.2.2.1.cell 3 rfl
  have f := D.2.2.2.1.free 3
  have l := D.2.2.2.1.lt
  go_wp2_with fail
  refine calls_at' (DAt 48 w s p3 q3 b #[.int .i64 a0, .int .i64 a1, .int .i64 a2, .int .i64 a3, .int .i64 0, .int .i64 0, .int .i64 0, .bool false, .slice none 0 0, .slice none 0 0, .string ⟨#[]⟩, .bool false]) (D.set rfl) ?_
  clear c f l D W'
  intro W D
  refine (rnumH _ _ _ _ _ _ _ _ h4 hs1 D.2.1).mono ?_
  rintro e W' ⟨rfl, R, U⟩
  replace D := D.upd R U
  clear R U W
  have c := D.2.2.2.1.cell 4 rfl
  have f := D.2.2.2.1.free 4
  have l := D.2.2.2.1.lt
  go_wp2_with fail
  refine calls_at' (DAt 48 w s p4 q4 b #[.int .i64 a0, .int .i64 a1, .int .i64 a2, .int .i64 a3, .int .i64 a4, .int .i64 0, .int .i64 0, .bool false, .slice none 0 0, .slice none 0 0, .string ⟨#[]⟩, .bool false]) (D.set rfl) ?_
  clear c f l D W'
  intro W D
  refine (rnumH _ _ _ _ _ _ _ _ h5 hs1 D.2.1).mono ?_
  rintro e W' ⟨rfl, R, U⟩
  replace D := D.upd R U
  clear R U W
  have c := D.2.2.2.1.cell 5 rfl
  have f := D.2.2.2.1.free 5
  have l := D.2.2.2.1.lt
  go_wp2_with fail
  refine calls_at' (DAt 48 w s p5 q5 b #[.int .i64 a0, .int .i64 a1, .int .i64 a2, .int .i64 a3, .int .i64 a4, .int .i64 a5, .int .i64 0, .bool false, .slice none 0 0, .slice none 0 0, .string ⟨#[]⟩, .bool false]) (D.set rfl) ?_
  clear c f l D W'
  intro W D
  refine (rnumH _ _ _ _ _ _ _ _ h6 hs1 D.2.1).mono ?_
  rintro e W' ⟨rfl, R, U⟩
  replace D := D.upd R U
  clear R U W
  have c := D.2.2.2.1.cell 6 rfl
  have f := D.2.2.2.1.free 6
  have l := D.2.2.2.1.lt
  go_wp2_with fail
  refine calls_at' (DAt 48 w s p6 q6 b #[.int .i64 a0, .int .i64 a1, .int .i64 a2, .int .i64 a3, .int .i64 a4, .int .i64 a5, .int .i64 a6, .bool false, .slice none 0 0, .slice none 0 0, .string ⟨#[]⟩, .bool false]) (D.set rfl) ?_
  clear c f l D W'
  intro W D
  refine (rflagH _ _ _ _ _ _ _ _ h7 hs1 ⟨r6.1, r6.2.1⟩ D.2.1).mono ?_
  rintro e W' ⟨rfl, R, U⟩
  replace D := D.upd R U
  clear R U W
  have c := D.2.2.2.1.cell 7 rfl
  have f := D.2.2.2.1.free 7
  have l := D.2.2.2.1.lt
  go_wp2_with fail
  refine calls_at' (DAt 48 w s p7 q7 b #[.int .i64 a0, .int .i64 a1, .int .i64 a2, .int .i64 a3, .int .i64 a4, .int .i64 a5, .int .i64 a6, .bool a7, .slice none 0 0, .slice none 0 0, .string ⟨#[]⟩, .bool false]) (D.set rfl) ?_
  clear c f l D W'
  intro W D
  refine (rflagH _ _ _ _ _ _ _ _ h8 hs1 r7 D.2.1).mono ?_
  rintro e W' ⟨rfl, R, U⟩
  replace D := D.upd R U
  clear R U W
  have c := D.2.2.2.1.cell 11 rfl
  have f := D.2.2.2.1.free 11
  have l := D.2.2.2.1.lt
  go_wp2_with fail
  refine calls_at' (DAt 48 w s p8 q8 b #[.int .i64 a0, .int .i64 a1, .int .i64 a2, .int .i64 a3, .int .i64 a4, .int .i64 a5, .int .i64 a6, .bool a7, .slice none 0 0, .slice none 0 0, .string ⟨#[]⟩, .bool ls]) (D.set rfl) ?_
  clear c f l D W'
  intro W D
  refine (rmanyH _ _ _ _ _ _ _ _ _ h9 hs1 D.2.1).mono ?_
  rintro e W' ⟨rfl, R, U⟩
  replace D := D.upd R U
  clear R U W
  go_wp2_with fail
  have hn4 := r9.2.2
  obtain ⟨m, rfl⟩ : ∃ m : Nat, n = (m : Int) := ⟨n.toNat, by omega⟩
  have h10' : Hid (iRun s m p9 q9 [] = (p10, q10, es)) := h10
  clear h10
  go_loopg [41] (m + 1) (fun kq v41 w' => ∃ (i : Nat) (p : Int) (q : Bool) (acc : List S43) (vE : Value), v41 = .int .i64 (i : Int) ∧ i + kq = m + 1 ∧ Hid (iRun s (m - i) p q acc = (p10, q10, es)) ∧ (0 ≤ p ∧ p ≤ s.size) ∧ acc.length = i ∧ Kd.R k43 43 w' w.heap.size (fun k => b < k) vE acc ∧ DAt 48 w s p q b #[.int .i64 a0, .int .i64 a1, .int .i64 a2, .int .i64 a3, .int .i64 a4, .int .i64 a5, .int .i64 a6, .bool a7, vE, .slice none 0 0, .string ⟨#[]⟩, .bool ls] w')
  case atStart => exact ⟨0, p9, q9, [], .slice none 0 0, rfl, by omega, h10', ⟨r9.1, r9.2.1⟩, rfl, Kd.R_nil _ _ _ _ _, D⟩
  case round =>
    clear h10' D
    obtain ⟨i, p, q, acc, vE, rfl, hik, hrun, hp, hacc, hE, D⟩ := hrel
    obtain ⟨AE, cE, hvE, hcE, -⟩ := Kd.R_reads hE
    rw [hacc] at hvE hcE
    subst hvE
    have HE := Lib.hid hE
    clear hE
    by_cases hlt : i < m
    · obtain ⟨k1, rfl⟩ : ∃ k1, gk = k1 + 1 := ⟨gk - 1, by omega⟩
      have hlt' : (i : Int) < (m : Int) := by omega
      obtain ⟨m1, hm1⟩ : ∃ m1, m - i = m1 + 1 := ⟨m - i - 1, by omega⟩
      rw [hm1] at hrun
      rcases hx : rdText s p q with ⟨t, p', q'⟩
      rcases hy : rentI t with ⟨ok, ix, ⟨e0, e1, e2⟩⟩
      have hrun' : Hid (iRun s m1 p' (q' || !ok || ix != 1) (acc ++ [⟨e0, e1, e2⟩]) = (p10, q10, es)) := Lib.hid (by
        have h := hrun.out
        simp only [iRun, hx, hy] at h
        exact h)
      clear hrun
      have hp' := text_r hx hp
      have hx := Lib.hid hx
      go_wp2_with fail
      refine (rtextH _ _ _ _ _ _ _ _ hx hs1 D.2.1).mono ?_
      rintro e W1 ⟨rfl, R, U⟩
      have HE1 := Lib.hid (own_upd HE.out U (by have := D.2.2.2.2; omega))
      replace D := D.upd R U
      clear R U HE
      go_wp2_with fail
      have hre := impl_ReadEntryF t W1 (by omega)
      rw [hy] at hre
      refine hre.mono ?_
      clear hre
      rintro e W2 ⟨rfl, hb⟩
      have HE2 := Lib.hid (Kd.R_below HE1.out hb)
      replace D := D.below hb
      clear HE1 hb W1
      go_upto_region 14 with fail
      obtain ⟨b7, hb7⟩ : ∃ b7, b7 = W2.heap.size := ⟨_, rfl⟩
      have hbl : b < W2.heap.size := D.2.2.2.1.lt
      refine wp_at' (fun X => DAt 48 w s p' q' b #[.int .i64 a0, .int .i64 a1, .int .i64 a2, .int .i64 a3, .int .i64 a4, .int .i64 a5, .int .i64 a6, .bool a7, .slice AE i cE, .slice none 0 0, .string ⟨#[]⟩, .bool ls] X ∧ Kd.R k43 43 X w.heap.size (fun k => b < k) (.slice AE i cE) acc ∧ Blk 43 b7 #[.int .i64 e0, .int .i64 e1, .string e2] X) ⟨D.below (bl_alloc (Below.refl _ _) _), Kd.R_below HE2.out (bl_alloc (Below.refl _ _) _), Blk.newE _ _ W2 hb7⟩ ?_
      rw [← hb7]
      have n7 : b < b7 := by omega
      clear hb7 hbl D HE2 W2
      rintro X ⟨D, hE, k7⟩
      have HE := Lib.hid hE
      clear hE
      go_cut [] from 50 to 64 (fun wx => DAt 48 w s p' (q' || !ok || ix != 1) b #[.int .i64 a0, .int .i64 a1, .int .i64 a2, .int .i64 a3, .int .i64 a4, .int .i64 a5, .int .i64 a6, .bool a7, .slice AE i cE, .slice none 0 0, .string ⟨#[]⟩, .bool ls] wx ∧ Kd.R k43 43 wx w.heap.size (fun k => b < k) (.slice AE i cE) acc ∧ Blk 43 b7 #[.int .i64 e0, .int .i64 e1, .string e2] wx)
      case first =>
        obtain ⟨rc0, rc1, rc2, rcf⟩ := D.2.1.cells
        have rl := D.2.1.lt
        have nb := D.2.2.2.2
        rcases q' with _ | _
        · rcases ok with _ | _
          · go_wp2_with fail
            go_meet
            exact ⟨D.bad _, own_set HE.out (by omega), k7.far (a := ⟨w.heap.size + 1, 2, none⟩) (by show b7 ≠ w.heap.size + 1; omega) _⟩
          · cases hix : (ix != 1) with
            | true =>
              have hix2 : (ix == 1) = false := by simpa [bne] using hix
              go_wp2_with fail
              go_meet
              exact ⟨by first | exact D.bad _ | (have := D.bad true; simpa [hix] using this), own_set HE.out (by omega), k7.far (a := ⟨w.heap.size + 1, 2, none⟩) (by show b7 ≠ w.heap.size + 1; omega) _⟩
            | false =>
              have hix2 : (ix == 1) = true := by simpa [bne] using hix
              go_wp2_with fail
              go_meet
              exact ⟨by first | exact D.bad _ | (have := D.bad false; simpa [hix] using this), own_set HE.out (by omega), k7.far (a := ⟨w.heap.size + 1, 2, none⟩) (by show b7 ≠ w.heap.size + 1; omega) _⟩
        · go_wp2_with fail
          go_meet
          exact ⟨D.bad _, own_set HE.out (by omega), k7.far (a := ⟨w.heap.size + 1, 2, none⟩) (by show b7 ≠ w.heap.size + 1; omega) _⟩
      case rest =>
        clear D HE k7
        obtain ⟨D, hE, k7⟩ := hcut
        obtain ⟨qq, hqq⟩ : ∃ qq, (q' || !ok || ix != 1) = qq := ⟨_, rfl⟩
        rw [hqq] at D hrun'
        clear hqq
        have hrow : ∀ k, (Value.slice AE i cE).ownBlock = some k → b < k := fun k hk => hE.1 k hk
        have nbv : some b ≠ (Value.slice AE i cE).ownBlock := fun e => by have := hrow b e.symm; omega
        have hwz : w.heap.size ≤ wc.heap.size := D.2.2.1.size
        have k5 := D.2.2.2.1
        have c8 := k5.cell 8 rfl
        have l5 := k5.lt
        have c70 := k7.cell 0 rfl
        have c71 := k7.cell 1 rfl
        have c72 := k7.cell 2 rfl
        have l7 := k7.lt
        have HE := Lib.hid hE
        clear hE
        go_wp2_with (first | (refine Kd.R_append (w0 := wc) k43 w.heap.size rfl (.tmp 66) (.tmp 68) 24 43 (.agg #[.int .i64 0, .int .i64 0, .string ⟨#[]⟩]) 32 rfl Try.underlying24 (by kernel_rfl) rfl (by decide) (by decide) (.slice AE i cE) acc ⟨e0, e1, e2⟩ [.int .i64 e0, .int .i64 e1, .string e2] (fun k => b < k) (fun _ => False) rfl rfl (k43_mkM wc _ _ ⟨e0, e1, e2⟩) (fun k h => h.elim) (fun k hk => by omega) HE.out (Below.refl _ _) hwz (by omega) ?_; intro v1 w1 hR1 hB1 hg1 hat1; obtain ⟨A9, c9, hv9, -, -⟩ := Kd.R_reads hR1; rw [show (acc ++ [(⟨e0, e1, e2⟩ : S43)]).length = i + 1 from by simp [hacc]] at hv9; subst hv9; have D1 := D.grown hg1 hrow; have q5 := D1.2.2.2.1; have d8 := q5.cell 8 rfl; have df := q5.free 8; have dl := q5.lt; have HR1 := Lib.hid hR1; clear hR1 c8 l5 c70 c71 c72 l7 hat1))
        have hfin1 := D1.set (o := 8) (v := .slice A9 (i + 1) c9) (cs' := #[.int .i64 a0, .int .i64 a1, .int .i64 a2, .int .i64 a3, .int .i64 a4, .int .i64 a5, .int .i64 a6, .bool a7, .slice A9 (i + 1) c9, .slice none 0 0, .string ⟨#[]⟩, .bool ls]) rfl
        have hfin2 := own_set (g := b) (o := 8) (u := .slice A9 (i + 1) c9) HR1.out (Nat.le_refl _)
        clear D1 q5 d8 df dl HR1 D k5 k7 HE
        go_roundg k1
        case measure => omega
        case rel => exact ⟨i + 1, p', qq, acc ++ [⟨e0, e1, e2⟩], _, by first | rfl | simp, by omega, Lib.hid (by rw [show m - (i + 1) = m1 from by omega]; exact hrun'.out), ⟨hp'.1, hp'.2.1⟩, by simp [hacc], hfin2, hfin1⟩
    · have hm0 : m - i = 0 := by omega
      have hlt' : ¬ ((i : Int) < (m : Int)) := by omega
      rw [hm0] at hrun
      have hr := hrun.out
      simp only [iRun, Prod.mk.injEq] at hr
      obtain ⟨rfl, rfl, rfl⟩ := hr
      clear hrun
      subst hacc
      have nb := D.2.2.2.2
      go_wp2_with fail
      refine (rtextH _ _ _ _ _ _ _ _ h11 hs1 D.2.1).mono ?_
      rintro e W1 ⟨rfl, R, U⟩
      have HE1 := Lib.hid (own_upd HE.out U (by omega))
      replace D := D.upd R U
      clear R U HE
      go_wp2_with fail
      refine (impl_numbersH ct W1 (by omega)).mono ?_
      rintro e W2 ⟨vC, rfl, hC0, hb⟩
      have hbl : b < W1.heap.size := D.2.2.2.1.lt
      have hC := Kd.R_mono (Kd.R_lower (Kd.R_bound hC0) D.2.2.1.size) (ok' := fun k => b < k) (fun k hk => by have := hk.2.1; omega)
      have hbfl : (bytesFrom ct 0 ct.size).length = ct.size := bytesFrom_length _ _ _
      obtain ⟨AC, cC, rfl, hcC, -⟩ := Kd.R_reads hC
      obtain ⟨cf, hcf⟩ : ∃ cf, cf = bytesFrom ct 0 ct.size := ⟨_, rfl⟩
      rw [← hcf] at hC hcC hmk hbfl ⊢
      have HBF := Lib.hid hbfl
      have HCF := Lib.hid hcf.symm
      clear hbfl hcf
      have HC1 := Lib.hid hC
      have HE2 := Lib.hid (Kd.R_below HE1.out hb)
      replace D := D.below hb
      clear HE1 hb hC hC0 hbl W1
      have c := D.2.2.2.1.cell 9 rfl
      have f := D.2.2.2.1.free 9
      have l := D.2.2.2.1.lt
      go_wp2_with fail
      refine calls_at' (fun X => DAt 48 w s p11 q11 b #[.int .i64 a0, .int .i64 a1, .int .i64 a2, .int .i64 a3, .int .i64 a4, .int .i64 a5, .int .i64 a6, .bool a7, .slice AE acc.length cE, .slice AC cf.length cC, .string ⟨#[]⟩, .bool ls] X ∧ Kd.R k43 43 X w.heap.size (fun k => b < k) (.slice AE acc.length cE) acc ∧ Kd.R (Kd.int .i64) 3 X w.heap.size (fun k => b < k) (.slice AC cf.length cC) cf) ⟨D.set rfl, own_set HE2.out (Nat.le_refl _), own_set HC1.out (Nat.le_refl _)⟩ ?_
      clear c f l D HE2 HC1 W2
      rintro W3 ⟨D, hE, hC⟩
      have HE := Lib.hid hE
      have HC := Lib.hid hC
      clear hE hC
      refine (rtextH _ _ _ _ _ _ _ _ h12 hs1 D.2.1).mono ?_
      rintro e W4 ⟨rfl, R, U⟩
      replace HE := Lib.hid (own_upd HE.out U (by omega))
      replace HC := Lib.hid (own_upd HC.out U (by omega))
      replace D := D.upd R U
      clear R U W3
      have c := D.2.2.2.1.cell 10 rfl
      have f := D.2.2.2.1.free 10
      have l := D.2.2.2.1.lt
      go_wp2_with fail
      refine calls_at' (fun X => DAt 48 w s p12 q12 b #[.int .i64 a0, .int .i64 a1, .int .i64 a2, .int .i64 a3, .int .i64 a4, .int .i64 a5, .int .i64 a6, .bool a7, .slice AE acc.length cE, .slice AC cf.length cC, .string d, .bool ls] X ∧ Kd.R k43 43 X w.heap.size (fun k => b < k) (.slice AE acc.length cE) acc ∧ Kd.R (Kd.int .i64) 3 X w.heap.size (fun k => b < k) (.slice AC cf.length cC) cf) ⟨D.set rfl, own_set HE.out (Nat.le_refl _), own_set HC.out (Nat.le_refl _)⟩ ?_
      clear c f l D HE HC W4
      rintro W5 ⟨D, hE, hC⟩
      have HE := Lib.hid hE
      have HC := Lib.hid hC
      clear hE hC
      refine (rdoneH _ _ _ _ _ _ hdn D.2.1).mono ?_
      rintro e W6 ⟨rfl, R, U⟩
      replace HE := Lib.hid (own_upd HE.out U (by omega))
      replace HC := Lib.hid (own_upd HC.out U (by omega))
      replace D := D.upd R U
      clear R U W5
      cases dn with
      | false =>
        have k2 := D.1
        have y0 := k2.cell 0 rfl
        have y1 := k2.cell 1 rfl
        have y2 := k2.cell 2 rfl
        have y3 := k2.cell 3 rfl
        have y4 := k2.cell 4 rfl
        have y5 := k2.cell 5 rfl
        have y6 := k2.cell 6 rfl
        have y7 := k2.cell 7 rfl
        have y8 := k2.cell 8 rfl
        have y9 := k2.cell 9 rfl
        have y10 := k2.cell 10 rfl
        have y11 := k2.cell 11 rfl
        have yf : ∀ o, _ := fun o => k2.free o
        have yl := k2.lt
        go_wp2_with fail
        refine bodyPost_ret (v := .tuple #[.agg #[.int .i64 0, .int .i64 0, .int .i64 0, .int .i64 0, .int .i64 0, .int .i64 0, .int .i64 0, .bool false, .slice none 0 0, .slice none 0 0, .string ⟨#[]⟩, .bool false], .bool false]) ?_ rfl ⟨⟨.slice none 0 0, .slice none 0 0, rfl, Kd.R_nil _ _ _ _ _, Kd.R_nil _ _ _ _ _⟩, ?_⟩
        · simp only [results, Try.results7]
          go_simp
        · iterate 12 refine bl_set ?_ (Nat.le_refl _)
          exact D.2.2.1
      | true =>
        have c0 := D.2.2.2.1.cell 0 rfl
        have c1 := D.2.2.2.1.cell 1 rfl
        have c2 := D.2.2.2.1.cell 2 rfl
        have c3 := D.2.2.2.1.cell 3 rfl
        have c4 := D.2.2.2.1.cell 4 rfl
        have c5 := D.2.2.2.1.cell 5 rfl
        have c6 := D.2.2.2.1.cell 6 rfl
        have c7 := D.2.2.2.1.cell 7 rfl
        have c8 := D.2.2.2.1.cell 8 rfl
        have c9 := D.2.2.2.1.cell 9 rfl
        have c10 := D.2.2.2.1.cell 10 rfl
        have c11 := D.2.2.2.1.cell 11 rfl
        have l5 := D.2.2.2.1.lt
        go_wp2_with fail
        obtain ⟨-, -, hCE⟩ := Kd.R_reads' HE.out
        obtain ⟨-, -, hCC⟩ := Kd.R_reads' HC.out
        refine (impl_MsgH acc hSE a0 a1 a2 a3 a4 a5 a6 a7 cf d ls (by omega) (by have := HBF.out; omega) AE cE AC cC W6 hCE hcE hCC hcC mk hmk).mono ?_
        rintro e W7 ⟨rfl, hb⟩
        replace HE := Lib.hid (Kd.R_below HE.out hb)
        replace HC := Lib.hid (Kd.R_below HC.out hb)
        replace D := D.below hb
        clear hb hCE hCC c0 c1 c2 c3 c4 c5 c6 c7 c8 c9 c10 c11 l5 W6
        have k2 := D.1
        have y0 := k2.cell 0 rfl
        have y1 := k2.cell 1 rfl
        have y2 := k2.cell 2 rfl
        have y3 := k2.cell 3 rfl
        have y4 := k2.cell 4 rfl
        have y5 := k2.cell 5 rfl
        have y6 := k2.cell 6 rfl
        have y7 := k2.cell 7 rfl
        have y8 := k2.cell 8 rfl
        have y9 := k2.cell 9 rfl
        have y10 := k2.cell 10 rfl
        have y11 := k2.cell 11 rfl
        have yf : ∀ o, _ := fun o => k2.free o
        have yl := k2.lt
        cases mk with
        | false =>
          go_wp2_with fail
          refine bodyPost_ret (v := .tuple #[.agg #[.int .i64 0, .int .i64 0, .int .i64 0, .int .i64 0, .int .i64 0, .int .i64 0, .int .i64 0, .bool false, .slice none 0 0, .slice none 0 0, .string ⟨#[]⟩, .bool false], .bool false]) ?_ rfl ⟨⟨.slice none 0 0, .slice none 0 0, rfl, Kd.R_nil _ _ _ _ _, Kd.R_nil _ _ _ _ _⟩, ?_⟩
          · simp only [results, Try.results7]
            go_simp
          · iterate 12 refine bl_set ?_ (Nat.le_refl _)
            exact D.2.2.1
        | true =>
          have c0 := D.2.2.2.1.cell 0 rfl
          have c1 := D.2.2.2.1.cell 1 rfl
          have c2 := D.2.2.2.1.cell 2 rfl
          have c3 := D.2.2.2.1.cell 3 rfl
          have c4 := D.2.2.2.1.cell 4 rfl
          have c5 := D.2.2.2.1.cell 5 rfl
          have c6 := D.2.2.2.1.cell 6 rfl
          have c7 := D.2.2.2.1.cell 7 rfl
          have c8 := D.2.2.2.1.cell 8 rfl
          have c9 := D.2.2.2.1.cell 9 rfl
          have c10 := D.2.2.2.1.cell 10 rfl
          have c11 := D.2.2.2.1.cell 11 rfl
          have l5 := D.2.2.2.1.lt
          have nb2 : w.heap.size < b := by omega
          go_wp2_with fail
          have hE2 := HE.out
          have hC2 := HC.out
          rw [HCF.out]
          refine bodyPost_ret (v := .tuple #[.agg #[.int .i64 a0, .int .i64 a1, .int .i64 a2, .int .i64 a3, .int .i64 a4, .int .i64 a5, .int .i64 a6, .bool a7, .slice AE acc.length cE, .slice AC cf.length cC, .string d, .bool ls], .bool true]) ?_ rfl ⟨⟨.slice AE acc.length cE, .slice AC cf.length cC, rfl, ?_, ?_⟩, ?_⟩
          · simp only [results, Try.results7]
            go_simp
          · refine Kd.R_mono (ok := fun k => b < k) ?_ (fun _ _ => trivial)
            iterate 12 refine own_set ?_ (Nat.le_of_lt nb2)
            exact hE2
          · refine Kd.R_mono (ok := fun k => b < k) ?_ (fun _ _ => trivial)
            iterate 12 refine own_set ?_ (Nat.le_of_lt nb2)
            exact hC2
          · iterate 12 refine bl_set ?_ (Nat.le_refl _)
            exact D.2.2.1
end Go.Proofs.Ytmljihfaapoakaa
end

section
namespace Go.Proofs.Ytmljihfaapoakaa
open Go.RowKit Go.Proofs.YtmljihfaapoakaaW.PrintWords PFnMessages
set_option linter.unusedSimpArgs false
set_option linter.unusedVariables false
theorem take_r {s t : ByteArray} {p p' n : Int} {q q' : Bool} (h : rdTake s p q n = (t, p', q')) (hn : 0 ≤ n) (hp : 0 ≤ p ∧ p ≤ s.size) : 0 ≤ p' ∧ p' ≤ s.size ∧ t.size ≤ s.size := by
  unfold rdTake at h
  split at h
  · simp only [Prod.mk.injEq] at h
    obtain ⟨rfl, rfl, -⟩ := h
    exact ⟨hp.1, hp.2, Nat.zero_le _⟩
  · rename_i hc
    simp only [Prod.mk.injEq] at h
    obtain ⟨rfl, rfl, -⟩ := h
    have : ¬ n > s.size - p := fun x => hc (.inr x)
    refine ⟨by omega, by omega, ?_⟩
    rw [ByteArray.size_extract]
    omega
theorem take_size {s t : ByteArray} {p p' n : Int} {q : Bool} (h : rdTake s p q n = (t, p', false)) (hn : 0 ≤ n) (hp : 0 ≤ p ∧ p ≤ s.size) : (t.size : Int) = n ∧ q = false := by
  unfold rdTake at h
  split at h
  · simp at h
  · rename_i hc
    simp only [Prod.mk.injEq] at h
    obtain ⟨rfl, rfl, -⟩ := h
    have : ¬ n > s.size - p := fun x => hc (.inr x)
    refine ⟨?_, by cases q; rfl; exact absurd (.inl rfl) hc⟩
    rw [ByteArray.size_extract]
    omega
theorem short_r {s t : ByteArray} {p p' : Int} {q q' : Bool} (h : rdShort s p q = (t, p', q')) (hp : 0 ≤ p ∧ p ≤ s.size) : 0 ≤ p' ∧ p' ≤ s.size ∧ t.size ≤ s.size := by
  unfold rdShort at h
  have hr := rdNum_range s p q hp.1 hp.2
  exact take_r h hr.1 ⟨hr.2.2.1, hr.2.2.2⟩
theorem stakeH (g : Nat) (s : ByteArray) (p : Int) (bad : Bool) (n : Int) (t : ByteArray) (p' : Int) (bad' : Bool) (w : World) (h : Hid (rdTake s p bad n = (t, p', bad'))) (hs : s.size ≤ 1099511627776) (hp : 0 ≤ p ∧ p ≤ s.size) (hn : 0 ≤ n ∧ n ≤ 1000000000) (hR : Rd 63 g s p bad w) :
    Calls Try.prog 37 #[.pointer (some ⟨g, 0, none⟩), .int .i64 n] w fun e w' => e = .returned (.string t) ∧ Rd 63 g s p' bad' w' ∧ Upd g w w' := by
  have := spec_l05Take g s p bad n w hs hp.1 hp.2 hn.1 hn.2 hR
  rw [h.out] at this
  exact this
theorem svarH (g : Nat) (s : ByteArray) (p : Int) (bad : Bool) (n : Int) (p' : Int) (bad' : Bool) (w : World) (h : Hid (rdNum s p bad = (n, p', bad'))) (hs : s.size ≤ 1099511627776) (hR : Rd 63 g s p bad w) :
    Calls Try.prog 38 #[.pointer (some ⟨g, 0, none⟩)] w fun e w' => e = .returned (.int .i64 n) ∧ Rd 63 g s p' bad' w' ∧ Upd g w w' := by
  have := spec_l05Var g s p bad w hs hR
  rw [h.out] at this
  exact this
theorem sshortH (g : Nat) (s : ByteArray) (p : Int) (bad : Bool) (t : ByteArray) (p' : Int) (bad' : Bool) (w : World) (h : Hid (rdShort s p bad = (t, p', bad'))) (hs : s.size ≤ 1099511627776) (hp : 0 ≤ p ∧ p ≤ s.size) (hR : Rd 63 g s p bad w) :
    Calls Try.prog 40 #[.pointer (some ⟨g, 0, none⟩)] w fun e w' => e = .returned (.string t) ∧ Rd 63 g s p' bad' w' ∧ Upd g w w' := by
  have := spec_l05ReadShort g s p bad w hs hp.1 hp.2 hR
  rw [h.out] at this
  exact this
theorem spec_EntryTextH (i t k : Int) (d : ByteArray) (T : ByteArray) (q : Bool) (w : World) (h : Hid (entryT i t k d = T)) (h2 : Hid (entryOkI i t k d = q)) (hd : d.size ≤ 1099511627776) :
    Calls Try.prog 56 #[.int .i64 i, .agg #[.int .i64 t, .int .i64 k, .string d]] w fun e w' => e = .returned (.tuple #[.string T, .bool q]) ∧ Below w.heap.size w w' := by
  have := spec_EntryText i t k d w hd
  rw [h.out, h2.out] at this
  exact this
def rentW (b : Bool) (ix t k : Int) (d : ByteArray) : Value := if b then .tuple #[.int .i64 ix, .agg #[.int .i64 t, .int .i64 k, .string d], .bool true] else .tuple #[.int .i64 0, .agg #[.int .i64 0, .int .i64 0, .string ⟨#[]⟩], .bool false]
set_option maxHeartbeats 4000000 in
set_option maxRecDepth 100000 in
theorem spec_ReadEntry (s : ByteArray) (hs : s.size ≤ 1048576) (t1 k4 d T : ByteArray) (ix t k p1 p2 p3 p4 : Int) (q1 q2 q3 q4 ok sm : Bool) (w : World)
    (h1 : Hid (rdTake s 0 false 1 = (t1, p1, q1))) (h2 : Hid (rdNum s p1 q1 = (ix, p2, q2))) (h3 : Hid (rdNum s p2 q2 = (t, p3, q3))) (h4 : Hid (rdTake s p3 q3 1 = (k4, p4, q4))) (h5 : Hid (s.extract p4.toNat s.size = d))
    (hk : Hid (bt k4 0 = k)) (HT : Hid (entryT ix t k d = T)) (HO : Hid (entryOkI ix t k d = ok)) (HS : (T.toList == s.toList) = sm) :
    Calls Try.prog 39 #[.string s] w fun e w' => e = .returned (rentW (!q4 && (ok && sm)) ix t k d) ∧ Below w.heap.size w w' := by
  have g0 : 0 ≤ (0 : Int) ∧ (0 : Int) ≤ s.size := by omega
  have g1 := take_r h1.out (by omega) g0
  have g2 := num_r h2.out ⟨g1.1, g1.2.1⟩
  have g3 := num_r h3.out ⟨g2.1, g2.2.1⟩
  have g4 := take_r h4.out (by omega) ⟨g3.1, g3.2.1⟩
  have hs1 : s.size ≤ 1099511627776 := by omega
  have hd : d.size ≤ 1099511627776 := by rw [← h5.out, ByteArray.size_extract]; omega
  go_enter Try.func39, Try.ntmps39
  go_wp2_with fail
  refine calls_at' (fun W => Blk 43 w.heap.size #[.int .i64 0, .int .i64 0, .string ⟨#[]⟩] W ∧ Rd 63 (w.heap.size + 1) s 0 false W ∧ Below w.heap.size w W) ⟨(Blk.new _ _ w).alloc _, by have := Rd.new 63 s 0 false (w.alloc (.cells #[.int .i64 0, .int .i64 0, .string ⟨#[]⟩] 43)); simpa using this, (by repeat (first | exact Below.refl _ _ | apply bl_alloc | apply bl_drewN | apply bl_drew | refine bl_set ?_ (by simp) | refine bl_then ?_ (by assumption)))⟩ ?_
  rintro W0 ⟨k3, R0, B0⟩
  refine (stakeH _ _ _ _ _ _ _ _ _ h1 hs1 g0 (by omega) R0).mono ?_
  rintro e W1 ⟨rfl, R1, U1⟩
  replace k3 := k3.upd U1 (by omega)
  have B1 := U1.below B0 (by omega)
  clear R0 U1 B0 W0
  go_wp2_with fail
  refine (svarH _ _ _ _ _ _ _ _ h2 hs1 R1).mono ?_
  rintro e W2 ⟨rfl, R2, U2⟩
  replace k3 := k3.upd U2 (by omega)
  have B2 := U2.below B1 (by omega)
  have l2 := R2.lt
  clear R1 U2 B1 W1
  go_wp2_with fail
  obtain ⟨b8, hb8⟩ : ∃ b8, b8 = W2.heap.size := ⟨_, rfl⟩
  refine calls_at' (fun W => Blk 43 w.heap.size #[.int .i64 0, .int .i64 0, .string ⟨#[]⟩] W ∧ Rd 63 (w.heap.size + 1) s p2 q2 W ∧ Below w.heap.size w W ∧ Blk 43 b8 #[.int .i64 0, .int .i64 0, .string ⟨#[]⟩] W) ⟨k3.alloc _, R2.below (bl_alloc (Below.refl _ _) _), bl_alloc B2 _, Blk.newE _ _ W2 hb8⟩ ?_
  try rw [← hb8]
  have n8 : w.heap.size + 1 < b8 := by omega
  clear hb8 k3 R2 B2 l2 W2
  rintro W3 ⟨k3, R3, B3, k8⟩
  refine (svarH _ _ _ _ _ _ _ _ h3 hs1 R3).mono ?_
  rintro e W4 ⟨rfl, R4, U4⟩
  replace k3 := k3.upd U4 (by omega)
  replace k8 := k8.upd U4 (by omega)
  have B4 := U4.below B3 (by omega)
  clear R3 U4 B3 W3
  have c80 := k8.cell 0 rfl
  have f80 := k8.free 0
  have l8 := k8.lt
  go_wp2_with fail
  refine calls_at' (fun W => Blk 43 w.heap.size #[.int .i64 0, .int .i64 0, .string ⟨#[]⟩] W ∧ Rd 63 (w.heap.size + 1) s p3 q3 W ∧ Below w.heap.size w W ∧ Blk 43 b8 #[.int .i64 t, .int .i64 0, .string ⟨#[]⟩] W) ⟨k3.far (by show w.heap.size ≠ b8; omega) _, R4.far (by show w.heap.size + 1 ≠ b8; omega) _, bl_set B4 (by show w.heap.size ≤ b8; omega), k8.set 0 _ rfl⟩ ?_
  clear c80 f80 l8 k3 R4 B4 k8 W4
  rintro W5 ⟨k3, R5, B5, k8⟩
  refine (stakeH _ _ _ _ _ _ _ _ _ h4 hs1 ⟨g3.1, g3.2.1⟩ (by omega) R5).mono ?_
  rintro e W6 ⟨rfl, R6, U6⟩
  replace k3 := k3.upd U6 (by omega)
  replace k8 := k8.upd U6 (by omega)
  have B6 := U6.below B5 (by omega)
  clear R5 U6 B5 W5
  obtain ⟨r0, r1, r2, rf⟩ := R6.cells
  have rl := R6.lt
  have x0 := k3.cell 0 rfl
  have x1 := k3.cell 1 rfl
  have x2 := k3.cell 2 rfl
  have y0 := k3.free 0
  have y1 := k3.free 1
  have y2 := k3.free 2
  have l3 := k3.lt
  rcases q4 with _ | _
  · have hkz := take_size h4.out (by omega) ⟨g3.1, g3.2.1⟩
    have c80 := k8.cell 0 rfl
    have c81 := k8.cell 1 rfl
    have c82 := k8.cell 2 rfl
    have f81 := k8.free 1
    have f82 := k8.free 2
    have l8 := k8.lt
    have n38 : w.heap.size ≠ b8 := by omega
    have n48 : w.heap.size + 1 ≠ b8 := by omega
    have hr := bt_range k4 0
    rw [hk.out] at hr
    have hkb : ∀ h : 0 < k4.size, wrap64 ((k4[0]'h).toNat : Int) = k := fun h => by
      have e := hk.out
      unfold bt at e
      rw [dif_pos (by simpa using h)] at e
      have e2 : ((k4[0]'h).toNat : Int) = k := by simpa using e
      rw [e2]
      unfold wrap64
      omega
    have hd5 := h5.out
    go_wp2_with fail
    refine calls_at' (fun W => Blk 43 w.heap.size #[.int .i64 0, .int .i64 0, .string ⟨#[]⟩] W ∧ Below w.heap.size w W ∧ Blk 43 b8 #[.int .i64 t, .int .i64 k, .string d] W) ⟨(k3.far (a := ⟨b8, 1, none⟩) (by show w.heap.size ≠ b8; omega) _).far (a := ⟨b8, 2, none⟩) (by show w.heap.size ≠ b8; omega) _, bl_set (bl_set B6 (by show w.heap.size ≤ b8; omega)) (by show w.heap.size ≤ b8; omega), (k8.set 1 _ rfl).set 2 _ rfl⟩ ?_
    clear r0 r1 r2 rf rl x0 x1 x2 y0 y1 y2 l3 c80 c81 c82 f81 f82 l8 hkb hd5 k3 k8 B6 R6 W6
    rintro W7 ⟨k3, B7, k8⟩
    refine (spec_EntryTextH _ _ _ _ _ _ _ HT HO hd).mono ?_
    rintro e W8 ⟨rfl, hb⟩
    replace k3 := k3.below hb
    replace k8 := k8.below hb
    have B8 := bl_then B7 hb
    clear B7 hb W7
    have x0 := k3.cell 0 rfl
    have x1 := k3.cell 1 rfl
    have x2 := k3.cell 2 rfl
    have y0 := k3.free 0
    have y1 := k3.free 1
    have y2 := k3.free 2
    have l3 := k3.lt
    have c80 := k8.cell 0 rfl
    have c81 := k8.cell 1 rfl
    have c82 := k8.cell 2 rfl
    have l8 := k8.lt
    cases ok with
    | false =>
      go_wp2_with fail
      refine bodyPost_ret (v := .tuple #[.int .i64 0, .agg #[.int .i64 0, .int .i64 0, .string ⟨#[]⟩], .bool false]) ?_ rfl ⟨rfl, ?_⟩
      · simp only [results, Try.results39]
        go_simp
      · exact bl_set (bl_set (bl_set B8 (Nat.le_refl _)) (Nat.le_refl _)) (Nat.le_refl _)
    | true =>
      cases sm with
      | false =>
        go_wp2_with fail
        refine bodyPost_ret (v := .tuple #[.int .i64 0, .agg #[.int .i64 0, .int .i64 0, .string ⟨#[]⟩], .bool false]) ?_ rfl ⟨rfl, ?_⟩
        · simp only [results, Try.results39]
          go_simp
        · exact bl_set (bl_set (bl_set B8 (Nat.le_refl _)) (Nat.le_refl _)) (Nat.le_refl _)
      | true =>
        go_wp2_with fail
        go_region
        all_goals go_wp2_with fail
        all_goals refine bodyPost_ret (v := .tuple #[.int .i64 ix, .agg #[.int .i64 t, .int .i64 k, .string d], .bool true]) ?_ rfl ⟨rfl, ?_⟩
        rotate_left
        · repeat (first | exact B8 | apply bl_drew | apply bl_drewN | refine bl_set ?_ (Nat.le_refl _))
        simp only [results, Try.results39]
        go_simp
  · go_wp2_with fail
    refine bodyPost_ret (v := .tuple #[.int .i64 0, .agg #[.int .i64 0, .int .i64 0, .string ⟨#[]⟩], .bool false]) ?_ rfl ⟨rfl, ?_⟩
    · simp only [results, Try.results39]
      go_simp
    · first | exact bl_set (bl_set (bl_set B6 (Nat.le_refl _)) (Nat.le_refl _)) (Nat.le_refl _) | exact B6
end Go.Proofs.Ytmljihfaapoakaa
end

section
namespace Go.Proofs.Ytmljihfaapoakaa
open Go.RowKit Go.Proofs.YtmljihfaapoakaaW.PrintWords PFnMessages
set_option linter.unusedSimpArgs false
set_option linter.unusedVariables false
theorem spec_ReadEntryF (t : ByteArray) (w : World) (ht : t.size ≤ 1048576) :
    Calls Try.prog 39 #[.string t] w fun e w' => e = .returned (.tuple #[.int .i64 (rentS t).2.1, .agg #[.int .i64 (rentS t).2.2.f0, .int .i64 (rentS t).2.2.f1, .string (rentS t).2.2.f2], .bool (rentS t).1]) ∧ Below w.heap.size w w' := by
  rcases h1 : rdTake t 0 false 1 with ⟨t1, p1, q1⟩
  rcases h2 : rdNum t p1 q1 with ⟨ix, p2, q2⟩
  rcases h3 : rdNum t p2 q2 with ⟨tm, p3, q3⟩
  rcases h4 : rdTake t p3 q3 1 with ⟨k4, p4, q4⟩
  have hw := spec_ReadEntry t ht t1 k4 (t.extract p4.toNat t.size) _ ix tm (bt k4 0) p1 p2 p3 p4 q1 q2 q3 q4 _ _ w (Lib.hid h1) (Lib.hid h2) (Lib.hid h3) (Lib.hid h4) (Lib.hid rfl) (Lib.hid rfl) (Lib.hid rfl) (Lib.hid rfl) rfl
  refine hw.mono ?_
  rintro e w' ⟨rfl, hb⟩
  refine ⟨?_, hb⟩
  unfold rentS rentW
  simp only [h1, h2, h3, h4]
  cases q4 with
  | true => rfl
  | false =>
    simp only [Bool.not_false, Bool.true_and, Bool.false_eq_true, if_false]
    cases (entryOkI ix tm (bt k4 0) (t.extract p4.toNat t.size) && (entryT ix tm (bt k4 0) (t.extract p4.toNat t.size)).toList == t.toList) <;> rfl
theorem rentS_size (t : ByteArray) : (rentS t).2.2.f2.size ≤ t.size := by
  unfold rentS
  simp only
  split
  · exact Nat.zero_le _
  · split
    · simp only [ByteArray.size_extract]; omega
    · exact Nat.zero_le _
theorem sReadConfH (s : ByteArray) (cf : List Int) (b : Bool) (w : World) (h : Hid (readConf s = (cf, b))) (hs : s.size ≤ 1048576) :
    Calls Try.prog 41 #[.string s] w fun e w' => ∃ v, e = .returned (.tuple #[v, .bool b]) ∧ Kd.R (Kd.int .i64) 3 w' w.heap.size (fun _ => True) v cf ∧ Below w.heap.size w w' := by
  have hf := PFnMessages.sread_f s (s.size + s.size + 2) (by omega) (by omega)
  rw [h.out] at hf
  exact PFnMessages.spec_ReadConf.calls (s.size + s.size + 2) s cf b w hf
set_option maxHeartbeats 4000000 in
set_option maxRecDepth 100000 in
theorem spec_Decode_no (s : ByteArray) (hs : s.size ≤ 1048576) (hd : ByteArray) (p2 : Int) (w : World) (h0 : Hid (rdTake s 0 false 3 = (hd, p2, true))) :
    Calls Try.prog 12 #[.string s] w fun e w' => DecBack w w' e false 0 0 0 0 0 0 0 false [] [] ⟨#[]⟩ false := by
  have g : 0 ≤ (0 : Int) ∧ (0 : Int) ≤ s.size := by omega
  have hs1 : s.size ≤ 1099511627776 := by omega
  go_enter Try.func12, Try.ntmps12
  go_wp2_with fail
  refine calls_at' (fun W => Blk 27 w.heap.size #[.int .i64 0, .int .i64 0, .int .i64 0, .int .i64 0, .int .i64 0, .int .i64 0, .int .i64 0, .bool false, .slice none 0 0, .slice none 0 0, .string ⟨#[]⟩, .bool false] W ∧ Rd 63 (w.heap.size + 1) s 0 false W ∧ Below w.heap.size w W) ⟨(Blk.new _ _ w).alloc _, by have := Rd.new 63 s 0 false (w.alloc (.cells #[.int .i64 0, .int .i64 0, .int .i64 0, .int .i64 0, .int .i64 0, .int .i64 0, .int .i64 0, .bool false, .slice none 0 0, .slice none 0 0, .string ⟨#[]⟩, .bool false] 27)); simpa using this, (by repeat (first | exact Below.refl _ _ | apply bl_alloc | apply bl_drewN | apply bl_drew | refine bl_set ?_ (by simp) | refine bl_then ?_ (by assumption)))⟩ ?_
  rintro W0 ⟨k2, R0, B0⟩
  refine (stakeH _ _ _ _ _ _ _ _ _ h0 hs1 g (by omega) R0).mono ?_
  rintro e W1 ⟨rfl, R1, U1⟩
  replace k2 := k2.upd U1 (by omega)
  have B1 := U1.below B0 (by omega)
  clear R0 U1 B0 W0
  obtain ⟨rc0, rc1, rc2, rcf⟩ := R1.cells
  have rl := R1.lt
  have y0 := k2.cell 0 rfl
  have y1 := k2.cell 1 rfl
  have y2 := k2.cell 2 rfl
  have y3 := k2.cell 3 rfl
  have y4 := k2.cell 4 rfl
  have y5 := k2.cell 5 rfl
  have y6 := k2.cell 6 rfl
  have y7 := k2.cell 7 rfl
  have y8 := k2.cell 8 rfl
  have y9 := k2.cell 9 rfl
  have y10 := k2.cell 10 rfl
  have y11 := k2.cell 11 rfl
  have yf : ∀ o, _ := fun o => k2.free o
  have yl := k2.lt
  go_wp2_with fail
  refine bodyPost_ret (v := .tuple #[.agg #[.int .i64 0, .int .i64 0, .int .i64 0, .int .i64 0, .int .i64 0, .int .i64 0, .int .i64 0, .bool false, .slice none 0 0, .slice none 0 0, .string ⟨#[]⟩, .bool false], .bool false]) ?_ rfl ⟨⟨.slice none 0 0, .slice none 0 0, rfl, Kd.R_nil _ _ _ _ _, Kd.R_nil _ _ _ _ _⟩, ?_⟩
  · simp only [results, Try.results12]
    go_simp
  · iterate 12 refine bl_set ?_ (Nat.le_refl _)
    exact B1
set_option maxHeartbeats 4000000 in
set_option maxRecDepth 100000 in
theorem spec_Decode (s : ByteArray) (hs : s.size ≤ 1048576) (hd : ByteArray) (a0 a1 a2 a3 a4 a5 a6 n p2 p3 p4 p5 p6 p7 p8 p9 p10 p11 p12 : Int) (a7 ls q3 q4 q5 q6 q7 q8 q9 q10 q11 q12 : Bool) (es : List S43) (t7 t8 ct d : ByteArray) (cf : List Int) (fine : Bool) (w : World)
    (h0 : Hid (rdTake s 0 false 3 = (hd, p2, false))) (k0 : Hid (bt hd 0 = a0)) (k1 : Hid (bt hd 1 = a1)) (k2' : Hid (bt hd 2 = a2)) (h3 : Hid (rdNum s p2 false = (a3, p3, q3))) (h4 : Hid (rdNum s p3 q3 = (a4, p4, q4))) (h5 : Hid (rdNum s p4 q4 = (a5, p5, q5))) (h6 : Hid (rdNum s p5 q5 = (a6, p6, q6)))
    (h7 : Hid (rdTake s p6 q6 1 = (t7, p7, q7))) (h7b : (t7.toList == [1]) = a7) (h8 : Hid (rdTake s p7 q7 1 = (t8, p8, q8))) (h8b : (t8.toList == [1]) = ls) (h9 : Hid (rdNum s p8 q8 = (n, p9, q9))) (h10 : Hid (sRun s n 6 0 p9 q9 [] = (p10, q10, es))) (h11 : Hid (rdShort s p10 q10 = (ct, p11, q11))) (hcf : Hid (readConf ct = (cf, fine))) (h12 : Hid (rdShort s p11 q11 = (d, p12, q12)))
    (mk sm : Bool) (hmk : Hid (msgB a0 a1 a2 a3 a4 a5 a6 es cf d ls = mk)) (hsm : Hid (((encS a0 a1 a2 a3 a4 a5 a6 a7 es cf d ls).toList == s.toList) = sm)) (hSE : Short es) (hEl : es.length ≤ 5) (hCl : cf.length ≤ 1048576) :
    Calls Try.prog 12 #[.string s] w fun e w' => DecBack w w' e (!q12 && (mk && sm)) a0 a1 a2 a3 a4 a5 a6 a7 es cf d ls := by
  have g : 0 ≤ (0 : Int) ∧ (0 : Int) ≤ s.size := by omega
  have r2 := take_r h0.out (by omega) g
  have r3 := num_r h3.out ⟨r2.1, r2.2.1⟩
  have r4 := num_r h4.out ⟨r3.1, r3.2.1⟩
  have r5 := num_r h5.out ⟨r4.1, r4.2.1⟩
  have r6 := num_r h6.out ⟨r5.1, r5.2.1⟩
  have r7 := take_r h7.out (by omega) ⟨r6.1, r6.2.1⟩
  have r8 := take_r h8.out (by omega) ⟨r7.1, r7.2.1⟩
  have r9 := num_r h9.out ⟨r8.1, r8.2.1⟩
  have hs1 : s.size ≤ 1099511627776 := by omega
  have hhd := take_size h0.out (by omega) g
  go_enter Try.func12, Try.ntmps12
  go_wp2_with fail
  refine calls_at' (fun W => Blk 27 w.heap.size #[.int .i64 0, .int .i64 0, .int .i64 0, .int .i64 0, .int .i64 0, .int .i64 0, .int .i64 0, .bool false, .slice none 0 0, .slice none 0 0, .string ⟨#[]⟩, .bool false] W ∧ Rd 63 (w.heap.size + 1) s 0 false W ∧ Below w.heap.size w W) ⟨(Blk.new _ _ w).alloc _, by have := Rd.new 63 s 0 false (w.alloc (.cells #[.int .i64 0, .int .i64 0, .int .i64 0, .int .i64 0, .int .i64 0, .int .i64 0, .int .i64 0, .bool false, .slice none 0 0, .slice none 0 0, .string ⟨#[]⟩, .bool false] 27)); simpa using this, (by repeat (first | exact Below.refl _ _ | apply bl_alloc | apply bl_drewN | apply bl_drew | refine bl_set ?_ (by simp) | refine bl_then ?_ (by assumption)))⟩ ?_
  rintro W0 ⟨k2, R0, B0⟩
  refine (stakeH _ _ _ _ _ _ _ _ _ h0 hs1 g (by omega) R0).mono ?_
  rintro e W1 ⟨rfl, R1, U1⟩
  replace k2 := k2.upd U1 (by omega)
  have B1 := U1.below B0 (by omega)
  clear R0 U1 B0 W0
  obtain ⟨rc0, rc1, rc2, rcf⟩ := R1.cells
  have l1 := R1.lt
  go_upto_region 5 with fail
  clear rc0 rc1 rc2 rcf
  have hx : ∀ (j : Nat) (h : j < hd.size) (x : Int), bt hd (j : Int) = x → wrap64 ((hd[j]'h).toNat : Int) = x := fun j h x e => by
    have hr := bt_range hd (j : Int)
    rw [e] at hr
    unfold bt at e
    rw [dif_pos (by simpa using h)] at e
    have e2 : ((hd[j]'h).toNat : Int) = x := by simpa using e
    rw [e2]
    unfold wrap64
    omega
  have hx0 : ∀ h : 0 < hd.size, wrap64 ((hd[0]'h).toNat : Int) = a0 := fun h => hx 0 h a0 k0.out
  have hx1 : ∀ h : 1 < hd.size, wrap64 ((hd[1]'h).toNat : Int) = a1 := fun h => hx 1 h a1 k1.out
  have hx2 : ∀ h : 2 < hd.size, wrap64 ((hd[2]'h).toNat : Int) = a2 := fun h => hx 2 h a2 k2'.out
  have hy0 : ∀ h : 0 < hd.size, IntKind.i64.wrap ((hd[0]'h).toNat : Int) = a0 := fun h => by have e := hx0 h; unfold wrap64 at e; rw [IntKind.wrap_i64]; omega
  have hy1 : ∀ h : 1 < hd.size, IntKind.i64.wrap ((hd[1]'h).toNat : Int) = a1 := fun h => by have e := hx1 h; unfold wrap64 at e; rw [IntKind.wrap_i64]; omega
  have hy2 : ∀ h : 2 < hd.size, IntKind.i64.wrap ((hd[2]'h).toNat : Int) = a2 := fun h => by have e := hx2 h; unfold wrap64 at e; rw [IntKind.wrap_i64]; omega
  have hz3 : (hd.size : Int) = 3 := hhd.1
  clear hx
  have hz0 : (0 : Int) < (hd.size : Int) := by omega
  have hz1 : (1 : Int) < (hd.size : Int) := by omega
  have hz2 : (2 : Int) < (hd.size : Int) := by omega
  refine wp_region_flowT (L := fun a b => Below a.heap.size a b) (M := fun a b => Below a.heap.size a b) (J := fun _ => True) (J1 := fun _ => True) 100 trivial (fun _ _ _ _ => trivial) (fun _ _ _ _ => trivial) (fun _ _ h => h) (fun w => bl_drew (Below.refl _ _)) (fun a b c h k => bl_then h k) [5] 115 11 (by kernel_rfl) (by rfl) (by kernel_rfl) (by kernel_rfl) (by kernel_rfl) (by kernel_rfl) ?_
  iterate 10 (refine flowT_valE (by decide) ?_; apply Exists.intro; refine ⟨fun A wq hLq hbq hdq => ?_, ?_⟩; focus ((try simp [go_sem, baseF, deps, dep1, Region.binds] at hbq); (try simp [go_sem, baseF, deps, dep1, Region.binds] at hdq); go_simp; first | exact ⟨Below.refl _ _, rfl⟩ | (fail)))
  refine flowT_R (by decide) (fun W u => ∃ b : Nat, u = .pointer (some ⟨b, 0, none⟩) ∧ W1.heap.size ≤ b ∧ Blk 27 b #[.int .i64 0, .int .i64 0, .int .i64 0, .int .i64 0, .int .i64 0, .int .i64 0, .int .i64 0, .bool false, .slice none 0 0, .slice none 0 0, .string ⟨#[]⟩, .bool false] W) (fun W W' u ⟨b, e, hb, hk⟩ hL => ⟨b, e, hb, hk.below hL⟩) (fun A wr hLq hbq hdq => ?_) ?_
  · have hlz := hLq.size
    (try simp [go_sem, baseF, deps, dep1, Region.binds] at hbq)
    (try simp [go_sem, baseF, deps, dep1, Region.binds] at hdq)
    go_simp
    first
      | exact ⟨bl_alloc (Below.refl _ _) _, wr.heap.size, rfl, by omega, Blk.new _ _ wr⟩
      | exact ⟨bl_alloc (Below.refl _ _) _, by omega, Blk.new _ _ wr⟩
      | exact ⟨bl_alloc (Below.refl _ _) _, Blk.new _ _ wr⟩
  with_reducible refine flowT_tail ?_
  intro x wr hLq hall _
  simp only [allT] at hall
  obtain ⟨⟨b, h10x, hbx, k6⟩, h9x, hall⟩ := hall
  have lb := k6.lt
  have e0 := k6.cell 0 rfl
  have f0 := k6.free 0
  have e1 := k6.cell 1 rfl
  have f1 := k6.free 1
  have e2 := k6.cell 2 rfl
  have f2 := k6.free 2
  have e3 := k6.cell 3 rfl
  have f3 := k6.free 3
  have e4 := k6.cell 4 rfl
  have f4 := k6.free 4
  have e5 := k6.cell 5 rfl
  have f5 := k6.free 5
  have e6 := k6.cell 6 rfl
  have f6 := k6.free 6
  have e7 := k6.cell 7 rfl
  have f7 := k6.free 7
  have e8 := k6.cell 8 rfl
  have f8 := k6.free 8
  have e9 := k6.cell 9 rfl
  have f9 := k6.free 9
  have e10 := k6.cell 10 rfl
  have f10 := k6.free 10
  have e11 := k6.cell 11 rfl
  have f11 := k6.free 11
  refine ⟨?_⟩
  simp [seqUpon, lastUpon, frameOf, Act.put, List.take, h10x, h9x, hall]
  clear hall h10x h9x
  go_simp
  have D : DAt 63 w s p2 false b #[.int .i64 0, .int .i64 0, .int .i64 0, .int .i64 0, .int .i64 0, .int .i64 0, .int .i64 0, .bool false, .slice none 0 0, .slice none 0 0, .string ⟨#[]⟩, .bool false] wr := ⟨k2.below hLq, R1.below hLq, bl_then B1 hLq, k6, by omega⟩
  have D1 := D.set (o := 0) (v := .int .i64 a0) (cs' := #[.int .i64 a0, .int .i64 0, .int .i64 0, .int .i64 0, .int .i64 0, .int .i64 0, .int .i64 0, .bool false, .slice none 0 0, .slice none 0 0, .string ⟨#[]⟩, .bool false]) rfl
  have D2 := D1.set (o := 1) (v := .int .i64 a1) (cs' := #[.int .i64 a0, .int .i64 a1, .int .i64 0, .int .i64 0, .int .i64 0, .int .i64 0, .int .i64 0, .bool false, .slice none 0 0, .slice none 0 0, .string ⟨#[]⟩, .bool false]) rfl
  have D3 := D2.set (o := 2) (v := .int .i64 a2) (cs' := #[.int .i64 a0, .int .i64 a1, .int .i64 a2, .int .i64 0, .int .i64 0, .int .i64 0, .int .i64 0, .bool false, .slice none 0 0, .slice none 0 0, .string ⟨#[]⟩, .bool false]) rfl
  have D4 := D3.set (o := 3) (v := .int .i64 0) (cs' := #[.int .i64 a0, .int .i64 a1, .int .i64 a2, .int .i64 0, .int .i64 0, .int .i64 0, .int .i64 0, .bool false, .slice none 0 0, .slice none 0 0, .string ⟨#[]⟩, .bool false]) rfl
  have D5 := D4.set (o := 4) (v := .int .i64 0) (cs' := #[.int .i64 a0, .int .i64 a1, .int .i64 a2, .int .i64 0, .int .i64 0, .int .i64 0, .int .i64 0, .bool false, .slice none 0 0, .slice none 0 0, .string ⟨#[]⟩, .bool false]) rfl
  have D6 := D5.set (o := 5) (v := .int .i64 0) (cs' := #[.int .i64 a0, .int .i64 a1, .int .i64 a2, .int .i64 0, .int .i64 0, .int .i64 0, .int .i64 0, .bool false, .slice none 0 0, .slice none 0 0, .string ⟨#[]⟩, .bool false]) rfl
  have D7 := D6.set (o := 6) (v := .int .i64 0) (cs' := #[.int .i64 a0, .int .i64 a1, .int .i64 a2, .int .i64 0, .int .i64 0, .int .i64 0, .int .i64 0, .bool false, .slice none 0 0, .slice none 0 0, .string ⟨#[]⟩, .bool false]) rfl
  have D8 := D7.set (o := 7) (v := .bool false) (cs' := #[.int .i64 a0, .int .i64 a1, .int .i64 a2, .int .i64 0, .int .i64 0, .int .i64 0, .int .i64 0, .bool false, .slice none 0 0, .slice none 0 0, .string ⟨#[]⟩, .bool false]) rfl
  have D9 := D8.set (o := 8) (v := .slice none 0 0) (cs' := #[.int .i64 a0, .int .i64 a1, .int .i64 a2, .int .i64 0, .int .i64 0, .int .i64 0, .int .i64 0, .bool false, .slice none 0 0, .slice none 0 0, .string ⟨#[]⟩, .bool false]) rfl
  have D10 := D9.set (o := 9) (v := .slice none 0 0) (cs' := #[.int .i64 a0, .int .i64 a1, .int .i64 a2, .int .i64 0, .int .i64 0, .int .i64 0, .int .i64 0, .bool false, .slice none 0 0, .slice none 0 0, .string ⟨#[]⟩, .bool false]) rfl
  have D11 := D10.set (o := 10) (v := .string ⟨#[]⟩) (cs' := #[.int .i64 a0, .int .i64 a1, .int .i64 a2, .int .i64 0, .int .i64 0, .int .i64 0, .int .i64 0, .bool false, .slice none 0 0, .slice none 0 0, .string ⟨#[]⟩, .bool false]) rfl
  have D12 := D11.set (o := 11) (v := .bool false) (cs' := #[.int .i64 a0, .int .i64 a1, .int .i64 a2, .int .i64 0, .int .i64 0, .int .i64 0, .int .i64 0, .bool false, .slice none 0 0, .slice none 0 0, .string ⟨#[]⟩, .bool false]) rfl
  clear e0 f0 e1 f1 e2 f2 e3 f3 e4 f4 e5 f5 e6 f6 e7 f7 e8 f8 e9 f9 e10 f10 e11 f11 lb k6 k2 R1 B1 l1 hLq hbx
  go_wp2_with fail
  refine calls_at' (DAt 63 w s p2 false b #[.int .i64 a0, .int .i64 a1, .int .i64 a2, .int .i64 0, .int .i64 0, .int .i64 0, .int .i64 0, .bool false, .slice none 0 0, .slice none 0 0, .string ⟨#[]⟩, .bool false]) D12 ?_
  clear D D1 D2 D3 D4 D5 D6 D7 D8 D9 D10 D11 D12 hx0 hx1 hx2 hy0 hy1 hy2 hz0 hz1 hz2 hz3 wr
  intro W D

  refine (svarH _ _ _ _ _ _ _ _ h3 hs1 D.2.1).mono ?_
  rintro e W' ⟨rfl, R, U⟩
  replace D := D.upd R U
  clear R U W
  have c := D.2.2.2.1.cell 3 rfl
  have f := D.2.2.2.1.free 3
  have l := D.2.2.2.1.lt
  go_wp2_with fail
  refine calls_at' (DAt 63 w s p3 q3 b #[.int .i64 a0, .int .i64 a1, .int .i64 a2, .int .i64 a3, .int .i64 0, .int .i64 0, .int .i64 0, .bool false, .slice none 0 0, .slice none 0 0, .string ⟨#[]⟩, .bool false]) (D.set rfl) ?_
  clear c f l D W'
  intro W D
  refine (svarH _ _ _ _ _ _ _ _ h4 hs1 D.2.1).mono ?_
  rintro e W' ⟨rfl, R, U⟩
  replace D := D.upd R U
  clear R U W
  have c := D.2.2.2.1.cell 4 rfl
  have f := D.2.2.2.1.free 4
  have l := D.2.2.2.1.lt
  go_wp2_with fail
  refine calls_at' (DAt 63 w s p4 q4 b #[.int .i64 a0, .int .i64 a1, .int .i64 a2, .int .i64 a3, .int .i64 a4, .int .i64 0, .int .i64 0, .bool false, .slice none 0 0, .slice none 0 0, .string ⟨#[]⟩, .bool false]) (D.set rfl) ?_
  clear c f l D W'
  intro W D
  refine (svarH _ _ _ _ _ _ _ _ h5 hs1 D.2.1).mono ?_
  rintro e W' ⟨rfl, R, U⟩
  replace D := D.upd R U
  clear R U W
  have c := D.2.2.2.1.cell 5 rfl
  have f := D.2.2.2.1.free 5
  have l := D.2.2.2.1.lt
  go_wp2_with fail
  refine calls_at' (DAt 63 w s p5 q5 b #[.int .i64 a0, .int .i64 a1, .int .i64 a2, .int .i64 a3, .int .i64 a4, .int .i64 a5, .int .i64 0, .bool false, .slice none 0 0, .slice none 0 0, .string ⟨#[]⟩, .bool false]) (D.set rfl) ?_
  clear c f l D W'
  intro W D
  refine (svarH _ _ _ _ _ _ _ _ h6 hs1 D.2.1).mono ?_
  rintro e W' ⟨rfl, R, U⟩
  replace D := D.upd R U
  clear R U W
  have c := D.2.2.2.1.cell 6 rfl
  have f := D.2.2.2.1.free 6
  have l := D.2.2.2.1.lt
  go_wp2_with fail
  refine calls_at' (DAt 63 w s p6 q6 b #[.int .i64 a0, .int .i64 a1, .int .i64 a2, .int .i64 a3, .int .i64 a4, .int .i64 a5, .int .i64 a6, .bool false, .slice none 0 0, .slice none 0 0, .string ⟨#[]⟩, .bool false]) (D.set rfl) ?_
  clear c f l D W'
  intro W D
  refine (stakeH _ _ _ _ _ _ _ _ _ h7 hs1 ⟨r6.1, r6.2.1⟩ (by omega) D.2.1).mono ?_
  rintro e W' ⟨rfl, R, U⟩
  replace D := D.upd R U
  clear R U W
  have c := D.2.2.2.1.cell 7 rfl
  have f := D.2.2.2.1.free 7
  have l := D.2.2.2.1.lt
  go_wp2_with fail
  refine calls_at' (DAt 63 w s p7 q7 b #[.int .i64 a0, .int .i64 a1, .int .i64 a2, .int .i64 a3, .int .i64 a4, .int .i64 a5, .int .i64 a6, .bool a7, .slice none 0 0, .slice none 0 0, .string ⟨#[]⟩, .bool false]) (D.set rfl) ?_
  clear c f l D W'
  intro W D
  refine (stakeH _ _ _ _ _ _ _ _ _ h8 hs1 ⟨r7.1, r7.2.1⟩ (by omega) D.2.1).mono ?_
  rintro e W' ⟨rfl, R, U⟩
  replace D := D.upd R U
  clear R U W
  have c := D.2.2.2.1.cell 11 rfl
  have f := D.2.2.2.1.free 11
  have l := D.2.2.2.1.lt
  go_wp2_with fail
  refine calls_at' (DAt 63 w s p8 q8 b #[.int .i64 a0, .int .i64 a1, .int .i64 a2, .int .i64 a3, .int .i64 a4, .int .i64 a5, .int .i64 a6, .bool a7, .slice none 0 0, .slice none 0 0, .string ⟨#[]⟩, .bool ls]) (D.set rfl) ?_
  clear c f l D W'
  intro W D
  refine (svarH _ _ _ _ _ _ _ _ h9 hs1 D.2.1).mono ?_
  rintro e W' ⟨rfl, R, U⟩
  replace D := D.upd R U
  clear R U W
  go_wp2_with fail
  go_loopg [8] 7 (fun kq v8 w' => ∃ (i : Nat) (p : Int) (q : Bool) (acc : List S43) (vE : Value), v8 = .int .i64 (i : Int) ∧ i + kq = 7 ∧ i ≤ 5 ∧ Hid (sRun s n (6 - i) i p q acc = (p10, q10, es)) ∧ (0 ≤ p ∧ p ≤ s.size) ∧ acc.length = i ∧ Kd.R k43 43 w' w.heap.size (fun k => b < k) vE acc ∧ DAt 63 w s p q b #[.int .i64 a0, .int .i64 a1, .int .i64 a2, .int .i64 a3, .int .i64 a4, .int .i64 a5, .int .i64 a6, .bool a7, vE, .slice none 0 0, .string ⟨#[]⟩, .bool ls] w')
  case atStart => exact ⟨0, p9, q9, [], .slice none 0 0, rfl, by omega, by omega, h10, ⟨r9.1, r9.2.1⟩, rfl, Kd.R_nil _ _ _ _ _, D⟩
  case round =>
    clear h10 D
    obtain ⟨i, p, q, acc, vE, rfl, hik, hi5, hrun, hp, hacc, hE, D⟩ := hrel
    obtain ⟨AE, cE, hvE, hcE, -⟩ := Kd.R_reads hE
    rw [hacc] at hvE hcE
    subst hvE
    have HE := Lib.hid hE
    clear hE
    obtain ⟨m1, hm1⟩ : ∃ m1, 6 - i = m1 + 1 := ⟨6 - i - 1, by omega⟩
    rw [hm1] at hrun
    obtain ⟨rc0, rc1, rc2, rcf⟩ := D.2.1.cells
    have rl := D.2.1.lt
    go_upto_region 14 with fail
    go_cut [69] from 56 to 69 (fun v69 wx => ∃ cb : Bool, v69 = .bool cb ∧ Hid (cb = decide ((i : Int) < n ∧ q = false ∧ i ≤ 4)) ∧ DAt 63 w s p q b #[.int .i64 a0, .int .i64 a1, .int .i64 a2, .int .i64 a3, .int .i64 a4, .int .i64 a5, .int .i64 a6, .bool a7, .slice AE i cE, .slice none 0 0, .string ⟨#[]⟩, .bool ls] wx ∧ Kd.R k43 43 wx w.heap.size (fun k => b < k) (.slice AE i cE) acc)
    case first =>
      by_cases g1 : (i : Int) < n
      · cases q with
        | true =>
          go_wp2_with fail
          go_meet
          exact ⟨false, by first | rfl | simp, Lib.hid (decide_eq_false (fun h => by cases h.2.1)).symm, D, HE.out⟩
        | false =>
          by_cases g3 : (i : Int) ≤ 4
          · have g4 : i ≤ 4 := by omega
            go_wp2_with fail
            go_meet
            exact ⟨true, by first | rfl | simp [g3], Lib.hid (by simp [g1, g4]), D, HE.out⟩
          · have g4 : ¬ i ≤ 4 := by omega
            go_wp2_with fail
            go_meet
            exact ⟨false, by first | rfl | simp [g3], Lib.hid (decide_eq_false (fun h => by have := h.2.2; omega)).symm, D, HE.out⟩
      · go_wp2_with fail
        go_meet
        exact ⟨false, by first | rfl | simp [g1], Lib.hid (decide_eq_false (fun h => by have := h.1; omega)).symm, D, HE.out⟩
    case rest =>
    clear rc0 rc1 rc2 rcf rl D HE
    obtain ⟨cb, rfl, hcb, D, hE⟩ := hcut
    have HE := Lib.hid hE
    clear hE
    by_cases hlt : (i : Int) < n ∧ q = false ∧ i ≤ 4
    · obtain rfl : cb = true := by rw [hcb.out]; exact decide_eq_true hlt
      clear hcb
      obtain ⟨k1, rfl⟩ : ∃ k1, gk = k1 + 1 := ⟨gk - 1, by omega⟩
      obtain ⟨hlt1, rfl, hlt3⟩ := hlt
      have hlt3' : (i : Int) ≤ 4 := by omega
      rcases hx : rdShort s p false with ⟨t, p', q'⟩
      rcases hy : rentS t with ⟨ok, ix, ⟨e0, e1, e2⟩⟩
      have hrun' : Hid (sRun s n m1 (i + 1) p' q' (acc ++ [⟨e0, e1, e2⟩]) = (p10, q10, es)) := Lib.hid (by
        have h := hrun.out
        simp only [sRun] at h
        rw [if_pos ⟨hlt1, by first | rfl | trivial, hlt3⟩] at h
        simp only [hx, hy] at h
        exact h)
      clear hrun
      have hp' := short_r hx hp
      have hx := Lib.hid hx
      go_wp2_with fail
      refine (sshortH _ _ _ _ _ _ _ _ hx hs1 hp D.2.1).mono ?_
      rintro e W1 ⟨rfl, R, U⟩
      have HE1 := Lib.hid (own_upd HE.out U (by have := D.2.2.2.2; omega))
      replace D := D.upd R U
      clear R U HE
      go_wp2_with fail
      have hre := spec_ReadEntryF t W1 (by omega)
      rw [hy] at hre
      refine hre.mono ?_
      clear hre
      rintro e W2 ⟨rfl, hb⟩
      have HE2 := Lib.hid (Kd.R_below HE1.out hb)
      replace D := D.below hb
      clear HE1 hb W1
      go_upto_region 17 with fail
      obtain ⟨b7, hb7⟩ : ∃ b7, b7 = W2.heap.size := ⟨_, rfl⟩
      have hbl : b < W2.heap.size := D.2.2.2.1.lt
      refine wp_at' (fun X => DAt 63 w s p' q' b #[.int .i64 a0, .int .i64 a1, .int .i64 a2, .int .i64 a3, .int .i64 a4, .int .i64 a5, .int .i64 a6, .bool a7, .slice AE i cE, .slice none 0 0, .string ⟨#[]⟩, .bool ls] X ∧ Kd.R k43 43 X w.heap.size (fun k => b < k) (.slice AE i cE) acc ∧ Blk 43 b7 #[.int .i64 e0, .int .i64 e1, .string e2] X) ⟨D.below (bl_alloc (Below.refl _ _) _), Kd.R_below HE2.out (bl_alloc (Below.refl _ _) _), Blk.newE _ _ W2 hb7⟩ ?_
      rw [← hb7]
      have n7 : b < b7 := by omega
      clear hb7 hbl D HE2 W2
      rintro wc ⟨D, hE, k7⟩
      have hrow : ∀ k, (Value.slice AE i cE).ownBlock = some k → b < k := fun k hk => hE.1 k hk
      have nbv : some b ≠ (Value.slice AE i cE).ownBlock := fun e => by have := hrow b e.symm; omega
      have hwz : w.heap.size ≤ wc.heap.size := D.2.2.1.size
      have k5 := D.2.2.2.1
      have c8 := k5.cell 8 rfl
      have l5 := k5.lt
      have c70 := k7.cell 0 rfl
      have c71 := k7.cell 1 rfl
      have c72 := k7.cell 2 rfl
      have l7 := k7.lt
      have HE := Lib.hid hE
      clear hE
      go_wp2_with (first | (refine Kd.R_append (w0 := wc) k43 w.heap.size rfl (.tmp 80) (.tmp 82) 24 43 (.agg #[.int .i64 0, .int .i64 0, .string ⟨#[]⟩]) 32 rfl Try.underlying24 (by kernel_rfl) rfl (by decide) (by decide) (.slice AE i cE) acc ⟨e0, e1, e2⟩ [.int .i64 e0, .int .i64 e1, .string e2] (fun k => b < k) (fun _ => False) rfl rfl (k43_mkM wc _ _ ⟨e0, e1, e2⟩) (fun k h => h.elim) (fun k hk => by omega) HE.out (Below.refl _ _) hwz (by omega) ?_; intro v1 w1 hR1 hB1 hg1 hat1; obtain ⟨A9, c9, hv9, -, -⟩ := Kd.R_reads hR1; rw [show (acc ++ [(⟨e0, e1, e2⟩ : S43)]).length = i + 1 from by simp [hacc]] at hv9; subst hv9; have D1 := D.grown hg1 hrow; have q5 := D1.2.2.2.1; have d8 := q5.cell 8 rfl; have df := q5.free 8; have dl := q5.lt; have HR1 := Lib.hid hR1; clear hR1 c8 l5 c70 c71 c72 l7 hat1))
      have hfin1 := D1.set (o := 8) (v := .slice A9 (i + 1) c9) (cs' := #[.int .i64 a0, .int .i64 a1, .int .i64 a2, .int .i64 a3, .int .i64 a4, .int .i64 a5, .int .i64 a6, .bool a7, .slice A9 (i + 1) c9, .slice none 0 0, .string ⟨#[]⟩, .bool ls]) rfl
      have hfin2 := own_set (g := b) (o := 8) (u := .slice A9 (i + 1) c9) HR1.out (Nat.le_refl _)
      clear D1 q5 d8 df dl HR1 D k5 k7 HE
      go_roundg k1
      case measure => omega
      case rel => exact ⟨i + 1, p', q', acc ++ [⟨e0, e1, e2⟩], _, by first | rfl | simp, by omega, by omega, Lib.hid (by rw [show 6 - (i + 1) = m1 from by omega]; exact hrun'.out), ⟨hp'.1, hp'.2.1⟩, by simp [hacc], hfin2, hfin1⟩
    · have hr := hrun.out
      simp only [sRun] at hr
      rw [if_neg hlt] at hr
      simp only [Prod.mk.injEq] at hr
      obtain ⟨rfl, rfl, rfl⟩ := hr
      clear hrun
      subst hacc
      have r11 := short_r h11.out hp
      have r12 := short_r h12.out ⟨r11.1, r11.2.1⟩
      have nb := D.2.2.2.2
      obtain rfl : cb = false := by rw [hcb.out]; exact decide_eq_false hlt
      clear hcb
      go_wp2_with fail
      refine (sshortH _ _ _ _ _ _ _ _ h11 hs1 hp D.2.1).mono ?_
      rintro e W1 ⟨rfl, R, U⟩
      have HE1 := Lib.hid (own_upd HE.out U (by omega))
      replace D := D.upd R U
      clear R U HE
      go_wp2_with fail
      refine (sReadConfH ct cf fine W1 hcf (by omega)).mono ?_
      rintro e W2 ⟨vC, rfl, hC0, hb⟩
      have hbl : b < W1.heap.size := D.2.2.2.1.lt
      have hC := Kd.R_mono (Kd.R_lower (Kd.R_bound hC0) D.2.2.1.size) (ok' := fun k => b < k) (fun k hk => by have := hk.2.1; omega)
      obtain ⟨AC, cC, rfl, hcC, -⟩ := Kd.R_reads hC
      have HC1 := Lib.hid hC
      have HE2 := Lib.hid (Kd.R_below HE1.out hb)
      replace D := D.below hb
      clear HE1 hb hC hC0 hbl W1
      have c := D.2.2.2.1.cell 9 rfl
      have f := D.2.2.2.1.free 9
      have l := D.2.2.2.1.lt
      go_wp2_with fail
      refine calls_at' (fun X => DAt 63 w s p11 q11 b #[.int .i64 a0, .int .i64 a1, .int .i64 a2, .int .i64 a3, .int .i64 a4, .int .i64 a5, .int .i64 a6, .bool a7, .slice AE acc.length cE, .slice AC cf.length cC, .string ⟨#[]⟩, .bool ls] X ∧ Kd.R k43 43 X w.heap.size (fun k => b < k) (.slice AE acc.length cE) acc ∧ Kd.R (Kd.int .i64) 3 X w.heap.size (fun k => b < k) (.slice AC cf.length cC) cf) ⟨D.set rfl, own_set HE2.out (Nat.le_refl _), own_set HC1.out (Nat.le_refl _)⟩ ?_
      clear c f l D HE2 HC1 W2
      rintro W3 ⟨D, hE, hC⟩
      have HE := Lib.hid hE
      have HC := Lib.hid hC
      clear hE hC
      refine (sshortH _ _ _ _ _ _ _ _ h12 hs1 ⟨r11.1, r11.2.1⟩ D.2.1).mono ?_
      rintro e W4 ⟨rfl, R, U⟩
      replace HE := Lib.hid (own_upd HE.out U (by omega))
      replace HC := Lib.hid (own_upd HC.out U (by omega))
      replace D := D.upd R U
      clear R U W3
      have c := D.2.2.2.1.cell 10 rfl
      have f := D.2.2.2.1.free 10
      have l := D.2.2.2.1.lt
      go_upto_region 20 with fail
      refine wp_at' (fun X => DAt 63 w s p12 q12 b #[.int .i64 a0, .int .i64 a1, .int .i64 a2, .int .i64 a3, .int .i64 a4, .int .i64 a5, .int .i64 a6, .bool a7, .slice AE acc.length cE, .slice AC cf.length cC, .string d, .bool ls] X ∧ Kd.R k43 43 X w.heap.size (fun k => b < k) (.slice AE acc.length cE) acc ∧ Kd.R (Kd.int .i64) 3 X w.heap.size (fun k => b < k) (.slice AC cf.length cC) cf) ⟨D.set rfl, own_set HE.out (Nat.le_refl _), own_set HC.out (Nat.le_refl _)⟩ ?_
      clear c f l D HE HC W4
      rintro W5 ⟨D, hE, hC⟩
      have HE := Lib.hid hE
      have HC := Lib.hid hC
      clear hE hC
      have c0 := D.2.2.2.1.cell 0 rfl
      have c1 := D.2.2.2.1.cell 1 rfl
      have c2 := D.2.2.2.1.cell 2 rfl
      have c3 := D.2.2.2.1.cell 3 rfl
      have c4 := D.2.2.2.1.cell 4 rfl
      have c5 := D.2.2.2.1.cell 5 rfl
      have c6 := D.2.2.2.1.cell 6 rfl
      have c7 := D.2.2.2.1.cell 7 rfl
      have c8 := D.2.2.2.1.cell 8 rfl
      have c9 := D.2.2.2.1.cell 9 rfl
      have c10 := D.2.2.2.1.cell 10 rfl
      have c11 := D.2.2.2.1.cell 11 rfl
      have l5 := D.2.2.2.1.lt
      obtain ⟨-, -, hCE⟩ := Kd.R_reads' HE.out
      obtain ⟨-, -, hCC⟩ := Kd.R_reads' HC.out
      have HCE := Lib.hid hCE
      have HCC := Lib.hid hCC
      clear hCE hCC
      cases mk with
      | false =>
        go_wp2_with fail
        refine (spec_Enc_no acc hSE a0 a1 a2 a3 a4 a5 a6 a7 cf d ls (by omega) hCl AE cE AC cC W5 HCE.out hcE HCC.out hcC hmk).mono ?_
        rintro e W6 ⟨rfl, hb⟩
        replace D := D.below hb
        clear hb c0 c1 c2 c3 c4 c5 c6 c7 c8 c9 c10 c11 l5 HCE HCC HE HC W5
        have k2 := D.1
        have y0 := k2.cell 0 rfl
        have y1 := k2.cell 1 rfl
        have y2 := k2.cell 2 rfl
        have y3 := k2.cell 3 rfl
        have y4 := k2.cell 4 rfl
        have y5 := k2.cell 5 rfl
        have y6 := k2.cell 6 rfl
        have y7 := k2.cell 7 rfl
        have y8 := k2.cell 8 rfl
        have y9 := k2.cell 9 rfl
        have y10 := k2.cell 10 rfl
        have y11 := k2.cell 11 rfl
        have yf : ∀ o, _ := fun o => k2.free o
        have yl := k2.lt
        obtain ⟨rc0, rc1, rc2, rcf⟩ := D.2.1.cells
        have rl := D.2.1.lt
        cases q12 with
        | true =>
          go_wp2_with fail
          refine bodyPost_ret (v := .tuple #[.agg #[.int .i64 0, .int .i64 0, .int .i64 0, .int .i64 0, .int .i64 0, .int .i64 0, .int .i64 0, .bool false, .slice none 0 0, .slice none 0 0, .string ⟨#[]⟩, .bool false], .bool false]) ?_ rfl ⟨⟨.slice none 0 0, .slice none 0 0, rfl, Kd.R_nil _ _ _ _ _, Kd.R_nil _ _ _ _ _⟩, ?_⟩
          · simp only [results, Try.results12]
            go_simp
          · iterate 12 refine bl_set ?_ (Nat.le_refl _)
            exact D.2.2.1
        | false =>
          go_wp2_with fail
          refine bodyPost_ret (v := .tuple #[.agg #[.int .i64 0, .int .i64 0, .int .i64 0, .int .i64 0, .int .i64 0, .int .i64 0, .int .i64 0, .bool false, .slice none 0 0, .slice none 0 0, .string ⟨#[]⟩, .bool false], .bool false]) ?_ rfl ⟨⟨.slice none 0 0, .slice none 0 0, rfl, Kd.R_nil _ _ _ _ _, Kd.R_nil _ _ _ _ _⟩, ?_⟩
          · simp only [results, Try.results12]
            go_simp
          · iterate 12 refine bl_set ?_ (Nat.le_refl _)
            exact D.2.2.1
      | true =>
        obtain ⟨en, hen⟩ : ∃ en, encS a0 a1 a2 a3 a4 a5 a6 a7 acc cf d ls = en := ⟨_, rfl⟩
        have henc := spec_Enc_yes acc hSE a0 a1 a2 a3 a4 a5 a6 a7 cf d ls (by omega) hCl AE cE AC cC W5 HCE.out hcE HCC.out hcC hmk
        rw [hen] at henc hsm
        have hsm2 := hsm.out
        go_wp2_with fail
        refine henc.mono ?_
        clear henc hen
        rintro e W6 ⟨rfl, hb⟩
        replace HE := Lib.hid (Kd.R_below HE.out hb)
        replace HC := Lib.hid (Kd.R_below HC.out hb)
        replace D := D.below hb
        clear hb c0 c1 c2 c3 c4 c5 c6 c7 c8 c9 c10 c11 l5 HCE HCC W5
        have k2 := D.1
        have y0 := k2.cell 0 rfl
        have y1 := k2.cell 1 rfl
        have y2 := k2.cell 2 rfl
        have y3 := k2.cell 3 rfl
        have y4 := k2.cell 4 rfl
        have y5 := k2.cell 5 rfl
        have y6 := k2.cell 6 rfl
        have y7 := k2.cell 7 rfl
        have y8 := k2.cell 8 rfl
        have y9 := k2.cell 9 rfl
        have y10 := k2.cell 10 rfl
        have y11 := k2.cell 11 rfl
        have yf : ∀ o, _ := fun o => k2.free o
        have yl := k2.lt
        obtain ⟨rc0, rc1, rc2, rcf⟩ := D.2.1.cells
        have rl := D.2.1.lt
        cases q12 with
        | true =>
          go_wp2_with fail
          refine bodyPost_ret (v := .tuple #[.agg #[.int .i64 0, .int .i64 0, .int .i64 0, .int .i64 0, .int .i64 0, .int .i64 0, .int .i64 0, .bool false, .slice none 0 0, .slice none 0 0, .string ⟨#[]⟩, .bool false], .bool false]) ?_ rfl ⟨⟨.slice none 0 0, .slice none 0 0, rfl, Kd.R_nil _ _ _ _ _, Kd.R_nil _ _ _ _ _⟩, ?_⟩
          · simp only [results, Try.results12]
            go_simp
          · iterate 12 refine bl_set ?_ (Nat.le_refl _)
            exact D.2.2.1
        | false =>
          cases sm with
          | false =>
            go_wp2_with fail
            refine bodyPost_ret (v := .tuple #[.agg #[.int .i64 0, .int .i64 0, .int .i64 0, .int .i64 0, .int .i64 0, .int .i64 0, .int .i64 0, .bool false, .slice none 0 0, .slice none 0 0, .string ⟨#[]⟩, .bool false], .bool false]) ?_ rfl ⟨⟨.slice none 0 0, .slice none 0 0, rfl, Kd.R_nil _ _ _ _ _, Kd.R_nil _ _ _ _ _⟩, ?_⟩
            · simp only [results, Try.results12]
              go_simp
            · iterate 12 refine bl_set ?_ (Nat.le_refl _)
              exact D.2.2.1
          | true =>
            have c0 := D.2.2.2.1.cell 0 rfl
            have c1 := D.2.2.2.1.cell 1 rfl
            have c2 := D.2.2.2.1.cell 2 rfl
            have c3 := D.2.2.2.1.cell 3 rfl
            have c4 := D.2.2.2.1.cell 4 rfl
            have c5 := D.2.2.2.1.cell 5 rfl
            have c6 := D.2.2.2.1.cell 6 rfl
            have c7 := D.2.2.2.1.cell 7 rfl
            have c8 := D.2.2.2.1.cell 8 rfl
            have c9 := D.2.2.2.1.cell 9 rfl
            have c10 := D.2.2.2.1.cell 10 rfl
            have c11 := D.2.2.2.1.cell 11 rfl
            have l5 := D.2.2.2.1.lt
            have nb2 : w.heap.size < b := by omega
            go_wp2_with fail
            have hE2 := HE.out
            have hC2 := HC.out
            refine bodyPost_ret (v := .tuple #[.agg #[.int .i64 a0, .int .i64 a1, .int .i64 a2, .int .i64 a3, .int .i64 a4, .int .i64 a5, .int .i64 a6, .bool a7, .slice AE acc.length cE, .slice AC cf.length cC, .string d, .bool ls], .bool true]) ?_ rfl ⟨⟨.slice AE acc.length cE, .slice AC cf.length cC, rfl, ?_, ?_⟩, ?_⟩
            · simp only [results, Try.results12]
              go_simp
            · refine Kd.R_mono (ok := fun k => b < k) ?_ (fun _ _ => trivial)
              iterate 12 refine own_set ?_ (Nat.le_of_lt nb2)
              exact hE2
            · refine Kd.R_mono (ok := fun k => b < k) ?_ (fun _ _ => trivial)
              iterate 12 refine own_set ?_ (Nat.le_of_lt nb2)
              exact hC2
            · iterate 12 refine bl_set ?_ (Nat.le_refl _)
              exact D.2.2.1
end Go.Proofs.Ytmljihfaapoakaa
end

section
namespace Go.Proofs.Ytmljihfaapoakaa
open Go.RowKit Go.Proofs.YtmljihfaapoakaaW.PrintWords PFnMessages
set_option linter.unusedSimpArgs false
set_option linter.unusedVariables false
theorem short_of_mem {es : List S43} (h : ∀ e ∈ es, e.f2.size ≤ 1048576) : Short es := by
  intro i
  by_cases hi : i < es.length
  · have : rd_T43 es (i : Int) = es[i] := by simp [rd_T43, hi]
    rw [this]
    exact h _ (List.getElem_mem hi)
  · have : rd_T43 es (i : Int) = z43 := by simp [rd_T43, hi]
    rw [this]
    exact Nat.zero_le _
theorem rentI_size (t : ByteArray) : (rentI t).2.2.f2.size ≤ t.size := by
  unfold rentI
  simp only
  split
  · simp only [ByteArray.size_extract]; omega
  · exact Nat.zero_le _
theorem iRun_all (s : ByteArray) : ∀ (n : Nat) (p : Int) (q : Bool) (acc : List S43), 0 ≤ p ∧ p ≤ s.size → (∀ e ∈ acc, e.f2.size ≤ 1048576) → (iRun s n p q acc).2.2.length = acc.length + n ∧ ∀ e ∈ (iRun s n p q acc).2.2, e.f2.size ≤ 1048576
  | 0, p, q, acc, hp, h => ⟨rfl, h⟩
  | n + 1, p, q, acc, hp, h => by
    rcases hx : rdText s p q with ⟨t, p1, q1⟩
    have hr := text_r hx hp
    simp only [iRun, hx]
    obtain ⟨h1, h2⟩ := iRun_all s n p1 (q1 || !(rentI t).1 || (rentI t).2.1 != 1) (acc ++ [(rentI t).2.2]) ⟨hr.1, hr.2.1⟩ (fun e he => by
      rcases List.mem_append.1 he with he | he
      · exact h e he
      · rw [List.mem_singleton] at he
        rw [he]
        have := rentI_size t
        omega)
    exact ⟨by rw [h1]; simp; omega, h2⟩
theorem sRun_all (s : ByteArray) (hs : s.size ≤ 1048576) (n : Int) : ∀ (k i : Nat) (p : Int) (q : Bool) (acc : List S43), 0 ≤ p ∧ p ≤ s.size → acc.length = i → i ≤ 5 → (∀ e ∈ acc, e.f2.size ≤ 1048576) → (sRun s n k i p q acc).2.2.length ≤ 5 ∧ (∀ e ∈ (sRun s n k i p q acc).2.2, e.f2.size ≤ 1048576) ∧ 0 ≤ (sRun s n k i p q acc).1 ∧ (sRun s n k i p q acc).1 ≤ s.size
  | 0, i, p, q, acc, hp, ha, hi, h => by simp only [sRun]; exact ⟨by show acc.length ≤ 5; omega, h, hp.1, hp.2⟩
  | k + 1, i, p, q, acc, hp, ha, hi, h => by
    simp only [sRun]
    by_cases hc : (i : Int) < n ∧ q = false ∧ i ≤ 4
    · rw [if_pos hc]
      rcases hx : rdShort s p q with ⟨t, p1, q1⟩
      have hr := short_r hx hp
      simp only
      exact sRun_all s hs n k (i + 1) p1 q1 (acc ++ [(rentS t).2.2]) ⟨hr.1, hr.2.1⟩ (by simp [ha]) (by omega) (fun e he => by
        rcases List.mem_append.1 he with he | he
        · exact h e he
        · rw [List.mem_singleton] at he
          rw [he]
          have := rentS_size t
          omega)
    · rw [if_neg hc]
      exact ⟨by show acc.length ≤ 5; omega, h, hp.1, hp.2⟩
theorem readConf_length (ct : ByteArray) : (readConf ct).1.length ≤ ct.size := by
  unfold readConf
  split
  · exact Nat.le_of_eq (bytesFrom_length _ _ _)
  · exact Nat.zero_le _
def MB (w w' : World) (e : Ending) (a0 a1 a2 a3 a4 a5 a6 : Int) (a7 : Bool) (es : List S43) (cf : List Int) (d : ByteArray) (ls ok : Bool) : Prop :=
  ∃ vE vC, e = .returned (.tuple #[.agg #[.int .i64 a0, .int .i64 a1, .int .i64 a2, .int .i64 a3, .int .i64 a4, .int .i64 a5, .int .i64 a6, .bool a7, vE, vC, .string d, .bool ls], .bool ok]) ∧
    Kd.R k43 43 w' w.heap.size (fun _ => True) vE es ∧ Kd.R (Kd.int .i64) 3 w' w.heap.size (fun _ => True) vC cf ∧ Below w.heap.size w w'
theorem DecBack.yes {w w' : World} {e : Ending} {a0 a1 a2 a3 a4 a5 a6 : Int} {a7 : Bool} {es : List S43} {cf : List Int} {d : ByteArray} {ls ok : Bool} (h : DecBack w w' e ok a0 a1 a2 a3 a4 a5 a6 a7 es cf d ls) (hok : ok = true) : MB w w' e a0 a1 a2 a3 a4 a5 a6 a7 es cf d ls true := by
  subst hok
  obtain ⟨⟨vE, vC, h1, h2, h3⟩, hb⟩ := h
  exact ⟨vE, vC, h1, h2, h3, hb⟩
theorem DecBack.no {w w' : World} {e : Ending} {a0 a1 a2 a3 a4 a5 a6 : Int} {a7 : Bool} {es : List S43} {cf : List Int} {d : ByteArray} {ls ok : Bool} (h : DecBack w w' e ok a0 a1 a2 a3 a4 a5 a6 a7 es cf d ls) (hok : ok = false) : MB w w' e 0 0 0 0 0 0 0 false [] [] ⟨#[]⟩ false false := by
  subst hok
  obtain ⟨⟨vE, vC, h1, h2, h3⟩, hb⟩ := h
  exact ⟨vE, vC, h1, h2, h3, hb⟩
theorem conf_short {a0 a1 a2 a3 a4 a5 a6 : Int} {es : List S43} {cf : List Int} {d : ByteArray} {ls : Bool} (h : msgB a0 a1 a2 a3 a4 a5 a6 es cf d ls = true) : cf.length ≤ 4 := by
  obtain ⟨-, -, -, -, -, b9, -⟩ := msgB_facts h
  rcases b9 with b9 | b9
  · exact (confOk_short b9).2
  · omega
theorem conf_read {cf : List Int} (h : confOk cf = true ∨ cf.length = 0) : (readConf (confT cf)).1 = cf := by
  unfold readConf
  rw [confT_back h]
  rcases h with h | h
  · rw [if_pos h]
  · have := List.eq_nil_of_length_eq_zero h
    subst this
    rfl
theorem bt_ext (s : ByteArray) (a b j : Nat) (hj : a + j < b) (hb : b ≤ s.size) : bt (s.extract a b) (j : Int) = bt s ((a + j : Nat) : Int) := by
  rw [bt_byN, bt_byN]
  have h1 := byN_nums (s.extract a b) j (by rw [ByteArray.size_extract]; omega)
  have h2 := byN_nums s (a + j) (by omega)
  rw [nums8_extract, List.getElem?_take, if_pos (by omega), List.getElem?_drop, h2] at h1
  simp only [Option.some.injEq] at h1
  rw [h1]
theorem byte_val {s : ByteArray} {p b p' : Int} (h : rdByte s p false = (b, p', false)) : bt s p = b := by
  unfold rdByte at h
  split at h
  · simp at h
  · simp only [Prod.mk.injEq] at h
    exact h.1
theorem flag_str {b : Bool} : ((byteS (flagN b)).toList == [1]) = b := by cases b <;> decide +kernel
theorem decode_yes (s : ByteArray) (hs : s.size ≤ 1048576) (a0 a1 a2 a3 a4 a5 a6 : Int) (a7 : Bool) (es : List S43) (cf : List Int) (d : ByteArray) (ls : Bool) (hm : msgB a0 a1 a2 a3 a4 a5 a6 es cf d ls = true) (henc : encS a0 a1 a2 a3 a4 a5 a6 a7 es cf d ls = s) : Short es ∧ es.length ≤ 4 ∧ cf.length ≤ 4 ∧
    (∀ w, Calls Try.prog 12 #[.string s] w fun e w' => MB w w' e a0 a1 a2 a3 a4 a5 a6 a7 es cf d ls true) ∧
    (∀ w, Calls Try.prog 7 #[.string s] w fun e w' => MB w w' e a0 a1 a2 a3 a4 a5 a6 a7 es cf d ls true) := by
  have hn : nums8 s = headL a0 a1 a2 a3 a4 a5 a6 a7 ls es.length ++ (entsL es ++ (nums8 (shortS (confT cf)) ++ nums8 (shortS d))) := by rw [← henc]; exact encS_nums a0 a1 a2 a3 a4 a5 a6 a7 es cf d ls
  obtain ⟨p3, p4, p5, p6, p9, p10, p11, h0, h1, h2, h3, h4, h5, h6, ⟨h7, k7⟩, ⟨h8, k8⟩, h9, h10, h11, h12, g6, g8, g9, g9', hl4, ht⟩ := dec_fwd (a7 := a7) hm s hn
  obtain ⟨-, -, -, -, -, b9, b10⟩ := msgB_facts hm
  have hcb := confT_back b9
  have hcs := conf_short hm
  have hSE : Short es := short_of_mem (fun e he => by
    have hx := msg_ents hm e he
    unfold entryOkI at hx
    simp only [Bool.and_eq_true] at hx
    have := entryOk_parts hx.1
    omega)
  refine ⟨hSE, hl4, hcs, fun w => ?_, fun w => ?_⟩
  · have t0 : rdTake s 0 false 3 = (s.extract 0 3, 3, false) := by
      have hz : 3 ≤ s.size := by
        have := byte_r h2 ⟨by omega, by
          have := byte_r h1 ⟨by omega, by
            have := byte_r h0 ⟨by omega, by omega⟩
            omega⟩
          omega⟩
        omega
      unfold rdTake
      rw [if_neg (by simp; omega)]
      rfl
    have hz : 3 ≤ s.size := by
      have h := take_size t0 (by omega) ⟨by omega, by omega⟩
      have h2 := (take_r t0 (by omega) ⟨by omega, by omega⟩).2.1
      omega
    have e0 : bt (s.extract 0 3) 0 = a0 := by
      have := bt_ext s 0 3 0 (by omega) hz
      rw [show ((0 : Nat) : Int) = (0 : Int) from rfl] at this
      rw [this]
      exact byte_val h0
    have e1 : bt (s.extract 0 3) 1 = a1 := by
      have := bt_ext s 0 3 1 (by omega) hz
      rw [show ((1 : Nat) : Int) = (1 : Int) from rfl] at this
      rw [this]
      exact byte_val h1
    have e2 : bt (s.extract 0 3) 2 = a2 := by
      have := bt_ext s 0 3 2 (by omega) hz
      rw [show ((2 : Nat) : Int) = (2 : Int) from rfl] at this
      rw [this]
      exact byte_val h2
    obtain ⟨t7, -⟩ := take_of_byte g6 k7
    obtain ⟨t8, -⟩ := take_of_byte (by omega) k8
    have hrun : sRun s es.length 6 0 p9 false [] = (p10, false, es) := by
      obtain ⟨p', r1, r2, -⟩ := sRun_same (acc := []) (k := 6) (msg_ents hm) ht rfl (by omega) (by omega)
      rw [h10] at r2
      simp only [List.nil_append, Prod.mk.injEq] at r2
      rw [r1, r2.1]
      rfl
    rcases hrc : readConf (confT cf) with ⟨cf', fine⟩
    have hcf' : cf' = cf := by have := conf_read b9; rw [hrc] at this; exact this
    subst hcf'
    refine (spec_Decode s hs (s.extract 0 3) a0 a1 a2 a3 a4 a5 a6 es.length 3 p3 p4 p5 p6 (p6 + 1) (p6 + 1 + 1) p9 p10 p11 s.size a7 ls false false false false false false false false false false es (byteS (flagN a7)) (byteS (flagN ls)) (confT cf') d cf' fine w
      (Lib.hid t0) (Lib.hid e0) (Lib.hid e1) (Lib.hid e2) (Lib.hid h3) (Lib.hid h4) (Lib.hid h5) (Lib.hid h6) (Lib.hid t7) flag_str (Lib.hid t8) flag_str (Lib.hid h9) (Lib.hid hrun) (Lib.hid (short_of_text h11)) (Lib.hid hrc) (Lib.hid (short_of_text h12)) true true (Lib.hid hm) (Lib.hid (by rw [henc]; simp)) hSE (by omega) (by omega)).mono ?_
    rintro e w' h
    exact h.yes rfl
  · have hdn : (!false && ((s.size : Int) == s.size)) = true := by simp
    refine (impl_Decode s hs a0 a1 a2 a3 a4 a5 a6 es.length 1 2 3 p3 p4 p5 p6 (p6 + 1) (p6 + 1 + 1) p9 p10 p11 s.size a7 ls false false false false false false false false false false false false false es (confT cf) d w
      (Lib.hid h0) (Lib.hid h1) (Lib.hid h2) (Lib.hid h3) (Lib.hid h4) (Lib.hid h5) (Lib.hid h6) (Lib.hid h7) (Lib.hid h8) (Lib.hid (by unfold rdMany; rw [h9, if_neg (by omega)])) (Lib.hid (by rw [Int.toNat_natCast]; exact h10)) (Lib.hid h11) (Lib.hid h12) true true (Lib.hid hdn) (Lib.hid (by rw [hcb]; exact hm)) hSE hl4).mono ?_
    rintro e w' h
    rw [hcb] at h
    exact h.yes rfl
theorem decode_full (s : ByteArray) (hs : s.size ≤ 1048576) : ∃ (a0 a1 a2 a3 a4 a5 a6 : Int) (a7 : Bool) (es : List S43) (cf : List Int) (d : ByteArray) (ls ok : Bool), Short es ∧ es.length ≤ 4 ∧ cf.length ≤ 4 ∧ (ok = true → msgB a0 a1 a2 a3 a4 a5 a6 es cf d ls = true ∧ encS a0 a1 a2 a3 a4 a5 a6 a7 es cf d ls = s) ∧
    (∀ w, Calls Try.prog 12 #[.string s] w fun e w' => MB w w' e a0 a1 a2 a3 a4 a5 a6 a7 es cf d ls ok) ∧
    (∀ w, Calls Try.prog 7 #[.string s] w fun e w' => MB w w' e a0 a1 a2 a3 a4 a5 a6 a7 es cf d ls ok) := by
  by_cases hA : ∃ (a0 a1 a2 a3 a4 a5 a6 : Int) (a7 : Bool) (es : List S43) (cf : List Int) (d : ByteArray) (ls : Bool), msgB a0 a1 a2 a3 a4 a5 a6 es cf d ls = true ∧ encS a0 a1 a2 a3 a4 a5 a6 a7 es cf d ls = s
  · obtain ⟨a0, a1, a2, a3, a4, a5, a6, a7, es, cf, d, ls, hm, henc⟩ := hA
    obtain ⟨h0, h1, h2, h3, h4⟩ := decode_yes s hs a0 a1 a2 a3 a4 a5 a6 a7 es cf d ls hm henc
    exact ⟨a0, a1, a2, a3, a4, a5, a6, a7, es, cf, d, ls, true, h0, h1, h2, fun _ => ⟨hm, henc⟩, h3, h4⟩
  · refine ⟨0, 0, 0, 0, 0, 0, 0, false, [], [], ⟨#[]⟩, false, false, short_of_mem (by simp), by simp, by simp, (fun h => by cases h), fun w => ?_, fun w => ?_⟩
    · rcases h0 : rdTake s 0 false 3 with ⟨hd, p2, q2⟩
      cases q2 with
      | true =>
        refine (spec_Decode_no s hs hd p2 w (Lib.hid h0)).mono ?_
        rintro e w' h
        exact h.no rfl
      | false =>
        rcases h3 : rdNum s p2 false with ⟨a3, p3, q3⟩
        rcases h4 : rdNum s p3 q3 with ⟨a4, p4, q4⟩
        rcases h5 : rdNum s p4 q4 with ⟨a5, p5, q5⟩
        rcases h6 : rdNum s p5 q5 with ⟨a6, p6, q6⟩
        rcases h7 : rdTake s p6 q6 1 with ⟨t7, p7, q7⟩
        rcases h8 : rdTake s p7 q7 1 with ⟨t8, p8, q8⟩
        rcases h9 : rdNum s p8 q8 with ⟨n, p9, q9⟩
        rcases h10 : sRun s n 6 0 p9 q9 [] with ⟨p10, q10, es⟩
        rcases h11 : rdShort s p10 q10 with ⟨ct, p11, q11⟩
        rcases hcf : readConf ct with ⟨cf, fine⟩
        rcases h12 : rdShort s p11 q11 with ⟨d, p12, q12⟩
        have r2 := take_r h0 (by omega) ⟨by omega, by omega⟩
        have r3 := num_r h3 ⟨r2.1, r2.2.1⟩
        have r4 := num_r h4 ⟨r3.1, r3.2.1⟩
        have r5 := num_r h5 ⟨r4.1, r4.2.1⟩
        have r6 := num_r h6 ⟨r5.1, r5.2.1⟩
        have r7 := take_r h7 (by omega) ⟨r6.1, r6.2.1⟩
        have r8 := take_r h8 (by omega) ⟨r7.1, r7.2.1⟩
        have r9 := num_r h9 ⟨r8.1, r8.2.1⟩
        have ha := sRun_all s hs n 6 0 p9 q9 [] ⟨r9.1, r9.2.1⟩ rfl (by omega) (by simp)
        rw [h10] at ha
        have r11 := short_r h11 ⟨ha.2.2.1, ha.2.2.2⟩
        have hcl := readConf_length ct
        rw [hcf] at hcl
        refine (spec_Decode s hs hd (bt hd 0) (bt hd 1) (bt hd 2) a3 a4 a5 a6 n p2 p3 p4 p5 p6 p7 p8 p9 p10 p11 p12 (t7.toList == [1]) (t8.toList == [1]) q3 q4 q5 q6 q7 q8 q9 q10 q11 q12 es t7 t8 ct d cf fine w
          (Lib.hid h0) (Lib.hid rfl) (Lib.hid rfl) (Lib.hid rfl) (Lib.hid h3) (Lib.hid h4) (Lib.hid h5) (Lib.hid h6) (Lib.hid h7) rfl (Lib.hid h8) rfl (Lib.hid h9) (Lib.hid h10) (Lib.hid h11) (Lib.hid hcf) (Lib.hid h12) _ _ (Lib.hid rfl) (Lib.hid rfl) (short_of_mem ha.2.1) ha.1 (by simp only at hcl; omega)).mono ?_
        rintro e w' h
        refine h.no ?_
        rw [Bool.eq_false_iff]
        intro hc
        simp only [Bool.and_eq_true, beq_iff_eq] at hc
        exact hA ⟨_, _, _, _, _, _, _, _, _, _, _, _, hc.2.1, ba_ext hc.2.2⟩
    · rcases h0 : rdByte s 0 false with ⟨a0, p0, q0⟩
      rcases h1 : rdByte s p0 q0 with ⟨a1, p1, q1⟩
      rcases h2 : rdByte s p1 q1 with ⟨a2, p2, q2⟩
      rcases h3 : rdNum s p2 q2 with ⟨a3, p3, q3⟩
      rcases h4 : rdNum s p3 q3 with ⟨a4, p4, q4⟩
      rcases h5 : rdNum s p4 q4 with ⟨a5, p5, q5⟩
      rcases h6 : rdNum s p5 q5 with ⟨a6, p6, q6⟩
      rcases h7 : rdFlag s p6 q6 with ⟨a7, p7, q7⟩
      rcases h8 : rdFlag s p7 q7 with ⟨ls, p8, q8⟩
      rcases h9 : rdMany s p8 q8 4 with ⟨n, p9, q9⟩
      rcases h10 : iRun s n.toNat p9 q9 [] with ⟨p10, q10, es⟩
      rcases h11 : rdText s p10 q10 with ⟨ct, p11, q11⟩
      rcases h12 : rdText s p11 q11 with ⟨d, p12, q12⟩
      have g : 0 ≤ (0 : Int) ∧ (0 : Int) ≤ s.size := by omega
      have r0 := byte_r h0 g
      have r1 := byte_r h1 ⟨r0.1, r0.2.1⟩
      have r2 := byte_r h2 ⟨r1.1, r1.2.1⟩
      have r3 := num_r h3 ⟨r2.1, r2.2.1⟩
      have r4 := num_r h4 ⟨r3.1, r3.2.1⟩
      have r5 := num_r h5 ⟨r4.1, r4.2.1⟩
      have r6 := num_r h6 ⟨r5.1, r5.2.1⟩
      have r7 := flag_r h7 ⟨r6.1, r6.2.1⟩
      have r8 := flag_r h8 r7
      have r9 := many_r h9 (by omega) r8
      have ha := iRun_all s n.toNat p9 q9 [] ⟨r9.1, r9.2.1⟩ (by simp)
      rw [h10] at ha
      simp only [List.length_nil, Nat.zero_add] at ha
      refine (impl_Decode s hs a0 a1 a2 a3 a4 a5 a6 n p0 p1 p2 p3 p4 p5 p6 p7 p8 p9 p10 p11 p12 a7 ls q0 q1 q2 q3 q4 q5 q6 q7 q8 q9 q10 q11 q12 es ct d w
        (Lib.hid h0) (Lib.hid h1) (Lib.hid h2) (Lib.hid h3) (Lib.hid h4) (Lib.hid h5) (Lib.hid h6) (Lib.hid h7) (Lib.hid h8) (Lib.hid h9) (Lib.hid h10) (Lib.hid h11) (Lib.hid h12) _ _ (Lib.hid rfl) (Lib.hid rfl) (short_of_mem ha.2) (by have := ha.1; omega)).mono ?_
      rintro e w' h
      refine h.no ?_
      rw [Bool.eq_false_iff]
      intro hc
      simp only [Bool.and_eq_true, Bool.not_eq_true', beq_iff_eq] at hc
      obtain ⟨⟨hq, hp⟩, hm⟩ := hc
      have hn := dec_inv h0 h1 h2 h3 h4 h5 h6 h7 h8 h9 h10 h11 h12 hq hp
      refine hA ⟨a0, a1, a2, a3, a4, a5, a6, a7, es, bytesFrom ct 0 ct.size, d, ls, hm, nums8_inj ?_⟩
      rw [encS_nums, hn]
      have hct : confT (bytesFrom ct 0 ct.size) = ct := by
        apply nums8_inj
        have hb := bytesFrom_nums ct ct.size 0 (by omega)
        rw [List.drop_zero] at hb
        unfold confT
        have hr : ∀ x ∈ (nums8 ct).map (fun x : Nat => (x : Int)), 0 ≤ x ∧ x < 256 := by
          intro x hx
          obtain ⟨y, hy, rfl⟩ := List.mem_map.1 hx
          unfold nums8 at hy
          obtain ⟨z, -, rfl⟩ := List.mem_map.1 hy
          have := z.toNat_lt
          omega
        have e : PFnMessages.confBs (bytesFrom ct 0 ct.size) = bytesFrom ct 0 ct.size := by
          rw [hb]
          unfold PFnMessages.confBs
          have : ((nums8 ct).map (fun x : Nat => (x : Int))).map (fun x => x % 256) = ((nums8 ct).map (fun x : Nat => (x : Int))).map id := List.map_congr_left (fun x hx => by have := hr x hx; simp; omega)
          simpa using this
        rw [e, hb, nums8_str _ hr, List.map_map]
        have : (nums8 ct).map (Int.toNat ∘ fun x : Nat => (x : Int)) = (nums8 ct).map id := List.map_congr_left (fun x _ => by simp)
        simpa using this
      rw [hct]
end Go.Proofs.Ytmljihfaapoakaa
end
