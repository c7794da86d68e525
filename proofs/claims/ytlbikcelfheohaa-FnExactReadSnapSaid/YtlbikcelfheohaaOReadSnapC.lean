import Derived.Test.YtlbikcelfheohaaOReadSnapA
import Derived.Test.YtlbikcelfheohaaOReadSnapB
import Derived.Test.YtlbikcelfheohaaPReadSnapB
import Derived.Test.YtlbikcelfheohaaPReadSnapC
import Derived.Test.YtlbikcelfheohaaWWords

/-! ### YtlbikcelfheohaaReadSnap -/
section
namespace Go.Proofs.Ytlbikcelfheohaa
open Go.RowKit Go.Proofs.YtlbikcelfheohaaW.PrintWords
set_option linter.unusedSimpArgs false
set_option linter.unusedVariables false

theorem impl_UnsealedH (s t : ByteArray) (b : Bool) (w : World) (h : Hid (unS s = (t, b))) (hs : s.size < 1099511627776) :
    Calls Try.prog 62 #[.string s] w fun e w' => e = .returned (.tuple #[.string t, .bool b]) ∧ Below w.heap.size w w' := by
  have hf := impl_uns_f s hs 200001 (by omega)
  rw [h.out] at hf
  exact PFnExactReadSnap.impl_Unsealed.calls 200001 s t b w hf
theorem spec_UnsealedH (s t : ByteArray) (b : Bool) (w : World) (h : Hid (unS s = (t, b))) (hs : s.size < 1099511627776) :
    Calls Try.prog 59 #[.string s] w fun e w' => e = .returned (.tuple #[.string t, .bool b]) ∧ Below w.heap.size w w' := by
  have hf := spec_uns_f s hs 200001 (by omega)
  rw [h.out] at hf
  exact PFnExactReadSnap.spec_Unsealed.calls 200001 s t b w hf
theorem impl_ReadConfH (s : ByteArray) (cf : List Int) (b : Bool) (w : World) (h : Hid (readConf s = (cf, b))) (hs : s.size < 1099511627776) :
    Calls Try.prog 63 #[.string s] w fun e w' => ∃ v, e = .returned (.tuple #[v, .bool b]) ∧ Kd.R (Kd.int .i64) 3 w' w.heap.size (fun _ => True) v cf ∧ Below w.heap.size w w' := by
  have hf := PFnExactReadSnap.iread_f s (s.size + s.size + 2) (by omega) (by omega)
  rw [h.out] at hf
  exact PFnExactReadSnap.impl_ReadConf.calls _ s cf b w hf
theorem spec_ReadConfH (s : ByteArray) (cf : List Int) (b : Bool) (w : World) (h : Hid (readConf s = (cf, b))) (hs : s.size < 1099511627776) :
    Calls Try.prog 60 #[.string s] w fun e w' => ∃ v, e = .returned (.tuple #[v, .bool b]) ∧ Kd.R (Kd.int .i64) 3 w' w.heap.size (fun _ => True) v cf ∧ Below w.heap.size w w' := by
  have hf := PFnExactReadSnap.sread_f s (s.size + s.size + 2) (by omega) (by omega)
  rw [h.out] at hf
  exact PFnExactReadSnap.spec_ReadConf.calls _ s cf b w hf










/-! the walks -/

theorem readConf_len (s : ByteArray) : (readConf s).1.length ≤ s.size := by
  unfold readConf
  split
  · rw [bytesFrom_length]; omega
  · simp

set_option maxHeartbeats 1000000 in
set_option maxRecDepth 100000 in
theorem impl_ReadSnap_no1 (s inn : ByteArray) (ok : Bool) (i t : Int) (ct body : ByteArray) (p1 p2 p3 p4 : Int) (q1 q2 q3 q4 fine : Bool) (cf : List Int) (w : World) (hs : s.size ≤ 1048576) (hin : Hid (unS s = (inn, ok))) (h1 : Hid (rdNum inn 0 false = (i, p1, q1))) (h2 : Hid (rdNum inn p1 q1 = (t, p2, q2))) (h3 : Hid (rdText inn p2 q2 = (ct, p3, q3))) (h4 : Hid (readConf ct = (cf, fine))) (h5 : Hid (rdText inn p3 q3 = (body, p4, q4))) (hno : ok = false) :
    Calls Try.prog 24 #[.string s] w fun e w' => ∃ v, e = .returned (.tuple #[.agg #[.int .i64 0, .int .i64 0, v, .string ⟨#[]⟩], .bool false]) ∧ Kd.R (Kd.int .i64) 3 w' w.heap.size (fun _ => True) v [] ∧ Below w.heap.size w w' := by
  have hu := unS_small s
  rw [hin.out] at hu
  simp only at hu
  have g0 : 0 ≤ (0 : Int) ∧ (0 : Int) ≤ inn.size := by omega
  have g1 := numH_range h1 g0
  have g2 := numH_range h2 g1
  have g3 := textH_range h3 g2
  have g4 := textH_range h5 ⟨g3.1, g3.2.1⟩
  subst hno
  go_enter Try.func24, Try.ntmps24
  go_wp2_with (first | (go_at_call 62; refine (impl_UnsealedH _ _ _ _ hin (by omega)).mono ?_; rintro e wu ⟨rfl, hb⟩))
  have B0 : Blk 48 w.heap.size #[.int .i64 0, .int .i64 0, .slice none 0 0, .string ⟨#[]⟩] wu := (Blk.new _ _ w).below hb
  have hzu : w.heap.size < wu.heap.size := B0.lt
  have HBu : Below w.heap.size w wu := (by repeat (first | exact Below.refl _ _ | apply bl_alloc | apply bl_drewN | apply bl_drew | refine bl_set ?_ (by simp) | refine bl_then ?_ (by assumption)))
  clear hb
  with_reducible refine (impl_numberH _ _ _ _ _ _ _ _ h1 (by omega) (rd_new rfl)).mono ?_
  rintro e w1 ⟨rfl, R1, U1⟩
  have hz1 : wu.heap.size < w1.heap.size := by have := U1.size; simp at this; omega
  have B1 : Blk 48 w.heap.size #[.int .i64 0, .int .i64 0, .slice none 0 0, .string ⟨#[]⟩] w1 := (B0.alloc _).upd U1 (by omega)
  have HB1 : Below w.heap.size w w1 := U1.below (bl_alloc HBu _) (by omega)
  clear U1 B0 HBu
  go_wp2_with fail
  with_reducible refine (impl_numberH _ _ _ _ _ _ _ _ h2 (by omega) ((R1.below (bl_alloc (Below.refl _ _) _)))).mono ?_
  rintro e w2 ⟨rfl, R2, U2⟩
  have hz2 : w1.heap.size < w2.heap.size := by have := U2.size; simp at this; omega
  have B2 : Blk 48 w.heap.size #[.int .i64 0, .int .i64 0, .slice none 0 0, .string ⟨#[]⟩] w2 := (B1.alloc _).upd U2 (by omega)
  have S2 : Blk 48 w1.heap.size #[.int .i64 i, .int .i64 0, .slice none 0 0, .string ⟨#[]⟩] w2 := (Blk.new _ _ w1).upd U2 (by omega)
  have HB2 : Below w.heap.size w w2 := U2.below (bl_alloc HB1 _) (by omega)
  clear U2 B1 R1 HB1
  have f2 := S2.free 1
  have s2 := S2.cell 1 rfl
  go_wp2_with fail
  with_reducible refine (impl_textH _ _ _ _ _ _ _ _ h3 (by omega) (R2.far (by simp; omega) _)).mono ?_
  rintro e w3 ⟨rfl, R3, U3⟩
  have hz3 : w2.heap.size ≤ w3.heap.size := by have := U3.size; simp at this; omega
  have B3 : Blk 48 w.heap.size #[.int .i64 0, .int .i64 0, .slice none 0 0, .string ⟨#[]⟩] w3 := (B2.far (by simp; omega) _).upd U3 (by omega)
  have S3 : Blk 48 w1.heap.size #[.int .i64 i, .int .i64 t, .slice none 0 0, .string ⟨#[]⟩] w3 := (S2.set 1 _ rfl).upd U3 (by omega)
  have HB3 : Below w.heap.size w w3 := U3.below (bl_set HB2 (by simp; omega)) (by omega)
  clear U3 B2 R2 HB2 f2 s2 S2
  go_wp2_with fail
  with_reducible refine (impl_ReadConfH _ _ _ _ h4 (by omega)).mono ?_
  rintro e w4 ⟨v, rfl, V4, hb⟩
  have hz4 : w3.heap.size ≤ w4.heap.size := hb.size
  have B4 := B3.below hb
  have S4 := S3.below hb
  have R4 := R3.below hb
  have HB4 : Below w.heap.size w w4 := bl_then HB3 hb
  clear B3 S3 R3 HB3 hb
  obtain ⟨A4, c4, rfl, hc4, -⟩ := Kd.R_reads V4
  have f4 := S4.free 2
  have s4 := S4.cell 2 rfl
  go_wp2_with fail
  with_reducible refine (impl_textH _ _ _ _ _ _ _ _ h5 (by omega) (R4.far (by simp; omega) _)).mono ?_
  rintro e w5 ⟨rfl, R5, U5⟩
  have hz5 : w4.heap.size ≤ w5.heap.size := by have := U5.size; simp at this; omega
  have B5 : Blk 48 w.heap.size #[.int .i64 0, .int .i64 0, .slice none 0 0, .string ⟨#[]⟩] w5 := (B4.far (by simp; omega) _).upd U5 (by omega)
  have S5 : Blk 48 w1.heap.size #[.int .i64 i, .int .i64 t, .slice A4 cf.length c4, .string ⟨#[]⟩] w5 := (S4.set 2 _ rfl).upd U5 (by omega)
  have HB5 : Below w.heap.size w w5 := U5.below (bl_set HB4 (by simp; omega)) (by omega)
  have V5 : Kd.R (Kd.int .i64) 3 w5 w3.heap.size (fun _ => True) (.slice A4 cf.length c4) cf := by
    refine Kd.R_mono (Kd.R_step (Kd.R_bound V4) fun k hk hlt => ?_) (fun _ _ => trivial)
    rw [U5.block k (by simpa using hlt) (by omega)]
    exact Below.heap_setCell _ _ _ _ (by simp; omega)
  clear U5 B4 R4 HB4 f4 s4 S4 V4
  have f5 := S5.free 3
  have s5 := S5.cell 3 rfl
  have r0 := B5.cell 0 rfl
  have r1 := B5.cell 1 rfl
  have r2 := B5.cell 2 rfl
  have r3 := B5.cell 3 rfl
  have rf := B5.free
  have n0 : w1.heap.size ≠ w.heap.size := by omega
  have n1 : w.heap.size ≠ w1.heap.size := by omega
  go_wp2
  refine bodyPost_ret (v := .tuple #[.agg #[.int .i64 0, .int .i64 0, .slice none 0 0, .string ⟨#[]⟩], .bool false]) ?_ rfl ⟨_, rfl, Kd.R_nil _ _ _ _ _, ?_⟩
  rotate_left
  · repeat (first | exact HB5 | (refine bl_set ?_ (by first | (simp; done) | (simp; omega))))
  simp only [results, Try.results24]
  go_simp

set_option maxHeartbeats 1000000 in
set_option maxRecDepth 100000 in
theorem impl_ReadSnap_no2 (s inn : ByteArray) (ok : Bool) (i t : Int) (ct body : ByteArray) (p1 p2 p3 p4 : Int) (q1 q2 q3 q4 fine : Bool) (cf : List Int) (w : World) (hs : s.size ≤ 1048576) (hin : Hid (unS s = (inn, ok))) (h1 : Hid (rdNum inn 0 false = (i, p1, q1))) (h2 : Hid (rdNum inn p1 q1 = (t, p2, q2))) (h3 : Hid (rdText inn p2 q2 = (ct, p3, q3))) (h4 : Hid (readConf ct = (cf, fine))) (h5 : Hid (rdText inn p3 q3 = (body, p4, q4))) (hok : ok = true) (hno : fine = false) :
    Calls Try.prog 24 #[.string s] w fun e w' => ∃ v, e = .returned (.tuple #[.agg #[.int .i64 0, .int .i64 0, v, .string ⟨#[]⟩], .bool false]) ∧ Kd.R (Kd.int .i64) 3 w' w.heap.size (fun _ => True) v [] ∧ Below w.heap.size w w' := by
  have hu := unS_small s
  rw [hin.out] at hu
  simp only at hu
  have g0 : 0 ≤ (0 : Int) ∧ (0 : Int) ≤ inn.size := by omega
  have g1 := numH_range h1 g0
  have g2 := numH_range h2 g1
  have g3 := textH_range h3 g2
  have g4 := textH_range h5 ⟨g3.1, g3.2.1⟩
  subst hno hok
  go_enter Try.func24, Try.ntmps24
  go_wp2_with (first | (go_at_call 62; refine (impl_UnsealedH _ _ _ _ hin (by omega)).mono ?_; rintro e wu ⟨rfl, hb⟩))
  have B0 : Blk 48 w.heap.size #[.int .i64 0, .int .i64 0, .slice none 0 0, .string ⟨#[]⟩] wu := (Blk.new _ _ w).below hb
  have hzu : w.heap.size < wu.heap.size := B0.lt
  have HBu : Below w.heap.size w wu := (by repeat (first | exact Below.refl _ _ | apply bl_alloc | apply bl_drewN | apply bl_drew | refine bl_set ?_ (by simp) | refine bl_then ?_ (by assumption)))
  clear hb
  with_reducible refine (impl_numberH _ _ _ _ _ _ _ _ h1 (by omega) (rd_new rfl)).mono ?_
  rintro e w1 ⟨rfl, R1, U1⟩
  have hz1 : wu.heap.size < w1.heap.size := by have := U1.size; simp at this; omega
  have B1 : Blk 48 w.heap.size #[.int .i64 0, .int .i64 0, .slice none 0 0, .string ⟨#[]⟩] w1 := (B0.alloc _).upd U1 (by omega)
  have HB1 : Below w.heap.size w w1 := U1.below (bl_alloc HBu _) (by omega)
  clear U1 B0 HBu
  go_wp2_with fail
  with_reducible refine (impl_numberH _ _ _ _ _ _ _ _ h2 (by omega) ((R1.below (bl_alloc (Below.refl _ _) _)))).mono ?_
  rintro e w2 ⟨rfl, R2, U2⟩
  have hz2 : w1.heap.size < w2.heap.size := by have := U2.size; simp at this; omega
  have B2 : Blk 48 w.heap.size #[.int .i64 0, .int .i64 0, .slice none 0 0, .string ⟨#[]⟩] w2 := (B1.alloc _).upd U2 (by omega)
  have S2 : Blk 48 w1.heap.size #[.int .i64 i, .int .i64 0, .slice none 0 0, .string ⟨#[]⟩] w2 := (Blk.new _ _ w1).upd U2 (by omega)
  have HB2 : Below w.heap.size w w2 := U2.below (bl_alloc HB1 _) (by omega)
  clear U2 B1 R1 HB1
  have f2 := S2.free 1
  have s2 := S2.cell 1 rfl
  go_wp2_with fail
  with_reducible refine (impl_textH _ _ _ _ _ _ _ _ h3 (by omega) (R2.far (by simp; omega) _)).mono ?_
  rintro e w3 ⟨rfl, R3, U3⟩
  have hz3 : w2.heap.size ≤ w3.heap.size := by have := U3.size; simp at this; omega
  have B3 : Blk 48 w.heap.size #[.int .i64 0, .int .i64 0, .slice none 0 0, .string ⟨#[]⟩] w3 := (B2.far (by simp; omega) _).upd U3 (by omega)
  have S3 : Blk 48 w1.heap.size #[.int .i64 i, .int .i64 t, .slice none 0 0, .string ⟨#[]⟩] w3 := (S2.set 1 _ rfl).upd U3 (by omega)
  have HB3 : Below w.heap.size w w3 := U3.below (bl_set HB2 (by simp; omega)) (by omega)
  clear U3 B2 R2 HB2 f2 s2 S2
  go_wp2_with fail
  with_reducible refine (impl_ReadConfH _ _ _ _ h4 (by omega)).mono ?_
  rintro e w4 ⟨v, rfl, V4, hb⟩
  have hz4 : w3.heap.size ≤ w4.heap.size := hb.size
  have B4 := B3.below hb
  have S4 := S3.below hb
  have R4 := R3.below hb
  have HB4 : Below w.heap.size w w4 := bl_then HB3 hb
  clear B3 S3 R3 HB3 hb
  obtain ⟨A4, c4, rfl, hc4, -⟩ := Kd.R_reads V4
  have f4 := S4.free 2
  have s4 := S4.cell 2 rfl
  go_wp2_with fail
  with_reducible refine (impl_textH _ _ _ _ _ _ _ _ h5 (by omega) (R4.far (by simp; omega) _)).mono ?_
  rintro e w5 ⟨rfl, R5, U5⟩
  have hz5 : w4.heap.size ≤ w5.heap.size := by have := U5.size; simp at this; omega
  have B5 : Blk 48 w.heap.size #[.int .i64 0, .int .i64 0, .slice none 0 0, .string ⟨#[]⟩] w5 := (B4.far (by simp; omega) _).upd U5 (by omega)
  have S5 : Blk 48 w1.heap.size #[.int .i64 i, .int .i64 t, .slice A4 cf.length c4, .string ⟨#[]⟩] w5 := (S4.set 2 _ rfl).upd U5 (by omega)
  have HB5 : Below w.heap.size w w5 := U5.below (bl_set HB4 (by simp; omega)) (by omega)
  have V5 : Kd.R (Kd.int .i64) 3 w5 w3.heap.size (fun _ => True) (.slice A4 cf.length c4) cf := by
    refine Kd.R_mono (Kd.R_step (Kd.R_bound V4) fun k hk hlt => ?_) (fun _ _ => trivial)
    rw [U5.block k (by simpa using hlt) (by omega)]
    exact Below.heap_setCell _ _ _ _ (by simp; omega)
  clear U5 B4 R4 HB4 f4 s4 S4 V4
  have f5 := S5.free 3
  have s5 := S5.cell 3 rfl
  have r0 := B5.cell 0 rfl
  have r1 := B5.cell 1 rfl
  have r2 := B5.cell 2 rfl
  have r3 := B5.cell 3 rfl
  have rf := B5.free
  have n0 : w1.heap.size ≠ w.heap.size := by omega
  have n1 : w.heap.size ≠ w1.heap.size := by omega
  go_wp2
  refine bodyPost_ret (v := .tuple #[.agg #[.int .i64 0, .int .i64 0, .slice none 0 0, .string ⟨#[]⟩], .bool false]) ?_ rfl ⟨_, rfl, Kd.R_nil _ _ _ _ _, ?_⟩
  rotate_left
  · repeat (first | exact HB5 | (refine bl_set ?_ (by first | (simp; done) | (simp; omega))))
  simp only [results, Try.results24]
  go_simp

set_option maxHeartbeats 1000000 in
set_option maxRecDepth 100000 in
theorem impl_ReadSnap_no3 (s inn : ByteArray) (ok : Bool) (i t : Int) (ct body : ByteArray) (p1 p2 p3 p4 : Int) (q1 q2 q3 q4 fine : Bool) (cf : List Int) (w : World) (hs : s.size ≤ 1048576) (hin : Hid (unS s = (inn, ok))) (h1 : Hid (rdNum inn 0 false = (i, p1, q1))) (h2 : Hid (rdNum inn p1 q1 = (t, p2, q2))) (h3 : Hid (rdText inn p2 q2 = (ct, p3, q3))) (h4 : Hid (readConf ct = (cf, fine))) (h5 : Hid (rdText inn p3 q3 = (body, p4, q4))) (hok : ok = true) (hfine : fine = true) (dn : Bool) (hdn : Hid ((!q4 && p4 == inn.size) = dn)) (hno : dn = false) :
    Calls Try.prog 24 #[.string s] w fun e w' => ∃ v, e = .returned (.tuple #[.agg #[.int .i64 0, .int .i64 0, v, .string ⟨#[]⟩], .bool false]) ∧ Kd.R (Kd.int .i64) 3 w' w.heap.size (fun _ => True) v [] ∧ Below w.heap.size w w' := by
  have hu := unS_small s
  rw [hin.out] at hu
  simp only at hu
  have g0 : 0 ≤ (0 : Int) ∧ (0 : Int) ≤ inn.size := by omega
  have g1 := numH_range h1 g0
  have g2 := numH_range h2 g1
  have g3 := textH_range h3 g2
  have g4 := textH_range h5 ⟨g3.1, g3.2.1⟩
  subst hno hok hfine
  go_enter Try.func24, Try.ntmps24
  go_wp2_with (first | (go_at_call 62; refine (impl_UnsealedH _ _ _ _ hin (by omega)).mono ?_; rintro e wu ⟨rfl, hb⟩))
  have B0 : Blk 48 w.heap.size #[.int .i64 0, .int .i64 0, .slice none 0 0, .string ⟨#[]⟩] wu := (Blk.new _ _ w).below hb
  have hzu : w.heap.size < wu.heap.size := B0.lt
  have HBu : Below w.heap.size w wu := (by repeat (first | exact Below.refl _ _ | apply bl_alloc | apply bl_drewN | apply bl_drew | refine bl_set ?_ (by simp) | refine bl_then ?_ (by assumption)))
  clear hb
  with_reducible refine (impl_numberH _ _ _ _ _ _ _ _ h1 (by omega) (rd_new rfl)).mono ?_
  rintro e w1 ⟨rfl, R1, U1⟩
  have hz1 : wu.heap.size < w1.heap.size := by have := U1.size; simp at this; omega
  have B1 : Blk 48 w.heap.size #[.int .i64 0, .int .i64 0, .slice none 0 0, .string ⟨#[]⟩] w1 := (B0.alloc _).upd U1 (by omega)
  have HB1 : Below w.heap.size w w1 := U1.below (bl_alloc HBu _) (by omega)
  clear U1 B0 HBu
  go_wp2_with fail
  with_reducible refine (impl_numberH _ _ _ _ _ _ _ _ h2 (by omega) ((R1.below (bl_alloc (Below.refl _ _) _)))).mono ?_
  rintro e w2 ⟨rfl, R2, U2⟩
  have hz2 : w1.heap.size < w2.heap.size := by have := U2.size; simp at this; omega
  have B2 : Blk 48 w.heap.size #[.int .i64 0, .int .i64 0, .slice none 0 0, .string ⟨#[]⟩] w2 := (B1.alloc _).upd U2 (by omega)
  have S2 : Blk 48 w1.heap.size #[.int .i64 i, .int .i64 0, .slice none 0 0, .string ⟨#[]⟩] w2 := (Blk.new _ _ w1).upd U2 (by omega)
  have HB2 : Below w.heap.size w w2 := U2.below (bl_alloc HB1 _) (by omega)
  clear U2 B1 R1 HB1
  have f2 := S2.free 1
  have s2 := S2.cell 1 rfl
  go_wp2_with fail
  with_reducible refine (impl_textH _ _ _ _ _ _ _ _ h3 (by omega) (R2.far (by simp; omega) _)).mono ?_
  rintro e w3 ⟨rfl, R3, U3⟩
  have hz3 : w2.heap.size ≤ w3.heap.size := by have := U3.size; simp at this; omega
  have B3 : Blk 48 w.heap.size #[.int .i64 0, .int .i64 0, .slice none 0 0, .string ⟨#[]⟩] w3 := (B2.far (by simp; omega) _).upd U3 (by omega)
  have S3 : Blk 48 w1.heap.size #[.int .i64 i, .int .i64 t, .slice none 0 0, .string ⟨#[]⟩] w3 := (S2.set 1 _ rfl).upd U3 (by omega)
  have HB3 : Below w.heap.size w w3 := U3.below (bl_set HB2 (by simp; omega)) (by omega)
  clear U3 B2 R2 HB2 f2 s2 S2
  go_wp2_with fail
  with_reducible refine (impl_ReadConfH _ _ _ _ h4 (by omega)).mono ?_
  rintro e w4 ⟨v, rfl, V4, hb⟩
  have hz4 : w3.heap.size ≤ w4.heap.size := hb.size
  have B4 := B3.below hb
  have S4 := S3.below hb
  have R4 := R3.below hb
  have HB4 : Below w.heap.size w w4 := bl_then HB3 hb
  clear B3 S3 R3 HB3 hb
  obtain ⟨A4, c4, rfl, hc4, -⟩ := Kd.R_reads V4
  have f4 := S4.free 2
  have s4 := S4.cell 2 rfl
  go_wp2_with fail
  with_reducible refine (impl_textH _ _ _ _ _ _ _ _ h5 (by omega) (R4.far (by simp; omega) _)).mono ?_
  rintro e w5 ⟨rfl, R5, U5⟩
  have hz5 : w4.heap.size ≤ w5.heap.size := by have := U5.size; simp at this; omega
  have B5 : Blk 48 w.heap.size #[.int .i64 0, .int .i64 0, .slice none 0 0, .string ⟨#[]⟩] w5 := (B4.far (by simp; omega) _).upd U5 (by omega)
  have S5 : Blk 48 w1.heap.size #[.int .i64 i, .int .i64 t, .slice A4 cf.length c4, .string ⟨#[]⟩] w5 := (S4.set 2 _ rfl).upd U5 (by omega)
  have HB5 : Below w.heap.size w w5 := U5.below (bl_set HB4 (by simp; omega)) (by omega)
  have V5 : Kd.R (Kd.int .i64) 3 w5 w3.heap.size (fun _ => True) (.slice A4 cf.length c4) cf := by
    refine Kd.R_mono (Kd.R_step (Kd.R_bound V4) fun k hk hlt => ?_) (fun _ _ => trivial)
    rw [U5.block k (by simpa using hlt) (by omega)]
    exact Below.heap_setCell _ _ _ _ (by simp; omega)
  clear U5 B4 R4 HB4 f4 s4 S4 V4
  have f5 := S5.free 3
  have s5 := S5.cell 3 rfl
  go_wp2_with fail
  with_reducible refine (impl_doneH _ _ _ _ _ _ hdn (R5.far (by simp; omega) _)).mono ?_
  rintro e w6 ⟨rfl, R6, U6⟩
  have hz6 : w5.heap.size ≤ w6.heap.size := by have := U6.size; simp at this; omega
  have B6 : Blk 48 w.heap.size #[.int .i64 0, .int .i64 0, .slice none 0 0, .string ⟨#[]⟩] w6 := (B5.far (by simp; omega) _).upd U6 (by omega)
  have S6 : Blk 48 w1.heap.size #[.int .i64 i, .int .i64 t, .slice A4 cf.length c4, .string body] w6 := (S5.set 3 _ rfl).upd U6 (by omega)
  have HB6 : Below w.heap.size w w6 := U6.below (bl_set HB5 (by simp; omega)) (by omega)
  have V6 : Kd.R (Kd.int .i64) 3 w6 w3.heap.size (fun _ => True) (.slice A4 cf.length c4) cf := by
    refine Kd.R_mono (Kd.R_step (Kd.R_bound V5) fun k hk hlt => ?_) (fun _ _ => trivial)
    rw [U6.block k (by simpa using hlt) (by omega)]
    exact Below.heap_setCell _ _ _ _ (by simp; omega)
  clear U6 B5 S5 R5 R6 HB5 V5 f5 s5
  have r0 := B6.cell 0 rfl
  have r1 := B6.cell 1 rfl
  have r2 := B6.cell 2 rfl
  have r3 := B6.cell 3 rfl
  have rf := B6.free
  have n0 : w1.heap.size ≠ w.heap.size := by omega
  have n1 : w.heap.size ≠ w1.heap.size := by omega
  go_wp2
  refine bodyPost_ret (v := .tuple #[.agg #[.int .i64 0, .int .i64 0, .slice none 0 0, .string ⟨#[]⟩], .bool false]) ?_ rfl ⟨_, rfl, Kd.R_nil _ _ _ _ _, ?_⟩
  rotate_left
  · repeat (first | exact HB6 | (refine bl_set ?_ (by first | (simp; done) | (simp; omega))))
  simp only [results, Try.results24]
  go_simp

set_option maxHeartbeats 1000000 in
set_option maxRecDepth 100000 in
theorem impl_ReadSnap_no4 (s inn : ByteArray) (ok : Bool) (i t : Int) (ct body : ByteArray) (p1 p2 p3 p4 : Int) (q1 q2 q3 q4 fine : Bool) (cf : List Int) (w : World) (hs : s.size ≤ 1048576) (hin : Hid (unS s = (inn, ok))) (h1 : Hid (rdNum inn 0 false = (i, p1, q1))) (h2 : Hid (rdNum inn p1 q1 = (t, p2, q2))) (h3 : Hid (rdText inn p2 q2 = (ct, p3, q3))) (h4 : Hid (readConf ct = (cf, fine))) (h5 : Hid (rdText inn p3 q3 = (body, p4, q4))) (hok : ok = true) (hfine : fine = true) (hdn : Hid ((!q4 && p4 == inn.size) = true)) (hsk : Hid (snapOk i t cf body = false)) :
    Calls Try.prog 24 #[.string s] w fun e w' => ∃ v, e = .returned (.tuple #[.agg #[.int .i64 0, .int .i64 0, v, .string ⟨#[]⟩], .bool false]) ∧ Kd.R (Kd.int .i64) 3 w' w.heap.size (fun _ => True) v [] ∧ Below w.heap.size w w' := by
  have hu := unS_small s
  rw [hin.out] at hu
  simp only at hu
  have g0 : 0 ≤ (0 : Int) ∧ (0 : Int) ≤ inn.size := by omega
  have g1 := numH_range h1 g0
  have g2 := numH_range h2 g1
  have g3 := textH_range h3 g2
  have g4 := textH_range h5 ⟨g3.1, g3.2.1⟩
  subst hok hfine
  go_enter Try.func24, Try.ntmps24
  go_wp2_with (first | (go_at_call 62; refine (impl_UnsealedH _ _ _ _ hin (by omega)).mono ?_; rintro e wu ⟨rfl, hb⟩))
  have B0 : Blk 48 w.heap.size #[.int .i64 0, .int .i64 0, .slice none 0 0, .string ⟨#[]⟩] wu := (Blk.new _ _ w).below hb
  have hzu : w.heap.size < wu.heap.size := B0.lt
  have HBu : Below w.heap.size w wu := (by repeat (first | exact Below.refl _ _ | apply bl_alloc | apply bl_drewN | apply bl_drew | refine bl_set ?_ (by simp) | refine bl_then ?_ (by assumption)))
  clear hb
  with_reducible refine (impl_numberH _ _ _ _ _ _ _ _ h1 (by omega) (rd_new rfl)).mono ?_
  rintro e w1 ⟨rfl, R1, U1⟩
  have hz1 : wu.heap.size < w1.heap.size := by have := U1.size; simp at this; omega
  have B1 : Blk 48 w.heap.size #[.int .i64 0, .int .i64 0, .slice none 0 0, .string ⟨#[]⟩] w1 := (B0.alloc _).upd U1 (by omega)
  have HB1 : Below w.heap.size w w1 := U1.below (bl_alloc HBu _) (by omega)
  clear U1 B0 HBu
  go_wp2_with fail
  with_reducible refine (impl_numberH _ _ _ _ _ _ _ _ h2 (by omega) ((R1.below (bl_alloc (Below.refl _ _) _)))).mono ?_
  rintro e w2 ⟨rfl, R2, U2⟩
  have hz2 : w1.heap.size < w2.heap.size := by have := U2.size; simp at this; omega
  have B2 : Blk 48 w.heap.size #[.int .i64 0, .int .i64 0, .slice none 0 0, .string ⟨#[]⟩] w2 := (B1.alloc _).upd U2 (by omega)
  have S2 : Blk 48 w1.heap.size #[.int .i64 i, .int .i64 0, .slice none 0 0, .string ⟨#[]⟩] w2 := (Blk.new _ _ w1).upd U2 (by omega)
  have HB2 : Below w.heap.size w w2 := U2.below (bl_alloc HB1 _) (by omega)
  clear U2 B1 R1 HB1
  have f2 := S2.free 1
  have s2 := S2.cell 1 rfl
  go_wp2_with fail
  with_reducible refine (impl_textH _ _ _ _ _ _ _ _ h3 (by omega) (R2.far (by simp; omega) _)).mono ?_
  rintro e w3 ⟨rfl, R3, U3⟩
  have hz3 : w2.heap.size ≤ w3.heap.size := by have := U3.size; simp at this; omega
  have B3 : Blk 48 w.heap.size #[.int .i64 0, .int .i64 0, .slice none 0 0, .string ⟨#[]⟩] w3 := (B2.far (by simp; omega) _).upd U3 (by omega)
  have S3 : Blk 48 w1.heap.size #[.int .i64 i, .int .i64 t, .slice none 0 0, .string ⟨#[]⟩] w3 := (S2.set 1 _ rfl).upd U3 (by omega)
  have HB3 : Below w.heap.size w w3 := U3.below (bl_set HB2 (by simp; omega)) (by omega)
  clear U3 B2 R2 HB2 f2 s2 S2
  go_wp2_with fail
  with_reducible refine (impl_ReadConfH _ _ _ _ h4 (by omega)).mono ?_
  rintro e w4 ⟨v, rfl, V4, hb⟩
  have hz4 : w3.heap.size ≤ w4.heap.size := hb.size
  have B4 := B3.below hb
  have S4 := S3.below hb
  have R4 := R3.below hb
  have HB4 : Below w.heap.size w w4 := bl_then HB3 hb
  clear B3 S3 R3 HB3 hb
  obtain ⟨A4, c4, rfl, hc4, -⟩ := Kd.R_reads V4
  have f4 := S4.free 2
  have s4 := S4.cell 2 rfl
  go_wp2_with fail
  with_reducible refine (impl_textH _ _ _ _ _ _ _ _ h5 (by omega) (R4.far (by simp; omega) _)).mono ?_
  rintro e w5 ⟨rfl, R5, U5⟩
  have hz5 : w4.heap.size ≤ w5.heap.size := by have := U5.size; simp at this; omega
  have B5 : Blk 48 w.heap.size #[.int .i64 0, .int .i64 0, .slice none 0 0, .string ⟨#[]⟩] w5 := (B4.far (by simp; omega) _).upd U5 (by omega)
  have S5 : Blk 48 w1.heap.size #[.int .i64 i, .int .i64 t, .slice A4 cf.length c4, .string ⟨#[]⟩] w5 := (S4.set 2 _ rfl).upd U5 (by omega)
  have HB5 : Below w.heap.size w w5 := U5.below (bl_set HB4 (by simp; omega)) (by omega)
  have V5 : Kd.R (Kd.int .i64) 3 w5 w3.heap.size (fun _ => True) (.slice A4 cf.length c4) cf := by
    refine Kd.R_mono (Kd.R_step (Kd.R_bound V4) fun k hk hlt => ?_) (fun _ _ => trivial)
    rw [U5.block k (by simpa using hlt) (by omega)]
    exact Below.heap_setCell _ _ _ _ (by simp; omega)
  clear U5 B4 R4 HB4 f4 s4 S4 V4
  have f5 := S5.free 3
  have s5 := S5.cell 3 rfl
  go_wp2_with fail
  with_reducible refine (impl_doneH _ _ _ _ _ _ hdn (R5.far (by simp; omega) _)).mono ?_
  rintro e w6 ⟨rfl, R6, U6⟩
  have hz6 : w5.heap.size ≤ w6.heap.size := by have := U6.size; simp at this; omega
  have B6 : Blk 48 w.heap.size #[.int .i64 0, .int .i64 0, .slice none 0 0, .string ⟨#[]⟩] w6 := (B5.far (by simp; omega) _).upd U6 (by omega)
  have S6 : Blk 48 w1.heap.size #[.int .i64 i, .int .i64 t, .slice A4 cf.length c4, .string body] w6 := (S5.set 3 _ rfl).upd U6 (by omega)
  have HB6 : Below w.heap.size w w6 := U6.below (bl_set HB5 (by simp; omega)) (by omega)
  have V6 : Kd.R (Kd.int .i64) 3 w6 w3.heap.size (fun _ => True) (.slice A4 cf.length c4) cf := by
    refine Kd.R_mono (Kd.R_step (Kd.R_bound V5) fun k hk hlt => ?_) (fun _ _ => trivial)
    rw [U6.block k (by simpa using hlt) (by omega)]
    exact Below.heap_setCell _ _ _ _ (by simp; omega)
  clear U6 B5 S5 R5 R6 HB5 V5 f5 s5
  have hcl := readConf_len ct
  rw [h4.out] at hcl
  (try simp only at hcl)
  have sc0 := S6.cell 0 rfl
  have sc1 := S6.cell 1 rfl
  have sc2 := S6.cell 2 rfl
  have sc3 := S6.cell 3 rfl
  obtain ⟨A', c', he', -, hC6⟩ := Kd.R_reads V6
  obtain ⟨rfl, -, rfl⟩ : A4 = A' ∧ True ∧ c4 = c' := by injection he' with a b c; exact ⟨a, trivial, c⟩
  go_wp2_with fail
  with_reducible refine (impl_SnapText _ _ _ _ cf _ false _ hsk hC6 hc4 (by omega) (by omega)).mono ?_
  rintro e w7 ⟨rfl, hb7⟩
  have B7 := B6.below hb7
  have S7 := S6.below hb7
  have HB7 : Below w.heap.size w w7 := bl_then HB6 hb7
  have V7 := Kd.R_below V6 hb7
  clear hC6 B6 S6 HB6 V6 hb7 sc0 sc1 sc2 sc3
  have r0 := B7.cell 0 rfl
  have r1 := B7.cell 1 rfl
  have r2 := B7.cell 2 rfl
  have r3 := B7.cell 3 rfl
  have rf := B7.free
  have n0 : w1.heap.size ≠ w.heap.size := by omega
  have n1 : w.heap.size ≠ w1.heap.size := by omega
  go_wp2
  refine bodyPost_ret (v := .tuple #[.agg #[.int .i64 0, .int .i64 0, .slice none 0 0, .string ⟨#[]⟩], .bool false]) ?_ rfl ⟨_, rfl, Kd.R_nil _ _ _ _ _, ?_⟩
  rotate_left
  · repeat (first | exact HB7 | (refine bl_set ?_ (by first | (simp; done) | (simp; omega))))
  simp only [results, Try.results24]
  go_simp

set_option maxHeartbeats 1000000 in
set_option maxRecDepth 100000 in
theorem impl_ReadSnap_no5 (s inn : ByteArray) (ok : Bool) (i t : Int) (ct body : ByteArray) (p1 p2 p3 p4 : Int) (q1 q2 q3 q4 fine : Bool) (cf : List Int) (w : World) (hs : s.size ≤ 1048576) (hin : Hid (unS s = (inn, ok))) (h1 : Hid (rdNum inn 0 false = (i, p1, q1))) (h2 : Hid (rdNum inn p1 q1 = (t, p2, q2))) (h3 : Hid (rdText inn p2 q2 = (ct, p3, q3))) (h4 : Hid (readConf ct = (cf, fine))) (h5 : Hid (rdText inn p3 q3 = (body, p4, q4))) (hok : ok = true) (hfine : fine = true) (hdn : Hid ((!q4 && p4 == inn.size) = true)) (hsk : Hid (snapOk i t cf body = true)) (hsm : (!((sealS (snapIn i t cf body)).toList == s.toList)) = true) :
    Calls Try.prog 24 #[.string s] w fun e w' => ∃ v, e = .returned (.tuple #[.agg #[.int .i64 0, .int .i64 0, v, .string ⟨#[]⟩], .bool false]) ∧ Kd.R (Kd.int .i64) 3 w' w.heap.size (fun _ => True) v [] ∧ Below w.heap.size w w' := by
  have hu := unS_small s
  rw [hin.out] at hu
  simp only at hu
  have g0 : 0 ≤ (0 : Int) ∧ (0 : Int) ≤ inn.size := by omega
  have g1 := numH_range h1 g0
  have g2 := numH_range h2 g1
  have g3 := textH_range h3 g2
  have g4 := textH_range h5 ⟨g3.1, g3.2.1⟩
  subst hok hfine
  go_enter Try.func24, Try.ntmps24
  go_wp2_with (first | (go_at_call 62; refine (impl_UnsealedH _ _ _ _ hin (by omega)).mono ?_; rintro e wu ⟨rfl, hb⟩))
  have B0 : Blk 48 w.heap.size #[.int .i64 0, .int .i64 0, .slice none 0 0, .string ⟨#[]⟩] wu := (Blk.new _ _ w).below hb
  have hzu : w.heap.size < wu.heap.size := B0.lt
  have HBu : Below w.heap.size w wu := (by repeat (first | exact Below.refl _ _ | apply bl_alloc | apply bl_drewN | apply bl_drew | refine bl_set ?_ (by simp) | refine bl_then ?_ (by assumption)))
  clear hb
  with_reducible refine (impl_numberH _ _ _ _ _ _ _ _ h1 (by omega) (rd_new rfl)).mono ?_
  rintro e w1 ⟨rfl, R1, U1⟩
  have hz1 : wu.heap.size < w1.heap.size := by have := U1.size; simp at this; omega
  have B1 : Blk 48 w.heap.size #[.int .i64 0, .int .i64 0, .slice none 0 0, .string ⟨#[]⟩] w1 := (B0.alloc _).upd U1 (by omega)
  have HB1 : Below w.heap.size w w1 := U1.below (bl_alloc HBu _) (by omega)
  clear U1 B0 HBu
  go_wp2_with fail
  with_reducible refine (impl_numberH _ _ _ _ _ _ _ _ h2 (by omega) ((R1.below (bl_alloc (Below.refl _ _) _)))).mono ?_
  rintro e w2 ⟨rfl, R2, U2⟩
  have hz2 : w1.heap.size < w2.heap.size := by have := U2.size; simp at this; omega
  have B2 : Blk 48 w.heap.size #[.int .i64 0, .int .i64 0, .slice none 0 0, .string ⟨#[]⟩] w2 := (B1.alloc _).upd U2 (by omega)
  have S2 : Blk 48 w1.heap.size #[.int .i64 i, .int .i64 0, .slice none 0 0, .string ⟨#[]⟩] w2 := (Blk.new _ _ w1).upd U2 (by omega)
  have HB2 : Below w.heap.size w w2 := U2.below (bl_alloc HB1 _) (by omega)
  clear U2 B1 R1 HB1
  have f2 := S2.free 1
  have s2 := S2.cell 1 rfl
  go_wp2_with fail
  with_reducible refine (impl_textH _ _ _ _ _ _ _ _ h3 (by omega) (R2.far (by simp; omega) _)).mono ?_
  rintro e w3 ⟨rfl, R3, U3⟩
  have hz3 : w2.heap.size ≤ w3.heap.size := by have := U3.size; simp at this; omega
  have B3 : Blk 48 w.heap.size #[.int .i64 0, .int .i64 0, .slice none 0 0, .string ⟨#[]⟩] w3 := (B2.far (by simp; omega) _).upd U3 (by omega)
  have S3 : Blk 48 w1.heap.size #[.int .i64 i, .int .i64 t, .slice none 0 0, .string ⟨#[]⟩] w3 := (S2.set 1 _ rfl).upd U3 (by omega)
  have HB3 : Below w.heap.size w w3 := U3.below (bl_set HB2 (by simp; omega)) (by omega)
  clear U3 B2 R2 HB2 f2 s2 S2
  go_wp2_with fail
  with_reducible refine (impl_ReadConfH _ _ _ _ h4 (by omega)).mono ?_
  rintro e w4 ⟨v, rfl, V4, hb⟩
  have hz4 : w3.heap.size ≤ w4.heap.size := hb.size
  have B4 := B3.below hb
  have S4 := S3.below hb
  have R4 := R3.below hb
  have HB4 : Below w.heap.size w w4 := bl_then HB3 hb
  clear B3 S3 R3 HB3 hb
  obtain ⟨A4, c4, rfl, hc4, -⟩ := Kd.R_reads V4
  have f4 := S4.free 2
  have s4 := S4.cell 2 rfl
  go_wp2_with fail
  with_reducible refine (impl_textH _ _ _ _ _ _ _ _ h5 (by omega) (R4.far (by simp; omega) _)).mono ?_
  rintro e w5 ⟨rfl, R5, U5⟩
  have hz5 : w4.heap.size ≤ w5.heap.size := by have := U5.size; simp at this; omega
  have B5 : Blk 48 w.heap.size #[.int .i64 0, .int .i64 0, .slice none 0 0, .string ⟨#[]⟩] w5 := (B4.far (by simp; omega) _).upd U5 (by omega)
  have S5 : Blk 48 w1.heap.size #[.int .i64 i, .int .i64 t, .slice A4 cf.length c4, .string ⟨#[]⟩] w5 := (S4.set 2 _ rfl).upd U5 (by omega)
  have HB5 : Below w.heap.size w w5 := U5.below (bl_set HB4 (by simp; omega)) (by omega)
  have V5 : Kd.R (Kd.int .i64) 3 w5 w3.heap.size (fun _ => True) (.slice A4 cf.length c4) cf := by
    refine Kd.R_mono (Kd.R_step (Kd.R_bound V4) fun k hk hlt => ?_) (fun _ _ => trivial)
    rw [U5.block k (by simpa using hlt) (by omega)]
    exact Below.heap_setCell _ _ _ _ (by simp; omega)
  clear U5 B4 R4 HB4 f4 s4 S4 V4
  have f5 := S5.free 3
  have s5 := S5.cell 3 rfl
  go_wp2_with fail
  with_reducible refine (impl_doneH _ _ _ _ _ _ hdn (R5.far (by simp; omega) _)).mono ?_
  rintro e w6 ⟨rfl, R6, U6⟩
  have hz6 : w5.heap.size ≤ w6.heap.size := by have := U6.size; simp at this; omega
  have B6 : Blk 48 w.heap.size #[.int .i64 0, .int .i64 0, .slice none 0 0, .string ⟨#[]⟩] w6 := (B5.far (by simp; omega) _).upd U6 (by omega)
  have S6 : Blk 48 w1.heap.size #[.int .i64 i, .int .i64 t, .slice A4 cf.length c4, .string body] w6 := (S5.set 3 _ rfl).upd U6 (by omega)
  have HB6 : Below w.heap.size w w6 := U6.below (bl_set HB5 (by simp; omega)) (by omega)
  have V6 : Kd.R (Kd.int .i64) 3 w6 w3.heap.size (fun _ => True) (.slice A4 cf.length c4) cf := by
    refine Kd.R_mono (Kd.R_step (Kd.R_bound V5) fun k hk hlt => ?_) (fun _ _ => trivial)
    rw [U6.block k (by simpa using hlt) (by omega)]
    exact Below.heap_setCell _ _ _ _ (by simp; omega)
  clear U6 B5 S5 R5 R6 HB5 V5 f5 s5
  have hcl := readConf_len ct
  rw [h4.out] at hcl
  (try simp only at hcl)
  have sc0 := S6.cell 0 rfl
  have sc1 := S6.cell 1 rfl
  have sc2 := S6.cell 2 rfl
  have sc3 := S6.cell 3 rfl
  obtain ⟨A', c', he', -, hC6⟩ := Kd.R_reads V6
  obtain ⟨rfl, -, rfl⟩ : A4 = A' ∧ True ∧ c4 = c' := by injection he' with a b c; exact ⟨a, trivial, c⟩
  go_wp2_with fail
  with_reducible refine (impl_SnapText _ _ _ _ cf _ true _ hsk hC6 hc4 (by omega) (by omega)).mono ?_
  rintro e w7 ⟨rfl, hb7⟩
  have B7 := B6.below hb7
  have S7 := S6.below hb7
  have HB7 : Below w.heap.size w w7 := bl_then HB6 hb7
  have V7 := Kd.R_below V6 hb7
  clear hC6 B6 S6 HB6 V6 hb7 sc0 sc1 sc2 sc3
  have r0 := B7.cell 0 rfl
  have r1 := B7.cell 1 rfl
  have r2 := B7.cell 2 rfl
  have r3 := B7.cell 3 rfl
  have rf := B7.free
  have n0 : w1.heap.size ≠ w.heap.size := by omega
  have n1 : w.heap.size ≠ w1.heap.size := by omega
  go_wp2
  refine bodyPost_ret (v := .tuple #[.agg #[.int .i64 0, .int .i64 0, .slice none 0 0, .string ⟨#[]⟩], .bool false]) ?_ rfl ⟨_, rfl, Kd.R_nil _ _ _ _ _, ?_⟩
  rotate_left
  · repeat (first | exact HB7 | (refine bl_set ?_ (by first | (simp; done) | (simp; omega))))
  simp only [results, Try.results24]
  go_simp

set_option maxHeartbeats 1000000 in
set_option maxRecDepth 100000 in
theorem impl_ReadSnap_yes (s inn : ByteArray) (ok : Bool) (i t : Int) (ct body : ByteArray) (p1 p2 p3 p4 : Int) (q1 q2 q3 q4 fine : Bool) (cf : List Int) (w : World) (hs : s.size ≤ 1048576) (hin : Hid (unS s = (inn, ok))) (h1 : Hid (rdNum inn 0 false = (i, p1, q1))) (h2 : Hid (rdNum inn p1 q1 = (t, p2, q2))) (h3 : Hid (rdText inn p2 q2 = (ct, p3, q3))) (h4 : Hid (readConf ct = (cf, fine))) (h5 : Hid (rdText inn p3 q3 = (body, p4, q4))) (hok : ok = true) (hfine : fine = true) (hdn : Hid ((!q4 && p4 == inn.size) = true)) (hsk : Hid (snapOk i t cf body = true)) (hsm : (!((sealS (snapIn i t cf body)).toList == s.toList)) = false) :
    Calls Try.prog 24 #[.string s] w fun e w' => ∃ v, e = .returned (.tuple #[.agg #[.int .i64 i, .int .i64 t, v, .string body], .bool true]) ∧ Kd.R (Kd.int .i64) 3 w' w.heap.size (fun _ => True) v cf ∧ Below w.heap.size w w' := by
  have hu := unS_small s
  rw [hin.out] at hu
  simp only at hu
  have g0 : 0 ≤ (0 : Int) ∧ (0 : Int) ≤ inn.size := by omega
  have g1 := numH_range h1 g0
  have g2 := numH_range h2 g1
  have g3 := textH_range h3 g2
  have g4 := textH_range h5 ⟨g3.1, g3.2.1⟩
  subst hok hfine
  go_enter Try.func24, Try.ntmps24
  go_wp2_with (first | (go_at_call 62; refine (impl_UnsealedH _ _ _ _ hin (by omega)).mono ?_; rintro e wu ⟨rfl, hb⟩))
  have B0 : Blk 48 w.heap.size #[.int .i64 0, .int .i64 0, .slice none 0 0, .string ⟨#[]⟩] wu := (Blk.new _ _ w).below hb
  have hzu : w.heap.size < wu.heap.size := B0.lt
  have HBu : Below w.heap.size w wu := (by repeat (first | exact Below.refl _ _ | apply bl_alloc | apply bl_drewN | apply bl_drew | refine bl_set ?_ (by simp) | refine bl_then ?_ (by assumption)))
  clear hb
  with_reducible refine (impl_numberH _ _ _ _ _ _ _ _ h1 (by omega) (rd_new rfl)).mono ?_
  rintro e w1 ⟨rfl, R1, U1⟩
  have hz1 : wu.heap.size < w1.heap.size := by have := U1.size; simp at this; omega
  have B1 : Blk 48 w.heap.size #[.int .i64 0, .int .i64 0, .slice none 0 0, .string ⟨#[]⟩] w1 := (B0.alloc _).upd U1 (by omega)
  have HB1 : Below w.heap.size w w1 := U1.below (bl_alloc HBu _) (by omega)
  clear U1 B0 HBu
  go_wp2_with fail
  with_reducible refine (impl_numberH _ _ _ _ _ _ _ _ h2 (by omega) ((R1.below (bl_alloc (Below.refl _ _) _)))).mono ?_
  rintro e w2 ⟨rfl, R2, U2⟩
  have hz2 : w1.heap.size < w2.heap.size := by have := U2.size; simp at this; omega
  have B2 : Blk 48 w.heap.size #[.int .i64 0, .int .i64 0, .slice none 0 0, .string ⟨#[]⟩] w2 := (B1.alloc _).upd U2 (by omega)
  have S2 : Blk 48 w1.heap.size #[.int .i64 i, .int .i64 0, .slice none 0 0, .string ⟨#[]⟩] w2 := (Blk.new _ _ w1).upd U2 (by omega)
  have HB2 : Below w.heap.size w w2 := U2.below (bl_alloc HB1 _) (by omega)
  clear U2 B1 R1 HB1
  have f2 := S2.free 1
  have s2 := S2.cell 1 rfl
  go_wp2_with fail
  with_reducible refine (impl_textH _ _ _ _ _ _ _ _ h3 (by omega) (R2.far (by simp; omega) _)).mono ?_
  rintro e w3 ⟨rfl, R3, U3⟩
  have hz3 : w2.heap.size ≤ w3.heap.size := by have := U3.size; simp at this; omega
  have B3 : Blk 48 w.heap.size #[.int .i64 0, .int .i64 0, .slice none 0 0, .string ⟨#[]⟩] w3 := (B2.far (by simp; omega) _).upd U3 (by omega)
  have S3 : Blk 48 w1.heap.size #[.int .i64 i, .int .i64 t, .slice none 0 0, .string ⟨#[]⟩] w3 := (S2.set 1 _ rfl).upd U3 (by omega)
  have HB3 : Below w.heap.size w w3 := U3.below (bl_set HB2 (by simp; omega)) (by omega)
  clear U3 B2 R2 HB2 f2 s2 S2
  go_wp2_with fail
  with_reducible refine (impl_ReadConfH _ _ _ _ h4 (by omega)).mono ?_
  rintro e w4 ⟨v, rfl, V4, hb⟩
  have hz4 : w3.heap.size ≤ w4.heap.size := hb.size
  have B4 := B3.below hb
  have S4 := S3.below hb
  have R4 := R3.below hb
  have HB4 : Below w.heap.size w w4 := bl_then HB3 hb
  clear B3 S3 R3 HB3 hb
  obtain ⟨A4, c4, rfl, hc4, -⟩ := Kd.R_reads V4
  have f4 := S4.free 2
  have s4 := S4.cell 2 rfl
  go_wp2_with fail
  with_reducible refine (impl_textH _ _ _ _ _ _ _ _ h5 (by omega) (R4.far (by simp; omega) _)).mono ?_
  rintro e w5 ⟨rfl, R5, U5⟩
  have hz5 : w4.heap.size ≤ w5.heap.size := by have := U5.size; simp at this; omega
  have B5 : Blk 48 w.heap.size #[.int .i64 0, .int .i64 0, .slice none 0 0, .string ⟨#[]⟩] w5 := (B4.far (by simp; omega) _).upd U5 (by omega)
  have S5 : Blk 48 w1.heap.size #[.int .i64 i, .int .i64 t, .slice A4 cf.length c4, .string ⟨#[]⟩] w5 := (S4.set 2 _ rfl).upd U5 (by omega)
  have HB5 : Below w.heap.size w w5 := U5.below (bl_set HB4 (by simp; omega)) (by omega)
  have V5 : Kd.R (Kd.int .i64) 3 w5 w3.heap.size (fun _ => True) (.slice A4 cf.length c4) cf := by
    refine Kd.R_mono (Kd.R_step (Kd.R_bound V4) fun k hk hlt => ?_) (fun _ _ => trivial)
    rw [U5.block k (by simpa using hlt) (by omega)]
    exact Below.heap_setCell _ _ _ _ (by simp; omega)
  clear U5 B4 R4 HB4 f4 s4 S4 V4
  have f5 := S5.free 3
  have s5 := S5.cell 3 rfl
  go_wp2_with fail
  with_reducible refine (impl_doneH _ _ _ _ _ _ hdn (R5.far (by simp; omega) _)).mono ?_
  rintro e w6 ⟨rfl, R6, U6⟩
  have hz6 : w5.heap.size ≤ w6.heap.size := by have := U6.size; simp at this; omega
  have B6 : Blk 48 w.heap.size #[.int .i64 0, .int .i64 0, .slice none 0 0, .string ⟨#[]⟩] w6 := (B5.far (by simp; omega) _).upd U6 (by omega)
  have S6 : Blk 48 w1.heap.size #[.int .i64 i, .int .i64 t, .slice A4 cf.length c4, .string body] w6 := (S5.set 3 _ rfl).upd U6 (by omega)
  have HB6 : Below w.heap.size w w6 := U6.below (bl_set HB5 (by simp; omega)) (by omega)
  have V6 : Kd.R (Kd.int .i64) 3 w6 w3.heap.size (fun _ => True) (.slice A4 cf.length c4) cf := by
    refine Kd.R_mono (Kd.R_step (Kd.R_bound V5) fun k hk hlt => ?_) (fun _ _ => trivial)
    rw [U6.block k (by simpa using hlt) (by omega)]
    exact Below.heap_setCell _ _ _ _ (by simp; omega)
  clear U6 B5 S5 R5 R6 HB5 V5 f5 s5
  have hcl := readConf_len ct
  rw [h4.out] at hcl
  (try simp only at hcl)
  have sc0 := S6.cell 0 rfl
  have sc1 := S6.cell 1 rfl
  have sc2 := S6.cell 2 rfl
  have sc3 := S6.cell 3 rfl
  obtain ⟨A', c', he', -, hC6⟩ := Kd.R_reads V6
  obtain ⟨rfl, -, rfl⟩ : A4 = A' ∧ True ∧ c4 = c' := by injection he' with a b c; exact ⟨a, trivial, c⟩
  go_wp2_with fail
  with_reducible refine (impl_SnapText _ _ _ _ cf _ true _ hsk hC6 hc4 (by omega) (by omega)).mono ?_
  rintro e w7 ⟨rfl, hb7⟩
  have B7 := B6.below hb7
  have S7 := S6.below hb7
  have HB7 : Below w.heap.size w w7 := bl_then HB6 hb7
  have V7 := Kd.R_below V6 hb7
  clear hC6 B6 S6 HB6 V6 hb7 sc0 sc1 sc2 sc3
  have r0 := B7.cell 0 rfl
  have r1 := B7.cell 1 rfl
  have r2 := B7.cell 2 rfl
  have r3 := B7.cell 3 rfl
  have rf := B7.free
  have n0 : w1.heap.size ≠ w.heap.size := by omega
  have n1 : w.heap.size ≠ w1.heap.size := by omega
  have sd0 := S7.cell 0 rfl
  have sd1 := S7.cell 1 rfl
  have sd2 := S7.cell 2 rfl
  have sd3 := S7.cell 3 rfl
  go_wp2
  refine bodyPost_ret (v := .tuple #[.agg #[.int .i64 i, .int .i64 t, .slice A4 cf.length c4, .string body], .bool true]) ?_ rfl ⟨_, rfl, ?_, ?_⟩
  rotate_left
  · refine Kd.R_lower (Kd.R_mono (Kd.R_step (Kd.R_bound V7) fun k hk hlt => ?_) (fun _ _ => trivial)) (by omega)
    repeat (first | rfl | (rw [Below.heap_setCell _ _ _ _ (by simp; omega)]))
  · repeat (first | exact HB7 | (refine bl_set ?_ (by first | (simp; done) | (simp; omega))))
  simp only [results, Try.results24]
  go_simp

set_option maxHeartbeats 1000000 in
set_option maxRecDepth 100000 in
theorem spec_ReadSnap_no1 (s inn : ByteArray) (ok : Bool) (i t : Int) (ct body : ByteArray) (p1 p2 p3 p4 : Int) (q1 q2 q3 q4 fine : Bool) (cf : List Int) (w : World) (hs : s.size ≤ 1048576) (hin : Hid (unS s = (inn, ok))) (h1 : Hid (rdNum inn 0 (!ok) = (i, p1, q1))) (h2 : Hid (rdNum inn p1 q1 = (t, p2, q2))) (h3 : Hid (rdShort inn p2 q2 = (ct, p3, q3))) (h4 : Hid (readConf ct = (cf, fine))) (h5 : Hid (rdShort inn p3 q3 = (body, p4, q4))) (hok : ok = false) (sk : Bool) (hsk : Hid (snapOk i t cf body = sk)) (hq : q4 = true) :
    Calls Try.prog 23 #[.string s] w fun e w' => ∃ v, e = .returned (.tuple #[.agg #[.int .i64 0, .int .i64 0, v, .string ⟨#[]⟩], .bool false]) ∧ Kd.R (Kd.int .i64) 3 w' w.heap.size (fun _ => True) v [] ∧ Below w.heap.size w w' := by
  have hu := unS_small s
  rw [hin.out] at hu
  simp only at hu
  have g0 : 0 ≤ (0 : Int) ∧ (0 : Int) ≤ inn.size := by omega
  have g1 := numH_range h1 g0
  have g2 := numH_range h2 g1
  have g3 := shortH_range h3 g2
  have g4 := shortH_range h5 ⟨g3.1, g3.2.1⟩
  subst hok hq
  simp only [Bool.not_false, Bool.not_true] at h1
  go_enter Try.func23, Try.ntmps23
  go_wp2_with (first | (go_at_call 59; refine (spec_UnsealedH _ _ _ _ hin (by omega)).mono ?_; rintro e wu ⟨rfl, hb⟩))
  have B0 : Blk 48 w.heap.size #[.int .i64 0, .int .i64 0, .slice none 0 0, .string ⟨#[]⟩] wu := (Blk.new _ _ w).below hb
  have hzu : w.heap.size < wu.heap.size := B0.lt
  have HBu : Below w.heap.size w wu := (by repeat (first | exact Below.refl _ _ | apply bl_alloc | apply bl_drewN | apply bl_drew | refine bl_set ?_ (by simp) | refine bl_then ?_ (by assumption)))
  clear hb
  with_reducible refine (spec_l05VarH _ _ _ _ _ _ _ _ h1 (by omega) ((rd_new rfl).below (bl_alloc (Below.refl _ _) _))).mono ?_
  rintro e w1 ⟨rfl, R1, U1⟩
  have hz1 : wu.heap.size + 1 < w1.heap.size := by have := U1.size; simp at this; omega
  have B1 : Blk 48 w.heap.size #[.int .i64 0, .int .i64 0, .slice none 0 0, .string ⟨#[]⟩] w1 := ((B0.alloc _).alloc _).upd U1 (by omega)
  have S1 : Blk 48 (wu.heap.size + 1) #[.int .i64 0, .int .i64 0, .slice none 0 0, .string ⟨#[]⟩] w1 := (Blk.newE _ _ _ (by simp)).upd U1 (by omega)
  have HB1 : Below w.heap.size w w1 := U1.below (bl_alloc (bl_alloc HBu _) _) (by omega)
  clear U1 B0 HBu
  have f1 := S1.free 0
  have s1 := S1.cell 0 rfl
  go_wp2_with fail
  with_reducible refine (spec_l05VarH _ _ _ _ _ _ _ _ h2 (by omega) (R1.far (by simp; first | done | omega) _)).mono ?_
  rintro e w2 ⟨rfl, R2, U2⟩
  have hz2 : w1.heap.size ≤ w2.heap.size := by have := U2.size; simp at this; omega
  have B2 : Blk 48 w.heap.size #[.int .i64 0, .int .i64 0, .slice none 0 0, .string ⟨#[]⟩] w2 := (B1.far (by simp; omega) _).upd U2 (by omega)
  have S2 : Blk 48 (wu.heap.size + 1) #[.int .i64 i, .int .i64 0, .slice none 0 0, .string ⟨#[]⟩] w2 := (S1.set 0 _ rfl).upd U2 (by omega)
  have HB2 : Below w.heap.size w w2 := U2.below (bl_set HB1 (by simp; omega)) (by omega)
  clear U2 B1 R1 HB1 S1 f1 s1
  have f2 := S2.free 1
  have s2 := S2.cell 1 rfl
  go_wp2_with fail
  with_reducible refine (spec_l05ReadShortH _ _ _ _ _ _ _ _ h3 (by omega) g2.1 g2.2 (R2.far (by simp; first | done | omega) _)).mono ?_
  rintro e w3 ⟨rfl, R3, U3⟩
  have hz3 : w2.heap.size ≤ w3.heap.size := by have := U3.size; simp at this; omega
  have B3 : Blk 48 w.heap.size #[.int .i64 0, .int .i64 0, .slice none 0 0, .string ⟨#[]⟩] w3 := (B2.far (by simp; omega) _).upd U3 (by omega)
  have S3 : Blk 48 (wu.heap.size + 1) #[.int .i64 i, .int .i64 t, .slice none 0 0, .string ⟨#[]⟩] w3 := (S2.set 1 _ rfl).upd U3 (by omega)
  have HB3 : Below w.heap.size w w3 := U3.below (bl_set HB2 (by simp; omega)) (by omega)
  clear U3 B2 R2 HB2 f2 s2 S2
  go_wp2_with fail
  with_reducible refine (spec_ReadConfH _ _ _ _ h4 (by omega)).mono ?_
  rintro e w4 ⟨v, rfl, V4, hb⟩
  have hz4 : w3.heap.size ≤ w4.heap.size := hb.size
  have B4 := B3.below hb
  have S4 := S3.below hb
  have R4 := R3.below hb
  have HB4 : Below w.heap.size w w4 := bl_then HB3 hb
  clear B3 S3 R3 HB3 hb
  obtain ⟨A4, c4, rfl, hc4, -⟩ := Kd.R_reads V4
  have f4 := S4.free 2
  have s4 := S4.cell 2 rfl
  go_wp2_with fail
  with_reducible refine (spec_l05ReadShortH _ _ _ _ _ _ _ _ h5 (by omega) g3.1 g3.2.1 (R4.far (by simp; first | done | omega) _)).mono ?_
  rintro e w5 ⟨rfl, R5, U5⟩
  have hz5 : w4.heap.size ≤ w5.heap.size := by have := U5.size; simp at this; omega
  have B5 : Blk 48 w.heap.size #[.int .i64 0, .int .i64 0, .slice none 0 0, .string ⟨#[]⟩] w5 := (B4.far (by simp; omega) _).upd U5 (by omega)
  have S5 : Blk 48 (wu.heap.size + 1) #[.int .i64 i, .int .i64 t, .slice A4 cf.length c4, .string ⟨#[]⟩] w5 := (S4.set 2 _ rfl).upd U5 (by omega)
  have HB5 : Below w.heap.size w w5 := U5.below (bl_set HB4 (by simp; omega)) (by omega)
  have V5 : Kd.R (Kd.int .i64) 3 w5 w3.heap.size (fun _ => True) (.slice A4 cf.length c4) cf := by
    refine Kd.R_mono (Kd.R_step (Kd.R_bound V4) fun k hk hlt => ?_) (fun _ _ => trivial)
    rw [U5.block k (by simpa using hlt) (by omega)]
    exact Below.heap_setCell _ _ _ _ (by simp; omega)
  clear U5 B4 R4 HB4 f4 s4 S4 V4
  have f5 := S5.free 3
  have s50 := S5.cell 0 rfl
  have s51 := S5.cell 1 rfl
  have s52 := S5.cell 2 rfl
  have s53 := S5.cell 3 rfl
  have hcl := readConf_len ct
  rw [h4.out] at hcl
  (try simp only at hcl)
  obtain ⟨A', c', he', -, hC5⟩ := Kd.R_reads V5
  obtain ⟨rfl, -, rfl⟩ : A4 = A' ∧ True ∧ c4 = c' := by injection he' with a b c; exact ⟨a, trivial, c⟩
  go_wp2_with fail
  have hC6 : Kd.C (Kd.int .i64) (w5.setCell ⟨wu.heap.size + 1, 3, none⟩ (.string body)) A4 cf.length cf := by
    have V6 : Kd.R (Kd.int .i64) 3 (w5.setCell ⟨wu.heap.size + 1, 3, none⟩ (.string body)) w3.heap.size (fun _ => True) (.slice A4 cf.length c4) cf := Kd.R_mono (Kd.R_step (Kd.R_bound V5) fun k hk hlt => Below.heap_setCell _ _ _ _ (by simp; omega)) (fun _ _ => trivial)
    obtain ⟨A2, c2, he2, -, hC⟩ := Kd.R_reads V6
    obtain ⟨rfl, -, rfl⟩ : A4 = A2 ∧ True ∧ c4 = c2 := by injection he2 with a b c; exact ⟨a, trivial, c⟩
    exact hC
  with_reducible refine (spec_SnapText _ _ _ _ cf _ _ _ hsk hC6 hc4 (by omega) (by omega)).mono ?_
  rintro e w7 ⟨rfl, hb7⟩
  have B7 := (B5.far (by simp; omega) _).below hb7
  have S7 := (S5.set 3 _ rfl).below hb7
  have R7 := ((R5.far (by simp; first | done | omega) (.string body) : Rd _ _ _ _ _ (w5.setCell ⟨wu.heap.size + 1, 3, none⟩ (.string body)))).below hb7
  have HB7 : Below w.heap.size w w7 := bl_then (bl_set HB5 (by simp; omega)) hb7
  have V7 : Kd.R (Kd.int .i64) 3 w7 w3.heap.size (fun _ => True) (.slice A4 cf.length c4) cf :=
    Kd.R_below (Kd.R_mono (Kd.R_step (w1 := w5.setCell ⟨wu.heap.size + 1, 3, none⟩ (.string body)) (Kd.R_bound V5) fun k hk hlt => Below.heap_setCell _ _ _ _ (by simp; omega)) (fun _ _ => trivial)) hb7
  clear hC5 hC6 B5 S5 R5 HB5 V5 hb7 f5 s50 s51 s52 s53
  have d2 := R7.cells.2.2.1
  have r0 := B7.cell 0 rfl
  have r1 := B7.cell 1 rfl
  have r2 := B7.cell 2 rfl
  have r3 := B7.cell 3 rfl
  have rf := B7.free
  have n0 : wu.heap.size + 1 ≠ w.heap.size := by omega
  have n1 : w.heap.size ≠ wu.heap.size + 1 := by omega
  have n2 : wu.heap.size ≠ w.heap.size := by omega
  have n3 : w.heap.size ≠ wu.heap.size := by omega
  go_wp2
  all_goals
    refine bodyPost_ret (v := .tuple #[.agg #[.int .i64 0, .int .i64 0, .slice none 0 0, .string ⟨#[]⟩], .bool false]) ?_ rfl ⟨_, rfl, Kd.R_nil _ _ _ _ _, ?_⟩
    rotate_left
    · repeat (first | exact HB7 | (refine bl_set ?_ (by first | (simp; done) | (simp; omega))))
    simp only [results, Try.results23]
    go_simp

set_option maxHeartbeats 1000000 in
set_option maxRecDepth 100000 in
theorem spec_ReadSnap_no2 (s inn : ByteArray) (ok : Bool) (i t : Int) (ct body : ByteArray) (p1 p2 p3 p4 : Int) (q1 q2 q3 q4 fine : Bool) (cf : List Int) (w : World) (hs : s.size ≤ 1048576) (hin : Hid (unS s = (inn, ok))) (h1 : Hid (rdNum inn 0 (!ok) = (i, p1, q1))) (h2 : Hid (rdNum inn p1 q1 = (t, p2, q2))) (h3 : Hid (rdShort inn p2 q2 = (ct, p3, q3))) (h4 : Hid (readConf ct = (cf, fine))) (h5 : Hid (rdShort inn p3 q3 = (body, p4, q4))) (hok : ok = true) (sk : Bool) (hsk : Hid (snapOk i t cf body = sk)) (hq : q4 = true) :
    Calls Try.prog 23 #[.string s] w fun e w' => ∃ v, e = .returned (.tuple #[.agg #[.int .i64 0, .int .i64 0, v, .string ⟨#[]⟩], .bool false]) ∧ Kd.R (Kd.int .i64) 3 w' w.heap.size (fun _ => True) v [] ∧ Below w.heap.size w w' := by
  have hu := unS_small s
  rw [hin.out] at hu
  simp only at hu
  have g0 : 0 ≤ (0 : Int) ∧ (0 : Int) ≤ inn.size := by omega
  have g1 := numH_range h1 g0
  have g2 := numH_range h2 g1
  have g3 := shortH_range h3 g2
  have g4 := shortH_range h5 ⟨g3.1, g3.2.1⟩
  subst hok hq
  simp only [Bool.not_false, Bool.not_true] at h1
  go_enter Try.func23, Try.ntmps23
  go_wp2_with (first | (go_at_call 59; refine (spec_UnsealedH _ _ _ _ hin (by omega)).mono ?_; rintro e wu ⟨rfl, hb⟩))
  have B0 : Blk 48 w.heap.size #[.int .i64 0, .int .i64 0, .slice none 0 0, .string ⟨#[]⟩] wu := (Blk.new _ _ w).below hb
  have hzu : w.heap.size < wu.heap.size := B0.lt
  have HBu : Below w.heap.size w wu := (by repeat (first | exact Below.refl _ _ | apply bl_alloc | apply bl_drewN | apply bl_drew | refine bl_set ?_ (by simp) | refine bl_then ?_ (by assumption)))
  clear hb
  with_reducible refine (spec_l05VarH _ _ _ _ _ _ _ _ h1 (by omega) ((rd_new rfl).below (bl_alloc (Below.refl _ _) _))).mono ?_
  rintro e w1 ⟨rfl, R1, U1⟩
  have hz1 : wu.heap.size + 1 < w1.heap.size := by have := U1.size; simp at this; omega
  have B1 : Blk 48 w.heap.size #[.int .i64 0, .int .i64 0, .slice none 0 0, .string ⟨#[]⟩] w1 := ((B0.alloc _).alloc _).upd U1 (by omega)
  have S1 : Blk 48 (wu.heap.size + 1) #[.int .i64 0, .int .i64 0, .slice none 0 0, .string ⟨#[]⟩] w1 := (Blk.newE _ _ _ (by simp)).upd U1 (by omega)
  have HB1 : Below w.heap.size w w1 := U1.below (bl_alloc (bl_alloc HBu _) _) (by omega)
  clear U1 B0 HBu
  have f1 := S1.free 0
  have s1 := S1.cell 0 rfl
  go_wp2_with fail
  with_reducible refine (spec_l05VarH _ _ _ _ _ _ _ _ h2 (by omega) (R1.far (by simp; first | done | omega) _)).mono ?_
  rintro e w2 ⟨rfl, R2, U2⟩
  have hz2 : w1.heap.size ≤ w2.heap.size := by have := U2.size; simp at this; omega
  have B2 : Blk 48 w.heap.size #[.int .i64 0, .int .i64 0, .slice none 0 0, .string ⟨#[]⟩] w2 := (B1.far (by simp; omega) _).upd U2 (by omega)
  have S2 : Blk 48 (wu.heap.size + 1) #[.int .i64 i, .int .i64 0, .slice none 0 0, .string ⟨#[]⟩] w2 := (S1.set 0 _ rfl).upd U2 (by omega)
  have HB2 : Below w.heap.size w w2 := U2.below (bl_set HB1 (by simp; omega)) (by omega)
  clear U2 B1 R1 HB1 S1 f1 s1
  have f2 := S2.free 1
  have s2 := S2.cell 1 rfl
  go_wp2_with fail
  with_reducible refine (spec_l05ReadShortH _ _ _ _ _ _ _ _ h3 (by omega) g2.1 g2.2 (R2.far (by simp; first | done | omega) _)).mono ?_
  rintro e w3 ⟨rfl, R3, U3⟩
  have hz3 : w2.heap.size ≤ w3.heap.size := by have := U3.size; simp at this; omega
  have B3 : Blk 48 w.heap.size #[.int .i64 0, .int .i64 0, .slice none 0 0, .string ⟨#[]⟩] w3 := (B2.far (by simp; omega) _).upd U3 (by omega)
  have S3 : Blk 48 (wu.heap.size + 1) #[.int .i64 i, .int .i64 t, .slice none 0 0, .string ⟨#[]⟩] w3 := (S2.set 1 _ rfl).upd U3 (by omega)
  have HB3 : Below w.heap.size w w3 := U3.below (bl_set HB2 (by simp; omega)) (by omega)
  clear U3 B2 R2 HB2 f2 s2 S2
  go_wp2_with fail
  with_reducible refine (spec_ReadConfH _ _ _ _ h4 (by omega)).mono ?_
  rintro e w4 ⟨v, rfl, V4, hb⟩
  have hz4 : w3.heap.size ≤ w4.heap.size := hb.size
  have B4 := B3.below hb
  have S4 := S3.below hb
  have R4 := R3.below hb
  have HB4 : Below w.heap.size w w4 := bl_then HB3 hb
  clear B3 S3 R3 HB3 hb
  obtain ⟨A4, c4, rfl, hc4, -⟩ := Kd.R_reads V4
  have f4 := S4.free 2
  have s4 := S4.cell 2 rfl
  go_wp2_with fail
  with_reducible refine (spec_l05ReadShortH _ _ _ _ _ _ _ _ h5 (by omega) g3.1 g3.2.1 (R4.far (by simp; first | done | omega) _)).mono ?_
  rintro e w5 ⟨rfl, R5, U5⟩
  have hz5 : w4.heap.size ≤ w5.heap.size := by have := U5.size; simp at this; omega
  have B5 : Blk 48 w.heap.size #[.int .i64 0, .int .i64 0, .slice none 0 0, .string ⟨#[]⟩] w5 := (B4.far (by simp; omega) _).upd U5 (by omega)
  have S5 : Blk 48 (wu.heap.size + 1) #[.int .i64 i, .int .i64 t, .slice A4 cf.length c4, .string ⟨#[]⟩] w5 := (S4.set 2 _ rfl).upd U5 (by omega)
  have HB5 : Below w.heap.size w w5 := U5.below (bl_set HB4 (by simp; omega)) (by omega)
  have V5 : Kd.R (Kd.int .i64) 3 w5 w3.heap.size (fun _ => True) (.slice A4 cf.length c4) cf := by
    refine Kd.R_mono (Kd.R_step (Kd.R_bound V4) fun k hk hlt => ?_) (fun _ _ => trivial)
    rw [U5.block k (by simpa using hlt) (by omega)]
    exact Below.heap_setCell _ _ _ _ (by simp; omega)
  clear U5 B4 R4 HB4 f4 s4 S4 V4
  have f5 := S5.free 3
  have s50 := S5.cell 0 rfl
  have s51 := S5.cell 1 rfl
  have s52 := S5.cell 2 rfl
  have s53 := S5.cell 3 rfl
  have hcl := readConf_len ct
  rw [h4.out] at hcl
  (try simp only at hcl)
  obtain ⟨A', c', he', -, hC5⟩ := Kd.R_reads V5
  obtain ⟨rfl, -, rfl⟩ : A4 = A' ∧ True ∧ c4 = c' := by injection he' with a b c; exact ⟨a, trivial, c⟩
  go_wp2_with fail
  have hC6 : Kd.C (Kd.int .i64) (w5.setCell ⟨wu.heap.size + 1, 3, none⟩ (.string body)) A4 cf.length cf := by
    have V6 : Kd.R (Kd.int .i64) 3 (w5.setCell ⟨wu.heap.size + 1, 3, none⟩ (.string body)) w3.heap.size (fun _ => True) (.slice A4 cf.length c4) cf := Kd.R_mono (Kd.R_step (Kd.R_bound V5) fun k hk hlt => Below.heap_setCell _ _ _ _ (by simp; omega)) (fun _ _ => trivial)
    obtain ⟨A2, c2, he2, -, hC⟩ := Kd.R_reads V6
    obtain ⟨rfl, -, rfl⟩ : A4 = A2 ∧ True ∧ c4 = c2 := by injection he2 with a b c; exact ⟨a, trivial, c⟩
    exact hC
  with_reducible refine (spec_SnapText _ _ _ _ cf _ _ _ hsk hC6 hc4 (by omega) (by omega)).mono ?_
  rintro e w7 ⟨rfl, hb7⟩
  have B7 := (B5.far (by simp; omega) _).below hb7
  have S7 := (S5.set 3 _ rfl).below hb7
  have R7 := ((R5.far (by simp; first | done | omega) (.string body) : Rd _ _ _ _ _ (w5.setCell ⟨wu.heap.size + 1, 3, none⟩ (.string body)))).below hb7
  have HB7 : Below w.heap.size w w7 := bl_then (bl_set HB5 (by simp; omega)) hb7
  have V7 : Kd.R (Kd.int .i64) 3 w7 w3.heap.size (fun _ => True) (.slice A4 cf.length c4) cf :=
    Kd.R_below (Kd.R_mono (Kd.R_step (w1 := w5.setCell ⟨wu.heap.size + 1, 3, none⟩ (.string body)) (Kd.R_bound V5) fun k hk hlt => Below.heap_setCell _ _ _ _ (by simp; omega)) (fun _ _ => trivial)) hb7
  clear hC5 hC6 B5 S5 R5 HB5 V5 hb7 f5 s50 s51 s52 s53
  have d2 := R7.cells.2.2.1
  have r0 := B7.cell 0 rfl
  have r1 := B7.cell 1 rfl
  have r2 := B7.cell 2 rfl
  have r3 := B7.cell 3 rfl
  have rf := B7.free
  have n0 : wu.heap.size + 1 ≠ w.heap.size := by omega
  have n1 : w.heap.size ≠ wu.heap.size + 1 := by omega
  have n2 : wu.heap.size ≠ w.heap.size := by omega
  have n3 : w.heap.size ≠ wu.heap.size := by omega
  go_wp2
  all_goals
    refine bodyPost_ret (v := .tuple #[.agg #[.int .i64 0, .int .i64 0, .slice none 0 0, .string ⟨#[]⟩], .bool false]) ?_ rfl ⟨_, rfl, Kd.R_nil _ _ _ _ _, ?_⟩
    rotate_left
    · repeat (first | exact HB7 | (refine bl_set ?_ (by first | (simp; done) | (simp; omega))))
    simp only [results, Try.results23]
    go_simp

set_option maxHeartbeats 1000000 in
set_option maxRecDepth 100000 in
theorem spec_ReadSnap_no3 (s inn : ByteArray) (ok : Bool) (i t : Int) (ct body : ByteArray) (p1 p2 p3 p4 : Int) (q1 q2 q3 q4 fine : Bool) (cf : List Int) (w : World) (hs : s.size ≤ 1048576) (hin : Hid (unS s = (inn, ok))) (h1 : Hid (rdNum inn 0 (!ok) = (i, p1, q1))) (h2 : Hid (rdNum inn p1 q1 = (t, p2, q2))) (h3 : Hid (rdShort inn p2 q2 = (ct, p3, q3))) (h4 : Hid (readConf ct = (cf, fine))) (h5 : Hid (rdShort inn p3 q3 = (body, p4, q4))) (hok : ok = true) (sk : Bool) (hsk : Hid (snapOk i t cf body = sk)) (hq : q4 = false) (hno : sk = false) :
    Calls Try.prog 23 #[.string s] w fun e w' => ∃ v, e = .returned (.tuple #[.agg #[.int .i64 0, .int .i64 0, v, .string ⟨#[]⟩], .bool false]) ∧ Kd.R (Kd.int .i64) 3 w' w.heap.size (fun _ => True) v [] ∧ Below w.heap.size w w' := by
  have hu := unS_small s
  rw [hin.out] at hu
  simp only at hu
  have g0 : 0 ≤ (0 : Int) ∧ (0 : Int) ≤ inn.size := by omega
  have g1 := numH_range h1 g0
  have g2 := numH_range h2 g1
  have g3 := shortH_range h3 g2
  have g4 := shortH_range h5 ⟨g3.1, g3.2.1⟩
  subst hok hq hno
  simp only [Bool.not_false, Bool.not_true] at h1
  go_enter Try.func23, Try.ntmps23
  go_wp2_with (first | (go_at_call 59; refine (spec_UnsealedH _ _ _ _ hin (by omega)).mono ?_; rintro e wu ⟨rfl, hb⟩))
  have B0 : Blk 48 w.heap.size #[.int .i64 0, .int .i64 0, .slice none 0 0, .string ⟨#[]⟩] wu := (Blk.new _ _ w).below hb
  have hzu : w.heap.size < wu.heap.size := B0.lt
  have HBu : Below w.heap.size w wu := (by repeat (first | exact Below.refl _ _ | apply bl_alloc | apply bl_drewN | apply bl_drew | refine bl_set ?_ (by simp) | refine bl_then ?_ (by assumption)))
  clear hb
  with_reducible refine (spec_l05VarH _ _ _ _ _ _ _ _ h1 (by omega) ((rd_new rfl).below (bl_alloc (Below.refl _ _) _))).mono ?_
  rintro e w1 ⟨rfl, R1, U1⟩
  have hz1 : wu.heap.size + 1 < w1.heap.size := by have := U1.size; simp at this; omega
  have B1 : Blk 48 w.heap.size #[.int .i64 0, .int .i64 0, .slice none 0 0, .string ⟨#[]⟩] w1 := ((B0.alloc _).alloc _).upd U1 (by omega)
  have S1 : Blk 48 (wu.heap.size + 1) #[.int .i64 0, .int .i64 0, .slice none 0 0, .string ⟨#[]⟩] w1 := (Blk.newE _ _ _ (by simp)).upd U1 (by omega)
  have HB1 : Below w.heap.size w w1 := U1.below (bl_alloc (bl_alloc HBu _) _) (by omega)
  clear U1 B0 HBu
  have f1 := S1.free 0
  have s1 := S1.cell 0 rfl
  go_wp2_with fail
  with_reducible refine (spec_l05VarH _ _ _ _ _ _ _ _ h2 (by omega) (R1.far (by simp; first | done | omega) _)).mono ?_
  rintro e w2 ⟨rfl, R2, U2⟩
  have hz2 : w1.heap.size ≤ w2.heap.size := by have := U2.size; simp at this; omega
  have B2 : Blk 48 w.heap.size #[.int .i64 0, .int .i64 0, .slice none 0 0, .string ⟨#[]⟩] w2 := (B1.far (by simp; omega) _).upd U2 (by omega)
  have S2 : Blk 48 (wu.heap.size + 1) #[.int .i64 i, .int .i64 0, .slice none 0 0, .string ⟨#[]⟩] w2 := (S1.set 0 _ rfl).upd U2 (by omega)
  have HB2 : Below w.heap.size w w2 := U2.below (bl_set HB1 (by simp; omega)) (by omega)
  clear U2 B1 R1 HB1 S1 f1 s1
  have f2 := S2.free 1
  have s2 := S2.cell 1 rfl
  go_wp2_with fail
  with_reducible refine (spec_l05ReadShortH _ _ _ _ _ _ _ _ h3 (by omega) g2.1 g2.2 (R2.far (by simp; first | done | omega) _)).mono ?_
  rintro e w3 ⟨rfl, R3, U3⟩
  have hz3 : w2.heap.size ≤ w3.heap.size := by have := U3.size; simp at this; omega
  have B3 : Blk 48 w.heap.size #[.int .i64 0, .int .i64 0, .slice none 0 0, .string ⟨#[]⟩] w3 := (B2.far (by simp; omega) _).upd U3 (by omega)
  have S3 : Blk 48 (wu.heap.size + 1) #[.int .i64 i, .int .i64 t, .slice none 0 0, .string ⟨#[]⟩] w3 := (S2.set 1 _ rfl).upd U3 (by omega)
  have HB3 : Below w.heap.size w w3 := U3.below (bl_set HB2 (by simp; omega)) (by omega)
  clear U3 B2 R2 HB2 f2 s2 S2
  go_wp2_with fail
  with_reducible refine (spec_ReadConfH _ _ _ _ h4 (by omega)).mono ?_
  rintro e w4 ⟨v, rfl, V4, hb⟩
  have hz4 : w3.heap.size ≤ w4.heap.size := hb.size
  have B4 := B3.below hb
  have S4 := S3.below hb
  have R4 := R3.below hb
  have HB4 : Below w.heap.size w w4 := bl_then HB3 hb
  clear B3 S3 R3 HB3 hb
  obtain ⟨A4, c4, rfl, hc4, -⟩ := Kd.R_reads V4
  have f4 := S4.free 2
  have s4 := S4.cell 2 rfl
  go_wp2_with fail
  with_reducible refine (spec_l05ReadShortH _ _ _ _ _ _ _ _ h5 (by omega) g3.1 g3.2.1 (R4.far (by simp; first | done | omega) _)).mono ?_
  rintro e w5 ⟨rfl, R5, U5⟩
  have hz5 : w4.heap.size ≤ w5.heap.size := by have := U5.size; simp at this; omega
  have B5 : Blk 48 w.heap.size #[.int .i64 0, .int .i64 0, .slice none 0 0, .string ⟨#[]⟩] w5 := (B4.far (by simp; omega) _).upd U5 (by omega)
  have S5 : Blk 48 (wu.heap.size + 1) #[.int .i64 i, .int .i64 t, .slice A4 cf.length c4, .string ⟨#[]⟩] w5 := (S4.set 2 _ rfl).upd U5 (by omega)
  have HB5 : Below w.heap.size w w5 := U5.below (bl_set HB4 (by simp; omega)) (by omega)
  have V5 : Kd.R (Kd.int .i64) 3 w5 w3.heap.size (fun _ => True) (.slice A4 cf.length c4) cf := by
    refine Kd.R_mono (Kd.R_step (Kd.R_bound V4) fun k hk hlt => ?_) (fun _ _ => trivial)
    rw [U5.block k (by simpa using hlt) (by omega)]
    exact Below.heap_setCell _ _ _ _ (by simp; omega)
  clear U5 B4 R4 HB4 f4 s4 S4 V4
  have f5 := S5.free 3
  have s50 := S5.cell 0 rfl
  have s51 := S5.cell 1 rfl
  have s52 := S5.cell 2 rfl
  have s53 := S5.cell 3 rfl
  have hcl := readConf_len ct
  rw [h4.out] at hcl
  (try simp only at hcl)
  obtain ⟨A', c', he', -, hC5⟩ := Kd.R_reads V5
  obtain ⟨rfl, -, rfl⟩ : A4 = A' ∧ True ∧ c4 = c' := by injection he' with a b c; exact ⟨a, trivial, c⟩
  go_wp2_with fail
  have hC6 : Kd.C (Kd.int .i64) (w5.setCell ⟨wu.heap.size + 1, 3, none⟩ (.string body)) A4 cf.length cf := by
    have V6 : Kd.R (Kd.int .i64) 3 (w5.setCell ⟨wu.heap.size + 1, 3, none⟩ (.string body)) w3.heap.size (fun _ => True) (.slice A4 cf.length c4) cf := Kd.R_mono (Kd.R_step (Kd.R_bound V5) fun k hk hlt => Below.heap_setCell _ _ _ _ (by simp; omega)) (fun _ _ => trivial)
    obtain ⟨A2, c2, he2, -, hC⟩ := Kd.R_reads V6
    obtain ⟨rfl, -, rfl⟩ : A4 = A2 ∧ True ∧ c4 = c2 := by injection he2 with a b c; exact ⟨a, trivial, c⟩
    exact hC
  with_reducible refine (spec_SnapText _ _ _ _ cf _ _ _ hsk hC6 hc4 (by omega) (by omega)).mono ?_
  rintro e w7 ⟨rfl, hb7⟩
  have B7 := (B5.far (by simp; omega) _).below hb7
  have S7 := (S5.set 3 _ rfl).below hb7
  have R7 := ((R5.far (by simp; first | done | omega) (.string body) : Rd _ _ _ _ _ (w5.setCell ⟨wu.heap.size + 1, 3, none⟩ (.string body)))).below hb7
  have HB7 : Below w.heap.size w w7 := bl_then (bl_set HB5 (by simp; omega)) hb7
  have V7 : Kd.R (Kd.int .i64) 3 w7 w3.heap.size (fun _ => True) (.slice A4 cf.length c4) cf :=
    Kd.R_below (Kd.R_mono (Kd.R_step (w1 := w5.setCell ⟨wu.heap.size + 1, 3, none⟩ (.string body)) (Kd.R_bound V5) fun k hk hlt => Below.heap_setCell _ _ _ _ (by simp; omega)) (fun _ _ => trivial)) hb7
  clear hC5 hC6 B5 S5 R5 HB5 V5 hb7 f5 s50 s51 s52 s53
  have d2 := R7.cells.2.2.1
  have r0 := B7.cell 0 rfl
  have r1 := B7.cell 1 rfl
  have r2 := B7.cell 2 rfl
  have r3 := B7.cell 3 rfl
  have rf := B7.free
  have n0 : wu.heap.size + 1 ≠ w.heap.size := by omega
  have n1 : w.heap.size ≠ wu.heap.size + 1 := by omega
  have n2 : wu.heap.size ≠ w.heap.size := by omega
  have n3 : w.heap.size ≠ wu.heap.size := by omega
  go_wp2
  refine bodyPost_ret (v := .tuple #[.agg #[.int .i64 0, .int .i64 0, .slice none 0 0, .string ⟨#[]⟩], .bool false]) ?_ rfl ⟨_, rfl, Kd.R_nil _ _ _ _ _, ?_⟩
  rotate_left
  · repeat (first | exact HB7 | (refine bl_set ?_ (by first | (simp; done) | (simp; omega))))
  simp only [results, Try.results23]
  go_simp

set_option maxHeartbeats 1000000 in
set_option maxRecDepth 100000 in
theorem spec_ReadSnap_no4 (s inn : ByteArray) (ok : Bool) (i t : Int) (ct body : ByteArray) (p1 p2 p3 p4 : Int) (q1 q2 q3 q4 fine : Bool) (cf : List Int) (w : World) (hs : s.size ≤ 1048576) (hin : Hid (unS s = (inn, ok))) (h1 : Hid (rdNum inn 0 (!ok) = (i, p1, q1))) (h2 : Hid (rdNum inn p1 q1 = (t, p2, q2))) (h3 : Hid (rdShort inn p2 q2 = (ct, p3, q3))) (h4 : Hid (readConf ct = (cf, fine))) (h5 : Hid (rdShort inn p3 q3 = (body, p4, q4))) (hok : ok = true) (sk : Bool) (hsk : Hid (snapOk i t cf body = sk)) (hq : q4 = false) (hy : sk = true) (hsm : (!((sealS (snapIn i t cf body)).toList == s.toList)) = true) :
    Calls Try.prog 23 #[.string s] w fun e w' => ∃ v, e = .returned (.tuple #[.agg #[.int .i64 0, .int .i64 0, v, .string ⟨#[]⟩], .bool false]) ∧ Kd.R (Kd.int .i64) 3 w' w.heap.size (fun _ => True) v [] ∧ Below w.heap.size w w' := by
  have hu := unS_small s
  rw [hin.out] at hu
  simp only at hu
  have g0 : 0 ≤ (0 : Int) ∧ (0 : Int) ≤ inn.size := by omega
  have g1 := numH_range h1 g0
  have g2 := numH_range h2 g1
  have g3 := shortH_range h3 g2
  have g4 := shortH_range h5 ⟨g3.1, g3.2.1⟩
  subst hok hq hy
  simp only [Bool.not_false, Bool.not_true] at h1
  go_enter Try.func23, Try.ntmps23
  go_wp2_with (first | (go_at_call 59; refine (spec_UnsealedH _ _ _ _ hin (by omega)).mono ?_; rintro e wu ⟨rfl, hb⟩))
  have B0 : Blk 48 w.heap.size #[.int .i64 0, .int .i64 0, .slice none 0 0, .string ⟨#[]⟩] wu := (Blk.new _ _ w).below hb
  have hzu : w.heap.size < wu.heap.size := B0.lt
  have HBu : Below w.heap.size w wu := (by repeat (first | exact Below.refl _ _ | apply bl_alloc | apply bl_drewN | apply bl_drew | refine bl_set ?_ (by simp) | refine bl_then ?_ (by assumption)))
  clear hb
  with_reducible refine (spec_l05VarH _ _ _ _ _ _ _ _ h1 (by omega) ((rd_new rfl).below (bl_alloc (Below.refl _ _) _))).mono ?_
  rintro e w1 ⟨rfl, R1, U1⟩
  have hz1 : wu.heap.size + 1 < w1.heap.size := by have := U1.size; simp at this; omega
  have B1 : Blk 48 w.heap.size #[.int .i64 0, .int .i64 0, .slice none 0 0, .string ⟨#[]⟩] w1 := ((B0.alloc _).alloc _).upd U1 (by omega)
  have S1 : Blk 48 (wu.heap.size + 1) #[.int .i64 0, .int .i64 0, .slice none 0 0, .string ⟨#[]⟩] w1 := (Blk.newE _ _ _ (by simp)).upd U1 (by omega)
  have HB1 : Below w.heap.size w w1 := U1.below (bl_alloc (bl_alloc HBu _) _) (by omega)
  clear U1 B0 HBu
  have f1 := S1.free 0
  have s1 := S1.cell 0 rfl
  go_wp2_with fail
  with_reducible refine (spec_l05VarH _ _ _ _ _ _ _ _ h2 (by omega) (R1.far (by simp; first | done | omega) _)).mono ?_
  rintro e w2 ⟨rfl, R2, U2⟩
  have hz2 : w1.heap.size ≤ w2.heap.size := by have := U2.size; simp at this; omega
  have B2 : Blk 48 w.heap.size #[.int .i64 0, .int .i64 0, .slice none 0 0, .string ⟨#[]⟩] w2 := (B1.far (by simp; omega) _).upd U2 (by omega)
  have S2 : Blk 48 (wu.heap.size + 1) #[.int .i64 i, .int .i64 0, .slice none 0 0, .string ⟨#[]⟩] w2 := (S1.set 0 _ rfl).upd U2 (by omega)
  have HB2 : Below w.heap.size w w2 := U2.below (bl_set HB1 (by simp; omega)) (by omega)
  clear U2 B1 R1 HB1 S1 f1 s1
  have f2 := S2.free 1
  have s2 := S2.cell 1 rfl
  go_wp2_with fail
  with_reducible refine (spec_l05ReadShortH _ _ _ _ _ _ _ _ h3 (by omega) g2.1 g2.2 (R2.far (by simp; first | done | omega) _)).mono ?_
  rintro e w3 ⟨rfl, R3, U3⟩
  have hz3 : w2.heap.size ≤ w3.heap.size := by have := U3.size; simp at this; omega
  have B3 : Blk 48 w.heap.size #[.int .i64 0, .int .i64 0, .slice none 0 0, .string ⟨#[]⟩] w3 := (B2.far (by simp; omega) _).upd U3 (by omega)
  have S3 : Blk 48 (wu.heap.size + 1) #[.int .i64 i, .int .i64 t, .slice none 0 0, .string ⟨#[]⟩] w3 := (S2.set 1 _ rfl).upd U3 (by omega)
  have HB3 : Below w.heap.size w w3 := U3.below (bl_set HB2 (by simp; omega)) (by omega)
  clear U3 B2 R2 HB2 f2 s2 S2
  go_wp2_with fail
  with_reducible refine (spec_ReadConfH _ _ _ _ h4 (by omega)).mono ?_
  rintro e w4 ⟨v, rfl, V4, hb⟩
  have hz4 : w3.heap.size ≤ w4.heap.size := hb.size
  have B4 := B3.below hb
  have S4 := S3.below hb
  have R4 := R3.below hb
  have HB4 : Below w.heap.size w w4 := bl_then HB3 hb
  clear B3 S3 R3 HB3 hb
  obtain ⟨A4, c4, rfl, hc4, -⟩ := Kd.R_reads V4
  have f4 := S4.free 2
  have s4 := S4.cell 2 rfl
  go_wp2_with fail
  with_reducible refine (spec_l05ReadShortH _ _ _ _ _ _ _ _ h5 (by omega) g3.1 g3.2.1 (R4.far (by simp; first | done | omega) _)).mono ?_
  rintro e w5 ⟨rfl, R5, U5⟩
  have hz5 : w4.heap.size ≤ w5.heap.size := by have := U5.size; simp at this; omega
  have B5 : Blk 48 w.heap.size #[.int .i64 0, .int .i64 0, .slice none 0 0, .string ⟨#[]⟩] w5 := (B4.far (by simp; omega) _).upd U5 (by omega)
  have S5 : Blk 48 (wu.heap.size + 1) #[.int .i64 i, .int .i64 t, .slice A4 cf.length c4, .string ⟨#[]⟩] w5 := (S4.set 2 _ rfl).upd U5 (by omega)
  have HB5 : Below w.heap.size w w5 := U5.below (bl_set HB4 (by simp; omega)) (by omega)
  have V5 : Kd.R (Kd.int .i64) 3 w5 w3.heap.size (fun _ => True) (.slice A4 cf.length c4) cf := by
    refine Kd.R_mono (Kd.R_step (Kd.R_bound V4) fun k hk hlt => ?_) (fun _ _ => trivial)
    rw [U5.block k (by simpa using hlt) (by omega)]
    exact Below.heap_setCell _ _ _ _ (by simp; omega)
  clear U5 B4 R4 HB4 f4 s4 S4 V4
  have f5 := S5.free 3
  have s50 := S5.cell 0 rfl
  have s51 := S5.cell 1 rfl
  have s52 := S5.cell 2 rfl
  have s53 := S5.cell 3 rfl
  have hcl := readConf_len ct
  rw [h4.out] at hcl
  (try simp only at hcl)
  obtain ⟨A', c', he', -, hC5⟩ := Kd.R_reads V5
  obtain ⟨rfl, -, rfl⟩ : A4 = A' ∧ True ∧ c4 = c' := by injection he' with a b c; exact ⟨a, trivial, c⟩
  go_wp2_with fail
  have hC6 : Kd.C (Kd.int .i64) (w5.setCell ⟨wu.heap.size + 1, 3, none⟩ (.string body)) A4 cf.length cf := by
    have V6 : Kd.R (Kd.int .i64) 3 (w5.setCell ⟨wu.heap.size + 1, 3, none⟩ (.string body)) w3.heap.size (fun _ => True) (.slice A4 cf.length c4) cf := Kd.R_mono (Kd.R_step (Kd.R_bound V5) fun k hk hlt => Below.heap_setCell _ _ _ _ (by simp; omega)) (fun _ _ => trivial)
    obtain ⟨A2, c2, he2, -, hC⟩ := Kd.R_reads V6
    obtain ⟨rfl, -, rfl⟩ : A4 = A2 ∧ True ∧ c4 = c2 := by injection he2 with a b c; exact ⟨a, trivial, c⟩
    exact hC
  with_reducible refine (spec_SnapText _ _ _ _ cf _ _ _ hsk hC6 hc4 (by omega) (by omega)).mono ?_
  rintro e w7 ⟨rfl, hb7⟩
  have B7 := (B5.far (by simp; omega) _).below hb7
  have S7 := (S5.set 3 _ rfl).below hb7
  have R7 := ((R5.far (by simp; first | done | omega) (.string body) : Rd _ _ _ _ _ (w5.setCell ⟨wu.heap.size + 1, 3, none⟩ (.string body)))).below hb7
  have HB7 : Below w.heap.size w w7 := bl_then (bl_set HB5 (by simp; omega)) hb7
  have V7 : Kd.R (Kd.int .i64) 3 w7 w3.heap.size (fun _ => True) (.slice A4 cf.length c4) cf :=
    Kd.R_below (Kd.R_mono (Kd.R_step (w1 := w5.setCell ⟨wu.heap.size + 1, 3, none⟩ (.string body)) (Kd.R_bound V5) fun k hk hlt => Below.heap_setCell _ _ _ _ (by simp; omega)) (fun _ _ => trivial)) hb7
  clear hC5 hC6 B5 S5 R5 HB5 V5 hb7 f5 s50 s51 s52 s53
  have d2 := R7.cells.2.2.1
  have r0 := B7.cell 0 rfl
  have r1 := B7.cell 1 rfl
  have r2 := B7.cell 2 rfl
  have r3 := B7.cell 3 rfl
  have rf := B7.free
  have n0 : wu.heap.size + 1 ≠ w.heap.size := by omega
  have n1 : w.heap.size ≠ wu.heap.size + 1 := by omega
  have n2 : wu.heap.size ≠ w.heap.size := by omega
  have n3 : w.heap.size ≠ wu.heap.size := by omega
  go_wp2
  refine bodyPost_ret (v := .tuple #[.agg #[.int .i64 0, .int .i64 0, .slice none 0 0, .string ⟨#[]⟩], .bool false]) ?_ rfl ⟨_, rfl, Kd.R_nil _ _ _ _ _, ?_⟩
  rotate_left
  · repeat (first | exact HB7 | (refine bl_set ?_ (by first | (simp; done) | (simp; omega))))
  simp only [results, Try.results23]
  go_simp

set_option maxHeartbeats 1000000 in
set_option maxRecDepth 100000 in
theorem spec_ReadSnap_yes (s inn : ByteArray) (ok : Bool) (i t : Int) (ct body : ByteArray) (p1 p2 p3 p4 : Int) (q1 q2 q3 q4 fine : Bool) (cf : List Int) (w : World) (hs : s.size ≤ 1048576) (hin : Hid (unS s = (inn, ok))) (h1 : Hid (rdNum inn 0 (!ok) = (i, p1, q1))) (h2 : Hid (rdNum inn p1 q1 = (t, p2, q2))) (h3 : Hid (rdShort inn p2 q2 = (ct, p3, q3))) (h4 : Hid (readConf ct = (cf, fine))) (h5 : Hid (rdShort inn p3 q3 = (body, p4, q4))) (hok : ok = true) (sk : Bool) (hsk : Hid (snapOk i t cf body = sk)) (hq : q4 = false) (hy : sk = true) (hsm : (!((sealS (snapIn i t cf body)).toList == s.toList)) = false) :
    Calls Try.prog 23 #[.string s] w fun e w' => ∃ v, e = .returned (.tuple #[.agg #[.int .i64 i, .int .i64 t, v, .string body], .bool true]) ∧ Kd.R (Kd.int .i64) 3 w' w.heap.size (fun _ => True) v cf ∧ Below w.heap.size w w' := by
  have hu := unS_small s
  rw [hin.out] at hu
  simp only at hu
  have g0 : 0 ≤ (0 : Int) ∧ (0 : Int) ≤ inn.size := by omega
  have g1 := numH_range h1 g0
  have g2 := numH_range h2 g1
  have g3 := shortH_range h3 g2
  have g4 := shortH_range h5 ⟨g3.1, g3.2.1⟩
  subst hok hq hy
  simp only [Bool.not_false, Bool.not_true] at h1
  go_enter Try.func23, Try.ntmps23
  go_wp2_with (first | (go_at_call 59; refine (spec_UnsealedH _ _ _ _ hin (by omega)).mono ?_; rintro e wu ⟨rfl, hb⟩))
  have B0 : Blk 48 w.heap.size #[.int .i64 0, .int .i64 0, .slice none 0 0, .string ⟨#[]⟩] wu := (Blk.new _ _ w).below hb
  have hzu : w.heap.size < wu.heap.size := B0.lt
  have HBu : Below w.heap.size w wu := (by repeat (first | exact Below.refl _ _ | apply bl_alloc | apply bl_drewN | apply bl_drew | refine bl_set ?_ (by simp) | refine bl_then ?_ (by assumption)))
  clear hb
  with_reducible refine (spec_l05VarH _ _ _ _ _ _ _ _ h1 (by omega) ((rd_new rfl).below (bl_alloc (Below.refl _ _) _))).mono ?_
  rintro e w1 ⟨rfl, R1, U1⟩
  have hz1 : wu.heap.size + 1 < w1.heap.size := by have := U1.size; simp at this; omega
  have B1 : Blk 48 w.heap.size #[.int .i64 0, .int .i64 0, .slice none 0 0, .string ⟨#[]⟩] w1 := ((B0.alloc _).alloc _).upd U1 (by omega)
  have S1 : Blk 48 (wu.heap.size + 1) #[.int .i64 0, .int .i64 0, .slice none 0 0, .string ⟨#[]⟩] w1 := (Blk.newE _ _ _ (by simp)).upd U1 (by omega)
  have HB1 : Below w.heap.size w w1 := U1.below (bl_alloc (bl_alloc HBu _) _) (by omega)
  clear U1 B0 HBu
  have f1 := S1.free 0
  have s1 := S1.cell 0 rfl
  go_wp2_with fail
  with_reducible refine (spec_l05VarH _ _ _ _ _ _ _ _ h2 (by omega) (R1.far (by simp; first | done | omega) _)).mono ?_
  rintro e w2 ⟨rfl, R2, U2⟩
  have hz2 : w1.heap.size ≤ w2.heap.size := by have := U2.size; simp at this; omega
  have B2 : Blk 48 w.heap.size #[.int .i64 0, .int .i64 0, .slice none 0 0, .string ⟨#[]⟩] w2 := (B1.far (by simp; omega) _).upd U2 (by omega)
  have S2 : Blk 48 (wu.heap.size + 1) #[.int .i64 i, .int .i64 0, .slice none 0 0, .string ⟨#[]⟩] w2 := (S1.set 0 _ rfl).upd U2 (by omega)
  have HB2 : Below w.heap.size w w2 := U2.below (bl_set HB1 (by simp; omega)) (by omega)
  clear U2 B1 R1 HB1 S1 f1 s1
  have f2 := S2.free 1
  have s2 := S2.cell 1 rfl
  go_wp2_with fail
  with_reducible refine (spec_l05ReadShortH _ _ _ _ _ _ _ _ h3 (by omega) g2.1 g2.2 (R2.far (by simp; first | done | omega) _)).mono ?_
  rintro e w3 ⟨rfl, R3, U3⟩
  have hz3 : w2.heap.size ≤ w3.heap.size := by have := U3.size; simp at this; omega
  have B3 : Blk 48 w.heap.size #[.int .i64 0, .int .i64 0, .slice none 0 0, .string ⟨#[]⟩] w3 := (B2.far (by simp; omega) _).upd U3 (by omega)
  have S3 : Blk 48 (wu.heap.size + 1) #[.int .i64 i, .int .i64 t, .slice none 0 0, .string ⟨#[]⟩] w3 := (S2.set 1 _ rfl).upd U3 (by omega)
  have HB3 : Below w.heap.size w w3 := U3.below (bl_set HB2 (by simp; omega)) (by omega)
  clear U3 B2 R2 HB2 f2 s2 S2
  go_wp2_with fail
  with_reducible refine (spec_ReadConfH _ _ _ _ h4 (by omega)).mono ?_
  rintro e w4 ⟨v, rfl, V4, hb⟩
  have hz4 : w3.heap.size ≤ w4.heap.size := hb.size
  have B4 := B3.below hb
  have S4 := S3.below hb
  have R4 := R3.below hb
  have HB4 : Below w.heap.size w w4 := bl_then HB3 hb
  clear B3 S3 R3 HB3 hb
  obtain ⟨A4, c4, rfl, hc4, -⟩ := Kd.R_reads V4
  have f4 := S4.free 2
  have s4 := S4.cell 2 rfl
  go_wp2_with fail
  with_reducible refine (spec_l05ReadShortH _ _ _ _ _ _ _ _ h5 (by omega) g3.1 g3.2.1 (R4.far (by simp; first | done | omega) _)).mono ?_
  rintro e w5 ⟨rfl, R5, U5⟩
  have hz5 : w4.heap.size ≤ w5.heap.size := by have := U5.size; simp at this; omega
  have B5 : Blk 48 w.heap.size #[.int .i64 0, .int .i64 0, .slice none 0 0, .string ⟨#[]⟩] w5 := (B4.far (by simp; omega) _).upd U5 (by omega)
  have S5 : Blk 48 (wu.heap.size + 1) #[.int .i64 i, .int .i64 t, .slice A4 cf.length c4, .string ⟨#[]⟩] w5 := (S4.set 2 _ rfl).upd U5 (by omega)
  have HB5 : Below w.heap.size w w5 := U5.below (bl_set HB4 (by simp; omega)) (by omega)
  have V5 : Kd.R (Kd.int .i64) 3 w5 w3.heap.size (fun _ => True) (.slice A4 cf.length c4) cf := by
    refine Kd.R_mono (Kd.R_step (Kd.R_bound V4) fun k hk hlt => ?_) (fun _ _ => trivial)
    rw [U5.block k (by simpa using hlt) (by omega)]
    exact Below.heap_setCell _ _ _ _ (by simp; omega)
  clear U5 B4 R4 HB4 f4 s4 S4 V4
  have f5 := S5.free 3
  have s50 := S5.cell 0 rfl
  have s51 := S5.cell 1 rfl
  have s52 := S5.cell 2 rfl
  have s53 := S5.cell 3 rfl
  have hcl := readConf_len ct
  rw [h4.out] at hcl
  (try simp only at hcl)
  obtain ⟨A', c', he', -, hC5⟩ := Kd.R_reads V5
  obtain ⟨rfl, -, rfl⟩ : A4 = A' ∧ True ∧ c4 = c' := by injection he' with a b c; exact ⟨a, trivial, c⟩
  go_wp2_with fail
  have hC6 : Kd.C (Kd.int .i64) (w5.setCell ⟨wu.heap.size + 1, 3, none⟩ (.string body)) A4 cf.length cf := by
    have V6 : Kd.R (Kd.int .i64) 3 (w5.setCell ⟨wu.heap.size + 1, 3, none⟩ (.string body)) w3.heap.size (fun _ => True) (.slice A4 cf.length c4) cf := Kd.R_mono (Kd.R_step (Kd.R_bound V5) fun k hk hlt => Below.heap_setCell _ _ _ _ (by simp; omega)) (fun _ _ => trivial)
    obtain ⟨A2, c2, he2, -, hC⟩ := Kd.R_reads V6
    obtain ⟨rfl, -, rfl⟩ : A4 = A2 ∧ True ∧ c4 = c2 := by injection he2 with a b c; exact ⟨a, trivial, c⟩
    exact hC
  with_reducible refine (spec_SnapText _ _ _ _ cf _ _ _ hsk hC6 hc4 (by omega) (by omega)).mono ?_
  rintro e w7 ⟨rfl, hb7⟩
  have B7 := (B5.far (by simp; omega) _).below hb7
  have S7 := (S5.set 3 _ rfl).below hb7
  have R7 := ((R5.far (by simp; first | done | omega) (.string body) : Rd _ _ _ _ _ (w5.setCell ⟨wu.heap.size + 1, 3, none⟩ (.string body)))).below hb7
  have HB7 : Below w.heap.size w w7 := bl_then (bl_set HB5 (by simp; omega)) hb7
  have V7 : Kd.R (Kd.int .i64) 3 w7 w3.heap.size (fun _ => True) (.slice A4 cf.length c4) cf :=
    Kd.R_below (Kd.R_mono (Kd.R_step (w1 := w5.setCell ⟨wu.heap.size + 1, 3, none⟩ (.string body)) (Kd.R_bound V5) fun k hk hlt => Below.heap_setCell _ _ _ _ (by simp; omega)) (fun _ _ => trivial)) hb7
  clear hC5 hC6 B5 S5 R5 HB5 V5 hb7 f5 s50 s51 s52 s53
  have d2 := R7.cells.2.2.1
  have r0 := B7.cell 0 rfl
  have r1 := B7.cell 1 rfl
  have r2 := B7.cell 2 rfl
  have r3 := B7.cell 3 rfl
  have rf := B7.free
  have n0 : wu.heap.size + 1 ≠ w.heap.size := by omega
  have n1 : w.heap.size ≠ wu.heap.size + 1 := by omega
  have n2 : wu.heap.size ≠ w.heap.size := by omega
  have n3 : w.heap.size ≠ wu.heap.size := by omega
  have sd0 := S7.cell 0 rfl
  have sd1 := S7.cell 1 rfl
  have sd2 := S7.cell 2 rfl
  have sd3 := S7.cell 3 rfl
  go_wp2
  refine bodyPost_ret (v := .tuple #[.agg #[.int .i64 i, .int .i64 t, .slice A4 cf.length c4, .string body], .bool true]) ?_ rfl ⟨_, rfl, ?_, ?_⟩
  rotate_left
  · refine Kd.R_lower (Kd.R_mono (Kd.R_step (Kd.R_bound V7) fun k hk hlt => ?_) (fun _ _ => trivial)) (by omega)
    repeat (first | rfl | (rw [Below.heap_setCell _ _ _ _ (by simp; omega)]))
  · repeat (first | exact HB7 | (refine bl_set ?_ (by first | (simp; done) | (simp; omega))))
  simp only [results, Try.results23]
  go_simp

end Go.Proofs.Ytlbikcelfheohaa
end

/-! ### YtlbikcelfheohaaByteS -/
section
namespace Go.Proofs.Ytlbikcelfheohaa
open Go.RowKit Go.Proofs.YtlbikcelfheohaaW.PrintWords

/-- A number in one byte. -/
def byteS (n : Int) : ByteArray := strOfNums [n % 256]
theorem byteS_size (n : Int) : (byteS n).size ≤ 1 := by simp [byteS, strOfNums_size]
end Go.Proofs.Ytlbikcelfheohaa
end

/-! ### YtlbikcelfheohaaReadPure -/
section
namespace Go.Proofs.Ytlbikcelfheohaa
open Go.RowKit Go.Proofs.YtlbikcelfheohaaW.PrintWords
set_option linter.unusedSimpArgs false
set_option linter.unusedVariables false

theorem ba_ext {a b : ByteArray} (h : a.toList = b.toList) : a = b := by
  rw [ByteArray.toList_eq, ByteArray.toList_eq] at h
  apply ByteArray.ext
  exact Array.toList_inj.1 h

theorem rvGo_bytes (s : ByteArray) (a : Nat) : ∀ (f k n e : Nat), (∀ b ∈ part s a k, 128 ≤ b ∧ b < 256) → a + k ≤ s.size → rvGo f s (a + k) (val (part s a k)) k = some (n, e) →
    ∃ m, e = a + m ∧ a + m ≤ s.size ∧ varN n = (part s a m).map (fun x : Nat => (x : Int))
  | 0, _, _, _, _, _, h => by simp [rvGo] at h
  | f + 1, k, n, e, hb, hle, h => by
    simp only [rvGo] at h
    by_cases hp : a + k < s.size
    · rw [if_pos hp] at h
      have hv := byN_lt s (a + k)
      have hps := part_succ s a k hp
      have hpl := part_length s a k hle
      have hval : val (part s a (k + 1)) = val (part s a k) + byN s (a + k) % 128 * 128 ^ k := by rw [hps, val_snoc, hpl]
      by_cases hlt : byN s (a + k) < 128
      · rw [if_pos hlt] at h
        rw [Nat.mod_eq_of_lt hlt] at hval
        split at h
        · cases h
        · rename_i hno
          simp only [Option.some.injEq, Prod.mk.injEq] at h
          obtain ⟨hn, he⟩ := h
          refine ⟨k + 1, by omega, by omega, ?_⟩
          have hcan := varN_canon (part s a k) (byN s (a + k)) hb hlt
          rw [← hps] at hcan
          rw [← hn, ← hval]
          refine hcan.2 ?_
          by_cases h0 : byN s (a + k) = 0
          · left
            have hk0 : k = 0 := by
              rcases Nat.eq_zero_or_pos k with h | h
              · exact h
              · exact absurd (.inl ⟨h0, h⟩) hno
            subst hk0
            exact part_zero s a
          · exact .inr h0
      · rw [if_neg hlt] at h
        have hb' : ∀ b ∈ part s a (k + 1), 128 ≤ b ∧ b < 256 := by
          intro b hbm
          rw [hps] at hbm
          rcases List.mem_append.1 hbm with h | h
          · exact hb b h
          · simp at h; omega
        have hmod : byN s (a + k) % 128 = byN s (a + k) - 128 := by omega
        rw [hmod] at hval
        rw [← hval] at h
        exact rvGo_bytes s a f (k + 1) n e hb' (by omega) h
    · rw [if_neg hp] at h
      cases h

/-- What a number was read from is its text. -/
theorem rv_bytes {s : ByteArray} {p : Int} {n e : Nat} (h : rv s p = some (n, e)) : s.extract p.toNat e = varS n := by
  have hr := rv_range h
  obtain ⟨a, rfl⟩ := Int.eq_ofNat_of_zero_le hr.1
  unfold rv at h
  rw [if_pos (by omega)] at h
  have hz : part s a 0 = [] := part_zero s a
  obtain ⟨m, rfl, hm, hv⟩ := rvGo_bytes s a 5 0 n e (by rw [hz]; simp) (by omega) (by rw [hz]; simpa [val] using h)
  apply ba_ext
  unfold varS
  rw [Int.toNat_natCast, Int.toNat_natCast]
  exact ((same_bytes n s a (a + m) hm).2 hv).symm

theorem extract_join (s : ByteArray) (a b c : Nat) (h1 : a ≤ b) (h2 : b ≤ c) : s.extract a b ++ s.extract b c = s.extract a c := by
  apply ByteArray.ext
  simp [ByteArray.data_append, ByteArray.data_extract, Nat.min_eq_left h1, Nat.max_eq_right h2]

theorem num_bytes {s : ByteArray} {p n p' : Int} {q : Bool} (h : rdNum s p q = (n, p', false)) : q = false ∧ 0 ≤ p ∧ p ≤ p' ∧ p' ≤ s.size ∧ s.extract p.toNat p'.toNat = varS n := by
  unfold rdNum at h
  cases q with
  | true => simp at h
  | false =>
    rcases hq : rv s p with _ | ⟨m, e⟩
    · rw [hq] at h; simp at h
    · rw [hq] at h
      have hr := rv_range hq
      have hb := rv_bytes hq
      simp at h
      obtain ⟨rfl, rfl⟩ := h
      exact ⟨rfl, by omega, by omega, by omega, by simpa using hb⟩
theorem byte_bytes {s : ByteArray} {p n p' : Int} {q : Bool} (hp : 0 ≤ p) (h : rdByte s p q = (n, p', false)) : q = false ∧ 0 ≤ p ∧ p ≤ p' ∧ p' ≤ s.size ∧ s.extract p.toNat p'.toNat = byteS n := by
  unfold rdByte at h
  split at h
  · simp at h
  · rename_i hno
    simp at h
    obtain ⟨rfl, rfl⟩ := h
    have hq : q = false := by cases q; rfl; exact absurd (.inl rfl) hno
    have hlt : p < s.size := by
      have : ¬ p ≥ s.size := fun x => hno (.inr x)
      omega
    obtain ⟨a, rfl⟩ := Int.eq_ofNat_of_zero_le hp
    refine ⟨hq, by omega, by omega, by omega, ?_⟩
    have ha : a < s.size := by omega
    have hr := bt_range s (a : Int)
    apply ByteArray.ext
    apply Array.toList_inj.1
    have e1 : ((a : Int) + 1).toNat = a + 1 := by omega
    rw [Int.toNat_natCast, e1]
    unfold byteS
    rw [strOfNums_data]
    have e2 : (s.extract a (a + 1)).data.toList = (s.data.toList.take (a + 1)).drop a := by simp [ByteArray.data_extract, List.drop_take]
    rw [e2]
    have hl : a < s.data.toList.length := by simpa using ha
    rw [List.take_succ_eq_append_getElem hl, List.drop_append_of_le_length (by simp; omega), List.drop_of_length_le (by simp; omega)]
    have hbt : bt s (a : Int) = ((s.data.toList[a]).toNat : Int) := by
      unfold bt
      rw [dif_pos (by simpa using ha)]
      simp
      rfl
    rw [hbt]
    have ha' : a < s.data.size := by simpa using ha
    have hlt2 := (s.data[a]).toNat_lt
    have e3 : (((s.data[a]).toNat : Int) % 256).toNat = (s.data[a]).toNat := by omega
    simp [e3]

theorem short_bytes {s t : ByteArray} {p p' : Int} {q : Bool} (hp : 0 ≤ p) (hps : p ≤ s.size) (h : rdShort s p q = (t, p', false)) : q = false ∧ 0 ≤ p ∧ p ≤ p' ∧ p' ≤ s.size ∧ s.extract p.toNat p'.toNat = shortS t := by
  unfold rdShort at h
  rcases hn : rdNum s p q with ⟨n, pn, qn⟩
  have hrange := rdNum_range s p q hp hps
  rw [hn] at h hrange
  simp only at h hrange
  unfold rdTake at h
  split at h
  · simp at h
  · rename_i hno
    simp at h
    obtain ⟨rfl, rfl⟩ := h
    have hqn : qn = false := by cases qn; rfl; exact absurd (.inl rfl) hno
    subst hqn
    have hle : n ≤ s.size - pn := by
      have : ¬ n > s.size - pn := fun x => hno (.inr x)
      omega
    obtain ⟨h1, h2, h3, h4, h5⟩ := num_bytes hn
    refine ⟨h1, h2, by omega, by omega, ?_⟩
    rw [← extract_join s p.toNat pn.toNat (pn + n).toNat (by omega) (by omega), h5]
    unfold shortS
    congr 1
    have : (s.extract pn.toNat (pn + n).toNat).size = n.toNat := by simp; omega
    rw [this, Int.toNat_of_nonneg hrange.1]

/-- The program's short text, read: the reference's. -/
theorem short_of_text {s t : ByteArray} {p p' : Int} {q : Bool} (h : rdText s p q = (t, p', false)) : rdShort s p q = (t, p', false) := by
  unfold rdText at h
  cases q with
  | true => simp at h
  | false =>
    unfold rs at h
    rcases hq : rv s p with _ | ⟨n, e⟩
    · rw [hq] at h; simp at h
    · rw [hq] at h
      have hr := rv_range hq
      simp only at h
      by_cases hc : n > 20000 ∨ (n : Int) > s.size - e
      · rw [if_pos hc] at h; simp at h
      · rw [if_neg hc] at h
        simp at h
        obtain ⟨rfl, rfl⟩ := h
        have hn : rdNum s p false = ((n : Int), (e : Int), false) := by simp [rdNum, hq]
        unfold rdShort
        rw [hn]
        unfold rdTake
        have hle : ¬ ((n : Int) > s.size - e) := fun x => hc (.inr x)
        rw [if_neg (by simpa using hle)]
        have e1 : ((e : Int) + (n : Int)).toNat = e + n := by omega
        simp only [Int.toNat_natCast, e1]
/-- And the other way round, where the text is not long. -/
theorem text_of_short {s t : ByteArray} {p p' : Int} {q : Bool} (h : rdShort s p q = (t, p', false)) (ht : t.size ≤ 20000) : rdText s p q = (t, p', false) := by
  unfold rdShort at h
  rcases hn : rdNum s p q with ⟨n, pn, qn⟩
  rw [hn] at h
  simp only at h
  unfold rdTake at h
  split at h
  · simp at h
  · rename_i hno
    simp at h
    obtain ⟨rfl, rfl⟩ := h
    have hqn : qn = false := by cases qn; rfl; exact absurd (.inl rfl) hno
    subst hqn
    have hle : n ≤ s.size - pn := by
      have : ¬ n > s.size - pn := fun x => hno (.inr x)
      omega
    unfold rdNum at hn
    cases q with
    | true => simp at hn
    | false =>
      rcases hq : rv s p with _ | ⟨m, e⟩
      · rw [hq] at hn; simp at hn
      · rw [hq] at hn
        have hr := rv_range hq
        simp at hn
        obtain ⟨rfl, rfl⟩ := hn
        have e1 : ((e : Int) + (m : Int)).toNat = e + m := by omega
        have hsz : (s.extract e (e + m)).size = m := by simp; omega
        rw [Int.toNat_natCast, e1, hsz] at ht
        unfold rdText rs
        rw [hq]
        simp only
        have hc : ¬ (m > 20000 ∨ (m : Int) > s.size - e) := by rintro (x | x) <;> omega
        rw [if_neg hc]
        simp [e1]
end Go.Proofs.Ytlbikcelfheohaa
end

/-! ### YtlbikcelfheohaaSnapLaw -/
section
namespace Go.Proofs.Ytlbikcelfheohaa
open Go.RowKit Go.Proofs.YtlbikcelfheohaaW.PrintWords
set_option linter.unusedSimpArgs false
set_option linter.unusedVariables false

/-! Both ReadSnaps answer alike. (own) -/
theorem confBs_bytes (s : ByteArray) : ∀ n i, PFnExactReadSnap.confBs (bytesFrom s i n) = bytesFrom s i n
  | 0, _ => rfl
  | n + 1, i => by
    have hb := bt_range s (i : Int)
    have ih := confBs_bytes s n (i + 1)
    unfold PFnExactReadSnap.confBs at *
    simp only [bytesFrom, List.map_cons, ih]
    rw [show bt s (i : Int) % 256 = bt s (i : Int) from by omega]
theorem strOf_bytes (s : ByteArray) : ∀ n i, i + n ≤ s.size → (strOfNums (bytesFrom s i n)) = s.extract i (i + n)
  | 0, i, _ => by
    apply ByteArray.ext
    simp [bytesFrom, strOfNums, ByteArray.data_extract]
  | n + 1, i, h => by
    have ih := strOf_bytes s n (i + 1) (by omega)
    have e : bytesFrom s i (n + 1) = [bt s (i : Int)] ++ bytesFrom s (i + 1) n := rfl
    rw [e, strOfNums_append, ih, ← extract_join s i (i + 1) (i + (n + 1)) (by omega) (by omega), show i + 1 + n = i + (n + 1) from by omega]
    congr 1
    have hr : rdByte s (i : Int) false = (bt s (i : Int), (i : Int) + 1, false) := by
      unfold rdByte
      rw [if_neg (by simp; omega)]
    obtain ⟨-, -, -, -, h2⟩ := byte_bytes (by omega) hr
    rw [show ((i : Int) + 1).toNat = i + 1 from by omega, Int.toNat_natCast] at h2
    rw [h2]
    unfold byteS
    have hb := bt_range s (i : Int)
    rw [show bt s (i : Int) % 256 = bt s (i : Int) from by omega]
theorem confS_read {ct : ByteArray} {cf : List Int} (h : readConf ct = (cf, true)) : confS cf = ct ∧ cf.length = ct.size := by
  unfold readConf at h
  split at h
  · simp at h
    subst h
    refine ⟨?_, bytesFrom_length _ _ _⟩
    unfold confS
    rw [confBs_bytes, strOf_bytes ct ct.size 0 (by omega)]
    simp
  · simp at h
theorem confOk_read {ct : ByteArray} {cf : List Int} {b : Bool} (h : readConf ct = (cf, b)) (hc : confOk cf = true) : b = true := by
  unfold readConf at h
  split at h
  · simp at h; exact h.2.symm ▸ rfl
  · simp at h
    obtain ⟨rfl, _⟩ := h
    simp [confOk] at hc
theorem sealS_inj {a b : ByteArray} (h : sealS a = sealS b) : a = b := by
  have hz := congrArg ByteArray.size h
  rw [sealS_size, sealS_size] at hz
  unfold sealS at h
  have h1 := congrArg (fun x : ByteArray => x.data.toList) h
  simp only [ByteArray.data_append, Array.toList_append] at h1
  have h2 := (List.append_inj h1 (by simpa using (show a.size = b.size by omega))).1
  exact ByteArray.ext (Array.toList_inj.1 h2)
theorem text_flag {s t : ByteArray} {p p' : Int} {q : Bool} (h : rdText s p q = (t, p', false)) : q = false := by
  cases q with
  | false => rfl
  | true => simp [rdText] at h
theorem short_flag {s t : ByteArray} {p p' : Int} {q : Bool} (h : rdShort s p q = (t, p', false)) : q = false := by
  cases q with
  | false => rfl
  | true => simp [rdShort, rdNum, rdTake] at h

theorem readsnap_same {s inn ct body ct' body' : ByteArray} {i t p1 p2 p3 p4 p3' p4' : Int} {q1 q2 q3 q4 q3' q4' fine fine' : Bool} {cf cf' : List Int}
    (hin : unS s = (inn, true)) (h1 : rdNum inn 0 false = (i, p1, q1)) (h2 : rdNum inn p1 q1 = (t, p2, q2)) (h3 : rdText inn p2 q2 = (ct, p3, q3)) (h4 : readConf ct = (cf, fine)) (h5 : rdText inn p3 q3 = (body, p4, q4))
    (k3 : rdShort inn p2 q2 = (ct', p3', q3')) (k4 : readConf ct' = (cf', fine')) (k5 : rdShort inn p3' q3' = (body', p4', q4')) :
    ((!q4' && snapOk i t cf' body' && (sealS (snapIn i t cf' body')).toList == s.toList) = (fine && (!q4 && p4 == inn.size) && snapOk i t cf body && (sealS (snapIn i t cf body)).toList == s.toList)) ∧
      ((!q4' && snapOk i t cf' body' && (sealS (snapIn i t cf' body')).toList == s.toList) = true → cf' = cf ∧ body' = body) := by
  have hsz := unS_true hin
  have key : ∀ (hq : q4' = false) (hc : ct'.size ≤ 20000) (hb : body'.size ≤ 20000), ct = ct' ∧ p3 = p3' ∧ q3 = q3' ∧ body = body' ∧ p4 = p4' ∧ q4 = false := by
    intro hq hc hb
    subst hq
    have f3 := short_flag k5
    subst f3
    have e3 := text_of_short k3 hc
    rw [h3] at e3
    simp at e3
    obtain ⟨rfl, rfl, rfl⟩ := e3
    have e5 := text_of_short k5 hb
    rw [h5] at e5
    simp at e5
    obtain ⟨rfl, rfl, rfl⟩ := e5
    exact ⟨rfl, rfl, rfl, rfl, rfl, rfl⟩
  have yek : ∀ (hq : q4 = false), ct' = ct ∧ p3' = p3 ∧ q3' = q3 ∧ body' = body ∧ p4' = p4 ∧ q4' = false := by
    intro hq
    subst hq
    have f3 := text_flag h5
    subst f3
    have e3 := short_of_text h3
    rw [k3] at e3
    simp at e3
    obtain ⟨rfl, rfl, rfl⟩ := e3
    have e5 := short_of_text h5
    rw [k5] at e5
    simp at e5
    obtain ⟨rfl, rfl, rfl⟩ := e5
    exact ⟨rfl, rfl, rfl, rfl, rfl, rfl⟩
  have pure1 : (!q4' && snapOk i t cf' body' && (sealS (snapIn i t cf' body')).toList == s.toList) = true → (fine && (!q4 && p4 == inn.size) && snapOk i t cf body && (sealS (snapIn i t cf body)).toList == s.toList) = true ∧ cf' = cf ∧ body' = body := by
    intro h
    simp only [Bool.and_eq_true, Bool.not_eq_true', beq_iff_eq] at h
    obtain ⟨⟨hq, hok⟩, hsm⟩ := h
    have hok' := hok
    unfold snapOk at hok'
    simp only [Bool.and_eq_true, decide_eq_true_eq] at hok'
    obtain ⟨⟨⟨⟨c1, c2⟩, c3⟩, c4⟩, c5⟩ := hok'
    have hf := confOk_read k4 c1
    subst hf
    obtain ⟨hcs, hcl⟩ := confS_read k4
    have hshort := (confOk_short c1).2
    obtain ⟨rfl, rfl, rfl, rfl, rfl, hq4⟩ := key hq (by omega) c4
    rw [h4] at k4
    simp at k4
    obtain ⟨rfl, rfl⟩ := k4
    refine ⟨?_, rfl, rfl⟩
    subst hq4
    subst hq
    have f3 := short_flag k5
    subst f3
    have g0 : 0 ≤ (0 : Int) ∧ (0 : Int) ≤ inn.size := by omega
    have g1 := numH_range (Lib.hid h1) g0
    have g2 := numH_range (Lib.hid h2) g1
    have g3 := shortH_range (Lib.hid k3) g2
    obtain ⟨-, a5, b5, d5, e5⟩ := short_bytes g3.1 g3.2.1 k5
    obtain ⟨rfl, a3, b3, d3, e3⟩ := short_bytes g2.1 g2.2 k3
    obtain ⟨rfl, a2, b2, d2, e2⟩ := num_bytes h2
    obtain ⟨-, a1, b1, d1, e1⟩ := num_bytes h1
    have hb : snapIn i t cf body = inn.extract 0 p4.toNat := by
      unfold snapIn
      rw [hcs, ← e1, ← e2, ← e3, ← e5]
      simp only [Int.toNat_zero, ByteArray.append_assoc]
      rw [extract_join inn p2.toNat p3.toNat p4.toNat (by omega) (by omega), extract_join inn p1.toNat p2.toNat p4.toNat (by omega) (by omega), extract_join inn 0 p1.toNat p4.toNat (by omega) (by omega)]
    have hsm2 := toList_inj.1 hsm
    have hinn : snapIn i t cf body = inn := sealS_inj (hsm2.trans hsz.1.symm)
    have hp : p4 = (inn.size : Int) := by
      rw [hinn] at hb
      have h2 := congrArg ByteArray.size hb
      simp at h2
      omega
    simp [hok, hsm, hp]
  have pure2 : (fine && (!q4 && p4 == inn.size) && snapOk i t cf body && (sealS (snapIn i t cf body)).toList == s.toList) = true → (!q4' && snapOk i t cf' body' && (sealS (snapIn i t cf' body')).toList == s.toList) = true := by
    intro h
    simp only [Bool.and_eq_true, Bool.not_eq_true', beq_iff_eq] at h
    obtain ⟨⟨⟨hfine, hq, hp⟩, hok⟩, hsm⟩ := h
    obtain ⟨rfl, rfl, rfl, rfl, rfl, hq4⟩ := yek hq
    rw [h4] at k4
    simp at k4
    obtain ⟨rfl, rfl⟩ := k4
    simp [hq4, hok, hsm]
  refine ⟨?_, fun h => (pure1 h).2⟩
  rw [Bool.eq_iff_iff]
  exact ⟨fun h => (pure1 h).1, pure2⟩
end Go.Proofs.Ytlbikcelfheohaa
end

/-! ### YtlbikcelfheohaaMarkIntFnExactReadSnap -/
section
namespace Go.Proofs.Ytlbikcelfheohaa.PFnExactReadSnap
open Go.RowKit Go.Proofs.YtlbikcelfheohaaW.PrintWords
set_option linter.unusedSimpArgs false
set_option linter.unusedVariables false

/-! Numbers marked, held, compared with themselves. (own) -/
def marksI (a : Int) : Nat → List Int
  | 0 => []
  | n + 1 => a :: marksI (a + 1) n
theorem marksI_length : ∀ (n : Nat) (a : Int), (marksI a n).length = n
  | 0, _ => rfl
  | n + 1, a => by simp [marksI, marksI_length n]
theorem marksI_snoc : ∀ (n : Nat) (a : Int), marksI a (n + 1) = marksI a n ++ [a + n]
  | 0, a => by simp [marksI]
  | n + 1, a => by
    have := marksI_snoc n (a + 1)
    rw [marksI, this, marksI, List.cons_append, show a + 1 + (n : Int) = a + ((n + 1 : Nat) : Int) from by omega]
theorem rd_marksI : ∀ (n i : Nat) (a : Int), i < n → rd (marksI a n) i = a + i
  | 0, _, _, h => by omega
  | n + 1, 0, a, _ => by simp [marksI, rd]
  | n + 1, i + 1, a, h => by
    have := rd_marksI n i (a + 1) (by omega)
    have e : rd (marksI a (n + 1)) ((i + 1 : Nat) : Int) = rd (marksI (a + 1) n) (i : Int) := by simp [marksI, rd]
    rw [e, this]; omega
theorem eqI_l0 (xs : List Int) (hl : xs.length ≤ 1099511627776) : ∀ (n k i : Nat), n + i = xs.length → n < k → laws_eqIntS.l0 k xs xs i = some true
  | _, 0, _, _, hk => by omega
  | 0, k + 1, i, h, hk => by
    unfold laws_eqIntS.l0
    rw [if_neg (by omega)]
  | n + 1, k + 1, i, h, hk => by
    have e1 : wrap64 ((i : Int) + 1) = ((i + 1 : Nat) : Int) := by unfold wrap64; omega
    unfold laws_eqIntS.l0
    rw [if_pos (by omega), if_pos (by omega), if_pos (by omega), if_pos rfl, e1]
    clear e1
    exact eqI_l0 xs hl n k (i + 1) (by omega) (by omega)
theorem eqI_f (xs : List Int) (k : Nat) (hk : xs.length < k) (hl : xs.length ≤ 1099511627776) : laws_eqIntS.f k xs xs = some true := by
  unfold laws_eqIntS.f
  rw [if_pos rfl]
  exact eqI_l0 xs hl xs.length k 0 (by omega) hk
theorem markI_l0 (xs : List Int) (m : Int) (hm0 : 0 ≤ m) (hm1 : m ≤ 1099511627776) (hl : xs.length ≤ 1099511627776) : ∀ (n k i : Nat), n + i = xs.length → n < k →
    laws_markIntS.l0 k (marksI m i ++ xs.drop i) (m + i) i = some (m + xs.length, marksI m xs.length)
  | _, 0, _, _, hk => by omega
  | 0, k + 1, i, h, hk => by
    unfold laws_markIntS.l0
    rw [if_neg (by simp [marksI_length]; omega), show i = xs.length from by omega, List.drop_length, List.append_nil]
  | n + 1, k + 1, i, h, hk => by
    have e1 : wrap64 ((i : Int) + 1) = ((i + 1 : Nat) : Int) := by unfold wrap64; omega
    have e2 : wrap64 (m + (i : Int) + 1) = m + ((i + 1 : Nat) : Int) := by unfold wrap64; omega
    unfold laws_markIntS.l0
    rw [if_pos (by simp [marksI_length]; omega), if_pos (by omega), e1, e2]
    clear e1 e2
    have hi : i < xs.length := by omega
    have hs : (marksI m i ++ xs.drop i).set ((i : Int)).toNat (m + i) = marksI m (i + 1) ++ xs.drop (i + 1) := by
      rw [Int.toNat_natCast, List.set_append_right _ _ (by rw [marksI_length]; omega), marksI_length, Nat.sub_self, List.drop_eq_getElem_cons hi, List.set_cons_zero, marksI_snoc, List.append_assoc]
      rfl
    rw [hs]
    exact markI_l0 xs m hm0 hm1 hl n k (i + 1) (by omega) (by omega)
theorem markI_f (xs : List Int) (m : Int) (k : Nat) (hk : xs.length < k) (hm0 : 0 ≤ m) (hm1 : m ≤ 1099511627776) (hl : xs.length ≤ 1099511627776) : laws_markIntS.f k xs m = some (m + xs.length, marksI m xs.length) := by
  have := markI_l0 xs m hm0 hm1 hl xs.length k 0 (by omega) hk
  simpa [laws_markIntS.f, marksI] using this
theorem heldI_l0 (N : Nat) (m : Int) (hm0 : 0 ≤ m) (hm1 : m ≤ 1099511627776) (hl : N ≤ 1099511627776) : ∀ (n k i : Nat), n + i = N → n < k →
    laws_heldIntS.l0 k (marksI m N) (m + i) i = some (m + N)
  | _, 0, _, _, hk => by omega
  | 0, k + 1, i, h, hk => by
    unfold laws_heldIntS.l0
    rw [if_neg (by rw [marksI_length]; omega), show i = N from by omega]
  | n + 1, k + 1, i, h, hk => by
    have e1 : wrap64 ((i : Int) + 1) = ((i + 1 : Nat) : Int) := by unfold wrap64; omega
    have e2 : wrap64 (m + (i : Int) + 1) = m + ((i + 1 : Nat) : Int) := by unfold wrap64; omega
    unfold laws_heldIntS.l0
    rw [if_pos (by rw [marksI_length]; omega), if_pos (by omega), if_pos (rd_marksI N i m (by omega)), e1, e2]
    clear e1 e2
    exact heldI_l0 N m hm0 hm1 hl n k (i + 1) (by omega) (by omega)
theorem heldI_f (N : Nat) (m : Int) (k : Nat) (hk : N < k) (hm0 : 0 ≤ m) (hm1 : m ≤ 1099511627776) (hl : N ≤ 1099511627776) : laws_heldIntS.f k (marksI m N) m = some (m + N) := by
  have := heldI_l0 N m hm0 hm1 hl N k 0 (by omega) hk
  simpa [laws_heldIntS.f] using this
end Go.Proofs.Ytlbikcelfheohaa.PFnExactReadSnap
end

/-! ### YtlbikcelfheohaaSnapFin -/
section
namespace Go.Proofs.Ytlbikcelfheohaa
open Go.RowKit Go.Proofs.YtlbikcelfheohaaW.PrintWords
set_option linter.unusedSimpArgs false
set_option linter.unusedVariables false

theorem laws_eqSnapC (i t : Int) (cf : List Int) (body : ByteArray) (A B : Option Addr) (a b : Nat) (w : World) (hl : cf.length ≤ 1048576) (ha : cf.length ≤ a) (hb : cf.length ≤ b) (hA : Kd.C (Kd.int .i64) w A cf.length cf) (hB : Kd.C (Kd.int .i64) w B cf.length cf) :
    Calls Try.prog 25 #[.agg #[.int .i64 i, .int .i64 t, .slice A cf.length a, .string body], .agg #[.int .i64 i, .int .i64 t, .slice B cf.length b, .string body]] w fun e w' => e = .returned (.bool true) ∧ Below w.heap.size w w' := by
  refine PFnExactReadSnap.laws_eqSnap.calls 1048577 i t A a cf body i t B b cf body true w hA ha hB hb ?_
  unfold PFnExactReadSnap.laws_eqSnap.f
  rw [if_pos rfl, if_pos rfl, PFnExactReadSnap.eqI_f cf 1048577 (by omega) (by omega)]
  simp
theorem laws_markSnapC (i t : Int) (cf : List Int) (body : ByteArray) (v : Value) (P : Nat → Prop) (w0 w : World) (hB : Below w0.heap.size w0 w) (hl : cf.length ≤ 1048576) (hR : Kd.R (Kd.int .i64) 3 w w0.heap.size P v cf) :
    Calls Try.prog 26 #[.agg #[.int .i64 i, .int .i64 t, v, .string body], .int .i64 1] w fun e w' => e = .returned (.int .i64 (1 + cf.length)) ∧ Kd.R (Kd.int .i64) 3 w' w0.heap.size (fun _ => True) v (PFnExactReadSnap.marksI 1 cf.length) ∧ Below w0.heap.size w0 w' ∧ Kept w w' P := by
  refine (PFnExactReadSnap.laws_markSnap.calls 1048577 i t P v cf body 1 (1 + cf.length) (PFnExactReadSnap.marksI 1 cf.length) w0 w hB hR ?_).mono ?_
  · unfold PFnExactReadSnap.laws_markSnap.f
    rw [PFnExactReadSnap.markI_f cf 1 1048577 (by omega) (by omega) (by omega) (by omega)]
    rfl
  · rintro e w' ⟨rfl, h1, h2, h3⟩
    exact ⟨rfl, Kd.R_mono h1 (fun _ _ => trivial), h2, h3⟩
theorem laws_heldSnapC (i t : Int) (N : Nat) (body : ByteArray) (A : Option Addr) (a : Nat) (w : World) (hl : N ≤ 1048576) (ha : N ≤ a) (hA : Kd.C (Kd.int .i64) w A N (PFnExactReadSnap.marksI 1 N)) :
    Calls Try.prog 27 #[.agg #[.int .i64 i, .int .i64 t, .slice A N a, .string body], .int .i64 1] w fun e w' => e = .returned (.int .i64 (1 + N)) ∧ Below w.heap.size w w' := by
  have hn := PFnExactReadSnap.marksI_length N 1
  have := PFnExactReadSnap.laws_heldSnap.calls 1048577 i t A a (PFnExactReadSnap.marksI 1 N) body 1 (1 + N) w (by rw [hn]; exact hA) (by omega) (by
    unfold PFnExactReadSnap.laws_heldSnap.f
    rw [PFnExactReadSnap.heldI_f N 1 1048577 (by omega) (by omega) (by omega) (by omega)]
    simp only [Option.bind_some]
    rw [if_neg (by omega)])
  rw [hn] at this
  exact this

/-- What both hand back. -/
theorem readsnap_both (s : ByteArray) (hs : s.size ≤ 1048576) : ∃ (i t : Int) (cf : List Int) (body : ByteArray) (b : Bool), cf.length ≤ 20000 ∧
    (∀ w, Calls Try.prog 23 #[.string s] w fun e w' => ∃ v, e = .returned (.tuple #[.agg #[.int .i64 i, .int .i64 t, v, .string body], .bool b]) ∧ Kd.R (Kd.int .i64) 3 w' w.heap.size (fun _ => True) v cf ∧ Below w.heap.size w w') ∧
    (∀ w, Calls Try.prog 24 #[.string s] w fun e w' => ∃ v, e = .returned (.tuple #[.agg #[.int .i64 i, .int .i64 t, v, .string body], .bool b]) ∧ Kd.R (Kd.int .i64) 3 w' w.heap.size (fun _ => True) v cf ∧ Below w.heap.size w w') := by
  rcases hin : unS s with ⟨inn, ok⟩
  have hinz := unS_small s
  rw [hin] at hinz
  simp only at hinz
  rcases h1 : rdNum inn 0 false with ⟨i, p1, q1⟩
  rcases h2 : rdNum inn p1 q1 with ⟨t, p2, q2⟩
  rcases h3 : rdText inn p2 q2 with ⟨ct, p3, q3⟩
  rcases h4 : readConf ct with ⟨cf, fine⟩
  rcases h5 : rdText inn p3 q3 with ⟨body, p4, q4⟩
  obtain ⟨sk, hsk⟩ : ∃ sk, snapOk i t cf body = sk := ⟨_, rfl⟩
  obtain ⟨dn, hdn⟩ : ∃ dn, (!q4 && p4 == inn.size) = dn := ⟨_, rfl⟩
  obtain ⟨sm, hsm⟩ : ∃ sm, ((sealS (snapIn i t cf body)).toList == s.toList) = sm := ⟨_, rfl⟩
  have hI : ∀ w, Calls Try.prog 24 #[.string s] w fun e w' => ∃ v, e = .returned (.tuple #[pickC (ok && (fine && dn && sk && sm)) (.agg #[.int .i64 i, .int .i64 t, v, .string body]) (.agg #[.int .i64 0, .int .i64 0, v, .string ⟨#[]⟩]), .bool (ok && (fine && dn && sk && sm))]) ∧ Kd.R (Kd.int .i64) 3 w' w.heap.size (fun _ => True) v (if (ok && (fine && dn && sk && sm)) = true then cf else []) ∧ Below w.heap.size w w' := by
    intro w
    cases hok : ok with
    | false => exact impl_ReadSnap_no1 s inn ok i t ct body p1 p2 p3 p4 q1 q2 q3 q4 fine cf w hs (Lib.hid hin) (Lib.hid h1) (Lib.hid h2) (Lib.hid h3) (Lib.hid h4) (Lib.hid h5) hok
    | true =>
      cases hf : fine with
      | false => exact impl_ReadSnap_no2 s inn ok i t ct body p1 p2 p3 p4 q1 q2 q3 q4 fine cf w hs (Lib.hid hin) (Lib.hid h1) (Lib.hid h2) (Lib.hid h3) (Lib.hid h4) (Lib.hid h5) hok hf
      | true =>
        cases hd : dn with
        | false => exact impl_ReadSnap_no3 s inn ok i t ct body p1 p2 p3 p4 q1 q2 q3 q4 fine cf w hs (Lib.hid hin) (Lib.hid h1) (Lib.hid h2) (Lib.hid h3) (Lib.hid h4) (Lib.hid h5) hok hf dn (Lib.hid hdn) hd
        | true =>
          cases hk : sk with
          | false => exact impl_ReadSnap_no4 s inn ok i t ct body p1 p2 p3 p4 q1 q2 q3 q4 fine cf w hs (Lib.hid hin) (Lib.hid h1) (Lib.hid h2) (Lib.hid h3) (Lib.hid h4) (Lib.hid h5) hok hf (Lib.hid (hdn.trans hd)) (Lib.hid (hsk.trans hk))
          | true =>
            cases hm : sm with
            | false => exact impl_ReadSnap_no5 s inn ok i t ct body p1 p2 p3 p4 q1 q2 q3 q4 fine cf w hs (Lib.hid hin) (Lib.hid h1) (Lib.hid h2) (Lib.hid h3) (Lib.hid h4) (Lib.hid h5) hok hf (Lib.hid (hdn.trans hd)) (Lib.hid (hsk.trans hk)) (by rw [hsm, hm]; rfl)
            | true => exact impl_ReadSnap_yes s inn ok i t ct body p1 p2 p3 p4 q1 q2 q3 q4 fine cf w hs (Lib.hid hin) (Lib.hid h1) (Lib.hid h2) (Lib.hid h3) (Lib.hid h4) (Lib.hid h5) hok hf (Lib.hid (hdn.trans hd)) (Lib.hid (hsk.trans hk)) (by rw [hsm, hm]; rfl)
  have hcl : cf.length ≤ 20000 := by
    have h0 := readConf_len ct
    have g0 : 0 ≤ (0 : Int) ∧ (0 : Int) ≤ inn.size := by omega
    have g3 := textH_range (Lib.hid h3) (numH_range (Lib.hid h2) (numH_range (Lib.hid h1) g0))
    rw [h4] at h0
    simp only at h0
    omega
  cases ok with
  | false =>
    refine ⟨0, 0, [], ⟨#[]⟩, false, by simp, fun w => ?_, hI⟩
    rcases k1 : rdNum inn 0 (!false) with ⟨i', p1', q1'⟩
    rcases k2 : rdNum inn p1' q1' with ⟨t', p2', q2'⟩
    rcases k3 : rdShort inn p2' q2' with ⟨ct', p3', q3'⟩
    rcases k4 : readConf ct' with ⟨cf', fine'⟩
    rcases k5 : rdShort inn p3' q3' with ⟨body', p4', q4'⟩
    have hq : q4' = true := by
      cases q4' with
      | true => rfl
      | false =>
        have f3 := short_flag k5
        subst f3
        have f2 := short_flag k3
        subst f2
        obtain ⟨f1, -⟩ := num_bytes k2
        subst f1
        obtain ⟨f0, -⟩ := num_bytes k1
        cases f0
    exact spec_ReadSnap_no1 s inn false i' t' ct' body' p1' p2' p3' p4' q1' q2' q3' q4' fine' cf' w hs (Lib.hid hin) (Lib.hid k1) (Lib.hid k2) (Lib.hid k3) (Lib.hid k4) (Lib.hid k5) rfl _ (Lib.hid rfl) hq
  | true =>
    rcases k3 : rdShort inn p2 q2 with ⟨ct', p3', q3'⟩
    rcases k4 : readConf ct' with ⟨cf', fine'⟩
    rcases k5 : rdShort inn p3' q3' with ⟨body', p4', q4'⟩
    obtain ⟨e1, e2⟩ := readsnap_same hin h1 h2 h3 h4 h5 k3 k4 k5
    rw [hdn, hsk, hsm] at e1
    obtain ⟨sk', hsk'⟩ : ∃ sk', snapOk i t cf' body' = sk' := ⟨_, rfl⟩
    obtain ⟨sm', hsm'⟩ : ∃ sm', ((sealS (snapIn i t cf' body')).toList == s.toList) = sm' := ⟨_, rfl⟩
    rw [hsk', hsm'] at e1 e2
    have hS : ∀ w, Calls Try.prog 23 #[.string s] w fun e w' => ∃ v, e = .returned (.tuple #[pickC (!q4' && sk' && sm') (.agg #[.int .i64 i, .int .i64 t, v, .string body']) (.agg #[.int .i64 0, .int .i64 0, v, .string ⟨#[]⟩]), .bool (!q4' && sk' && sm')]) ∧ Kd.R (Kd.int .i64) 3 w' w.heap.size (fun _ => True) v (if (!q4' && sk' && sm') = true then cf' else []) ∧ Below w.heap.size w w' := by
      intro w
      cases hq : q4' with
      | true => exact spec_ReadSnap_no2 s inn true i t ct' body' p1 p2 p3' p4' q1 q2 q3' q4' fine' cf' w hs (Lib.hid hin) (Lib.hid h1) (Lib.hid h2) (Lib.hid k3) (Lib.hid k4) (Lib.hid k5) rfl _ (Lib.hid hsk') hq
      | false =>
        cases hk : sk' with
        | false => exact spec_ReadSnap_no3 s inn true i t ct' body' p1 p2 p3' p4' q1 q2 q3' q4' fine' cf' w hs (Lib.hid hin) (Lib.hid h1) (Lib.hid h2) (Lib.hid k3) (Lib.hid k4) (Lib.hid k5) rfl _ (Lib.hid hsk') hq hk
        | true =>
          cases hm : sm' with
          | false => exact spec_ReadSnap_no4 s inn true i t ct' body' p1 p2 p3' p4' q1 q2 q3' q4' fine' cf' w hs (Lib.hid hin) (Lib.hid h1) (Lib.hid h2) (Lib.hid k3) (Lib.hid k4) (Lib.hid k5) rfl _ (Lib.hid hsk') hq hk (by rw [hsm', hm]; rfl)
          | true => exact spec_ReadSnap_yes s inn true i t ct' body' p1 p2 p3' p4' q1 q2 q3' q4' fine' cf' w hs (Lib.hid hin) (Lib.hid h1) (Lib.hid h2) (Lib.hid k3) (Lib.hid k4) (Lib.hid k5) rfl _ (Lib.hid hsk') hq hk (by rw [hsm', hm]; rfl)
    rw [e1] at hS e2
    simp only [Bool.true_and] at hI
    cases hg : (fine && dn && sk && sm) with
    | false =>
      rw [hg] at hS hI
      exact ⟨0, 0, [], ⟨#[]⟩, false, by simp, hS, hI⟩
    | true =>
      rw [hg] at hS hI
      obtain ⟨rfl, rfl⟩ := e2 hg
      exact ⟨i, t, cf', body', true, hcl, hS, hI⟩

set_option maxHeartbeats 2000000 in
set_option maxRecDepth 100000 in
theorem FnExactReadSnap_walk (v : Value) (W : World) (h : ArgOf Try.prog W 9 v) :
    Calls Try.prog 7 #[v] W fun e w' => e = .returned (.bool true) ∧ Below W.heap.size W w' := by
  obtain ⟨s, rfl, hsm⟩ := arg_string Try.underlying9 h
  clear h
  unfold maxLen at hsm
  by_cases hs : s.size ≤ 1048576
  · obtain ⟨i, t, cf, body, b, hcl, hS, hI⟩ := readsnap_both s hs
    have HS := Lib.hid hS
    have HI := Lib.hid hI
    clear hS hI
    go_enter Try.func7, Try.ntmps7
    go_wp2_with fail
    refine (HS.out _).mono ?_
    rintro e w1 ⟨v1, rfl, V1, hb1⟩
    obtain ⟨A1, c1, rfl, hc1, C1⟩ := Kd.R_reads V1
    have HB1 : Below W.heap.size W w1 := (by repeat (first | exact Below.refl _ _ | apply bl_alloc | apply bl_drewN | apply bl_drew | refine bl_set ?_ (by simp) | refine bl_then ?_ (by assumption)))
    have D1 := Lib.hid C1
    clear V1 C1 hb1
    go_wp2_with fail
    refine (HI.out _).mono ?_
    rintro e w2 ⟨v2, rfl, V2, hb2⟩
    obtain ⟨X, hX⟩ : ∃ X, w1.alloc (.cells #[.int .i64 i, .int .i64 t, .slice A1 cf.length c1, .string body] 48) = X := ⟨_, rfl⟩
    have KX : Blk 48 w1.heap.size #[.int .i64 i, .int .i64 t, .slice A1 cf.length c1, .string body] X := by rw [← hX]; exact Blk.new _ _ w1
    have HX : Below W.heap.size W X := by rw [← hX]; exact bl_alloc HB1 _
    have DX : Kd.C (Kd.int .i64) X A1 cf.length cf := by rw [← hX]; exact Kd.C_below D1.out (bl_alloc (Below.refl _ _) _)
    rw [hX] at V2 hb2
    clear hX HB1 D1
    have DX := Lib.hid DX
    obtain ⟨A2, c2, rfl, hc2, -⟩ := Kd.R_reads V2
    have E2 : Hid (Kd.R (Kd.int .i64) 3 w2 X.heap.size (fun k => k < w2.heap.size) (.slice A2 cf.length c2) cf) := Lib.hid (Kd.R_mono (Kd.R_bound V2) fun k hk => hk.2.2.1)
    have hX2 : X.heap.size ≤ w2.heap.size := hb2.size
    have K2 := KX.below hb2
    have HB2 : Below X.heap.size X w2 := hb2
    have hz2 := K2.lt
    clear V2 hb2
    have a0 := K2.cell 0 rfl
    have a1 := K2.cell 1 rfl
    have a2 := K2.cell 2 rfl
    have a3 := K2.cell 3 rfl
    go_wp2_with fail
    obtain ⟨A', c', he', -, hCE⟩ := Kd.R_reads E2.out
    obtain ⟨rfl, -, rfl⟩ : A2 = A' ∧ True ∧ c2 = c' := by injection he' with a b c; exact ⟨a, trivial, c⟩
    with_reducible refine (laws_eqSnapC i t cf body _ _ _ _ _ (by omega) hc2 hc1 (Kd.C_below hCE (bl_alloc (Below.refl _ _) _)) (Kd.C_below DX.out (bl_alloc HB2 _))).mono ?_
    rintro e w3 ⟨rfl, hb3⟩
    have K3 := (K2.alloc _).below hb3
    have G3 : Blk 48 w2.heap.size #[.int .i64 i, .int .i64 t, .slice A2 cf.length c2, .string body] w3 := (Blk.new _ _ w2).below hb3
    have E3 := Lib.hid (Kd.R_below (Kd.R_below E2.out (bl_alloc (Below.refl _ _) _)) hb3)
    have HB3 : Below X.heap.size X w3 := bl_then (bl_alloc HB2 _) hb3
    have hz3 := G3.lt
    clear K2 E2 HB2 hb3 a0 a1 a2 a3 he' hCE
    have g0 := G3.cell 0 rfl
    have g1 := G3.cell 1 rfl
    have g2 := G3.cell 2 rfl
    have g3 := G3.cell 3 rfl
    go_wp2_with fail
    with_reducible refine (laws_markSnapC i t cf body _ _ X w3 HB3 (by omega) E3.out).mono ?_
    rintro e w4 ⟨rfl, E4, HB4, hk4⟩
    have G4 : Blk 48 w2.heap.size #[.int .i64 i, .int .i64 t, .slice A2 cf.length c2, .string body] w4 := (hk4.2 _ G3.lt (by omega)).trans G3
    have K4 := KX.below HB4
    have hz4 := G4.lt
    have E4 := Lib.hid E4
    clear hk4 G3 K3 E3 HB3 g0 g1 g2 g3
    have g0 := G4.cell 0 rfl
    have g1 := G4.cell 1 rfl
    have g2 := G4.cell 2 rfl
    have g3 := G4.cell 3 rfl
    obtain ⟨A', c', he', hc', hCE⟩ := Kd.R_reads E4.out
    rw [PFnExactReadSnap.marksI_length] at he' hc' hCE
    obtain ⟨rfl, -, rfl⟩ : A2 = A' ∧ True ∧ c2 = c' := by injection he' with a b c; exact ⟨a, trivial, c⟩
    go_wp2_with fail
    with_reducible refine (laws_heldSnapC i t cf.length body _ _ _ (by omega) hc2 hCE).mono ?_
    rintro e w5 ⟨rfl, hb5⟩
    have K5 := K4.below hb5
    have G5 := G4.below hb5
    have E5 := Lib.hid (Kd.R_below E4.out hb5)
    have HB5 : Below X.heap.size X w5 := bl_then HB4 hb5
    have hz5 := G5.lt
    clear K4 G4 E4 HB4 hb5 g0 g1 g2 g3 hc' hCE hz4
    have n1 : ¬ (1 + (cf.length : Int) < 0) := by omega
    go_wp2_with fail
    refine (HI.out _).mono ?_
    rintro e w6 ⟨v6, rfl, V6, hb6⟩
    obtain ⟨A6, c6, rfl, hc6, C6⟩ := Kd.R_reads V6
    have K6 := K5.below hb6
    have G6 := G5.below hb6
    have E6 := Lib.hid (Kd.R_below E5.out hb6)
    have HB6 : Below X.heap.size X w6 := bl_then HB5 hb6
    have D6 := Lib.hid C6
    have hz6 := G6.lt
    clear K5 G5 E5 HB5 hb6 V6 C6 hz5
    have a0 := K6.cell 0 rfl
    have a1 := K6.cell 1 rfl
    have a2 := K6.cell 2 rfl
    have a3 := K6.cell 3 rfl
    have hz6k := K6.lt
    go_wp2_with fail
    with_reducible refine (laws_eqSnapC i t cf body _ _ _ _ _ (by omega) hc6 hc1 (Kd.C_below D6.out (by repeat (first | exact Below.refl _ _ | apply bl_alloc | apply bl_drewN | apply bl_drew | refine bl_set ?_ (by simp) | refine bl_then ?_ (by assumption)))) (Kd.C_below DX.out (bl_then HB6 (by repeat (first | exact Below.refl _ _ | apply bl_alloc | apply bl_drewN | apply bl_drew | refine bl_set ?_ (by simp) | refine bl_then ?_ (by assumption)))))).mono ?_
    rintro e w7 ⟨rfl, hb7⟩
    have G7 := (G6.alloc _).below hb7
    have E7 := Lib.hid (Kd.R_below (Kd.R_below E6.out (bl_alloc (Below.refl _ _) _)) hb7)
    have HB7 : Below X.heap.size X w7 := bl_then (bl_alloc HB6 _) hb7
    clear K6 G6 E6 HB6 hb7 a0 a1 a2 a3 hz6 hz6k
    have g0 := G7.cell 0 rfl
    have g1 := G7.cell 1 rfl
    have g2 := G7.cell 2 rfl
    have g3 := G7.cell 3 rfl
    obtain ⟨A', c', he', hc', hCE⟩ := Kd.R_reads E7.out
    rw [PFnExactReadSnap.marksI_length] at he' hc' hCE
    obtain ⟨rfl, -, rfl⟩ : A2 = A' ∧ True ∧ c2 = c' := by injection he' with a b c; exact ⟨a, trivial, c⟩
    go_wp2_with fail
    with_reducible refine (laws_heldSnapC i t cf.length body _ _ _ (by omega) hc2 hCE).mono ?_
    rintro e w8 ⟨rfl, hb8⟩
    have HB8 : Below W.heap.size W w8 := bl_then HX ⟨(bl_then HB7 hb8).os, (bl_then HB7 hb8).tape, (bl_then HB7 hb8).output, (bl_then HB7 hb8).size, (bl_then HB7 hb8).block⟩
    clear g0 g1 g2 g3 hc' hCE G7 E7 HB7 hb8
    go_wp2
    go_ret
    exact ⟨rfl, HB8⟩
  · go_enter Try.func7, Try.ntmps7
    go_wp2
    go_ret
    exact ⟨rfl, (by repeat (first | exact Below.refl _ _ | apply bl_alloc | apply bl_drewN | apply bl_drew | refine bl_set ?_ (by simp) | refine bl_then ?_ (by assumption)))⟩
end Go.Proofs.Ytlbikcelfheohaa
end
