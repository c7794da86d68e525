import Derived.Test.YtlbikcelfheohaaState
import Derived.Test.YtlbikcelfheohaaCmdText
namespace Go.Proofs.Ytlbikcelfheohaa
open Go.RowKit Go.Proofs.YtlbikcelfheohaaW.PrintWords
set_option linter.unusedSimpArgs false
set_option linter.unusedVariables false

theorem impl_byteH (g : Nat) (s : ByteArray) (p : Int) (bad : Bool) (n : Int) (p' : Int) (bad' : Bool) (w : World) (h : Hid (rdByte s p bad = (n, p', bad'))) (hs : s.size ≤ 1099511627776) (hp0 : 0 ≤ p) (hp1 : p ≤ s.size) (hR : Rd 85 g s p bad w) :
    Calls Try.prog 45 #[.pointer (some ⟨g, 0, none⟩)] w fun e w' => e = .returned (.int .i64 n) ∧ Rd 85 g s p' bad' w' ∧ Upd g w w' := by
  have := impl_byte g s p bad w hs hp0 hp1 hR
  rw [h.out] at this
  exact this

theorem impl_numberH (g : Nat) (s : ByteArray) (p : Int) (bad : Bool) (n : Int) (p' : Int) (bad' : Bool) (w : World) (h : Hid (rdNum s p bad = (n, p', bad'))) (hs : s.size ≤ 1099511627776) (hR : Rd 85 g s p bad w) :
    Calls Try.prog 46 #[.pointer (some ⟨g, 0, none⟩)] w fun e w' => e = .returned (.int .i64 n) ∧ Rd 85 g s p' bad' w' ∧ Upd g w w' := by
  have := impl_number g s p bad w hs hR
  rw [h.out] at this
  exact this

theorem impl_textH (g : Nat) (s : ByteArray) (p : Int) (bad : Bool) (n : ByteArray) (p' : Int) (bad' : Bool) (w : World) (h : Hid (rdText s p bad = (n, p', bad'))) (hs : s.size ≤ 1099511627776) (hR : Rd 85 g s p bad w) :
    Calls Try.prog 47 #[.pointer (some ⟨g, 0, none⟩)] w fun e w' => e = .returned (.string n) ∧ Rd 85 g s p' bad' w' ∧ Upd g w w' := by
  have := impl_text g s p bad w hs hR
  rw [h.out] at this
  exact this

theorem spec_l10OneH (g : Nat) (s : ByteArray) (p : Int) (bad : Bool) (n : Int) (p' : Int) (bad' : Bool) (w : World) (h : Hid (rdByte s p bad = (n, p', bad'))) (hs : s.size ≤ 1099511627776) (hp0 : 0 ≤ p) (hp1 : p ≤ s.size) (hR : Rd 80 g s p bad w) :
    Calls Try.prog 42 #[.pointer (some ⟨g, 0, none⟩)] w fun e w' => e = .returned (.int .i64 n) ∧ Rd 80 g s p' bad' w' ∧ Upd g w w' := by
  have := spec_l10One g s p bad w hs hp0 hp1 hR
  rw [h.out] at this
  exact this

theorem spec_l05VarH (g : Nat) (s : ByteArray) (p : Int) (bad : Bool) (n : Int) (p' : Int) (bad' : Bool) (w : World) (h : Hid (rdNum s p bad = (n, p', bad'))) (hs : s.size ≤ 1099511627776) (hR : Rd 80 g s p bad w) :
    Calls Try.prog 43 #[.pointer (some ⟨g, 0, none⟩)] w fun e w' => e = .returned (.int .i64 n) ∧ Rd 80 g s p' bad' w' ∧ Upd g w w' := by
  have := spec_l05Var g s p bad w hs hR
  rw [h.out] at this
  exact this

theorem spec_l05ReadShortH (g : Nat) (s : ByteArray) (p : Int) (bad : Bool) (n : ByteArray) (p' : Int) (bad' : Bool) (w : World) (h : Hid (rdShort s p bad = (n, p', bad'))) (hs : s.size ≤ 1099511627776) (hp0 : 0 ≤ p) (hp1 : p ≤ s.size) (hR : Rd 80 g s p bad w) :
    Calls Try.prog 44 #[.pointer (some ⟨g, 0, none⟩)] w fun e w' => e = .returned (.string n) ∧ Rd 80 g s p' bad' w' ∧ Upd g w w' := by
  have := spec_l05ReadShort g s p bad w hs hp0 hp1 hR
  rw [h.out] at this
  exact this

theorem bl_upd2 {w W w2 : World} {g : Nat} (k : Upd g W w2) (h : Below w.heap.size w W) (hg : w.heap.size ≤ g) : Below w.heap.size w w2 := k.below h hg
theorem bl_upd {w W w2 : World} {g : Nat} (h : Below w.heap.size w W) (hg : w.heap.size ≤ g) (k : Upd g W w2) : Below w.heap.size w w2 := k.below h hg
theorem rd_new {T g : Nat} {s : ByteArray} {p : Int} {bad : Bool} {W : World} (h : g = W.heap.size) : Rd T g s p bad (W.alloc (.cells #[.string s, .int .i64 p, .bool bad] T)) := by
  subst h
  exact Rd.new T s p bad W
theorem numH_range {s : ByteArray} {p : Int} {bad : Bool} {n p' : Int} {bad' : Bool} (h : Hid (rdNum s p bad = (n, p', bad'))) (hp : 0 ≤ p ∧ p ≤ s.size) : 0 ≤ p' ∧ p' ≤ s.size := by
  have := rdNum_range s p bad hp.1 hp.2
  rw [h.out] at this
  exact this.2.2
theorem byteH_range {s : ByteArray} {p : Int} {bad : Bool} {n p' : Int} {bad' : Bool} (h : Hid (rdByte s p bad = (n, p', bad'))) (hp : 0 ≤ p ∧ p ≤ s.size) : 0 ≤ p' ∧ p' ≤ s.size := by
  have := rdByte_range s p bad hp.1 hp.2
  rw [h.out] at this
  exact this.2.2

/-- One value or another. -/
def pickC (b : Bool) (x y : Value) : Value := cond b x y
/-- The result's block: a command of noughts. -/
def ResBlk (g : Nat) (W : World) : Prop := W.heap[g]? = some (.cells #[.int .i64 0, .int .i64 0, .int .i64 0, .int .i64 0, .int .i64 0, .int .i64 0, .int .i64 0, .int .i64 0, .string ⟨#[]⟩] 26 (0, 0))
theorem ResBlk.lt {g : Nat} {W : World} (h : ResBlk g W) : g < W.heap.size := by
  unfold ResBlk at h
  rcases Nat.lt_or_ge g W.heap.size with h1 | h1
  · exact h1
  · rw [Array.getElem?_eq_none h1] at h; cases h
theorem resblk_new (w : World) (o : Obj) : ResBlk w.heap.size ((w.alloc (.cells #[.int .i64 0, .int .i64 0, .int .i64 0, .int .i64 0, .int .i64 0, .int .i64 0, .int .i64 0, .int .i64 0, .string ⟨#[]⟩] 26)).alloc o) := by
  unfold ResBlk
  rw [Below.heap_alloc _ _ _ (by simp)]
  simpa using heap_alloc_new w _
theorem resblk_alloc {g : Nat} {W : World} (h : ResBlk g W) (o : Obj) : ResBlk g (W.alloc o) := (Below.heap_alloc W o g h.lt).trans h
theorem resblk_far {g : Nat} {W : World} (h : ResBlk g W) {a : Addr} (hg : g ≠ a.block) (v : Value) : ResBlk g (W.setCell a v) := (Below.heap_setCell W a v g hg).trans h
theorem resblk_below {g : Nat} {W W1 : World} (h : ResBlk g W) (hb : Below W.heap.size W W1) : ResBlk g W1 := (hb.block g h.lt).trans h
theorem resblk_cells {g : Nat} {W : World} (h : ResBlk g W) : W.cell? ⟨g, 0, none⟩ = some (.int .i64 0) ∧ W.cell? ⟨g, 1, none⟩ = some (.int .i64 0) ∧ W.cell? ⟨g, 2, none⟩ = some (.int .i64 0) ∧ W.cell? ⟨g, 3, none⟩ = some (.int .i64 0) ∧ W.cell? ⟨g, 4, none⟩ = some (.int .i64 0) ∧ W.cell? ⟨g, 5, none⟩ = some (.int .i64 0) ∧ W.cell? ⟨g, 6, none⟩ = some (.int .i64 0) ∧ W.cell? ⟨g, 7, none⟩ = some (.int .i64 0) ∧ W.cell? ⟨g, 8, none⟩ = some (.string ⟨#[]⟩) := by
  unfold ResBlk at h
  refine ⟨?_, ?_, ?_, ?_, ?_, ?_, ?_, ?_, ?_⟩ <;> simp [World.cell?, h]
theorem impl_doneH (g : Nat) (s : ByteArray) (p : Int) (bad dn : Bool) (w : World) (h : Hid ((!bad && p == s.size) = dn)) (hR : Rd 85 g s p bad w) :
    Calls Try.prog 48 #[.pointer (some ⟨g, 0, none⟩)] w fun e w' => e = .returned (.bool dn) ∧ Rd 85 g s p bad w' ∧ Upd g w w' := by
  have := impl_done g s p bad w hR
  rw [h.out] at this
  exact this
theorem impl_CommandOkH (op tok seq topic dev edge ep up : Int) (tx : ByteArray) (ck : Bool) (w : World) (h : Hid (cmdOk op tok seq topic dev edge ep up tx = ck)) :
    Calls Try.prog 12 #[.agg #[.int .i64 op, .int .i64 tok, .int .i64 seq, .int .i64 topic, .int .i64 dev, .int .i64 edge, .int .i64 ep, .int .i64 up, .string tx]] w fun e w' => e = .returned (.bool ck) ∧ Below w.heap.size w w' := by
  have := impl_CommandOk op tok seq topic dev edge ep up tx w
  rw [h.out] at this
  exact this
theorem spec_CommandTextH (op tok seq topic dev edge ep up : Int) (tx : ByteArray) (ck : Bool) (w : World) (h : Hid (cmdOk op tok seq topic dev edge ep up tx = ck)) :
    Calls Try.prog 13 #[.agg #[.int .i64 op, .int .i64 tok, .int .i64 seq, .int .i64 topic, .int .i64 dev, .int .i64 edge, .int .i64 ep, .int .i64 up, .string tx]] w fun e w' => e = .returned (.tuple #[.string (if ck then cmdS op tok seq topic dev edge ep up tx else ⟨#[]⟩), .bool ck]) ∧ Below w.heap.size w w' := by
  have := spec_CommandText op tok seq topic dev edge ep up tx w
  rw [h.out] at this
  exact this

set_option maxHeartbeats 4000000 in
set_option maxRecDepth 100000 in
theorem impl_ReadCommand (s : ByteArray) (w : World) (hs : s.size ≤ 1099511627776) (op tok seq topic dev edge ep up : Int) (tx : ByteArray) (p1 p2 p3 p4 p5 p6 p7 p8 p9 : Int) (q1 q2 q3 q4 q5 q6 q7 q8 q9 : Bool)
    (h1 : Hid (rdByte s 0 false = (op, p1, q1))) (h2 : Hid (rdNum s p1 q1 = (tok, p2, q2))) (h3 : Hid (rdNum s p2 q2 = (seq, p3, q3))) (h4 : Hid (rdByte s p3 q3 = (topic, p4, q4))) (h5 : Hid (rdByte s p4 q4 = (dev, p5, q5))) (h6 : Hid (rdByte s p5 q5 = (edge, p6, q6))) (h7 : Hid (rdNum s p6 q6 = (ep, p7, q7))) (h8 : Hid (rdNum s p7 q7 = (up, p8, q8))) (h9 : Hid (rdText s p8 q8 = (tx, p9, q9))) :
    Calls Try.prog 16 #[.string s] w fun e w' => e = .returned (.tuple #[pickC (!q9 && p9 == s.size && cmdOk op tok seq topic dev edge ep up tx) (.agg #[.int .i64 op, .int .i64 tok, .int .i64 seq, .int .i64 topic, .int .i64 dev, .int .i64 edge, .int .i64 ep, .int .i64 up, .string tx]) (.agg #[.int .i64 0, .int .i64 0, .int .i64 0, .int .i64 0, .int .i64 0, .int .i64 0, .int .i64 0, .int .i64 0, .string ⟨#[]⟩]), .bool (!q9 && p9 == s.size && cmdOk op tok seq topic dev edge ep up tx)]) ∧ Below w.heap.size w w' := by
  have g0 : 0 ≤ (0 : Int) ∧ (0 : Int) ≤ s.size := by omega
  have g1 := byteH_range h1 g0
  have g2 := numH_range h2 g1
  have g3 := numH_range h3 g2
  have g4 := byteH_range h4 g3
  have g5 := byteH_range h5 g4
  have g6 := byteH_range h6 g5
  have g7 := numH_range h7 g6
  have g8 := numH_range h8 g7
  obtain ⟨ck, hck⟩ : ∃ ck, Hid (cmdOk op tok seq topic dev edge ep up tx = ck) := ⟨_, Lib.hid rfl⟩
  obtain ⟨dn, hdn⟩ : ∃ dn, Hid ((!q9 && p9 == s.size) = dn) := ⟨_, Lib.hid rfl⟩
  rw [show (!q9 && p9 == s.size && cmdOk op tok seq topic dev edge ep up tx) = (dn && ck) from by rw [hdn.out, hck.out]]
  rcases dn with _ | _ <;> rcases ck with _ | _
  · rw [show pickC (false && false) (.agg #[.int .i64 op, .int .i64 tok, .int .i64 seq, .int .i64 topic, .int .i64 dev, .int .i64 edge, .int .i64 ep, .int .i64 up, .string tx]) (.agg #[.int .i64 0, .int .i64 0, .int .i64 0, .int .i64 0, .int .i64 0, .int .i64 0, .int .i64 0, .int .i64 0, .string ⟨#[]⟩]) = .agg #[.int .i64 0, .int .i64 0, .int .i64 0, .int .i64 0, .int .i64 0, .int .i64 0, .int .i64 0, .int .i64 0, .string ⟨#[]⟩] from rfl, show (false && false) = false from rfl]
    go_enter Try.func16, Try.ntmps16
    go_wp2_with fail
    with_reducible refine (impl_byteH _ _ _ _ _ _ _ _ h1 hs g0.1 g0.2 (rd_new (by simp))).mono ?_
    rintro e w1 ⟨rfl, hR1, hU1⟩
    obtain ⟨hc1, hf1⟩ := ucell hU1
    have hz1 : w.heap.size + 1 < w1.heap.size := by have := hU1.size; simp at this; omega
    have hgx : w.heap.size + 1 ≠ w1.heap.size := by omega
    have hgy : w1.heap.size ≠ w.heap.size + 1 := by omega
    have hgz : w.heap.size ≠ w1.heap.size := by omega
    have hgw : w1.heap.size ≠ w.heap.size := by omega
    have hy1 : w.heap.size < w1.heap.size := by omega
    have hb1 : ResBlk w.heap.size w1 := (hU1.block _ (by simp; omega) (by omega)).trans (resblk_new w _)
    go_wp2_with fail
    with_reducible refine (impl_numberH _ _ _ _ _ _ _ _ h2 hs ((hR1.below (bl_alloc (Below.refl _ _) _)))).mono ?_
    rintro e w2 ⟨rfl, hR2, hU2⟩
    obtain ⟨hc2, hf2⟩ := ucell hU2
    have hz2 : w1.heap.size < w2.heap.size := by have := hU2.size; simp at this; omega
    have hy2 : w.heap.size < w2.heap.size := by omega
    have hb2 : ResBlk w.heap.size w2 := (hU2.block _ (by simp; omega) (by omega)).trans (resblk_alloc hb1 _)
    go_wp2_with fail
    with_reducible refine (impl_numberH _ _ _ _ _ _ _ _ h3 hs (hR2.far hgx _)).mono ?_
    rintro e w3 ⟨rfl, hR3, hU3⟩
    obtain ⟨hc3, hf3⟩ := ucell hU3
    have hz3 : w1.heap.size < w3.heap.size := by have := hU3.size; simp at this; omega
    have hy3 : w.heap.size < w3.heap.size := by omega
    have hb3 : ResBlk w.heap.size w3 := (hU3.block _ (by simp; omega) (by omega)).trans (resblk_far hb2 hgz _)
    go_wp2_with fail
    with_reducible refine (impl_byteH _ _ _ _ _ _ _ _ h4 hs g3.1 g3.2 (hR3.far hgx _)).mono ?_
    rintro e w4 ⟨rfl, hR4, hU4⟩
    obtain ⟨hc4, hf4⟩ := ucell hU4
    have hz4 : w1.heap.size < w4.heap.size := by have := hU4.size; simp at this; omega
    have hy4 : w.heap.size < w4.heap.size := by omega
    have hb4 : ResBlk w.heap.size w4 := (hU4.block _ (by simp; omega) (by omega)).trans (resblk_far hb3 hgz _)
    go_wp2_with fail
    with_reducible refine (impl_byteH _ _ _ _ _ _ _ _ h5 hs g4.1 g4.2 (hR4.far hgx _)).mono ?_
    rintro e w5 ⟨rfl, hR5, hU5⟩
    obtain ⟨hc5, hf5⟩ := ucell hU5
    have hz5 : w1.heap.size < w5.heap.size := by have := hU5.size; simp at this; omega
    have hy5 : w.heap.size < w5.heap.size := by omega
    have hb5 : ResBlk w.heap.size w5 := (hU5.block _ (by simp; omega) (by omega)).trans (resblk_far hb4 hgz _)
    go_wp2_with fail
    with_reducible refine (impl_byteH _ _ _ _ _ _ _ _ h6 hs g5.1 g5.2 (hR5.far hgx _)).mono ?_
    rintro e w6 ⟨rfl, hR6, hU6⟩
    obtain ⟨hc6, hf6⟩ := ucell hU6
    have hz6 : w1.heap.size < w6.heap.size := by have := hU6.size; simp at this; omega
    have hy6 : w.heap.size < w6.heap.size := by omega
    have hb6 : ResBlk w.heap.size w6 := (hU6.block _ (by simp; omega) (by omega)).trans (resblk_far hb5 hgz _)
    go_wp2_with fail
    with_reducible refine (impl_numberH _ _ _ _ _ _ _ _ h7 hs (hR6.far hgx _)).mono ?_
    rintro e w7 ⟨rfl, hR7, hU7⟩
    obtain ⟨hc7, hf7⟩ := ucell hU7
    have hz7 : w1.heap.size < w7.heap.size := by have := hU7.size; simp at this; omega
    have hy7 : w.heap.size < w7.heap.size := by omega
    have hb7 : ResBlk w.heap.size w7 := (hU7.block _ (by simp; omega) (by omega)).trans (resblk_far hb6 hgz _)
    go_wp2_with fail
    with_reducible refine (impl_numberH _ _ _ _ _ _ _ _ h8 hs (hR7.far hgx _)).mono ?_
    rintro e w8 ⟨rfl, hR8, hU8⟩
    obtain ⟨hc8, hf8⟩ := ucell hU8
    have hz8 : w1.heap.size < w8.heap.size := by have := hU8.size; simp at this; omega
    have hy8 : w.heap.size < w8.heap.size := by omega
    have hb8 : ResBlk w.heap.size w8 := (hU8.block _ (by simp; omega) (by omega)).trans (resblk_far hb7 hgz _)
    go_wp2_with fail
    with_reducible refine (impl_textH _ _ _ _ _ _ _ _ h9 hs (hR8.far hgx _)).mono ?_
    rintro e w9 ⟨rfl, hR9, hU9⟩
    obtain ⟨hc9, hf9⟩ := ucell hU9
    have hz9 : w1.heap.size < w9.heap.size := by have := hU9.size; simp at this; omega
    have hy9 : w.heap.size < w9.heap.size := by omega
    have hb9 : ResBlk w.heap.size w9 := (hU9.block _ (by simp; omega) (by omega)).trans (resblk_far hb8 hgz _)
    go_wp2_with fail
    with_reducible refine (impl_doneH _ _ _ _ _ _ hdn (hR9.far hgx _)).mono ?_
    rintro e w10 ⟨rfl, hR10, hU10⟩
    obtain ⟨hc10, hf10⟩ := ucell hU10
    have hz10 : w1.heap.size < w10.heap.size := by have := hU10.size; simp at this; omega
    have hy10 : w.heap.size < w10.heap.size := by omega
    have hb10 : ResBlk w.heap.size w10 := (hU10.block _ (by simp; omega) (by omega)).trans (resblk_far hb9 hgz _)
    obtain ⟨r0, r1, r2, r3, r4, r5, r6, r7, r8⟩ := resblk_cells hb10
    go_wp2_with (first | (go_at_call 12; with_reducible refine (impl_CommandOkH _ _ _ _ _ _ _ _ _ _ _ hck).mono ?_; rintro e w11 ⟨rfl, hb11⟩; obtain ⟨hc11, hf11⟩ := bcell hb11; have hz11 : w1.heap.size < w11.heap.size := (by have := hb11.size; (try simp at this); omega); obtain ⟨t0, t1, t2, t3, t4, t5, t6, t7, t8⟩ := resblk_cells (resblk_below hb10 hb11); have hy11 : w.heap.size < w11.heap.size := (by omega)))
    all_goals (try clear hc1 hf1 hc2 hf2 hc3 hf3 hc4 hf4 hc5 hf5 hc6 hf6 hc7 hf7 hc8 hf8 hc9 hf9 hc10 hf10)
    all_goals (try clear hc11 hf11)
    all_goals (refine bodyPost_ret (v := .tuple #[.agg #[.int .i64 0, .int .i64 0, .int .i64 0, .int .i64 0, .int .i64 0, .int .i64 0, .int .i64 0, .int .i64 0, .string ⟨#[]⟩], .bool false]) ?_ rfl ⟨rfl, ?_⟩)
    rotate_left
    · repeat (with_reducible first | exact Below.refl _ _ | apply bl_alloc | apply bl_drewN | apply bl_drew | refine bl_set ?_ (by first | (simp; done) | (simp; omega) | omega) | refine bl_upd2 (by assumption) ?_ (by omega) | refine bl_then ?_ (by assumption))
    simp only [results, Try.results16]
    go_simp
  · rw [show pickC (false && true) (.agg #[.int .i64 op, .int .i64 tok, .int .i64 seq, .int .i64 topic, .int .i64 dev, .int .i64 edge, .int .i64 ep, .int .i64 up, .string tx]) (.agg #[.int .i64 0, .int .i64 0, .int .i64 0, .int .i64 0, .int .i64 0, .int .i64 0, .int .i64 0, .int .i64 0, .string ⟨#[]⟩]) = .agg #[.int .i64 0, .int .i64 0, .int .i64 0, .int .i64 0, .int .i64 0, .int .i64 0, .int .i64 0, .int .i64 0, .string ⟨#[]⟩] from rfl, show (false && true) = false from rfl]
    go_enter Try.func16, Try.ntmps16
    go_wp2_with fail
    with_reducible refine (impl_byteH _ _ _ _ _ _ _ _ h1 hs g0.1 g0.2 (rd_new (by simp))).mono ?_
    rintro e w1 ⟨rfl, hR1, hU1⟩
    obtain ⟨hc1, hf1⟩ := ucell hU1
    have hz1 : w.heap.size + 1 < w1.heap.size := by have := hU1.size; simp at this; omega
    have hgx : w.heap.size + 1 ≠ w1.heap.size := by omega
    have hgy : w1.heap.size ≠ w.heap.size + 1 := by omega
    have hgz : w.heap.size ≠ w1.heap.size := by omega
    have hgw : w1.heap.size ≠ w.heap.size := by omega
    have hy1 : w.heap.size < w1.heap.size := by omega
    have hb1 : ResBlk w.heap.size w1 := (hU1.block _ (by simp; omega) (by omega)).trans (resblk_new w _)
    go_wp2_with fail
    with_reducible refine (impl_numberH _ _ _ _ _ _ _ _ h2 hs ((hR1.below (bl_alloc (Below.refl _ _) _)))).mono ?_
    rintro e w2 ⟨rfl, hR2, hU2⟩
    obtain ⟨hc2, hf2⟩ := ucell hU2
    have hz2 : w1.heap.size < w2.heap.size := by have := hU2.size; simp at this; omega
    have hy2 : w.heap.size < w2.heap.size := by omega
    have hb2 : ResBlk w.heap.size w2 := (hU2.block _ (by simp; omega) (by omega)).trans (resblk_alloc hb1 _)
    go_wp2_with fail
    with_reducible refine (impl_numberH _ _ _ _ _ _ _ _ h3 hs (hR2.far hgx _)).mono ?_
    rintro e w3 ⟨rfl, hR3, hU3⟩
    obtain ⟨hc3, hf3⟩ := ucell hU3
    have hz3 : w1.heap.size < w3.heap.size := by have := hU3.size; simp at this; omega
    have hy3 : w.heap.size < w3.heap.size := by omega
    have hb3 : ResBlk w.heap.size w3 := (hU3.block _ (by simp; omega) (by omega)).trans (resblk_far hb2 hgz _)
    go_wp2_with fail
    with_reducible refine (impl_byteH _ _ _ _ _ _ _ _ h4 hs g3.1 g3.2 (hR3.far hgx _)).mono ?_
    rintro e w4 ⟨rfl, hR4, hU4⟩
    obtain ⟨hc4, hf4⟩ := ucell hU4
    have hz4 : w1.heap.size < w4.heap.size := by have := hU4.size; simp at this; omega
    have hy4 : w.heap.size < w4.heap.size := by omega
    have hb4 : ResBlk w.heap.size w4 := (hU4.block _ (by simp; omega) (by omega)).trans (resblk_far hb3 hgz _)
    go_wp2_with fail
    with_reducible refine (impl_byteH _ _ _ _ _ _ _ _ h5 hs g4.1 g4.2 (hR4.far hgx _)).mono ?_
    rintro e w5 ⟨rfl, hR5, hU5⟩
    obtain ⟨hc5, hf5⟩ := ucell hU5
    have hz5 : w1.heap.size < w5.heap.size := by have := hU5.size; simp at this; omega
    have hy5 : w.heap.size < w5.heap.size := by omega
    have hb5 : ResBlk w.heap.size w5 := (hU5.block _ (by simp; omega) (by omega)).trans (resblk_far hb4 hgz _)
    go_wp2_with fail
    with_reducible refine (impl_byteH _ _ _ _ _ _ _ _ h6 hs g5.1 g5.2 (hR5.far hgx _)).mono ?_
    rintro e w6 ⟨rfl, hR6, hU6⟩
    obtain ⟨hc6, hf6⟩ := ucell hU6
    have hz6 : w1.heap.size < w6.heap.size := by have := hU6.size; simp at this; omega
    have hy6 : w.heap.size < w6.heap.size := by omega
    have hb6 : ResBlk w.heap.size w6 := (hU6.block _ (by simp; omega) (by omega)).trans (resblk_far hb5 hgz _)
    go_wp2_with fail
    with_reducible refine (impl_numberH _ _ _ _ _ _ _ _ h7 hs (hR6.far hgx _)).mono ?_
    rintro e w7 ⟨rfl, hR7, hU7⟩
    obtain ⟨hc7, hf7⟩ := ucell hU7
    have hz7 : w1.heap.size < w7.heap.size := by have := hU7.size; simp at this; omega
    have hy7 : w.heap.size < w7.heap.size := by omega
    have hb7 : ResBlk w.heap.size w7 := (hU7.block _ (by simp; omega) (by omega)).trans (resblk_far hb6 hgz _)
    go_wp2_with fail
    with_reducible refine (impl_numberH _ _ _ _ _ _ _ _ h8 hs (hR7.far hgx _)).mono ?_
    rintro e w8 ⟨rfl, hR8, hU8⟩
    obtain ⟨hc8, hf8⟩ := ucell hU8
    have hz8 : w1.heap.size < w8.heap.size := by have := hU8.size; simp at this; omega
    have hy8 : w.heap.size < w8.heap.size := by omega
    have hb8 : ResBlk w.heap.size w8 := (hU8.block _ (by simp; omega) (by omega)).trans (resblk_far hb7 hgz _)
    go_wp2_with fail
    with_reducible refine (impl_textH _ _ _ _ _ _ _ _ h9 hs (hR8.far hgx _)).mono ?_
    rintro e w9 ⟨rfl, hR9, hU9⟩
    obtain ⟨hc9, hf9⟩ := ucell hU9
    have hz9 : w1.heap.size < w9.heap.size := by have := hU9.size; simp at this; omega
    have hy9 : w.heap.size < w9.heap.size := by omega
    have hb9 : ResBlk w.heap.size w9 := (hU9.block _ (by simp; omega) (by omega)).trans (resblk_far hb8 hgz _)
    go_wp2_with fail
    with_reducible refine (impl_doneH _ _ _ _ _ _ hdn (hR9.far hgx _)).mono ?_
    rintro e w10 ⟨rfl, hR10, hU10⟩
    obtain ⟨hc10, hf10⟩ := ucell hU10
    have hz10 : w1.heap.size < w10.heap.size := by have := hU10.size; simp at this; omega
    have hy10 : w.heap.size < w10.heap.size := by omega
    have hb10 : ResBlk w.heap.size w10 := (hU10.block _ (by simp; omega) (by omega)).trans (resblk_far hb9 hgz _)
    obtain ⟨r0, r1, r2, r3, r4, r5, r6, r7, r8⟩ := resblk_cells hb10
    go_wp2_with (first | (go_at_call 12; with_reducible refine (impl_CommandOkH _ _ _ _ _ _ _ _ _ _ _ hck).mono ?_; rintro e w11 ⟨rfl, hb11⟩; obtain ⟨hc11, hf11⟩ := bcell hb11; have hz11 : w1.heap.size < w11.heap.size := (by have := hb11.size; (try simp at this); omega); obtain ⟨t0, t1, t2, t3, t4, t5, t6, t7, t8⟩ := resblk_cells (resblk_below hb10 hb11); have hy11 : w.heap.size < w11.heap.size := (by omega)))
    all_goals (try clear hc1 hf1 hc2 hf2 hc3 hf3 hc4 hf4 hc5 hf5 hc6 hf6 hc7 hf7 hc8 hf8 hc9 hf9 hc10 hf10)
    all_goals (try clear hc11 hf11)
    all_goals (refine bodyPost_ret (v := .tuple #[.agg #[.int .i64 0, .int .i64 0, .int .i64 0, .int .i64 0, .int .i64 0, .int .i64 0, .int .i64 0, .int .i64 0, .string ⟨#[]⟩], .bool false]) ?_ rfl ⟨rfl, ?_⟩)
    rotate_left
    · repeat (with_reducible first | exact Below.refl _ _ | apply bl_alloc | apply bl_drewN | apply bl_drew | refine bl_set ?_ (by first | (simp; done) | (simp; omega) | omega) | refine bl_upd2 (by assumption) ?_ (by omega) | refine bl_then ?_ (by assumption))
    simp only [results, Try.results16]
    go_simp
  · rw [show pickC (true && false) (.agg #[.int .i64 op, .int .i64 tok, .int .i64 seq, .int .i64 topic, .int .i64 dev, .int .i64 edge, .int .i64 ep, .int .i64 up, .string tx]) (.agg #[.int .i64 0, .int .i64 0, .int .i64 0, .int .i64 0, .int .i64 0, .int .i64 0, .int .i64 0, .int .i64 0, .string ⟨#[]⟩]) = .agg #[.int .i64 0, .int .i64 0, .int .i64 0, .int .i64 0, .int .i64 0, .int .i64 0, .int .i64 0, .int .i64 0, .string ⟨#[]⟩] from rfl, show (true && false) = false from rfl]
    go_enter Try.func16, Try.ntmps16
    go_wp2_with fail
    with_reducible refine (impl_byteH _ _ _ _ _ _ _ _ h1 hs g0.1 g0.2 (rd_new (by simp))).mono ?_
    rintro e w1 ⟨rfl, hR1, hU1⟩
    obtain ⟨hc1, hf1⟩ := ucell hU1
    have hz1 : w.heap.size + 1 < w1.heap.size := by have := hU1.size; simp at this; omega
    have hgx : w.heap.size + 1 ≠ w1.heap.size := by omega
    have hgy : w1.heap.size ≠ w.heap.size + 1 := by omega
    have hgz : w.heap.size ≠ w1.heap.size := by omega
    have hgw : w1.heap.size ≠ w.heap.size := by omega
    have hy1 : w.heap.size < w1.heap.size := by omega
    have hb1 : ResBlk w.heap.size w1 := (hU1.block _ (by simp; omega) (by omega)).trans (resblk_new w _)
    go_wp2_with fail
    with_reducible refine (impl_numberH _ _ _ _ _ _ _ _ h2 hs ((hR1.below (bl_alloc (Below.refl _ _) _)))).mono ?_
    rintro e w2 ⟨rfl, hR2, hU2⟩
    obtain ⟨hc2, hf2⟩ := ucell hU2
    have hz2 : w1.heap.size < w2.heap.size := by have := hU2.size; simp at this; omega
    have hy2 : w.heap.size < w2.heap.size := by omega
    have hb2 : ResBlk w.heap.size w2 := (hU2.block _ (by simp; omega) (by omega)).trans (resblk_alloc hb1 _)
    go_wp2_with fail
    with_reducible refine (impl_numberH _ _ _ _ _ _ _ _ h3 hs (hR2.far hgx _)).mono ?_
    rintro e w3 ⟨rfl, hR3, hU3⟩
    obtain ⟨hc3, hf3⟩ := ucell hU3
    have hz3 : w1.heap.size < w3.heap.size := by have := hU3.size; simp at this; omega
    have hy3 : w.heap.size < w3.heap.size := by omega
    have hb3 : ResBlk w.heap.size w3 := (hU3.block _ (by simp; omega) (by omega)).trans (resblk_far hb2 hgz _)
    go_wp2_with fail
    with_reducible refine (impl_byteH _ _ _ _ _ _ _ _ h4 hs g3.1 g3.2 (hR3.far hgx _)).mono ?_
    rintro e w4 ⟨rfl, hR4, hU4⟩
    obtain ⟨hc4, hf4⟩ := ucell hU4
    have hz4 : w1.heap.size < w4.heap.size := by have := hU4.size; simp at this; omega
    have hy4 : w.heap.size < w4.heap.size := by omega
    have hb4 : ResBlk w.heap.size w4 := (hU4.block _ (by simp; omega) (by omega)).trans (resblk_far hb3 hgz _)
    go_wp2_with fail
    with_reducible refine (impl_byteH _ _ _ _ _ _ _ _ h5 hs g4.1 g4.2 (hR4.far hgx _)).mono ?_
    rintro e w5 ⟨rfl, hR5, hU5⟩
    obtain ⟨hc5, hf5⟩ := ucell hU5
    have hz5 : w1.heap.size < w5.heap.size := by have := hU5.size; simp at this; omega
    have hy5 : w.heap.size < w5.heap.size := by omega
    have hb5 : ResBlk w.heap.size w5 := (hU5.block _ (by simp; omega) (by omega)).trans (resblk_far hb4 hgz _)
    go_wp2_with fail
    with_reducible refine (impl_byteH _ _ _ _ _ _ _ _ h6 hs g5.1 g5.2 (hR5.far hgx _)).mono ?_
    rintro e w6 ⟨rfl, hR6, hU6⟩
    obtain ⟨hc6, hf6⟩ := ucell hU6
    have hz6 : w1.heap.size < w6.heap.size := by have := hU6.size; simp at this; omega
    have hy6 : w.heap.size < w6.heap.size := by omega
    have hb6 : ResBlk w.heap.size w6 := (hU6.block _ (by simp; omega) (by omega)).trans (resblk_far hb5 hgz _)
    go_wp2_with fail
    with_reducible refine (impl_numberH _ _ _ _ _ _ _ _ h7 hs (hR6.far hgx _)).mono ?_
    rintro e w7 ⟨rfl, hR7, hU7⟩
    obtain ⟨hc7, hf7⟩ := ucell hU7
    have hz7 : w1.heap.size < w7.heap.size := by have := hU7.size; simp at this; omega
    have hy7 : w.heap.size < w7.heap.size := by omega
    have hb7 : ResBlk w.heap.size w7 := (hU7.block _ (by simp; omega) (by omega)).trans (resblk_far hb6 hgz _)
    go_wp2_with fail
    with_reducible refine (impl_numberH _ _ _ _ _ _ _ _ h8 hs (hR7.far hgx _)).mono ?_
    rintro e w8 ⟨rfl, hR8, hU8⟩
    obtain ⟨hc8, hf8⟩ := ucell hU8
    have hz8 : w1.heap.size < w8.heap.size := by have := hU8.size; simp at this; omega
    have hy8 : w.heap.size < w8.heap.size := by omega
    have hb8 : ResBlk w.heap.size w8 := (hU8.block _ (by simp; omega) (by omega)).trans (resblk_far hb7 hgz _)
    go_wp2_with fail
    with_reducible refine (impl_textH _ _ _ _ _ _ _ _ h9 hs (hR8.far hgx _)).mono ?_
    rintro e w9 ⟨rfl, hR9, hU9⟩
    obtain ⟨hc9, hf9⟩ := ucell hU9
    have hz9 : w1.heap.size < w9.heap.size := by have := hU9.size; simp at this; omega
    have hy9 : w.heap.size < w9.heap.size := by omega
    have hb9 : ResBlk w.heap.size w9 := (hU9.block _ (by simp; omega) (by omega)).trans (resblk_far hb8 hgz _)
    go_wp2_with fail
    with_reducible refine (impl_doneH _ _ _ _ _ _ hdn (hR9.far hgx _)).mono ?_
    rintro e w10 ⟨rfl, hR10, hU10⟩
    obtain ⟨hc10, hf10⟩ := ucell hU10
    have hz10 : w1.heap.size < w10.heap.size := by have := hU10.size; simp at this; omega
    have hy10 : w.heap.size < w10.heap.size := by omega
    have hb10 : ResBlk w.heap.size w10 := (hU10.block _ (by simp; omega) (by omega)).trans (resblk_far hb9 hgz _)
    obtain ⟨r0, r1, r2, r3, r4, r5, r6, r7, r8⟩ := resblk_cells hb10
    go_wp2_with (first | (go_at_call 12; with_reducible refine (impl_CommandOkH _ _ _ _ _ _ _ _ _ _ _ hck).mono ?_; rintro e w11 ⟨rfl, hb11⟩; obtain ⟨hc11, hf11⟩ := bcell hb11; have hz11 : w1.heap.size < w11.heap.size := (by have := hb11.size; (try simp at this); omega); obtain ⟨t0, t1, t2, t3, t4, t5, t6, t7, t8⟩ := resblk_cells (resblk_below hb10 hb11); have hy11 : w.heap.size < w11.heap.size := (by omega)))
    all_goals (try clear hc1 hf1 hc2 hf2 hc3 hf3 hc4 hf4 hc5 hf5 hc6 hf6 hc7 hf7 hc8 hf8 hc9 hf9 hc10 hf10)
    all_goals (try clear hc11 hf11)
    all_goals (refine bodyPost_ret (v := .tuple #[.agg #[.int .i64 0, .int .i64 0, .int .i64 0, .int .i64 0, .int .i64 0, .int .i64 0, .int .i64 0, .int .i64 0, .string ⟨#[]⟩], .bool false]) ?_ rfl ⟨rfl, ?_⟩)
    rotate_left
    · repeat (with_reducible first | exact Below.refl _ _ | apply bl_alloc | apply bl_drewN | apply bl_drew | refine bl_set ?_ (by first | (simp; done) | (simp; omega) | omega) | refine bl_upd2 (by assumption) ?_ (by omega) | refine bl_then ?_ (by assumption))
    simp only [results, Try.results16]
    go_simp
  · rw [show pickC (true && true) (.agg #[.int .i64 op, .int .i64 tok, .int .i64 seq, .int .i64 topic, .int .i64 dev, .int .i64 edge, .int .i64 ep, .int .i64 up, .string tx]) (.agg #[.int .i64 0, .int .i64 0, .int .i64 0, .int .i64 0, .int .i64 0, .int .i64 0, .int .i64 0, .int .i64 0, .string ⟨#[]⟩]) = .agg #[.int .i64 op, .int .i64 tok, .int .i64 seq, .int .i64 topic, .int .i64 dev, .int .i64 edge, .int .i64 ep, .int .i64 up, .string tx] from rfl, show (true && true) = true from rfl]
    go_enter Try.func16, Try.ntmps16
    go_wp2_with fail
    with_reducible refine (impl_byteH _ _ _ _ _ _ _ _ h1 hs g0.1 g0.2 (rd_new (by simp))).mono ?_
    rintro e w1 ⟨rfl, hR1, hU1⟩
    obtain ⟨hc1, hf1⟩ := ucell hU1
    have hz1 : w.heap.size + 1 < w1.heap.size := by have := hU1.size; simp at this; omega
    have hgx : w.heap.size + 1 ≠ w1.heap.size := by omega
    have hgy : w1.heap.size ≠ w.heap.size + 1 := by omega
    have hgz : w.heap.size ≠ w1.heap.size := by omega
    have hgw : w1.heap.size ≠ w.heap.size := by omega
    have hy1 : w.heap.size < w1.heap.size := by omega
    have hb1 : ResBlk w.heap.size w1 := (hU1.block _ (by simp; omega) (by omega)).trans (resblk_new w _)
    go_wp2_with fail
    with_reducible refine (impl_numberH _ _ _ _ _ _ _ _ h2 hs ((hR1.below (bl_alloc (Below.refl _ _) _)))).mono ?_
    rintro e w2 ⟨rfl, hR2, hU2⟩
    obtain ⟨hc2, hf2⟩ := ucell hU2
    have hz2 : w1.heap.size < w2.heap.size := by have := hU2.size; simp at this; omega
    have hy2 : w.heap.size < w2.heap.size := by omega
    have hb2 : ResBlk w.heap.size w2 := (hU2.block _ (by simp; omega) (by omega)).trans (resblk_alloc hb1 _)
    go_wp2_with fail
    with_reducible refine (impl_numberH _ _ _ _ _ _ _ _ h3 hs (hR2.far hgx _)).mono ?_
    rintro e w3 ⟨rfl, hR3, hU3⟩
    obtain ⟨hc3, hf3⟩ := ucell hU3
    have hz3 : w1.heap.size < w3.heap.size := by have := hU3.size; simp at this; omega
    have hy3 : w.heap.size < w3.heap.size := by omega
    have hb3 : ResBlk w.heap.size w3 := (hU3.block _ (by simp; omega) (by omega)).trans (resblk_far hb2 hgz _)
    go_wp2_with fail
    with_reducible refine (impl_byteH _ _ _ _ _ _ _ _ h4 hs g3.1 g3.2 (hR3.far hgx _)).mono ?_
    rintro e w4 ⟨rfl, hR4, hU4⟩
    obtain ⟨hc4, hf4⟩ := ucell hU4
    have hz4 : w1.heap.size < w4.heap.size := by have := hU4.size; simp at this; omega
    have hy4 : w.heap.size < w4.heap.size := by omega
    have hb4 : ResBlk w.heap.size w4 := (hU4.block _ (by simp; omega) (by omega)).trans (resblk_far hb3 hgz _)
    go_wp2_with fail
    with_reducible refine (impl_byteH _ _ _ _ _ _ _ _ h5 hs g4.1 g4.2 (hR4.far hgx _)).mono ?_
    rintro e w5 ⟨rfl, hR5, hU5⟩
    obtain ⟨hc5, hf5⟩ := ucell hU5
    have hz5 : w1.heap.size < w5.heap.size := by have := hU5.size; simp at this; omega
    have hy5 : w.heap.size < w5.heap.size := by omega
    have hb5 : ResBlk w.heap.size w5 := (hU5.block _ (by simp; omega) (by omega)).trans (resblk_far hb4 hgz _)
    go_wp2_with fail
    with_reducible refine (impl_byteH _ _ _ _ _ _ _ _ h6 hs g5.1 g5.2 (hR5.far hgx _)).mono ?_
    rintro e w6 ⟨rfl, hR6, hU6⟩
    obtain ⟨hc6, hf6⟩ := ucell hU6
    have hz6 : w1.heap.size < w6.heap.size := by have := hU6.size; simp at this; omega
    have hy6 : w.heap.size < w6.heap.size := by omega
    have hb6 : ResBlk w.heap.size w6 := (hU6.block _ (by simp; omega) (by omega)).trans (resblk_far hb5 hgz _)
    go_wp2_with fail
    with_reducible refine (impl_numberH _ _ _ _ _ _ _ _ h7 hs (hR6.far hgx _)).mono ?_
    rintro e w7 ⟨rfl, hR7, hU7⟩
    obtain ⟨hc7, hf7⟩ := ucell hU7
    have hz7 : w1.heap.size < w7.heap.size := by have := hU7.size; simp at this; omega
    have hy7 : w.heap.size < w7.heap.size := by omega
    have hb7 : ResBlk w.heap.size w7 := (hU7.block _ (by simp; omega) (by omega)).trans (resblk_far hb6 hgz _)
    go_wp2_with fail
    with_reducible refine (impl_numberH _ _ _ _ _ _ _ _ h8 hs (hR7.far hgx _)).mono ?_
    rintro e w8 ⟨rfl, hR8, hU8⟩
    obtain ⟨hc8, hf8⟩ := ucell hU8
    have hz8 : w1.heap.size < w8.heap.size := by have := hU8.size; simp at this; omega
    have hy8 : w.heap.size < w8.heap.size := by omega
    have hb8 : ResBlk w.heap.size w8 := (hU8.block _ (by simp; omega) (by omega)).trans (resblk_far hb7 hgz _)
    go_wp2_with fail
    with_reducible refine (impl_textH _ _ _ _ _ _ _ _ h9 hs (hR8.far hgx _)).mono ?_
    rintro e w9 ⟨rfl, hR9, hU9⟩
    obtain ⟨hc9, hf9⟩ := ucell hU9
    have hz9 : w1.heap.size < w9.heap.size := by have := hU9.size; simp at this; omega
    have hy9 : w.heap.size < w9.heap.size := by omega
    have hb9 : ResBlk w.heap.size w9 := (hU9.block _ (by simp; omega) (by omega)).trans (resblk_far hb8 hgz _)
    go_wp2_with fail
    with_reducible refine (impl_doneH _ _ _ _ _ _ hdn (hR9.far hgx _)).mono ?_
    rintro e w10 ⟨rfl, hR10, hU10⟩
    obtain ⟨hc10, hf10⟩ := ucell hU10
    have hz10 : w1.heap.size < w10.heap.size := by have := hU10.size; simp at this; omega
    have hy10 : w.heap.size < w10.heap.size := by omega
    have hb10 : ResBlk w.heap.size w10 := (hU10.block _ (by simp; omega) (by omega)).trans (resblk_far hb9 hgz _)
    obtain ⟨r0, r1, r2, r3, r4, r5, r6, r7, r8⟩ := resblk_cells hb10
    go_wp2_with (first | (go_at_call 12; with_reducible refine (impl_CommandOkH _ _ _ _ _ _ _ _ _ _ _ hck).mono ?_; rintro e w11 ⟨rfl, hb11⟩; obtain ⟨hc11, hf11⟩ := bcell hb11; have hz11 : w1.heap.size < w11.heap.size := (by have := hb11.size; (try simp at this); omega); obtain ⟨t0, t1, t2, t3, t4, t5, t6, t7, t8⟩ := resblk_cells (resblk_below hb10 hb11); have hy11 : w.heap.size < w11.heap.size := (by omega)))
    all_goals (try clear hc1 hf1 hc2 hf2 hc3 hf3 hc4 hf4 hc5 hf5 hc6 hf6 hc7 hf7 hc8 hf8 hc9 hf9 hc10 hf10)
    all_goals (try clear hc11 hf11)
    all_goals (refine bodyPost_ret (v := .tuple #[.agg #[.int .i64 op, .int .i64 tok, .int .i64 seq, .int .i64 topic, .int .i64 dev, .int .i64 edge, .int .i64 ep, .int .i64 up, .string tx], .bool true]) ?_ rfl ⟨rfl, ?_⟩)
    rotate_left
    · repeat (with_reducible first | exact Below.refl _ _ | apply bl_alloc | apply bl_drewN | apply bl_drew | refine bl_set ?_ (by first | (simp; done) | (simp; omega) | omega) | refine bl_upd2 (by assumption) ?_ (by omega) | refine bl_then ?_ (by assumption))
    simp only [results, Try.results16]
    go_simp

set_option maxHeartbeats 4000000 in
set_option maxRecDepth 100000 in
theorem spec_ReadCommand (s : ByteArray) (w : World) (hs : s.size ≤ 1099511627776) (op tok seq topic dev edge ep up : Int) (tx : ByteArray) (p1 p2 p3 p4 p5 p6 p7 p8 p9 : Int) (q1 q2 q3 q4 q5 q6 q7 q8 q9 : Bool)
    (h1 : Hid (rdByte s 0 false = (op, p1, q1))) (h2 : Hid (rdNum s p1 q1 = (tok, p2, q2))) (h3 : Hid (rdNum s p2 q2 = (seq, p3, q3))) (h4 : Hid (rdByte s p3 q3 = (topic, p4, q4))) (h5 : Hid (rdByte s p4 q4 = (dev, p5, q5))) (h6 : Hid (rdByte s p5 q5 = (edge, p6, q6))) (h7 : Hid (rdNum s p6 q6 = (ep, p7, q7))) (h8 : Hid (rdNum s p7 q7 = (up, p8, q8))) (h9 : Hid (rdShort s p8 q8 = (tx, p9, q9))) :
    Calls Try.prog 15 #[.string s] w fun e w' => e = .returned (.tuple #[pickC (!q9 && cmdOk op tok seq topic dev edge ep up tx && (cmdS op tok seq topic dev edge ep up tx).toList == s.toList) (.agg #[.int .i64 op, .int .i64 tok, .int .i64 seq, .int .i64 topic, .int .i64 dev, .int .i64 edge, .int .i64 ep, .int .i64 up, .string tx]) (.agg #[.int .i64 0, .int .i64 0, .int .i64 0, .int .i64 0, .int .i64 0, .int .i64 0, .int .i64 0, .int .i64 0, .string ⟨#[]⟩]), .bool (!q9 && cmdOk op tok seq topic dev edge ep up tx && (cmdS op tok seq topic dev edge ep up tx).toList == s.toList)]) ∧ Below w.heap.size w w' := by
  have g0 : 0 ≤ (0 : Int) ∧ (0 : Int) ≤ s.size := by omega
  have g1 := byteH_range h1 g0
  have g2 := numH_range h2 g1
  have g3 := numH_range h3 g2
  have g4 := byteH_range h4 g3
  have g5 := byteH_range h5 g4
  have g6 := byteH_range h6 g5
  have g7 := numH_range h7 g6
  have g8 := numH_range h8 g7
  obtain ⟨ck, hck⟩ : ∃ ck, Hid (cmdOk op tok seq topic dev edge ep up tx = ck) := ⟨_, Lib.hid rfl⟩
  obtain ⟨sm, hsm⟩ : ∃ sm, Hid (((cmdS op tok seq topic dev edge ep up tx).toList == s.toList) = sm) := ⟨_, Lib.hid rfl⟩
  rw [show (!q9 && cmdOk op tok seq topic dev edge ep up tx && (cmdS op tok seq topic dev edge ep up tx).toList == s.toList) = (!q9 && ck && sm) from by rw [hsm.out, hck.out]]
  rcases q9 with _ | _ <;> rcases ck with _ | _ <;> rcases sm with _ | _
  · rw [show pickC (!false && false && false) (.agg #[.int .i64 op, .int .i64 tok, .int .i64 seq, .int .i64 topic, .int .i64 dev, .int .i64 edge, .int .i64 ep, .int .i64 up, .string tx]) (.agg #[.int .i64 0, .int .i64 0, .int .i64 0, .int .i64 0, .int .i64 0, .int .i64 0, .int .i64 0, .int .i64 0, .string ⟨#[]⟩]) = .agg #[.int .i64 0, .int .i64 0, .int .i64 0, .int .i64 0, .int .i64 0, .int .i64 0, .int .i64 0, .int .i64 0, .string ⟨#[]⟩] from rfl, show (!false && false && false) = false from rfl]
    go_enter Try.func15, Try.ntmps15
    go_wp2_with fail
    with_reducible refine (spec_l10OneH _ _ _ _ _ _ _ _ h1 hs g0.1 g0.2 (rd_new (by simp))).mono ?_
    rintro e w1 ⟨rfl, hR1, hU1⟩
    obtain ⟨hc1, hf1⟩ := ucell hU1
    have hz1 : w.heap.size + 1 < w1.heap.size := by have := hU1.size; simp at this; omega
    have hgx : w.heap.size + 1 ≠ w1.heap.size := by omega
    have hgy : w1.heap.size ≠ w.heap.size + 1 := by omega
    have hgz : w.heap.size ≠ w1.heap.size := by omega
    have hgw : w1.heap.size ≠ w.heap.size := by omega
    have hy1 : w.heap.size < w1.heap.size := by omega
    have hb1 : ResBlk w.heap.size w1 := (hU1.block _ (by simp; omega) (by omega)).trans (resblk_new w _)
    go_wp2_with fail
    with_reducible refine (spec_l05VarH _ _ _ _ _ _ _ _ h2 hs ((hR1.below (bl_alloc (Below.refl _ _) _)))).mono ?_
    rintro e w2 ⟨rfl, hR2, hU2⟩
    obtain ⟨hc2, hf2⟩ := ucell hU2
    have hz2 : w1.heap.size < w2.heap.size := by have := hU2.size; simp at this; omega
    have hy2 : w.heap.size < w2.heap.size := by omega
    have hb2 : ResBlk w.heap.size w2 := (hU2.block _ (by simp; omega) (by omega)).trans (resblk_alloc hb1 _)
    go_wp2_with fail
    with_reducible refine (spec_l05VarH _ _ _ _ _ _ _ _ h3 hs (hR2.far hgx _)).mono ?_
    rintro e w3 ⟨rfl, hR3, hU3⟩
    obtain ⟨hc3, hf3⟩ := ucell hU3
    have hz3 : w1.heap.size < w3.heap.size := by have := hU3.size; simp at this; omega
    have hy3 : w.heap.size < w3.heap.size := by omega
    have hb3 : ResBlk w.heap.size w3 := (hU3.block _ (by simp; omega) (by omega)).trans (resblk_far hb2 hgz _)
    go_wp2_with fail
    with_reducible refine (spec_l10OneH _ _ _ _ _ _ _ _ h4 hs g3.1 g3.2 (hR3.far hgx _)).mono ?_
    rintro e w4 ⟨rfl, hR4, hU4⟩
    obtain ⟨hc4, hf4⟩ := ucell hU4
    have hz4 : w1.heap.size < w4.heap.size := by have := hU4.size; simp at this; omega
    have hy4 : w.heap.size < w4.heap.size := by omega
    have hb4 : ResBlk w.heap.size w4 := (hU4.block _ (by simp; omega) (by omega)).trans (resblk_far hb3 hgz _)
    go_wp2_with fail
    with_reducible refine (spec_l10OneH _ _ _ _ _ _ _ _ h5 hs g4.1 g4.2 (hR4.far hgx _)).mono ?_
    rintro e w5 ⟨rfl, hR5, hU5⟩
    obtain ⟨hc5, hf5⟩ := ucell hU5
    have hz5 : w1.heap.size < w5.heap.size := by have := hU5.size; simp at this; omega
    have hy5 : w.heap.size < w5.heap.size := by omega
    have hb5 : ResBlk w.heap.size w5 := (hU5.block _ (by simp; omega) (by omega)).trans (resblk_far hb4 hgz _)
    go_wp2_with fail
    with_reducible refine (spec_l10OneH _ _ _ _ _ _ _ _ h6 hs g5.1 g5.2 (hR5.far hgx _)).mono ?_
    rintro e w6 ⟨rfl, hR6, hU6⟩
    obtain ⟨hc6, hf6⟩ := ucell hU6
    have hz6 : w1.heap.size < w6.heap.size := by have := hU6.size; simp at this; omega
    have hy6 : w.heap.size < w6.heap.size := by omega
    have hb6 : ResBlk w.heap.size w6 := (hU6.block _ (by simp; omega) (by omega)).trans (resblk_far hb5 hgz _)
    go_wp2_with fail
    with_reducible refine (spec_l05VarH _ _ _ _ _ _ _ _ h7 hs (hR6.far hgx _)).mono ?_
    rintro e w7 ⟨rfl, hR7, hU7⟩
    obtain ⟨hc7, hf7⟩ := ucell hU7
    have hz7 : w1.heap.size < w7.heap.size := by have := hU7.size; simp at this; omega
    have hy7 : w.heap.size < w7.heap.size := by omega
    have hb7 : ResBlk w.heap.size w7 := (hU7.block _ (by simp; omega) (by omega)).trans (resblk_far hb6 hgz _)
    go_wp2_with fail
    with_reducible refine (spec_l05VarH _ _ _ _ _ _ _ _ h8 hs (hR7.far hgx _)).mono ?_
    rintro e w8 ⟨rfl, hR8, hU8⟩
    obtain ⟨hc8, hf8⟩ := ucell hU8
    have hz8 : w1.heap.size < w8.heap.size := by have := hU8.size; simp at this; omega
    have hy8 : w.heap.size < w8.heap.size := by omega
    have hb8 : ResBlk w.heap.size w8 := (hU8.block _ (by simp; omega) (by omega)).trans (resblk_far hb7 hgz _)
    go_wp2_with fail
    with_reducible refine (spec_l05ReadShortH _ _ _ _ _ _ _ _ h9 hs g8.1 g8.2 (hR8.far hgx _)).mono ?_
    rintro e w9 ⟨rfl, hR9, hU9⟩
    obtain ⟨hc9, hf9⟩ := ucell hU9
    have hz9 : w1.heap.size < w9.heap.size := by have := hU9.size; simp at this; omega
    have hy9 : w.heap.size < w9.heap.size := by omega
    have hb9 : ResBlk w.heap.size w9 := (hU9.block _ (by simp; omega) (by omega)).trans (resblk_far hb8 hgz _)
    obtain ⟨d0, d1, d2, df⟩ := hR9.cells
    have hg9 : w.heap.size + 1 < w9.heap.size := by omega
    go_wp2_with (first | (go_at_call 13; with_reducible refine (spec_CommandTextH _ _ _ _ _ _ _ _ _ _ _ hck).mono ?_; rintro e w11 ⟨rfl, hb11⟩; obtain ⟨hc11, hf11⟩ := bcell hb11; have hz11 : w1.heap.size < w11.heap.size := (by have := hb11.size; (try simp at this); omega); obtain ⟨t0, t1, t2, t3, t4, t5, t6, t7, t8⟩ := resblk_cells (resblk_below (resblk_far hb9 hgz _) hb11); have hy11 : w.heap.size < w11.heap.size := (by omega)))
    all_goals (try (have e := hsm.out; simp_all; done))
    all_goals (try clear hc1 hf1 hc2 hf2 hc3 hf3 hc4 hf4 hc5 hf5 hc6 hf6 hc7 hf7 hc8 hf8 hc9 hf9)
    all_goals (try clear hc11 hf11)
    all_goals (refine bodyPost_ret (v := .tuple #[.agg #[.int .i64 0, .int .i64 0, .int .i64 0, .int .i64 0, .int .i64 0, .int .i64 0, .int .i64 0, .int .i64 0, .string ⟨#[]⟩], .bool false]) ?_ rfl ⟨rfl, ?_⟩)
    rotate_left
    · repeat (with_reducible first | exact Below.refl _ _ | apply bl_alloc | apply bl_drewN | apply bl_drew | refine bl_set ?_ (by first | (simp; done) | (simp; omega) | omega) | refine bl_upd2 (by assumption) ?_ (by omega) | refine bl_then ?_ (by assumption))
    simp only [results, Try.results15]
    go_simp
  · rw [show pickC (!false && false && true) (.agg #[.int .i64 op, .int .i64 tok, .int .i64 seq, .int .i64 topic, .int .i64 dev, .int .i64 edge, .int .i64 ep, .int .i64 up, .string tx]) (.agg #[.int .i64 0, .int .i64 0, .int .i64 0, .int .i64 0, .int .i64 0, .int .i64 0, .int .i64 0, .int .i64 0, .string ⟨#[]⟩]) = .agg #[.int .i64 0, .int .i64 0, .int .i64 0, .int .i64 0, .int .i64 0, .int .i64 0, .int .i64 0, .int .i64 0, .string ⟨#[]⟩] from rfl, show (!false && false && true) = false from rfl]
    go_enter Try.func15, Try.ntmps15
    go_wp2_with fail
    with_reducible refine (spec_l10OneH _ _ _ _ _ _ _ _ h1 hs g0.1 g0.2 (rd_new (by simp))).mono ?_
    rintro e w1 ⟨rfl, hR1, hU1⟩
    obtain ⟨hc1, hf1⟩ := ucell hU1
    have hz1 : w.heap.size + 1 < w1.heap.size := by have := hU1.size; simp at this; omega
    have hgx : w.heap.size + 1 ≠ w1.heap.size := by omega
    have hgy : w1.heap.size ≠ w.heap.size + 1 := by omega
    have hgz : w.heap.size ≠ w1.heap.size := by omega
    have hgw : w1.heap.size ≠ w.heap.size := by omega
    have hy1 : w.heap.size < w1.heap.size := by omega
    have hb1 : ResBlk w.heap.size w1 := (hU1.block _ (by simp; omega) (by omega)).trans (resblk_new w _)
    go_wp2_with fail
    with_reducible refine (spec_l05VarH _ _ _ _ _ _ _ _ h2 hs ((hR1.below (bl_alloc (Below.refl _ _) _)))).mono ?_
    rintro e w2 ⟨rfl, hR2, hU2⟩
    obtain ⟨hc2, hf2⟩ := ucell hU2
    have hz2 : w1.heap.size < w2.heap.size := by have := hU2.size; simp at this; omega
    have hy2 : w.heap.size < w2.heap.size := by omega
    have hb2 : ResBlk w.heap.size w2 := (hU2.block _ (by simp; omega) (by omega)).trans (resblk_alloc hb1 _)
    go_wp2_with fail
    with_reducible refine (spec_l05VarH _ _ _ _ _ _ _ _ h3 hs (hR2.far hgx _)).mono ?_
    rintro e w3 ⟨rfl, hR3, hU3⟩
    obtain ⟨hc3, hf3⟩ := ucell hU3
    have hz3 : w1.heap.size < w3.heap.size := by have := hU3.size; simp at this; omega
    have hy3 : w.heap.size < w3.heap.size := by omega
    have hb3 : ResBlk w.heap.size w3 := (hU3.block _ (by simp; omega) (by omega)).trans (resblk_far hb2 hgz _)
    go_wp2_with fail
    with_reducible refine (spec_l10OneH _ _ _ _ _ _ _ _ h4 hs g3.1 g3.2 (hR3.far hgx _)).mono ?_
    rintro e w4 ⟨rfl, hR4, hU4⟩
    obtain ⟨hc4, hf4⟩ := ucell hU4
    have hz4 : w1.heap.size < w4.heap.size := by have := hU4.size; simp at this; omega
    have hy4 : w.heap.size < w4.heap.size := by omega
    have hb4 : ResBlk w.heap.size w4 := (hU4.block _ (by simp; omega) (by omega)).trans (resblk_far hb3 hgz _)
    go_wp2_with fail
    with_reducible refine (spec_l10OneH _ _ _ _ _ _ _ _ h5 hs g4.1 g4.2 (hR4.far hgx _)).mono ?_
    rintro e w5 ⟨rfl, hR5, hU5⟩
    obtain ⟨hc5, hf5⟩ := ucell hU5
    have hz5 : w1.heap.size < w5.heap.size := by have := hU5.size; simp at this; omega
    have hy5 : w.heap.size < w5.heap.size := by omega
    have hb5 : ResBlk w.heap.size w5 := (hU5.block _ (by simp; omega) (by omega)).trans (resblk_far hb4 hgz _)
    go_wp2_with fail
    with_reducible refine (spec_l10OneH _ _ _ _ _ _ _ _ h6 hs g5.1 g5.2 (hR5.far hgx _)).mono ?_
    rintro e w6 ⟨rfl, hR6, hU6⟩
    obtain ⟨hc6, hf6⟩ := ucell hU6
    have hz6 : w1.heap.size < w6.heap.size := by have := hU6.size; simp at this; omega
    have hy6 : w.heap.size < w6.heap.size := by omega
    have hb6 : ResBlk w.heap.size w6 := (hU6.block _ (by simp; omega) (by omega)).trans (resblk_far hb5 hgz _)
    go_wp2_with fail
    with_reducible refine (spec_l05VarH _ _ _ _ _ _ _ _ h7 hs (hR6.far hgx _)).mono ?_
    rintro e w7 ⟨rfl, hR7, hU7⟩
    obtain ⟨hc7, hf7⟩ := ucell hU7
    have hz7 : w1.heap.size < w7.heap.size := by have := hU7.size; simp at this; omega
    have hy7 : w.heap.size < w7.heap.size := by omega
    have hb7 : ResBlk w.heap.size w7 := (hU7.block _ (by simp; omega) (by omega)).trans (resblk_far hb6 hgz _)
    go_wp2_with fail
    with_reducible refine (spec_l05VarH _ _ _ _ _ _ _ _ h8 hs (hR7.far hgx _)).mono ?_
    rintro e w8 ⟨rfl, hR8, hU8⟩
    obtain ⟨hc8, hf8⟩ := ucell hU8
    have hz8 : w1.heap.size < w8.heap.size := by have := hU8.size; simp at this; omega
    have hy8 : w.heap.size < w8.heap.size := by omega
    have hb8 : ResBlk w.heap.size w8 := (hU8.block _ (by simp; omega) (by omega)).trans (resblk_far hb7 hgz _)
    go_wp2_with fail
    with_reducible refine (spec_l05ReadShortH _ _ _ _ _ _ _ _ h9 hs g8.1 g8.2 (hR8.far hgx _)).mono ?_
    rintro e w9 ⟨rfl, hR9, hU9⟩
    obtain ⟨hc9, hf9⟩ := ucell hU9
    have hz9 : w1.heap.size < w9.heap.size := by have := hU9.size; simp at this; omega
    have hy9 : w.heap.size < w9.heap.size := by omega
    have hb9 : ResBlk w.heap.size w9 := (hU9.block _ (by simp; omega) (by omega)).trans (resblk_far hb8 hgz _)
    obtain ⟨d0, d1, d2, df⟩ := hR9.cells
    have hg9 : w.heap.size + 1 < w9.heap.size := by omega
    go_wp2_with (first | (go_at_call 13; with_reducible refine (spec_CommandTextH _ _ _ _ _ _ _ _ _ _ _ hck).mono ?_; rintro e w11 ⟨rfl, hb11⟩; obtain ⟨hc11, hf11⟩ := bcell hb11; have hz11 : w1.heap.size < w11.heap.size := (by have := hb11.size; (try simp at this); omega); obtain ⟨t0, t1, t2, t3, t4, t5, t6, t7, t8⟩ := resblk_cells (resblk_below (resblk_far hb9 hgz _) hb11); have hy11 : w.heap.size < w11.heap.size := (by omega)))
    all_goals (try (have e := hsm.out; simp_all; done))
    all_goals (try clear hc1 hf1 hc2 hf2 hc3 hf3 hc4 hf4 hc5 hf5 hc6 hf6 hc7 hf7 hc8 hf8 hc9 hf9)
    all_goals (try clear hc11 hf11)
    all_goals (refine bodyPost_ret (v := .tuple #[.agg #[.int .i64 0, .int .i64 0, .int .i64 0, .int .i64 0, .int .i64 0, .int .i64 0, .int .i64 0, .int .i64 0, .string ⟨#[]⟩], .bool false]) ?_ rfl ⟨rfl, ?_⟩)
    rotate_left
    · repeat (with_reducible first | exact Below.refl _ _ | apply bl_alloc | apply bl_drewN | apply bl_drew | refine bl_set ?_ (by first | (simp; done) | (simp; omega) | omega) | refine bl_upd2 (by assumption) ?_ (by omega) | refine bl_then ?_ (by assumption))
    simp only [results, Try.results15]
    go_simp
  · rw [show pickC (!false && true && false) (.agg #[.int .i64 op, .int .i64 tok, .int .i64 seq, .int .i64 topic, .int .i64 dev, .int .i64 edge, .int .i64 ep, .int .i64 up, .string tx]) (.agg #[.int .i64 0, .int .i64 0, .int .i64 0, .int .i64 0, .int .i64 0, .int .i64 0, .int .i64 0, .int .i64 0, .string ⟨#[]⟩]) = .agg #[.int .i64 0, .int .i64 0, .int .i64 0, .int .i64 0, .int .i64 0, .int .i64 0, .int .i64 0, .int .i64 0, .string ⟨#[]⟩] from rfl, show (!false && true && false) = false from rfl]
    go_enter Try.func15, Try.ntmps15
    go_wp2_with fail
    with_reducible refine (spec_l10OneH _ _ _ _ _ _ _ _ h1 hs g0.1 g0.2 (rd_new (by simp))).mono ?_
    rintro e w1 ⟨rfl, hR1, hU1⟩
    obtain ⟨hc1, hf1⟩ := ucell hU1
    have hz1 : w.heap.size + 1 < w1.heap.size := by have := hU1.size; simp at this; omega
    have hgx : w.heap.size + 1 ≠ w1.heap.size := by omega
    have hgy : w1.heap.size ≠ w.heap.size + 1 := by omega
    have hgz : w.heap.size ≠ w1.heap.size := by omega
    have hgw : w1.heap.size ≠ w.heap.size := by omega
    have hy1 : w.heap.size < w1.heap.size := by omega
    have hb1 : ResBlk w.heap.size w1 := (hU1.block _ (by simp; omega) (by omega)).trans (resblk_new w _)
    go_wp2_with fail
    with_reducible refine (spec_l05VarH _ _ _ _ _ _ _ _ h2 hs ((hR1.below (bl_alloc (Below.refl _ _) _)))).mono ?_
    rintro e w2 ⟨rfl, hR2, hU2⟩
    obtain ⟨hc2, hf2⟩ := ucell hU2
    have hz2 : w1.heap.size < w2.heap.size := by have := hU2.size; simp at this; omega
    have hy2 : w.heap.size < w2.heap.size := by omega
    have hb2 : ResBlk w.heap.size w2 := (hU2.block _ (by simp; omega) (by omega)).trans (resblk_alloc hb1 _)
    go_wp2_with fail
    with_reducible refine (spec_l05VarH _ _ _ _ _ _ _ _ h3 hs (hR2.far hgx _)).mono ?_
    rintro e w3 ⟨rfl, hR3, hU3⟩
    obtain ⟨hc3, hf3⟩ := ucell hU3
    have hz3 : w1.heap.size < w3.heap.size := by have := hU3.size; simp at this; omega
    have hy3 : w.heap.size < w3.heap.size := by omega
    have hb3 : ResBlk w.heap.size w3 := (hU3.block _ (by simp; omega) (by omega)).trans (resblk_far hb2 hgz _)
    go_wp2_with fail
    with_reducible refine (spec_l10OneH _ _ _ _ _ _ _ _ h4 hs g3.1 g3.2 (hR3.far hgx _)).mono ?_
    rintro e w4 ⟨rfl, hR4, hU4⟩
    obtain ⟨hc4, hf4⟩ := ucell hU4
    have hz4 : w1.heap.size < w4.heap.size := by have := hU4.size; simp at this; omega
    have hy4 : w.heap.size < w4.heap.size := by omega
    have hb4 : ResBlk w.heap.size w4 := (hU4.block _ (by simp; omega) (by omega)).trans (resblk_far hb3 hgz _)
    go_wp2_with fail
    with_reducible refine (spec_l10OneH _ _ _ _ _ _ _ _ h5 hs g4.1 g4.2 (hR4.far hgx _)).mono ?_
    rintro e w5 ⟨rfl, hR5, hU5⟩
    obtain ⟨hc5, hf5⟩ := ucell hU5
    have hz5 : w1.heap.size < w5.heap.size := by have := hU5.size; simp at this; omega
    have hy5 : w.heap.size < w5.heap.size := by omega
    have hb5 : ResBlk w.heap.size w5 := (hU5.block _ (by simp; omega) (by omega)).trans (resblk_far hb4 hgz _)
    go_wp2_with fail
    with_reducible refine (spec_l10OneH _ _ _ _ _ _ _ _ h6 hs g5.1 g5.2 (hR5.far hgx _)).mono ?_
    rintro e w6 ⟨rfl, hR6, hU6⟩
    obtain ⟨hc6, hf6⟩ := ucell hU6
    have hz6 : w1.heap.size < w6.heap.size := by have := hU6.size; simp at this; omega
    have hy6 : w.heap.size < w6.heap.size := by omega
    have hb6 : ResBlk w.heap.size w6 := (hU6.block _ (by simp; omega) (by omega)).trans (resblk_far hb5 hgz _)
    go_wp2_with fail
    with_reducible refine (spec_l05VarH _ _ _ _ _ _ _ _ h7 hs (hR6.far hgx _)).mono ?_
    rintro e w7 ⟨rfl, hR7, hU7⟩
    obtain ⟨hc7, hf7⟩ := ucell hU7
    have hz7 : w1.heap.size < w7.heap.size := by have := hU7.size; simp at this; omega
    have hy7 : w.heap.size < w7.heap.size := by omega
    have hb7 : ResBlk w.heap.size w7 := (hU7.block _ (by simp; omega) (by omega)).trans (resblk_far hb6 hgz _)
    go_wp2_with fail
    with_reducible refine (spec_l05VarH _ _ _ _ _ _ _ _ h8 hs (hR7.far hgx _)).mono ?_
    rintro e w8 ⟨rfl, hR8, hU8⟩
    obtain ⟨hc8, hf8⟩ := ucell hU8
    have hz8 : w1.heap.size < w8.heap.size := by have := hU8.size; simp at this; omega
    have hy8 : w.heap.size < w8.heap.size := by omega
    have hb8 : ResBlk w.heap.size w8 := (hU8.block _ (by simp; omega) (by omega)).trans (resblk_far hb7 hgz _)
    go_wp2_with fail
    with_reducible refine (spec_l05ReadShortH _ _ _ _ _ _ _ _ h9 hs g8.1 g8.2 (hR8.far hgx _)).mono ?_
    rintro e w9 ⟨rfl, hR9, hU9⟩
    obtain ⟨hc9, hf9⟩ := ucell hU9
    have hz9 : w1.heap.size < w9.heap.size := by have := hU9.size; simp at this; omega
    have hy9 : w.heap.size < w9.heap.size := by omega
    have hb9 : ResBlk w.heap.size w9 := (hU9.block _ (by simp; omega) (by omega)).trans (resblk_far hb8 hgz _)
    obtain ⟨d0, d1, d2, df⟩ := hR9.cells
    have hg9 : w.heap.size + 1 < w9.heap.size := by omega
    go_wp2_with (first | (go_at_call 13; with_reducible refine (spec_CommandTextH _ _ _ _ _ _ _ _ _ _ _ hck).mono ?_; rintro e w11 ⟨rfl, hb11⟩; obtain ⟨hc11, hf11⟩ := bcell hb11; have hz11 : w1.heap.size < w11.heap.size := (by have := hb11.size; (try simp at this); omega); obtain ⟨t0, t1, t2, t3, t4, t5, t6, t7, t8⟩ := resblk_cells (resblk_below (resblk_far hb9 hgz _) hb11); have hy11 : w.heap.size < w11.heap.size := (by omega)))
    all_goals (try (have e := hsm.out; simp_all; done))
    all_goals (try clear hc1 hf1 hc2 hf2 hc3 hf3 hc4 hf4 hc5 hf5 hc6 hf6 hc7 hf7 hc8 hf8 hc9 hf9)
    all_goals (try clear hc11 hf11)
    all_goals (refine bodyPost_ret (v := .tuple #[.agg #[.int .i64 0, .int .i64 0, .int .i64 0, .int .i64 0, .int .i64 0, .int .i64 0, .int .i64 0, .int .i64 0, .string ⟨#[]⟩], .bool false]) ?_ rfl ⟨rfl, ?_⟩)
    rotate_left
    · repeat (with_reducible first | exact Below.refl _ _ | apply bl_alloc | apply bl_drewN | apply bl_drew | refine bl_set ?_ (by first | (simp; done) | (simp; omega) | omega) | refine bl_upd2 (by assumption) ?_ (by omega) | refine bl_then ?_ (by assumption))
    simp only [results, Try.results15]
    go_simp
  · rw [show pickC (!false && true && true) (.agg #[.int .i64 op, .int .i64 tok, .int .i64 seq, .int .i64 topic, .int .i64 dev, .int .i64 edge, .int .i64 ep, .int .i64 up, .string tx]) (.agg #[.int .i64 0, .int .i64 0, .int .i64 0, .int .i64 0, .int .i64 0, .int .i64 0, .int .i64 0, .int .i64 0, .string ⟨#[]⟩]) = .agg #[.int .i64 op, .int .i64 tok, .int .i64 seq, .int .i64 topic, .int .i64 dev, .int .i64 edge, .int .i64 ep, .int .i64 up, .string tx] from rfl, show (!false && true && true) = true from rfl]
    go_enter Try.func15, Try.ntmps15
    go_wp2_with fail
    with_reducible refine (spec_l10OneH _ _ _ _ _ _ _ _ h1 hs g0.1 g0.2 (rd_new (by simp))).mono ?_
    rintro e w1 ⟨rfl, hR1, hU1⟩
    obtain ⟨hc1, hf1⟩ := ucell hU1
    have hz1 : w.heap.size + 1 < w1.heap.size := by have := hU1.size; simp at this; omega
    have hgx : w.heap.size + 1 ≠ w1.heap.size := by omega
    have hgy : w1.heap.size ≠ w.heap.size + 1 := by omega
    have hgz : w.heap.size ≠ w1.heap.size := by omega
    have hgw : w1.heap.size ≠ w.heap.size := by omega
    have hy1 : w.heap.size < w1.heap.size := by omega
    have hb1 : ResBlk w.heap.size w1 := (hU1.block _ (by simp; omega) (by omega)).trans (resblk_new w _)
    go_wp2_with fail
    with_reducible refine (spec_l05VarH _ _ _ _ _ _ _ _ h2 hs ((hR1.below (bl_alloc (Below.refl _ _) _)))).mono ?_
    rintro e w2 ⟨rfl, hR2, hU2⟩
    obtain ⟨hc2, hf2⟩ := ucell hU2
    have hz2 : w1.heap.size < w2.heap.size := by have := hU2.size; simp at this; omega
    have hy2 : w.heap.size < w2.heap.size := by omega
    have hb2 : ResBlk w.heap.size w2 := (hU2.block _ (by simp; omega) (by omega)).trans (resblk_alloc hb1 _)
    go_wp2_with fail
    with_reducible refine (spec_l05VarH _ _ _ _ _ _ _ _ h3 hs (hR2.far hgx _)).mono ?_
    rintro e w3 ⟨rfl, hR3, hU3⟩
    obtain ⟨hc3, hf3⟩ := ucell hU3
    have hz3 : w1.heap.size < w3.heap.size := by have := hU3.size; simp at this; omega
    have hy3 : w.heap.size < w3.heap.size := by omega
    have hb3 : ResBlk w.heap.size w3 := (hU3.block _ (by simp; omega) (by omega)).trans (resblk_far hb2 hgz _)
    go_wp2_with fail
    with_reducible refine (spec_l10OneH _ _ _ _ _ _ _ _ h4 hs g3.1 g3.2 (hR3.far hgx _)).mono ?_
    rintro e w4 ⟨rfl, hR4, hU4⟩
    obtain ⟨hc4, hf4⟩ := ucell hU4
    have hz4 : w1.heap.size < w4.heap.size := by have := hU4.size; simp at this; omega
    have hy4 : w.heap.size < w4.heap.size := by omega
    have hb4 : ResBlk w.heap.size w4 := (hU4.block _ (by simp; omega) (by omega)).trans (resblk_far hb3 hgz _)
    go_wp2_with fail
    with_reducible refine (spec_l10OneH _ _ _ _ _ _ _ _ h5 hs g4.1 g4.2 (hR4.far hgx _)).mono ?_
    rintro e w5 ⟨rfl, hR5, hU5⟩
    obtain ⟨hc5, hf5⟩ := ucell hU5
    have hz5 : w1.heap.size < w5.heap.size := by have := hU5.size; simp at this; omega
    have hy5 : w.heap.size < w5.heap.size := by omega
    have hb5 : ResBlk w.heap.size w5 := (hU5.block _ (by simp; omega) (by omega)).trans (resblk_far hb4 hgz _)
    go_wp2_with fail
    with_reducible refine (spec_l10OneH _ _ _ _ _ _ _ _ h6 hs g5.1 g5.2 (hR5.far hgx _)).mono ?_
    rintro e w6 ⟨rfl, hR6, hU6⟩
    obtain ⟨hc6, hf6⟩ := ucell hU6
    have hz6 : w1.heap.size < w6.heap.size := by have := hU6.size; simp at this; omega
    have hy6 : w.heap.size < w6.heap.size := by omega
    have hb6 : ResBlk w.heap.size w6 := (hU6.block _ (by simp; omega) (by omega)).trans (resblk_far hb5 hgz _)
    go_wp2_with fail
    with_reducible refine (spec_l05VarH _ _ _ _ _ _ _ _ h7 hs (hR6.far hgx _)).mono ?_
    rintro e w7 ⟨rfl, hR7, hU7⟩
    obtain ⟨hc7, hf7⟩ := ucell hU7
    have hz7 : w1.heap.size < w7.heap.size := by have := hU7.size; simp at this; omega
    have hy7 : w.heap.size < w7.heap.size := by omega
    have hb7 : ResBlk w.heap.size w7 := (hU7.block _ (by simp; omega) (by omega)).trans (resblk_far hb6 hgz _)
    go_wp2_with fail
    with_reducible refine (spec_l05VarH _ _ _ _ _ _ _ _ h8 hs (hR7.far hgx _)).mono ?_
    rintro e w8 ⟨rfl, hR8, hU8⟩
    obtain ⟨hc8, hf8⟩ := ucell hU8
    have hz8 : w1.heap.size < w8.heap.size := by have := hU8.size; simp at this; omega
    have hy8 : w.heap.size < w8.heap.size := by omega
    have hb8 : ResBlk w.heap.size w8 := (hU8.block _ (by simp; omega) (by omega)).trans (resblk_far hb7 hgz _)
    go_wp2_with fail
    with_reducible refine (spec_l05ReadShortH _ _ _ _ _ _ _ _ h9 hs g8.1 g8.2 (hR8.far hgx _)).mono ?_
    rintro e w9 ⟨rfl, hR9, hU9⟩
    obtain ⟨hc9, hf9⟩ := ucell hU9
    have hz9 : w1.heap.size < w9.heap.size := by have := hU9.size; simp at this; omega
    have hy9 : w.heap.size < w9.heap.size := by omega
    have hb9 : ResBlk w.heap.size w9 := (hU9.block _ (by simp; omega) (by omega)).trans (resblk_far hb8 hgz _)
    obtain ⟨d0, d1, d2, df⟩ := hR9.cells
    have hg9 : w.heap.size + 1 < w9.heap.size := by omega
    go_wp2_with (first | (go_at_call 13; with_reducible refine (spec_CommandTextH _ _ _ _ _ _ _ _ _ _ _ hck).mono ?_; rintro e w11 ⟨rfl, hb11⟩; obtain ⟨hc11, hf11⟩ := bcell hb11; have hz11 : w1.heap.size < w11.heap.size := (by have := hb11.size; (try simp at this); omega); obtain ⟨t0, t1, t2, t3, t4, t5, t6, t7, t8⟩ := resblk_cells (resblk_below (resblk_far hb9 hgz _) hb11); have hy11 : w.heap.size < w11.heap.size := (by omega)))
    all_goals (try (have e := hsm.out; simp_all; done))
    all_goals (try clear hc1 hf1 hc2 hf2 hc3 hf3 hc4 hf4 hc5 hf5 hc6 hf6 hc7 hf7 hc8 hf8 hc9 hf9)
    all_goals (try clear hc11 hf11)
    all_goals (refine bodyPost_ret (v := .tuple #[.agg #[.int .i64 op, .int .i64 tok, .int .i64 seq, .int .i64 topic, .int .i64 dev, .int .i64 edge, .int .i64 ep, .int .i64 up, .string tx], .bool true]) ?_ rfl ⟨rfl, ?_⟩)
    rotate_left
    · repeat (with_reducible first | exact Below.refl _ _ | apply bl_alloc | apply bl_drewN | apply bl_drew | refine bl_set ?_ (by first | (simp; done) | (simp; omega) | omega) | refine bl_upd2 (by assumption) ?_ (by omega) | refine bl_then ?_ (by assumption))
    simp only [results, Try.results15]
    go_simp
  · rw [show pickC (!true && false && false) (.agg #[.int .i64 op, .int .i64 tok, .int .i64 seq, .int .i64 topic, .int .i64 dev, .int .i64 edge, .int .i64 ep, .int .i64 up, .string tx]) (.agg #[.int .i64 0, .int .i64 0, .int .i64 0, .int .i64 0, .int .i64 0, .int .i64 0, .int .i64 0, .int .i64 0, .string ⟨#[]⟩]) = .agg #[.int .i64 0, .int .i64 0, .int .i64 0, .int .i64 0, .int .i64 0, .int .i64 0, .int .i64 0, .int .i64 0, .string ⟨#[]⟩] from rfl, show (!true && false && false) = false from rfl]
    go_enter Try.func15, Try.ntmps15
    go_wp2_with fail
    with_reducible refine (spec_l10OneH _ _ _ _ _ _ _ _ h1 hs g0.1 g0.2 (rd_new (by simp))).mono ?_
    rintro e w1 ⟨rfl, hR1, hU1⟩
    obtain ⟨hc1, hf1⟩ := ucell hU1
    have hz1 : w.heap.size + 1 < w1.heap.size := by have := hU1.size; simp at this; omega
    have hgx : w.heap.size + 1 ≠ w1.heap.size := by omega
    have hgy : w1.heap.size ≠ w.heap.size + 1 := by omega
    have hgz : w.heap.size ≠ w1.heap.size := by omega
    have hgw : w1.heap.size ≠ w.heap.size := by omega
    have hy1 : w.heap.size < w1.heap.size := by omega
    have hb1 : ResBlk w.heap.size w1 := (hU1.block _ (by simp; omega) (by omega)).trans (resblk_new w _)
    go_wp2_with fail
    with_reducible refine (spec_l05VarH _ _ _ _ _ _ _ _ h2 hs ((hR1.below (bl_alloc (Below.refl _ _) _)))).mono ?_
    rintro e w2 ⟨rfl, hR2, hU2⟩
    obtain ⟨hc2, hf2⟩ := ucell hU2
    have hz2 : w1.heap.size < w2.heap.size := by have := hU2.size; simp at this; omega
    have hy2 : w.heap.size < w2.heap.size := by omega
    have hb2 : ResBlk w.heap.size w2 := (hU2.block _ (by simp; omega) (by omega)).trans (resblk_alloc hb1 _)
    go_wp2_with fail
    with_reducible refine (spec_l05VarH _ _ _ _ _ _ _ _ h3 hs (hR2.far hgx _)).mono ?_
    rintro e w3 ⟨rfl, hR3, hU3⟩
    obtain ⟨hc3, hf3⟩ := ucell hU3
    have hz3 : w1.heap.size < w3.heap.size := by have := hU3.size; simp at this; omega
    have hy3 : w.heap.size < w3.heap.size := by omega
    have hb3 : ResBlk w.heap.size w3 := (hU3.block _ (by simp; omega) (by omega)).trans (resblk_far hb2 hgz _)
    go_wp2_with fail
    with_reducible refine (spec_l10OneH _ _ _ _ _ _ _ _ h4 hs g3.1 g3.2 (hR3.far hgx _)).mono ?_
    rintro e w4 ⟨rfl, hR4, hU4⟩
    obtain ⟨hc4, hf4⟩ := ucell hU4
    have hz4 : w1.heap.size < w4.heap.size := by have := hU4.size; simp at this; omega
    have hy4 : w.heap.size < w4.heap.size := by omega
    have hb4 : ResBlk w.heap.size w4 := (hU4.block _ (by simp; omega) (by omega)).trans (resblk_far hb3 hgz _)
    go_wp2_with fail
    with_reducible refine (spec_l10OneH _ _ _ _ _ _ _ _ h5 hs g4.1 g4.2 (hR4.far hgx _)).mono ?_
    rintro e w5 ⟨rfl, hR5, hU5⟩
    obtain ⟨hc5, hf5⟩ := ucell hU5
    have hz5 : w1.heap.size < w5.heap.size := by have := hU5.size; simp at this; omega
    have hy5 : w.heap.size < w5.heap.size := by omega
    have hb5 : ResBlk w.heap.size w5 := (hU5.block _ (by simp; omega) (by omega)).trans (resblk_far hb4 hgz _)
    go_wp2_with fail
    with_reducible refine (spec_l10OneH _ _ _ _ _ _ _ _ h6 hs g5.1 g5.2 (hR5.far hgx _)).mono ?_
    rintro e w6 ⟨rfl, hR6, hU6⟩
    obtain ⟨hc6, hf6⟩ := ucell hU6
    have hz6 : w1.heap.size < w6.heap.size := by have := hU6.size; simp at this; omega
    have hy6 : w.heap.size < w6.heap.size := by omega
    have hb6 : ResBlk w.heap.size w6 := (hU6.block _ (by simp; omega) (by omega)).trans (resblk_far hb5 hgz _)
    go_wp2_with fail
    with_reducible refine (spec_l05VarH _ _ _ _ _ _ _ _ h7 hs (hR6.far hgx _)).mono ?_
    rintro e w7 ⟨rfl, hR7, hU7⟩
    obtain ⟨hc7, hf7⟩ := ucell hU7
    have hz7 : w1.heap.size < w7.heap.size := by have := hU7.size; simp at this; omega
    have hy7 : w.heap.size < w7.heap.size := by omega
    have hb7 : ResBlk w.heap.size w7 := (hU7.block _ (by simp; omega) (by omega)).trans (resblk_far hb6 hgz _)
    go_wp2_with fail
    with_reducible refine (spec_l05VarH _ _ _ _ _ _ _ _ h8 hs (hR7.far hgx _)).mono ?_
    rintro e w8 ⟨rfl, hR8, hU8⟩
    obtain ⟨hc8, hf8⟩ := ucell hU8
    have hz8 : w1.heap.size < w8.heap.size := by have := hU8.size; simp at this; omega
    have hy8 : w.heap.size < w8.heap.size := by omega
    have hb8 : ResBlk w.heap.size w8 := (hU8.block _ (by simp; omega) (by omega)).trans (resblk_far hb7 hgz _)
    go_wp2_with fail
    with_reducible refine (spec_l05ReadShortH _ _ _ _ _ _ _ _ h9 hs g8.1 g8.2 (hR8.far hgx _)).mono ?_
    rintro e w9 ⟨rfl, hR9, hU9⟩
    obtain ⟨hc9, hf9⟩ := ucell hU9
    have hz9 : w1.heap.size < w9.heap.size := by have := hU9.size; simp at this; omega
    have hy9 : w.heap.size < w9.heap.size := by omega
    have hb9 : ResBlk w.heap.size w9 := (hU9.block _ (by simp; omega) (by omega)).trans (resblk_far hb8 hgz _)
    obtain ⟨d0, d1, d2, df⟩ := hR9.cells
    have hg9 : w.heap.size + 1 < w9.heap.size := by omega
    go_wp2_with (first | (go_at_call 13; with_reducible refine (spec_CommandTextH _ _ _ _ _ _ _ _ _ _ _ hck).mono ?_; rintro e w11 ⟨rfl, hb11⟩; obtain ⟨hc11, hf11⟩ := bcell hb11; have hz11 : w1.heap.size < w11.heap.size := (by have := hb11.size; (try simp at this); omega); obtain ⟨t0, t1, t2, t3, t4, t5, t6, t7, t8⟩ := resblk_cells (resblk_below (resblk_far hb9 hgz _) hb11); have hy11 : w.heap.size < w11.heap.size := (by omega)))
    all_goals (try (have e := hsm.out; simp_all; done))
    all_goals (try clear hc1 hf1 hc2 hf2 hc3 hf3 hc4 hf4 hc5 hf5 hc6 hf6 hc7 hf7 hc8 hf8 hc9 hf9)
    all_goals (try clear hc11 hf11)
    all_goals (refine bodyPost_ret (v := .tuple #[.agg #[.int .i64 0, .int .i64 0, .int .i64 0, .int .i64 0, .int .i64 0, .int .i64 0, .int .i64 0, .int .i64 0, .string ⟨#[]⟩], .bool false]) ?_ rfl ⟨rfl, ?_⟩)
    rotate_left
    · repeat (with_reducible first | exact Below.refl _ _ | apply bl_alloc | apply bl_drewN | apply bl_drew | refine bl_set ?_ (by first | (simp; done) | (simp; omega) | omega) | refine bl_upd2 (by assumption) ?_ (by omega) | refine bl_then ?_ (by assumption))
    simp only [results, Try.results15]
    go_simp
  · rw [show pickC (!true && false && true) (.agg #[.int .i64 op, .int .i64 tok, .int .i64 seq, .int .i64 topic, .int .i64 dev, .int .i64 edge, .int .i64 ep, .int .i64 up, .string tx]) (.agg #[.int .i64 0, .int .i64 0, .int .i64 0, .int .i64 0, .int .i64 0, .int .i64 0, .int .i64 0, .int .i64 0, .string ⟨#[]⟩]) = .agg #[.int .i64 0, .int .i64 0, .int .i64 0, .int .i64 0, .int .i64 0, .int .i64 0, .int .i64 0, .int .i64 0, .string ⟨#[]⟩] from rfl, show (!true && false && true) = false from rfl]
    go_enter Try.func15, Try.ntmps15
    go_wp2_with fail
    with_reducible refine (spec_l10OneH _ _ _ _ _ _ _ _ h1 hs g0.1 g0.2 (rd_new (by simp))).mono ?_
    rintro e w1 ⟨rfl, hR1, hU1⟩
    obtain ⟨hc1, hf1⟩ := ucell hU1
    have hz1 : w.heap.size + 1 < w1.heap.size := by have := hU1.size; simp at this; omega
    have hgx : w.heap.size + 1 ≠ w1.heap.size := by omega
    have hgy : w1.heap.size ≠ w.heap.size + 1 := by omega
    have hgz : w.heap.size ≠ w1.heap.size := by omega
    have hgw : w1.heap.size ≠ w.heap.size := by omega
    have hy1 : w.heap.size < w1.heap.size := by omega
    have hb1 : ResBlk w.heap.size w1 := (hU1.block _ (by simp; omega) (by omega)).trans (resblk_new w _)
    go_wp2_with fail
    with_reducible refine (spec_l05VarH _ _ _ _ _ _ _ _ h2 hs ((hR1.below (bl_alloc (Below.refl _ _) _)))).mono ?_
    rintro e w2 ⟨rfl, hR2, hU2⟩
    obtain ⟨hc2, hf2⟩ := ucell hU2
    have hz2 : w1.heap.size < w2.heap.size := by have := hU2.size; simp at this; omega
    have hy2 : w.heap.size < w2.heap.size := by omega
    have hb2 : ResBlk w.heap.size w2 := (hU2.block _ (by simp; omega) (by omega)).trans (resblk_alloc hb1 _)
    go_wp2_with fail
    with_reducible refine (spec_l05VarH _ _ _ _ _ _ _ _ h3 hs (hR2.far hgx _)).mono ?_
    rintro e w3 ⟨rfl, hR3, hU3⟩
    obtain ⟨hc3, hf3⟩ := ucell hU3
    have hz3 : w1.heap.size < w3.heap.size := by have := hU3.size; simp at this; omega
    have hy3 : w.heap.size < w3.heap.size := by omega
    have hb3 : ResBlk w.heap.size w3 := (hU3.block _ (by simp; omega) (by omega)).trans (resblk_far hb2 hgz _)
    go_wp2_with fail
    with_reducible refine (spec_l10OneH _ _ _ _ _ _ _ _ h4 hs g3.1 g3.2 (hR3.far hgx _)).mono ?_
    rintro e w4 ⟨rfl, hR4, hU4⟩
    obtain ⟨hc4, hf4⟩ := ucell hU4
    have hz4 : w1.heap.size < w4.heap.size := by have := hU4.size; simp at this; omega
    have hy4 : w.heap.size < w4.heap.size := by omega
    have hb4 : ResBlk w.heap.size w4 := (hU4.block _ (by simp; omega) (by omega)).trans (resblk_far hb3 hgz _)
    go_wp2_with fail
    with_reducible refine (spec_l10OneH _ _ _ _ _ _ _ _ h5 hs g4.1 g4.2 (hR4.far hgx _)).mono ?_
    rintro e w5 ⟨rfl, hR5, hU5⟩
    obtain ⟨hc5, hf5⟩ := ucell hU5
    have hz5 : w1.heap.size < w5.heap.size := by have := hU5.size; simp at this; omega
    have hy5 : w.heap.size < w5.heap.size := by omega
    have hb5 : ResBlk w.heap.size w5 := (hU5.block _ (by simp; omega) (by omega)).trans (resblk_far hb4 hgz _)
    go_wp2_with fail
    with_reducible refine (spec_l10OneH _ _ _ _ _ _ _ _ h6 hs g5.1 g5.2 (hR5.far hgx _)).mono ?_
    rintro e w6 ⟨rfl, hR6, hU6⟩
    obtain ⟨hc6, hf6⟩ := ucell hU6
    have hz6 : w1.heap.size < w6.heap.size := by have := hU6.size; simp at this; omega
    have hy6 : w.heap.size < w6.heap.size := by omega
    have hb6 : ResBlk w.heap.size w6 := (hU6.block _ (by simp; omega) (by omega)).trans (resblk_far hb5 hgz _)
    go_wp2_with fail
    with_reducible refine (spec_l05VarH _ _ _ _ _ _ _ _ h7 hs (hR6.far hgx _)).mono ?_
    rintro e w7 ⟨rfl, hR7, hU7⟩
    obtain ⟨hc7, hf7⟩ := ucell hU7
    have hz7 : w1.heap.size < w7.heap.size := by have := hU7.size; simp at this; omega
    have hy7 : w.heap.size < w7.heap.size := by omega
    have hb7 : ResBlk w.heap.size w7 := (hU7.block _ (by simp; omega) (by omega)).trans (resblk_far hb6 hgz _)
    go_wp2_with fail
    with_reducible refine (spec_l05VarH _ _ _ _ _ _ _ _ h8 hs (hR7.far hgx _)).mono ?_
    rintro e w8 ⟨rfl, hR8, hU8⟩
    obtain ⟨hc8, hf8⟩ := ucell hU8
    have hz8 : w1.heap.size < w8.heap.size := by have := hU8.size; simp at this; omega
    have hy8 : w.heap.size < w8.heap.size := by omega
    have hb8 : ResBlk w.heap.size w8 := (hU8.block _ (by simp; omega) (by omega)).trans (resblk_far hb7 hgz _)
    go_wp2_with fail
    with_reducible refine (spec_l05ReadShortH _ _ _ _ _ _ _ _ h9 hs g8.1 g8.2 (hR8.far hgx _)).mono ?_
    rintro e w9 ⟨rfl, hR9, hU9⟩
    obtain ⟨hc9, hf9⟩ := ucell hU9
    have hz9 : w1.heap.size < w9.heap.size := by have := hU9.size; simp at this; omega
    have hy9 : w.heap.size < w9.heap.size := by omega
    have hb9 : ResBlk w.heap.size w9 := (hU9.block _ (by simp; omega) (by omega)).trans (resblk_far hb8 hgz _)
    obtain ⟨d0, d1, d2, df⟩ := hR9.cells
    have hg9 : w.heap.size + 1 < w9.heap.size := by omega
    go_wp2_with (first | (go_at_call 13; with_reducible refine (spec_CommandTextH _ _ _ _ _ _ _ _ _ _ _ hck).mono ?_; rintro e w11 ⟨rfl, hb11⟩; obtain ⟨hc11, hf11⟩ := bcell hb11; have hz11 : w1.heap.size < w11.heap.size := (by have := hb11.size; (try simp at this); omega); obtain ⟨t0, t1, t2, t3, t4, t5, t6, t7, t8⟩ := resblk_cells (resblk_below (resblk_far hb9 hgz _) hb11); have hy11 : w.heap.size < w11.heap.size := (by omega)))
    all_goals (try (have e := hsm.out; simp_all; done))
    all_goals (try clear hc1 hf1 hc2 hf2 hc3 hf3 hc4 hf4 hc5 hf5 hc6 hf6 hc7 hf7 hc8 hf8 hc9 hf9)
    all_goals (try clear hc11 hf11)
    all_goals (refine bodyPost_ret (v := .tuple #[.agg #[.int .i64 0, .int .i64 0, .int .i64 0, .int .i64 0, .int .i64 0, .int .i64 0, .int .i64 0, .int .i64 0, .string ⟨#[]⟩], .bool false]) ?_ rfl ⟨rfl, ?_⟩)
    rotate_left
    · repeat (with_reducible first | exact Below.refl _ _ | apply bl_alloc | apply bl_drewN | apply bl_drew | refine bl_set ?_ (by first | (simp; done) | (simp; omega) | omega) | refine bl_upd2 (by assumption) ?_ (by omega) | refine bl_then ?_ (by assumption))
    simp only [results, Try.results15]
    go_simp
  · rw [show pickC (!true && true && false) (.agg #[.int .i64 op, .int .i64 tok, .int .i64 seq, .int .i64 topic, .int .i64 dev, .int .i64 edge, .int .i64 ep, .int .i64 up, .string tx]) (.agg #[.int .i64 0, .int .i64 0, .int .i64 0, .int .i64 0, .int .i64 0, .int .i64 0, .int .i64 0, .int .i64 0, .string ⟨#[]⟩]) = .agg #[.int .i64 0, .int .i64 0, .int .i64 0, .int .i64 0, .int .i64 0, .int .i64 0, .int .i64 0, .int .i64 0, .string ⟨#[]⟩] from rfl, show (!true && true && false) = false from rfl]
    go_enter Try.func15, Try.ntmps15
    go_wp2_with fail
    with_reducible refine (spec_l10OneH _ _ _ _ _ _ _ _ h1 hs g0.1 g0.2 (rd_new (by simp))).mono ?_
    rintro e w1 ⟨rfl, hR1, hU1⟩
    obtain ⟨hc1, hf1⟩ := ucell hU1
    have hz1 : w.heap.size + 1 < w1.heap.size := by have := hU1.size; simp at this; omega
    have hgx : w.heap.size + 1 ≠ w1.heap.size := by omega
    have hgy : w1.heap.size ≠ w.heap.size + 1 := by omega
    have hgz : w.heap.size ≠ w1.heap.size := by omega
    have hgw : w1.heap.size ≠ w.heap.size := by omega
    have hy1 : w.heap.size < w1.heap.size := by omega
    have hb1 : ResBlk w.heap.size w1 := (hU1.block _ (by simp; omega) (by omega)).trans (resblk_new w _)
    go_wp2_with fail
    with_reducible refine (spec_l05VarH _ _ _ _ _ _ _ _ h2 hs ((hR1.below (bl_alloc (Below.refl _ _) _)))).mono ?_
    rintro e w2 ⟨rfl, hR2, hU2⟩
    obtain ⟨hc2, hf2⟩ := ucell hU2
    have hz2 : w1.heap.size < w2.heap.size := by have := hU2.size; simp at this; omega
    have hy2 : w.heap.size < w2.heap.size := by omega
    have hb2 : ResBlk w.heap.size w2 := (hU2.block _ (by simp; omega) (by omega)).trans (resblk_alloc hb1 _)
    go_wp2_with fail
    with_reducible refine (spec_l05VarH _ _ _ _ _ _ _ _ h3 hs (hR2.far hgx _)).mono ?_
    rintro e w3 ⟨rfl, hR3, hU3⟩
    obtain ⟨hc3, hf3⟩ := ucell hU3
    have hz3 : w1.heap.size < w3.heap.size := by have := hU3.size; simp at this; omega
    have hy3 : w.heap.size < w3.heap.size := by omega
    have hb3 : ResBlk w.heap.size w3 := (hU3.block _ (by simp; omega) (by omega)).trans (resblk_far hb2 hgz _)
    go_wp2_with fail
    with_reducible refine (spec_l10OneH _ _ _ _ _ _ _ _ h4 hs g3.1 g3.2 (hR3.far hgx _)).mono ?_
    rintro e w4 ⟨rfl, hR4, hU4⟩
    obtain ⟨hc4, hf4⟩ := ucell hU4
    have hz4 : w1.heap.size < w4.heap.size := by have := hU4.size; simp at this; omega
    have hy4 : w.heap.size < w4.heap.size := by omega
    have hb4 : ResBlk w.heap.size w4 := (hU4.block _ (by simp; omega) (by omega)).trans (resblk_far hb3 hgz _)
    go_wp2_with fail
    with_reducible refine (spec_l10OneH _ _ _ _ _ _ _ _ h5 hs g4.1 g4.2 (hR4.far hgx _)).mono ?_
    rintro e w5 ⟨rfl, hR5, hU5⟩
    obtain ⟨hc5, hf5⟩ := ucell hU5
    have hz5 : w1.heap.size < w5.heap.size := by have := hU5.size; simp at this; omega
    have hy5 : w.heap.size < w5.heap.size := by omega
    have hb5 : ResBlk w.heap.size w5 := (hU5.block _ (by simp; omega) (by omega)).trans (resblk_far hb4 hgz _)
    go_wp2_with fail
    with_reducible refine (spec_l10OneH _ _ _ _ _ _ _ _ h6 hs g5.1 g5.2 (hR5.far hgx _)).mono ?_
    rintro e w6 ⟨rfl, hR6, hU6⟩
    obtain ⟨hc6, hf6⟩ := ucell hU6
    have hz6 : w1.heap.size < w6.heap.size := by have := hU6.size; simp at this; omega
    have hy6 : w.heap.size < w6.heap.size := by omega
    have hb6 : ResBlk w.heap.size w6 := (hU6.block _ (by simp; omega) (by omega)).trans (resblk_far hb5 hgz _)
    go_wp2_with fail
    with_reducible refine (spec_l05VarH _ _ _ _ _ _ _ _ h7 hs (hR6.far hgx _)).mono ?_
    rintro e w7 ⟨rfl, hR7, hU7⟩
    obtain ⟨hc7, hf7⟩ := ucell hU7
    have hz7 : w1.heap.size < w7.heap.size := by have := hU7.size; simp at this; omega
    have hy7 : w.heap.size < w7.heap.size := by omega
    have hb7 : ResBlk w.heap.size w7 := (hU7.block _ (by simp; omega) (by omega)).trans (resblk_far hb6 hgz _)
    go_wp2_with fail
    with_reducible refine (spec_l05VarH _ _ _ _ _ _ _ _ h8 hs (hR7.far hgx _)).mono ?_
    rintro e w8 ⟨rfl, hR8, hU8⟩
    obtain ⟨hc8, hf8⟩ := ucell hU8
    have hz8 : w1.heap.size < w8.heap.size := by have := hU8.size; simp at this; omega
    have hy8 : w.heap.size < w8.heap.size := by omega
    have hb8 : ResBlk w.heap.size w8 := (hU8.block _ (by simp; omega) (by omega)).trans (resblk_far hb7 hgz _)
    go_wp2_with fail
    with_reducible refine (spec_l05ReadShortH _ _ _ _ _ _ _ _ h9 hs g8.1 g8.2 (hR8.far hgx _)).mono ?_
    rintro e w9 ⟨rfl, hR9, hU9⟩
    obtain ⟨hc9, hf9⟩ := ucell hU9
    have hz9 : w1.heap.size < w9.heap.size := by have := hU9.size; simp at this; omega
    have hy9 : w.heap.size < w9.heap.size := by omega
    have hb9 : ResBlk w.heap.size w9 := (hU9.block _ (by simp; omega) (by omega)).trans (resblk_far hb8 hgz _)
    obtain ⟨d0, d1, d2, df⟩ := hR9.cells
    have hg9 : w.heap.size + 1 < w9.heap.size := by omega
    go_wp2_with (first | (go_at_call 13; with_reducible refine (spec_CommandTextH _ _ _ _ _ _ _ _ _ _ _ hck).mono ?_; rintro e w11 ⟨rfl, hb11⟩; obtain ⟨hc11, hf11⟩ := bcell hb11; have hz11 : w1.heap.size < w11.heap.size := (by have := hb11.size; (try simp at this); omega); obtain ⟨t0, t1, t2, t3, t4, t5, t6, t7, t8⟩ := resblk_cells (resblk_below (resblk_far hb9 hgz _) hb11); have hy11 : w.heap.size < w11.heap.size := (by omega)))
    all_goals (try (have e := hsm.out; simp_all; done))
    all_goals (try clear hc1 hf1 hc2 hf2 hc3 hf3 hc4 hf4 hc5 hf5 hc6 hf6 hc7 hf7 hc8 hf8 hc9 hf9)
    all_goals (try clear hc11 hf11)
    all_goals (refine bodyPost_ret (v := .tuple #[.agg #[.int .i64 0, .int .i64 0, .int .i64 0, .int .i64 0, .int .i64 0, .int .i64 0, .int .i64 0, .int .i64 0, .string ⟨#[]⟩], .bool false]) ?_ rfl ⟨rfl, ?_⟩)
    rotate_left
    · repeat (with_reducible first | exact Below.refl _ _ | apply bl_alloc | apply bl_drewN | apply bl_drew | refine bl_set ?_ (by first | (simp; done) | (simp; omega) | omega) | refine bl_upd2 (by assumption) ?_ (by omega) | refine bl_then ?_ (by assumption))
    simp only [results, Try.results15]
    go_simp
  · rw [show pickC (!true && true && true) (.agg #[.int .i64 op, .int .i64 tok, .int .i64 seq, .int .i64 topic, .int .i64 dev, .int .i64 edge, .int .i64 ep, .int .i64 up, .string tx]) (.agg #[.int .i64 0, .int .i64 0, .int .i64 0, .int .i64 0, .int .i64 0, .int .i64 0, .int .i64 0, .int .i64 0, .string ⟨#[]⟩]) = .agg #[.int .i64 0, .int .i64 0, .int .i64 0, .int .i64 0, .int .i64 0, .int .i64 0, .int .i64 0, .int .i64 0, .string ⟨#[]⟩] from rfl, show (!true && true && true) = false from rfl]
    go_enter Try.func15, Try.ntmps15
    go_wp2_with fail
    with_reducible refine (spec_l10OneH _ _ _ _ _ _ _ _ h1 hs g0.1 g0.2 (rd_new (by simp))).mono ?_
    rintro e w1 ⟨rfl, hR1, hU1⟩
    obtain ⟨hc1, hf1⟩ := ucell hU1
    have hz1 : w.heap.size + 1 < w1.heap.size := by have := hU1.size; simp at this; omega
    have hgx : w.heap.size + 1 ≠ w1.heap.size := by omega
    have hgy : w1.heap.size ≠ w.heap.size + 1 := by omega
    have hgz : w.heap.size ≠ w1.heap.size := by omega
    have hgw : w1.heap.size ≠ w.heap.size := by omega
    have hy1 : w.heap.size < w1.heap.size := by omega
    have hb1 : ResBlk w.heap.size w1 := (hU1.block _ (by simp; omega) (by omega)).trans (resblk_new w _)
    go_wp2_with fail
    with_reducible refine (spec_l05VarH _ _ _ _ _ _ _ _ h2 hs ((hR1.below (bl_alloc (Below.refl _ _) _)))).mono ?_
    rintro e w2 ⟨rfl, hR2, hU2⟩
    obtain ⟨hc2, hf2⟩ := ucell hU2
    have hz2 : w1.heap.size < w2.heap.size := by have := hU2.size; simp at this; omega
    have hy2 : w.heap.size < w2.heap.size := by omega
    have hb2 : ResBlk w.heap.size w2 := (hU2.block _ (by simp; omega) (by omega)).trans (resblk_alloc hb1 _)
    go_wp2_with fail
    with_reducible refine (spec_l05VarH _ _ _ _ _ _ _ _ h3 hs (hR2.far hgx _)).mono ?_
    rintro e w3 ⟨rfl, hR3, hU3⟩
    obtain ⟨hc3, hf3⟩ := ucell hU3
    have hz3 : w1.heap.size < w3.heap.size := by have := hU3.size; simp at this; omega
    have hy3 : w.heap.size < w3.heap.size := by omega
    have hb3 : ResBlk w.heap.size w3 := (hU3.block _ (by simp; omega) (by omega)).trans (resblk_far hb2 hgz _)
    go_wp2_with fail
    with_reducible refine (spec_l10OneH _ _ _ _ _ _ _ _ h4 hs g3.1 g3.2 (hR3.far hgx _)).mono ?_
    rintro e w4 ⟨rfl, hR4, hU4⟩
    obtain ⟨hc4, hf4⟩ := ucell hU4
    have hz4 : w1.heap.size < w4.heap.size := by have := hU4.size; simp at this; omega
    have hy4 : w.heap.size < w4.heap.size := by omega
    have hb4 : ResBlk w.heap.size w4 := (hU4.block _ (by simp; omega) (by omega)).trans (resblk_far hb3 hgz _)
    go_wp2_with fail
    with_reducible refine (spec_l10OneH _ _ _ _ _ _ _ _ h5 hs g4.1 g4.2 (hR4.far hgx _)).mono ?_
    rintro e w5 ⟨rfl, hR5, hU5⟩
    obtain ⟨hc5, hf5⟩ := ucell hU5
    have hz5 : w1.heap.size < w5.heap.size := by have := hU5.size; simp at this; omega
    have hy5 : w.heap.size < w5.heap.size := by omega
    have hb5 : ResBlk w.heap.size w5 := (hU5.block _ (by simp; omega) (by omega)).trans (resblk_far hb4 hgz _)
    go_wp2_with fail
    with_reducible refine (spec_l10OneH _ _ _ _ _ _ _ _ h6 hs g5.1 g5.2 (hR5.far hgx _)).mono ?_
    rintro e w6 ⟨rfl, hR6, hU6⟩
    obtain ⟨hc6, hf6⟩ := ucell hU6
    have hz6 : w1.heap.size < w6.heap.size := by have := hU6.size; simp at this; omega
    have hy6 : w.heap.size < w6.heap.size := by omega
    have hb6 : ResBlk w.heap.size w6 := (hU6.block _ (by simp; omega) (by omega)).trans (resblk_far hb5 hgz _)
    go_wp2_with fail
    with_reducible refine (spec_l05VarH _ _ _ _ _ _ _ _ h7 hs (hR6.far hgx _)).mono ?_
    rintro e w7 ⟨rfl, hR7, hU7⟩
    obtain ⟨hc7, hf7⟩ := ucell hU7
    have hz7 : w1.heap.size < w7.heap.size := by have := hU7.size; simp at this; omega
    have hy7 : w.heap.size < w7.heap.size := by omega
    have hb7 : ResBlk w.heap.size w7 := (hU7.block _ (by simp; omega) (by omega)).trans (resblk_far hb6 hgz _)
    go_wp2_with fail
    with_reducible refine (spec_l05VarH _ _ _ _ _ _ _ _ h8 hs (hR7.far hgx _)).mono ?_
    rintro e w8 ⟨rfl, hR8, hU8⟩
    obtain ⟨hc8, hf8⟩ := ucell hU8
    have hz8 : w1.heap.size < w8.heap.size := by have := hU8.size; simp at this; omega
    have hy8 : w.heap.size < w8.heap.size := by omega
    have hb8 : ResBlk w.heap.size w8 := (hU8.block _ (by simp; omega) (by omega)).trans (resblk_far hb7 hgz _)
    go_wp2_with fail
    with_reducible refine (spec_l05ReadShortH _ _ _ _ _ _ _ _ h9 hs g8.1 g8.2 (hR8.far hgx _)).mono ?_
    rintro e w9 ⟨rfl, hR9, hU9⟩
    obtain ⟨hc9, hf9⟩ := ucell hU9
    have hz9 : w1.heap.size < w9.heap.size := by have := hU9.size; simp at this; omega
    have hy9 : w.heap.size < w9.heap.size := by omega
    have hb9 : ResBlk w.heap.size w9 := (hU9.block _ (by simp; omega) (by omega)).trans (resblk_far hb8 hgz _)
    obtain ⟨d0, d1, d2, df⟩ := hR9.cells
    have hg9 : w.heap.size + 1 < w9.heap.size := by omega
    go_wp2_with (first | (go_at_call 13; with_reducible refine (spec_CommandTextH _ _ _ _ _ _ _ _ _ _ _ hck).mono ?_; rintro e w11 ⟨rfl, hb11⟩; obtain ⟨hc11, hf11⟩ := bcell hb11; have hz11 : w1.heap.size < w11.heap.size := (by have := hb11.size; (try simp at this); omega); obtain ⟨t0, t1, t2, t3, t4, t5, t6, t7, t8⟩ := resblk_cells (resblk_below (resblk_far hb9 hgz _) hb11); have hy11 : w.heap.size < w11.heap.size := (by omega)))
    all_goals (try (have e := hsm.out; simp_all; done))
    all_goals (try clear hc1 hf1 hc2 hf2 hc3 hf3 hc4 hf4 hc5 hf5 hc6 hf6 hc7 hf7 hc8 hf8 hc9 hf9)
    all_goals (try clear hc11 hf11)
    all_goals (refine bodyPost_ret (v := .tuple #[.agg #[.int .i64 0, .int .i64 0, .int .i64 0, .int .i64 0, .int .i64 0, .int .i64 0, .int .i64 0, .int .i64 0, .string ⟨#[]⟩], .bool false]) ?_ rfl ⟨rfl, ?_⟩)
    rotate_left
    · repeat (with_reducible first | exact Below.refl _ _ | apply bl_alloc | apply bl_drewN | apply bl_drew | refine bl_set ?_ (by first | (simp; done) | (simp; omega) | omega) | refine bl_upd2 (by assumption) ?_ (by omega) | refine bl_then ?_ (by assumption))
    simp only [results, Try.results15]
    go_simp

end Go.Proofs.Ytlbikcelfheohaa
