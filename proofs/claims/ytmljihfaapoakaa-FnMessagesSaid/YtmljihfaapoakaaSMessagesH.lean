import Derived.Test.YtmljihfaapoakaaSMessagesG

section
namespace Go.Proofs.Ytmljihfaapoakaa.PFnMessages
open Go.RowKit Go.Proofs.YtmljihfaapoakaaW.PrintWords
set_option linter.unusedSimpArgs false
set_option linter.unusedVariables false
theorem text_l (bs : List Int) (hb : bs.length ≤ 1048576) (x : Int) : ∀ (n k : Nat) (i : Int) (acc : List Int) (ii s : Int), 0 ≤ i → i + n = x → n < k → acc.length + n ≤ 5000 → x ≤ 5000 → 0 ≤ ii → ii ≤ (bs.length : Int) →
    ∃ (r : ByteArray) (i' h' : Int), spec_l01Text.l0 k x acc i bs ii s = some (r, i', h') ∧ r.size = acc.length + n ∧ 0 ≤ i' ∧ i' ≤ (bs.length : Int) := by
  intro n
  induction n with
  | zero =>
    intro k i acc ii s h0 h hk ha hx h1 h2
    obtain ⟨k, rfl⟩ : ∃ j, k = j + 1 := ⟨k - 1, by omega⟩
    unfold spec_l01Text.l0
    rw [if_neg (by omega)]
    exact ⟨_, _, _, rfl, by rw [strOfNums_size]; rfl, h1, h2⟩
  | succ n ih =>
    intro k i acc ii s h0 h hk ha hx h1 h2
    obtain ⟨k, rfl⟩ : ∃ j, k = j + 1 := ⟨k - 1, by omega⟩
    have e : wrap64 (i + 1) = i + 1 := by unfold wrap64; omega
    obtain ⟨r1, i1, s1, e1, -, h3, h4⟩ := byte_t bs ii s h1 h2 hb
    unfold spec_l01Text.l0
    rw [if_pos (by omega), e1, Option.bind_some, if_pos (by omega), e]
    obtain ⟨r, i', h', e2, h5, h6, h7⟩ := ih k (i + 1) (acc ++ [r1 % 256]) i1 s1 (by omega) (by omega) (by omega) (by simp; omega) hx h3 h4
    exact ⟨r, i', h', e2, by rw [h5]; simp; omega, h6, h7⟩
theorem text_t (bs : List Int) (n : Nat) (i h : Int) (hn : n ≤ 5000) (h0 : 0 ≤ i) (h1 : i ≤ (bs.length : Int)) (hb : bs.length ≤ 1048576) :
    ∃ (r : ByteArray) (i' h' : Int), spec_l01Text.f 5003 bs i h (n : Int) = some (r, i', h') ∧ r.size = n ∧ 0 ≤ i' ∧ i' ≤ (bs.length : Int) := by
  unfold spec_l01Text.f
  rw [if_neg (by omega)]
  unfold spec_l01Text.j0
  obtain ⟨r, i', h', e2, h5, h6, h7⟩ := text_l bs hb (n : Int) n 5002 0 [] i h (by omega) (by omega) (by omega) (by simp; omega) (by omega) h0 h1
  exact ⟨r, i', h', e2, by simpa using h5, h6, h7⟩
theorem text_C (x : Int) (n : Nat) (hx : x = (n : Int)) (hn : n ≤ 5000) {w0 w : World} {g : Nat} (hc : Cur w0 w g) :
    Calls Try.prog 59 #[.pointer (some ⟨g, 0, none⟩), .int .i64 x] w fun e w' => ∃ r : ByteArray, e = .returned (.string r) ∧ r.size = n ∧ Cur w0 w' g ∧ KeepBut w w' g none := by
  subst hx
  obtain ⟨bs, i, s, h1, h2, h3, h4, h5⟩ := hc
  obtain ⟨r, i', s', e, hr, h6, h7⟩ := text_t bs n i s hn h2 h3 h1
  refine (spec_l01Text.calls 5003 g bs i s n r i' s' w0 w h4 h5 e).mono ?_
  rintro e w' ⟨rfl, k1, k2, k3⟩
  exact ⟨r, rfl, hr, ⟨bs, i', s', h1, h6, h7, k1, k2⟩, k3⟩
theorem confDraw_C {w0 w : World} {g : Nat} (hc : Cur w0 w g) :
    Calls Try.prog 63 #[.pointer (some ⟨g, 0, none⟩)] w fun e w' => ∃ (v : Value) (xs : List Int), e = .returned v ∧ xs.length ≤ 6 ∧ Kd.R (Kd.int .i64) 3 w' w.heap.size (fun _ => True) v xs ∧ Cur w0 w' g ∧ KeepBut w w' g none := by
  obtain ⟨bs, i, s, h1, h2, h3, h4, h5⟩ := hc
  obtain ⟨r, i1, s1, e1, hm, g2, g3⟩ := conf_l bs h1 4 5 [] 1 i s (by omega) (by omega) (by omega) (by omega) (by simp) (by simp) h2 h3
  refine (spec_l05Conf.calls 5 g bs i s r i1 s1 w0 w h4 h5 e1).mono ?_
  rintro e w' ⟨v, rfl, hR, k1, k2, k3⟩
  exact ⟨v, r, rfl, by omega, hR, ⟨bs, i1, s1, h1, g2, g3, k1, k2⟩, k3⟩
theorem anyConf_R {w0 w : World} {g : Nat} (hc : Cur w0 w g) :
    Calls Try.prog 47 #[.pointer (some ⟨g, 0, none⟩)] w fun e w' => ∃ (v : Value) (xs : List Int), e = .returned v ∧ xs.length ≤ 6 ∧ Kd.R (Kd.int .i64) 3 w' w.heap.size (fun _ => True) v xs ∧ Cur w0 w' g ∧ KeepBut w w' g none := by
  obtain ⟨bs, i, s, h1, h2, h3, h4, h5⟩ := hc
  obtain ⟨r, i1, s1, e1, hm, g2, g3⟩ := conf_l bs h1 4 5 [] 1 i s (by omega) (by omega) (by omega) (by omega) (by simp) (by simp) h2 h3
  obtain ⟨q, i2, s2, e2, -, g4, g5⟩ := below_t bs i1 s1 12 g2 g3 h1
  have hf : ∃ r i' h', spec_l05AnyConf.f 5 bs i s = some (r, i', h') ∧ r.length ≤ 5 ∧ 0 ≤ i' ∧ i' ≤ (bs.length : Int) := by
    unfold spec_l05AnyConf.f spec_l05Conf.f
    rw [e1, Option.bind_some, e2, Option.bind_some]
    by_cases q0 : q = 0
    · rw [if_pos q0]
      obtain ⟨r3, i3, s3, e3, -, g6, g7⟩ := pickInt_t bs i2 s2 [0, 4, 5, 1] (by decide) g4 g5 h1
      rw [e3, Option.bind_some, if_pos (by show r.length < 17592186044416; omega)]
      exact ⟨_, _, _, rfl, by show (r ++ [r3]).length ≤ 5; simp; omega, g6, g7⟩
    · rw [if_neg q0]
      by_cases q1 : q = 1
      · rw [if_pos q1]
        exact ⟨_, _, _, rfl, by simp, g4, g5⟩
      · rw [if_neg q1]
        exact ⟨_, _, _, rfl, by show r.length ≤ 5; omega, g4, g5⟩
  obtain ⟨r, i', s', e, hm, h6, h7⟩ := hf
  refine (spec_l05AnyConf.calls 5 g bs i s r i' s' w0 w h4 h5 e).mono ?_
  rintro e w' ⟨v, rfl, hR, k1, k2, k3⟩
  exact ⟨v, r, rfl, by omega, hR, ⟨bs, i', s', h1, h6, h7, k1, k2⟩, k3⟩
structure MsgF where
  a0 : Int
  a1 : Int
  a2 : Int
  a3 : Int
  a4 : Int
  a5 : Int
  a6 : Int
  a7 : Bool
  d : ByteArray
  ls : Bool
def MsgAt (w0 w : World) (g b3 : Nat) (n : Nat) (W : World) : Prop := Dw w0 w g W ∧ Blk 27 w.heap.size #[.int .i64 0, .int .i64 0, .int .i64 0, .int .i64 0, .int .i64 0, .int .i64 0, .int .i64 0, .bool false, .slice none 0 0, .slice none 0 0, .string ⟨#[]⟩, .bool false] W ∧ ∃ (m : MsgF) (vE : Value) (es : List S43) (vC : Value) (cf : List Int), es.length ≤ n ∧ Ents w W vE es ∧ Ints w W vC cf ∧ m.d.size ≤ 200 ∧ Blk 27 b3 #[.int .i64 m.a0, .int .i64 m.a1, .int .i64 m.a2, .int .i64 m.a3, .int .i64 m.a4, .int .i64 m.a5, .int .i64 m.a6, .bool m.a7, vE, vC, .string m.d, .bool m.ls] W
section
set_option linter.unusedSectionVars false
variable {w0 w : World} {g b3 n : Nat} {W : World} (hg : g < w.heap.size) (h3 : w.heap.size + 1 ≤ b3) (h0 : w0.heap.size ≤ w.heap.size)
theorem MsgAt.more {n' : Nat} (h : MsgAt w0 w g b3 n W) (hn : n ≤ n') : MsgAt w0 w g b3 n' W := by
  obtain ⟨D, k2, m, vE, es, vC, cf, h1, he, hi, hd, k3⟩ := h
  exact ⟨D, k2, m, vE, es, vC, cf, by omega, he, hi, hd, k3⟩
include hg h3
theorem MsgAt.step {W' : World} (h : MsgAt w0 w g b3 n W) (hc : Cur w0 W' g) (hk : KeepBut W W' g none) : MsgAt w0 w g b3 n W' := by
  obtain ⟨D, k2, m, vE, es, vC, cf, hn, he, hi, hd, k3⟩ := h
  exact ⟨D.step hc hk, blk_keep k2 hk (by omega), m, vE, es, vC, cf, hn, he.keep hk hg, hi.keep hk hg, hd, blk_keep k3 hk (by omega)⟩
theorem MsgAt.below {W' : World} (h : MsgAt w0 w g b3 n W) (hb : Below W.heap.size W W') : MsgAt w0 w g b3 n W' := by
  obtain ⟨D, k2, m, vE, es, vC, cf, hn, he, hi, hd, k3⟩ := h
  exact ⟨D.below hb, k2.below hb, m, vE, es, vC, cf, hn, he.below hb, hi.below hb, hd, k3.below hb⟩
include h0
theorem MsgAt.set0 (h : MsgAt w0 w g b3 n W) (u : Int) : MsgAt w0 w g b3 n (W.setCell ⟨b3, 0, none⟩ (.int .i64 u)) := by
  obtain ⟨D, k2, m, vE, es, vC, cf, hn, he, hi, hd, k3⟩ := h
  exact ⟨D.far hg (p := ⟨b3, 0, none⟩) (by show w.heap.size ≤ b3; omega) _ h0, k2.far (a := ⟨b3, 0, none⟩) (by show w.heap.size ≠ b3; omega) _, { m with a0 := u }, vE, es, vC, cf, hn, he.far k3 (by decide) _ _, hi.far k3 (by decide) _ _, hd, k3.set 0 _ rfl⟩
theorem MsgAt.set1 (h : MsgAt w0 w g b3 n W) (u : Int) : MsgAt w0 w g b3 n (W.setCell ⟨b3, 1, none⟩ (.int .i64 u)) := by
  obtain ⟨D, k2, m, vE, es, vC, cf, hn, he, hi, hd, k3⟩ := h
  exact ⟨D.far hg (p := ⟨b3, 1, none⟩) (by show w.heap.size ≤ b3; omega) _ h0, k2.far (a := ⟨b3, 1, none⟩) (by show w.heap.size ≠ b3; omega) _, { m with a1 := u }, vE, es, vC, cf, hn, he.far k3 (by decide) _ _, hi.far k3 (by decide) _ _, hd, k3.set 1 _ rfl⟩
theorem MsgAt.set2 (h : MsgAt w0 w g b3 n W) (u : Int) : MsgAt w0 w g b3 n (W.setCell ⟨b3, 2, none⟩ (.int .i64 u)) := by
  obtain ⟨D, k2, m, vE, es, vC, cf, hn, he, hi, hd, k3⟩ := h
  exact ⟨D.far hg (p := ⟨b3, 2, none⟩) (by show w.heap.size ≤ b3; omega) _ h0, k2.far (a := ⟨b3, 2, none⟩) (by show w.heap.size ≠ b3; omega) _, { m with a2 := u }, vE, es, vC, cf, hn, he.far k3 (by decide) _ _, hi.far k3 (by decide) _ _, hd, k3.set 2 _ rfl⟩
theorem MsgAt.set3 (h : MsgAt w0 w g b3 n W) (u : Int) : MsgAt w0 w g b3 n (W.setCell ⟨b3, 3, none⟩ (.int .i64 u)) := by
  obtain ⟨D, k2, m, vE, es, vC, cf, hn, he, hi, hd, k3⟩ := h
  exact ⟨D.far hg (p := ⟨b3, 3, none⟩) (by show w.heap.size ≤ b3; omega) _ h0, k2.far (a := ⟨b3, 3, none⟩) (by show w.heap.size ≠ b3; omega) _, { m with a3 := u }, vE, es, vC, cf, hn, he.far k3 (by decide) _ _, hi.far k3 (by decide) _ _, hd, k3.set 3 _ rfl⟩
theorem MsgAt.set4 (h : MsgAt w0 w g b3 n W) (u : Int) : MsgAt w0 w g b3 n (W.setCell ⟨b3, 4, none⟩ (.int .i64 u)) := by
  obtain ⟨D, k2, m, vE, es, vC, cf, hn, he, hi, hd, k3⟩ := h
  exact ⟨D.far hg (p := ⟨b3, 4, none⟩) (by show w.heap.size ≤ b3; omega) _ h0, k2.far (a := ⟨b3, 4, none⟩) (by show w.heap.size ≠ b3; omega) _, { m with a4 := u }, vE, es, vC, cf, hn, he.far k3 (by decide) _ _, hi.far k3 (by decide) _ _, hd, k3.set 4 _ rfl⟩
theorem MsgAt.set5 (h : MsgAt w0 w g b3 n W) (u : Int) : MsgAt w0 w g b3 n (W.setCell ⟨b3, 5, none⟩ (.int .i64 u)) := by
  obtain ⟨D, k2, m, vE, es, vC, cf, hn, he, hi, hd, k3⟩ := h
  exact ⟨D.far hg (p := ⟨b3, 5, none⟩) (by show w.heap.size ≤ b3; omega) _ h0, k2.far (a := ⟨b3, 5, none⟩) (by show w.heap.size ≠ b3; omega) _, { m with a5 := u }, vE, es, vC, cf, hn, he.far k3 (by decide) _ _, hi.far k3 (by decide) _ _, hd, k3.set 5 _ rfl⟩
theorem MsgAt.set10 (h : MsgAt w0 w g b3 n W) (u : ByteArray) (hu : u.size ≤ 200) : MsgAt w0 w g b3 n (W.setCell ⟨b3, 10, none⟩ (.string u)) := by
  obtain ⟨D, k2, m, vE, es, vC, cf, hn, he, hi, hd, k3⟩ := h
  exact ⟨D.far hg (p := ⟨b3, 10, none⟩) (by show w.heap.size ≤ b3; omega) _ h0, k2.far (a := ⟨b3, 10, none⟩) (by show w.heap.size ≠ b3; omega) _, { m with d := u }, vE, es, vC, cf, hn, he.far k3 (by decide) _ _, hi.far k3 (by decide) _ _, hu, k3.set 10 _ rfl⟩
theorem MsgAt.set11 (h : MsgAt w0 w g b3 n W) (u : Bool) : MsgAt w0 w g b3 n (W.setCell ⟨b3, 11, none⟩ (.bool u)) := by
  obtain ⟨D, k2, m, vE, es, vC, cf, hn, he, hi, hd, k3⟩ := h
  exact ⟨D.far hg (p := ⟨b3, 11, none⟩) (by show w.heap.size ≤ b3; omega) _ h0, k2.far (a := ⟨b3, 11, none⟩) (by show w.heap.size ≠ b3; omega) _, { m with ls := u }, vE, es, vC, cf, hn, he.far k3 (by decide) _ _, hi.far k3 (by decide) _ _, hd, k3.set 11 _ rfl⟩
theorem MsgAt.set9 (h : MsgAt w0 w g b3 n W) (u : Value) (xs : List Int) (hu : Ints w W u xs) : MsgAt w0 w g b3 n (W.setCell ⟨b3, 9, none⟩ u) := by
  obtain ⟨D, k2, m, vE, es, vC, cf, hn, he, hi, hd, k3⟩ := h
  exact ⟨D.far hg (p := ⟨b3, 9, none⟩) (by show w.heap.size ≤ b3; omega) _ h0, k2.far (a := ⟨b3, 9, none⟩) (by show w.heap.size ≠ b3; omega) _, m, vE, es, u, xs, hn, he.far k3 (by decide) _ _, hu.far k3 (by decide) _ _, hd, k3.set 9 _ rfl⟩
end
theorem msg_fill {w0 w W : World} {g b : Nat} {vE vC : Value} {es : List S43} {cf : List Int} (D : Dw w0 w g W) (hg : g < w.heap.size) (hb : w.heap.size ≤ b) (h0 : w0.heap.size ≤ w.heap.size) (h : Blk 27 b #[.int .i64 0, .int .i64 0, .int .i64 0, .int .i64 0, .int .i64 0, .int .i64 0, .int .i64 0, .bool false, .slice none 0 0, .slice none 0 0, .string ⟨#[]⟩, .bool false] W) (he : Ents w W vE es) (hi : Ints w W vC cf) (m : MsgF) :
    Blk 27 b #[.int .i64 m.a0, .int .i64 m.a1, .int .i64 m.a2, .int .i64 m.a3, .int .i64 m.a4, .int .i64 m.a5, .int .i64 m.a6, .bool m.a7, vE, vC, .string m.d, .bool m.ls] ((((((((((((W.setCell ⟨b, 0, none⟩ (.int .i64 m.a0)).setCell ⟨b, 1, none⟩ (.int .i64 m.a1)).setCell ⟨b, 2, none⟩ (.int .i64 m.a2)).setCell ⟨b, 3, none⟩ (.int .i64 m.a3)).setCell ⟨b, 4, none⟩ (.int .i64 m.a4)).setCell ⟨b, 5, none⟩ (.int .i64 m.a5)).setCell ⟨b, 6, none⟩ (.int .i64 m.a6)).setCell ⟨b, 7, none⟩ (.bool m.a7)).setCell ⟨b, 8, none⟩ (vE)).setCell ⟨b, 9, none⟩ (vC)).setCell ⟨b, 10, none⟩ (.string m.d)).setCell ⟨b, 11, none⟩ (.bool m.ls)) ∧ Ents w ((((((((((((W.setCell ⟨b, 0, none⟩ (.int .i64 m.a0)).setCell ⟨b, 1, none⟩ (.int .i64 m.a1)).setCell ⟨b, 2, none⟩ (.int .i64 m.a2)).setCell ⟨b, 3, none⟩ (.int .i64 m.a3)).setCell ⟨b, 4, none⟩ (.int .i64 m.a4)).setCell ⟨b, 5, none⟩ (.int .i64 m.a5)).setCell ⟨b, 6, none⟩ (.int .i64 m.a6)).setCell ⟨b, 7, none⟩ (.bool m.a7)).setCell ⟨b, 8, none⟩ (vE)).setCell ⟨b, 9, none⟩ (vC)).setCell ⟨b, 10, none⟩ (.string m.d)).setCell ⟨b, 11, none⟩ (.bool m.ls)) vE es ∧ Ints w ((((((((((((W.setCell ⟨b, 0, none⟩ (.int .i64 m.a0)).setCell ⟨b, 1, none⟩ (.int .i64 m.a1)).setCell ⟨b, 2, none⟩ (.int .i64 m.a2)).setCell ⟨b, 3, none⟩ (.int .i64 m.a3)).setCell ⟨b, 4, none⟩ (.int .i64 m.a4)).setCell ⟨b, 5, none⟩ (.int .i64 m.a5)).setCell ⟨b, 6, none⟩ (.int .i64 m.a6)).setCell ⟨b, 7, none⟩ (.bool m.a7)).setCell ⟨b, 8, none⟩ (vE)).setCell ⟨b, 9, none⟩ (vC)).setCell ⟨b, 10, none⟩ (.string m.d)).setCell ⟨b, 11, none⟩ (.bool m.ls)) vC cf ∧ Dw w0 w g ((((((((((((W.setCell ⟨b, 0, none⟩ (.int .i64 m.a0)).setCell ⟨b, 1, none⟩ (.int .i64 m.a1)).setCell ⟨b, 2, none⟩ (.int .i64 m.a2)).setCell ⟨b, 3, none⟩ (.int .i64 m.a3)).setCell ⟨b, 4, none⟩ (.int .i64 m.a4)).setCell ⟨b, 5, none⟩ (.int .i64 m.a5)).setCell ⟨b, 6, none⟩ (.int .i64 m.a6)).setCell ⟨b, 7, none⟩ (.bool m.a7)).setCell ⟨b, 8, none⟩ (vE)).setCell ⟨b, 9, none⟩ (vC)).setCell ⟨b, 10, none⟩ (.string m.d)).setCell ⟨b, 11, none⟩ (.bool m.ls)) := by
  have z0 := h.set 0 (.int .i64 m.a0) (cs' := #[.int .i64 m.a0, .int .i64 0, .int .i64 0, .int .i64 0, .int .i64 0, .int .i64 0, .int .i64 0, .bool false, .slice none 0 0, .slice none 0 0, .string ⟨#[]⟩, .bool false]) rfl
  have z1 := z0.set 1 (.int .i64 m.a1) (cs' := #[.int .i64 m.a0, .int .i64 m.a1, .int .i64 0, .int .i64 0, .int .i64 0, .int .i64 0, .int .i64 0, .bool false, .slice none 0 0, .slice none 0 0, .string ⟨#[]⟩, .bool false]) rfl
  have z2 := z1.set 2 (.int .i64 m.a2) (cs' := #[.int .i64 m.a0, .int .i64 m.a1, .int .i64 m.a2, .int .i64 0, .int .i64 0, .int .i64 0, .int .i64 0, .bool false, .slice none 0 0, .slice none 0 0, .string ⟨#[]⟩, .bool false]) rfl
  have z3 := z2.set 3 (.int .i64 m.a3) (cs' := #[.int .i64 m.a0, .int .i64 m.a1, .int .i64 m.a2, .int .i64 m.a3, .int .i64 0, .int .i64 0, .int .i64 0, .bool false, .slice none 0 0, .slice none 0 0, .string ⟨#[]⟩, .bool false]) rfl
  have z4 := z3.set 4 (.int .i64 m.a4) (cs' := #[.int .i64 m.a0, .int .i64 m.a1, .int .i64 m.a2, .int .i64 m.a3, .int .i64 m.a4, .int .i64 0, .int .i64 0, .bool false, .slice none 0 0, .slice none 0 0, .string ⟨#[]⟩, .bool false]) rfl
  have z5 := z4.set 5 (.int .i64 m.a5) (cs' := #[.int .i64 m.a0, .int .i64 m.a1, .int .i64 m.a2, .int .i64 m.a3, .int .i64 m.a4, .int .i64 m.a5, .int .i64 0, .bool false, .slice none 0 0, .slice none 0 0, .string ⟨#[]⟩, .bool false]) rfl
  have z6 := z5.set 6 (.int .i64 m.a6) (cs' := #[.int .i64 m.a0, .int .i64 m.a1, .int .i64 m.a2, .int .i64 m.a3, .int .i64 m.a4, .int .i64 m.a5, .int .i64 m.a6, .bool false, .slice none 0 0, .slice none 0 0, .string ⟨#[]⟩, .bool false]) rfl
  have z7 := z6.set 7 (.bool m.a7) (cs' := #[.int .i64 m.a0, .int .i64 m.a1, .int .i64 m.a2, .int .i64 m.a3, .int .i64 m.a4, .int .i64 m.a5, .int .i64 m.a6, .bool m.a7, .slice none 0 0, .slice none 0 0, .string ⟨#[]⟩, .bool false]) rfl
  have z8 := z7.set 8 (vE) (cs' := #[.int .i64 m.a0, .int .i64 m.a1, .int .i64 m.a2, .int .i64 m.a3, .int .i64 m.a4, .int .i64 m.a5, .int .i64 m.a6, .bool m.a7, vE, .slice none 0 0, .string ⟨#[]⟩, .bool false]) rfl
  have z9 := z8.set 9 (vC) (cs' := #[.int .i64 m.a0, .int .i64 m.a1, .int .i64 m.a2, .int .i64 m.a3, .int .i64 m.a4, .int .i64 m.a5, .int .i64 m.a6, .bool m.a7, vE, vC, .string ⟨#[]⟩, .bool false]) rfl
  have z10 := z9.set 10 (.string m.d) (cs' := #[.int .i64 m.a0, .int .i64 m.a1, .int .i64 m.a2, .int .i64 m.a3, .int .i64 m.a4, .int .i64 m.a5, .int .i64 m.a6, .bool m.a7, vE, vC, .string m.d, .bool false]) rfl
  have z11 := z10.set 11 (.bool m.ls) (cs' := #[.int .i64 m.a0, .int .i64 m.a1, .int .i64 m.a2, .int .i64 m.a3, .int .i64 m.a4, .int .i64 m.a5, .int .i64 m.a6, .bool m.a7, vE, vC, .string m.d, .bool m.ls]) rfl
  have e0 := he.far h (by decide) 0 (.int .i64 m.a0)
  have e1 := e0.far z0 (by decide) 1 (.int .i64 m.a1)
  have e2 := e1.far z1 (by decide) 2 (.int .i64 m.a2)
  have e3 := e2.far z2 (by decide) 3 (.int .i64 m.a3)
  have e4 := e3.far z3 (by decide) 4 (.int .i64 m.a4)
  have e5 := e4.far z4 (by decide) 5 (.int .i64 m.a5)
  have e6 := e5.far z5 (by decide) 6 (.int .i64 m.a6)
  have e7 := e6.far z6 (by decide) 7 (.bool m.a7)
  have e8 := e7.far z7 (by decide) 8 (vE)
  have e9 := e8.far z8 (by decide) 9 (vC)
  have e10 := e9.far z9 (by decide) 10 (.string m.d)
  have e11 := e10.far z10 (by decide) 11 (.bool m.ls)
  have f0 := hi.far h (by decide) 0 (.int .i64 m.a0)
  have f1 := f0.far z0 (by decide) 1 (.int .i64 m.a1)
  have f2 := f1.far z1 (by decide) 2 (.int .i64 m.a2)
  have f3 := f2.far z2 (by decide) 3 (.int .i64 m.a3)
  have f4 := f3.far z3 (by decide) 4 (.int .i64 m.a4)
  have f5 := f4.far z4 (by decide) 5 (.int .i64 m.a5)
  have f6 := f5.far z5 (by decide) 6 (.int .i64 m.a6)
  have f7 := f6.far z6 (by decide) 7 (.bool m.a7)
  have f8 := f7.far z7 (by decide) 8 (vE)
  have f9 := f8.far z8 (by decide) 9 (vC)
  have f10 := f9.far z9 (by decide) 10 (.string m.d)
  have f11 := f10.far z10 (by decide) 11 (.bool m.ls)
  have d0 := D.far hg (p := ⟨b, 0, none⟩) hb (.int .i64 m.a0) h0
  have d1 := d0.far hg (p := ⟨b, 1, none⟩) hb (.int .i64 m.a1) h0
  have d2 := d1.far hg (p := ⟨b, 2, none⟩) hb (.int .i64 m.a2) h0
  have d3 := d2.far hg (p := ⟨b, 3, none⟩) hb (.int .i64 m.a3) h0
  have d4 := d3.far hg (p := ⟨b, 4, none⟩) hb (.int .i64 m.a4) h0
  have d5 := d4.far hg (p := ⟨b, 5, none⟩) hb (.int .i64 m.a5) h0
  have d6 := d5.far hg (p := ⟨b, 6, none⟩) hb (.int .i64 m.a6) h0
  have d7 := d6.far hg (p := ⟨b, 7, none⟩) hb (.bool m.a7) h0
  have d8 := d7.far hg (p := ⟨b, 8, none⟩) hb (vE) h0
  have d9 := d8.far hg (p := ⟨b, 9, none⟩) hb (vC) h0
  have d10 := d9.far hg (p := ⟨b, 10, none⟩) hb (.string m.d) h0
  have d11 := d10.far hg (p := ⟨b, 11, none⟩) hb (.bool m.ls) h0
  exact ⟨z11, e11, f11, d11⟩
def MsgV (N5 : Nat) (w w' : World) (e : Ending) : Prop := ∃ (m : MsgF) (vE : Value) (es : List S43) (vC : Value) (cf : List Int), e = .returned (.agg #[.int .i64 m.a0, .int .i64 m.a1, .int .i64 m.a2, .int .i64 m.a3, .int .i64 m.a4, .int .i64 m.a5, .int .i64 m.a6, .bool m.a7, vE, vC, .string m.d, .bool m.ls]) ∧ es.length ≤ N5 ∧ Ents w w' vE es ∧ Ints w w' vC cf ∧ m.d.size ≤ 200
set_option maxHeartbeats 4000000 in
set_option maxRecDepth 100000 in
theorem msgRight_C {w0 w : World} {g : Nat} (hc : Cur w0 w g) :
    Calls Try.prog 42 #[.pointer (some ⟨g, 0, none⟩)] w fun e w' => MsgV 4 w w' e ∧ Dw w0 w g w' := by
  have hgl := hc.lt
  have hws := hc.bl.size
  go_enter Try.func42, Try.ntmps42
  go_wp2_with fail
  refine calls_at (fun W => Dw w0 w g W ∧ Blk 27 w.heap.size #[.int .i64 0, .int .i64 0, .int .i64 0, .int .i64 0, .int .i64 0, .int .i64 0, .int .i64 0, .bool false, .slice none 0 0, .slice none 0 0, .string ⟨#[]⟩, .bool false] W) ⟨(Dw.start hc).alloc _, Blk.new _ _ w⟩ ?_
  rintro W1 ⟨D, k2⟩
  refine (below_C 6 D.1).mono ?_
  rintro e W2 ⟨r0, rfl, -, hc_, hk_⟩
  replace D := D.step hc_ hk_
  replace k2 := blk_keep k2 hk_ (by omega)
  (try clear hk_); (try clear hc_); (try clear W1)
  go_wp2_with fail
  refine (below_C 4 D.1).mono ?_
  rintro e W3 ⟨r1, rfl, -, hc_, hk_⟩
  replace D := D.step hc_ hk_
  replace k2 := blk_keep k2 hk_ (by omega)
  (try clear hk_); (try clear hc_); (try clear W2)
  go_wp2_with fail
  refine (below_C 8 D.1).mono ?_
  rintro e W4 ⟨r2, rfl, -, hc_, hk_⟩
  replace D := D.step hc_ hk_
  replace k2 := blk_keep k2 hk_ (by omega)
  (try clear hk_); (try clear hc_); (try clear W3)
  go_wp2_with fail
  refine (below_C 12 D.1).mono ?_
  rintro e W5 ⟨r3, rfl, -, hc_, hk_⟩
  replace D := D.step hc_ hk_
  replace k2 := blk_keep k2 hk_ (by omega)
  (try clear hk_); (try clear hc_); (try clear W4)
  go_wp2_with fail
  refine (below_C 5 D.1).mono ?_
  rintro e W6 ⟨r4, rfl, -, hc_, hk_⟩
  replace D := D.step hc_ hk_
  replace k2 := blk_keep k2 hk_ (by omega)
  (try clear hk_); (try clear hc_); (try clear W5)
  go_wp2_with fail
  refine (below_C 9 D.1).mono ?_
  rintro e W7 ⟨r5, rfl, -, hc_, hk_⟩
  replace D := D.step hc_ hk_
  replace k2 := blk_keep k2 hk_ (by omega)
  (try clear hk_); (try clear hc_); (try clear W6)
  go_wp2_with fail
  refine (once_C 2 D.1).mono ?_
  rintro e W8 ⟨q7, rfl, hc_, hk_⟩
  replace D := D.step hc_ hk_
  replace k2 := blk_keep k2 hk_ (by omega)
  (try clear hk_); (try clear hc_); (try clear W7)
  go_upto_region 2 with fail
  have h3 : w.heap.size + 1 ≤ W8.heap.size := by have := k2.lt; omega
  obtain ⟨b3, hb3⟩ : ∃ b3, b3 = W8.heap.size := ⟨_, rfl⟩
  refine wp_at (MsgAt w0 w g b3 0) ⟨D.alloc _, k2.alloc _, ⟨wrap64 (1 + r0), wrap64 (1 + r1), 0, r2, r3, r4, r5, q7, ⟨#[]⟩, false⟩, .slice none 0 0, [], .slice none 0 0, [], by simp, Ents.nil _ _, Ints.nil _ _, Nat.zero_le 200, Blk.newE _ _ W8 hb3⟩ ?_
  rw [← hb3] at h3 ⊢
  (try clear D); (try clear k2); (try clear hb3)
  intro W hW
  obtain ⟨D, k2, m, vE, es, vC, cf, hn, he, hi, hd, k3⟩ := id hW
  have c1 := k3.cell 1 rfl
  have l3 := k3.lt
  have c2 := k3.cell 2 rfl
  have f2 := k3.free 2
  have l3 := k3.lt
  (try clear he); (try clear hi)
  go_upto_region 3 with fail
  refine wp_at (MsgAt w0 w g b3 0) (hW.set2 hgl h3 hws _) ?_
  (try clear c1); (try clear c2); (try clear f2); (try clear l3); (try clear hW); (try clear D); (try clear k2); (try clear k3); (try clear hn); (try clear hd); (try clear m); (try clear vE); (try clear es); (try clear vC); (try clear cf); (try clear W)
  intro W hW
  obtain ⟨D, k2, m, vE, es, vC, cf, hn, he, hi, hd, k3⟩ := id hW
  (try clear he); (try clear hi)
  have c0 := k3.cell 0 rfl
  have l3 := k3.lt
  obtain ⟨o3, ho3⟩ : ∃ q, (m.a0 == 3) = q := ⟨_, rfl⟩
  obtain ⟨o5, ho5⟩ : ∃ q, (m.a0 == 5) = q := ⟨_, rfl⟩
  cases o3 with
  | true =>
    have c3 := k3.cell 3 rfl
    have l3 := k3.lt
    go_wp2_with fail
    refine (below_C _ hW.1.1).mono ?_
    rintro e W2 ⟨r2, rfl, -, hc2, hk2⟩
    have hX := hW.step hgl h3 hc2 hk2
    (try clear hW); (try clear hc2); (try clear hk2); (try clear c0); (try clear c3); (try clear l3); (try clear D); (try clear k2); (try clear k3); (try clear hn); (try clear hd); (try clear ho3); (try clear ho5); (try clear m); (try clear vE); (try clear es); (try clear vC); (try clear cf)
    obtain ⟨D, k2, m, vE, es, vC, cf, hn, he, hi, hd, k3⟩ := id hX
    (try clear he); (try clear hi)
    have c5 := k3.cell 5 rfl
    have f5 := k3.free 5
    have l3 := k3.lt
    go_upto_region 6 with fail
    refine wp_at (MsgAt w0 w g b3 0) (hX.set5 hgl h3 hws _) ?_
    (try clear c5); (try clear f5); (try clear l3); (try clear hX); (try clear D); (try clear k2); (try clear k3); (try clear hn); (try clear hd); (try clear m); (try clear vE); (try clear es); (try clear vC); (try clear cf); (try clear W2)
    intro W2 hX
    obtain ⟨D, k2, m, vE, es, vC, cf, hn, he, hi, hd, k3⟩ := id hX
    (try clear he); (try clear hi)
    have c5 := k3.cell 5 rfl
    have l3 := k3.lt
    go_wp2_with fail
    (try clear c5); (try clear l3); (try clear D); (try clear k2); (try clear k3); (try clear hn); (try clear hd); (try clear vE); (try clear es); (try clear vC); (try clear cf)
    go_loopg [4, 5] 4 (fun kq v4 v5 w' => ∃ (i : Nat) (tm : Int), v4 = .int .i64 tm ∧ v5 = .int .i64 (i : Int) ∧ i + kq = 4 ∧ MsgAt w0 w g b3 i w')
    case atStart => exact ⟨0, _, rfl, rfl, by omega, hX⟩
    case round =>
      obtain ⟨i, tm, rfl, rfl, hik, hR⟩ := hrel
      (try clear hX); (try clear m); (try clear W2); (try clear W)
      go_wp2_with fail
      refine (below_C 5 hR.1.1).mono ?_
      rintro e W1 ⟨r, rfl, ⟨hr0, hr1, -⟩, hc1, hk1⟩
      have hV := hR.step hgl h3 hc1 hk1
      (try clear hR); (try clear hc1); (try clear hk1)
      have hr5 := hr1 (by decide)
      (try clear hr1)
      by_cases hlt : (i : Int) < r
      · obtain ⟨n, rfl⟩ : ∃ n, gk = n + 1 := ⟨gk - 1, by omega⟩
        obtain ⟨D, k2, m, vE, es, vC, cf, hn, he, hi, hd, k3⟩ := id hV
        (try clear he); (try clear hi)
        have c3 := k3.cell 3 rfl
        have l3 := k3.lt
        go_wp2_with fail
        refine (below_C _ hV.1.1).mono ?_
        rintro e W2 ⟨r2, rfl, -, hc2, hk2⟩
        have hU := hV.step hgl h3 hc2 hk2
        (try clear hV); (try clear hc2); (try clear hk2); (try clear c3); (try clear l3); (try clear D); (try clear k2); (try clear k3); (try clear hn); (try clear hd); (try clear m); (try clear vE); (try clear es); (try clear vC); (try clear cf)
        go_upto_region 11 with fail
        obtain ⟨D, k2, m, vE, es, vC, cf, hn, he, hi, hd, k3⟩ := id hU
        have HE := Lib.hid he
        have HI := Lib.hid hi
        have hrow : ∀ k, vE.ownBlock = some k → w.heap.size ≤ k := fun k hk => he.1.1 k hk
        have hrlt := Kd.R_lt he.1
        have n3v : some b3 ≠ vE.ownBlock := Kd.R_ne he.1 k3 (by decide)
        have n2v : some w.heap.size ≠ vE.ownBlock := Kd.R_ne he.1 k2 (by decide)
        have ngv : some g ≠ vE.ownBlock := fun e => by have := hrow g e.symm; omega
        have hgc := D.1.lt
        have l3 := k3.lt
        (try clear he); (try clear hi)
        go_upto_region 11 with fail
        refine wp_region_flowT (L := LR w0 g vE.ownBlock) (M := LD w0 g) (J := fun W => Ents w W vE es) (J1 := fun _ => True) 6 (HE.out.below (bl_drew (Below.refl _ _))) (fun a b h k => h.keep k.2 hgl) (fun _ _ _ _ => trivial) (LR.of w0 g _) (LR.drew w0 g _) (LR.trans w0 g _) [0, 3, 4] 77 8 (by kernel_rfl) (by rfl) (by kernel_rfl) (by kernel_rfl) (by kernel_rfl) (by kernel_rfl) ?_
        (refine flowT_valE (by decide) ?_; apply Exists.intro; refine ⟨fun A wq hLq hbq hdq => ?_, ?_⟩; focus ((try simp [go_sem, baseF, deps, dep1, Region.binds] at hbq); (try simp [go_sem, baseF, deps, dep1, Region.binds] at hdq); go_simp; first | exact ⟨LD.refl _ _ _, rfl⟩ | (fail)))
        refine flowT_valE (by decide) ⟨vE, fun A wq hLq hbq hdq => ?_, ?_⟩
        · have q3 := blk_keepR k3 hLq.2 (by omega) n3v
          have qc := q3.cell 8 rfl
          have ql := q3.lt
          (try simp [go_sem, baseF, deps, dep1, Region.binds] at hbq)
          (try simp [go_sem, baseF, deps, dep1, Region.binds] at hdq)
          go_simp
          exact ⟨LD.refl _ _ _, rfl⟩
        iterate 2 (refine flowT_valE (by decide) ?_; apply Exists.intro; refine ⟨fun A wq hLq hbq hdq => ?_, ?_⟩; focus ((try simp [go_sem, baseF, deps, dep1, Region.binds] at hbq); (try simp [go_sem, baseF, deps, dep1, Region.binds] at hdq); go_simp; first | exact ⟨LD.refl _ _ _, rfl⟩ | (fail)))
        refine flowT_R (by decide) (fun W u => ∃ x : S43, u = .agg #[.int .i64 x.f0, .int .i64 x.f1, .string x.f2] ∧ x.f2.size ≤ 200) (fun _ _ _ h _ => h) (fun A wq hLq hbq hdq => ?_) ?_
        · (try simp [go_sem, baseF, deps, dep1, Region.binds] at hbq)
          (try simp [go_sem, baseF, deps, dep1, Region.binds] at hdq)
          go_simp
          refine (ent_C (hLq.1 D.1) _).mono ?_
          rintro e w5 ⟨⟨t5, k5, d5, rfl, hd5⟩, DD⟩
          exact ⟨_, rfl, ⟨fun _ => DD.1, DD.2⟩, ⟨t5, k5, d5⟩, rfl, hd5⟩
        refine flowT_R (by decide) (fun W u => ∃ (b : Nat) (x : S43), u = .slice (some ⟨b, 0, none⟩) 1 1 ∧ W2.heap.size ≤ b ∧ Blk 43 b #[.int .i64 x.f0, .int .i64 x.f1, .string x.f2] W ∧ x.f2.size ≤ 200) (fun W W' u ⟨b, x, e, hb, hk, hx⟩ hL => ⟨b, x, e, hb, blk_keepR hk hL.2 (by omega) (fun e => by have := hrlt b e.symm; omega), hx⟩) (fun A wq hLq hbq hdq => ?_) ?_
        · (try simp [go_sem, baseF, deps, dep1, Region.binds] at hbq)
          (try simp [go_sem, baseF, deps, dep1, Region.binds] at hdq)
          obtain ⟨x, hx, hxs⟩ := hdq
          go_simp
          first
            | exact ⟨LD.below (bl_alloc (Below.refl _ _) _), wq.heap.size, x, rfl, hLq.2.1, Blk.new _ _ wq, hxs⟩
            | exact ⟨LD.below (bl_alloc (Below.refl _ _) _), wq.heap.size, rfl, hLq.2.1, x, Blk.new _ _ wq, hxs⟩
            | exact ⟨LD.below (bl_alloc (Below.refl _ _) _), x, hLq.2.1, Blk.new _ _ wq, hxs⟩
        refine flowT_row rfl (fun W u => ∃ x : S43, x.f2.size ≤ 200 ∧ Kd.R k43 43 W w.heap.size (fun k => w.heap.size ≤ k) u (es ++ [x])) (fun W W' u ⟨x, hx, hR⟩ hL => ⟨x, hx, Kd.R_keep hR hL.2 (fun k hk => by omega)⟩) (fun A wq hLq hJ hbq hdq => ?_) ?_
        · (try simp [go_sem, baseF, deps, dep1, Region.binds] at hbq)
          (try simp [go_sem, baseF, deps, dep1, Region.binds] at hdq)
          obtain ⟨hE_, ⟨b, hS_, hb, x, hk, hx⟩, -⟩ := hdq
          obtain ⟨v1, w1, hrun, hR1, hg1, hat1⟩ := run_append_R (P := Try.prog) k43 wq w.heap.size 24 24 43 (.agg #[.int .i64 0, .int .i64 0, .string ⟨#[]⟩]) 32 Try.underlying24 (by kernel_rfl) rfl (by decide) (by decide) vE es x [.int .i64 x.f0, .int .i64 x.f1, .string x.f2] _ (fun _ => False) ⟨b, 0, none⟩ 1 (by simpa using World.news_of_block (cs := #[.int .i64 x.f0, .int .i64 x.f1, .string x.f2]) (t := 43) (fr := (0, 0)) hk) (k43_mkM wq _ _ x) (fun k h => h.elim) (fun k hk => by have := hLq.2.1; have := D.size; omega) hJ.1 (by have := hLq.2.1; have := D.size; omega) (by omega)
          have hE' : A.eval (.tmp 56) = vE := by simpa [Act.eval, Array.getD_eq_getD_getElem?] using hE_
          have hS' : A.eval (.tmp 60) = .slice (some ⟨b, 0, none⟩) 1 1 := by simpa [Act.eval, Array.getD_eq_getD_getElem?] using hS_
          rw [exec_append (by rw [hE', hS']; exact hrun)]
          exact ⟨⟨fun c => c.grown hg1 ngv (fun k hk => Nat.le_trans hws (hrow k hk)), KeepBut.of_grown hg1 g⟩, ⟨x, hx, hR1⟩, trivial⟩
        (refine flowT_valE (by decide) ?_; apply Exists.intro; refine ⟨fun A wq hLq hbq hdq => ?_, ?_⟩; focus ((try simp [go_sem, baseF, deps, dep1, Region.binds] at hbq); (try simp [go_sem, baseF, deps, dep1, Region.binds] at hdq); go_simp; first | exact ⟨LD.refl _ _ _, rfl⟩ | (fail)))
        with_reducible refine flowT_tail ?_
        intro x wq hLq hall _
        simp only [allT] at hall
        obtain ⟨h7, ⟨y, hy, hR1⟩, -, -, hall⟩ := hall
        obtain ⟨A6, c6, h6, hcap6, -⟩ := Kd.R_reads hR1
        rw [h6] at hR1
        have HR1 := Lib.hid hR1
        (try clear hR1)
        have q3 := blk_keepR k3 hLq.2 (by omega) n3v
        have q2 := blk_keepR k2 hLq.2 (by omega) n2v
        have DQ := D.row hLq hrow
        have c8 := q3.cell 8 rfl
        have f8 := q3.free 8
        have ql := q3.lt
        refine ⟨?_⟩
        simp [seqUpon, lastUpon, frameOf, Act.put, List.take, h7, h6, hall]
        (try clear hall); (try clear h6); (try clear h7)
        go_simp
        have hfin : MsgAt w0 w g b3 (i + 1) (wq.setCell ⟨b3, 8, none⟩ (.slice A6 (es.length + 1) c6)) := by
          refine ⟨DQ.far hgl (p := ⟨b3, 8, none⟩) (by show w.heap.size ≤ b3; omega) _ hws, q2.far (a := ⟨b3, 8, none⟩) (by show w.heap.size ≠ b3; omega) _, m, .slice A6 (es.length + 1) c6, es ++ [y], vC, cf, by simp; omega, ?_, ?_, hd, q3.set 8 _ rfl⟩
          · have h9 : Ents w wq (.slice A6 (es.length + 1) c6) (es ++ [y]) := ⟨by simpa using HR1.out, fun z hz => by
              rcases List.mem_append.1 hz with h | h
              · exact HE.out.2 z h
              · rw [List.mem_singleton] at h; rw [h]; exact hy⟩
            exact h9.far q3 (by decide) 8 _
          · exact (HI.out.row HE.out hLq.2 hgl).far q3 (by decide) 8 _
        (try clear DQ); (try clear q2); (try clear q3); (try clear c8); (try clear f8); (try clear ql); (try clear HR1); (try clear HE); (try clear HI)
        have E1 := Lib.hid (show wrap64 ((i : Int) + 1) = ((i + 1 : Nat) : Int) from by unfold wrap64; omega)
        go_wp2_with fail
        go_roundg n
        case measure => omega
        case rel => exact ⟨i + 1, _, rfl, by first | rfl | (rw [E1.out]), by omega, hfin⟩
      · go_upto_region 16 with fail
        refine wp_at (MsgAt w0 w g b3 4) (hV.more (by omega)) ?_
        rintro Wz hz
        obtain ⟨D, k2, m, vE, es, vC, cf, hn, he, hi, hd, k3⟩ := id hz
        (try clear hz)
        obtain ⟨AE, cE, rfl, -, -⟩ := Kd.R_reads he.1
        obtain ⟨AC, cC, rfl, -, -⟩ := Kd.R_reads hi.1
        have HE := Lib.hid he
        have HI := Lib.hid hi
        (try clear he); (try clear hi)
        have c0 := k3.cell 0 rfl
        have c1 := k3.cell 1 rfl
        have c2 := k3.cell 2 rfl
        have c3 := k3.cell 3 rfl
        have c4 := k3.cell 4 rfl
        have c5 := k3.cell 5 rfl
        have c6 := k3.cell 6 rfl
        have c7 := k3.cell 7 rfl
        have c8 := k3.cell 8 rfl
        have c9 := k3.cell 9 rfl
        have c10 := k3.cell 10 rfl
        have c11 := k3.cell 11 rfl
        have x0 := k2.cell 0 rfl
        have y0 := k2.free 0
        have x1 := k2.cell 1 rfl
        have y1 := k2.free 1
        have x2 := k2.cell 2 rfl
        have y2 := k2.free 2
        have x3 := k2.cell 3 rfl
        have y3 := k2.free 3
        have x4 := k2.cell 4 rfl
        have y4 := k2.free 4
        have x5 := k2.cell 5 rfl
        have y5 := k2.free 5
        have x6 := k2.cell 6 rfl
        have y6 := k2.free 6
        have x7 := k2.cell 7 rfl
        have y7 := k2.free 7
        have x8 := k2.cell 8 rfl
        have y8 := k2.free 8
        have x9 := k2.cell 9 rfl
        have y9 := k2.free 9
        have x10 := k2.cell 10 rfl
        have y10 := k2.free 10
        have x11 := k2.cell 11 rfl
        have y11 := k2.free 11
        have l3 := k3.lt
        have l2 := k2.lt
        have n23 : w.heap.size ≠ b3 := by omega
        go_wp2_with fail
        obtain ⟨z1, z2, z3, z4⟩ := msg_fill D hgl (Nat.le_refl _) hws k2 HE.out HI.out m
        exact bodyPost_ret (results_cell_row rfl _ _ w.heap.size 27 #[.int .i64 m.a0, .int .i64 m.a1, .int .i64 m.a2, .int .i64 m.a3, .int .i64 m.a4, .int .i64 m.a5, .int .i64 m.a6, .bool m.a7, .slice AE es.length cE, .slice AC cf.length cC, .string m.d, .bool m.ls] (0, 0) _ rfl z1 Try.underlying27 rfl (by kernel_rfl)) rfl ⟨⟨m, _, es, _, cf, rfl, hn, z2, z3, hd⟩, z4⟩
  | false =>
    cases o5 with
    | true =>
      go_wp2_with fail
      refine (confDraw_C hW.1.1).mono ?_
      rintro e W2 ⟨v2, xs2, rfl, hl2, hR2, hc2, hk2⟩
      have hX := hW.step hgl h3 hc2 hk2
      have hI2 := Lib.hid (Ints.of hR2 hl2 hW.1.size)
      obtain ⟨A2, c2_, rfl, -, -⟩ := Kd.R_reads hR2
      (try clear hW); (try clear hc2); (try clear hk2); (try clear hR2); (try clear c0); (try clear l3); (try clear D); (try clear k2); (try clear k3); (try clear hn); (try clear hd); (try clear ho3); (try clear ho5); (try clear m); (try clear vE); (try clear es); (try clear vC); (try clear cf)
      obtain ⟨D, k2, m, vE, es, vC, cf, hn, he, hi, hd, k3⟩ := id hX
      (try clear he); (try clear hi)
      have c9 := k3.cell 9 rfl
      have f9 := k3.free 9
      have l3 := k3.lt
      go_upto_region 14 with fail
      refine wp_at (MsgAt w0 w g b3 0) (hX.set9 hgl h3 hws _ _ hI2.out) ?_
      (try clear c9); (try clear f9); (try clear l3); (try clear hI2); (try clear hX); (try clear D); (try clear k2); (try clear k3); (try clear hn); (try clear hd); (try clear m); (try clear vE); (try clear es); (try clear vC); (try clear cf); (try clear W2)
      intro W2 hX
      go_wp2_with fail
      refine (below_C 9 hX.1.1).mono ?_
      rintro e W3 ⟨r3, rfl, ⟨hr0, hr1, -⟩, hc3, hk3⟩
      have hV := hX.step hgl h3 hc3 hk3
      have hr9 := hr1 (by decide)
      obtain ⟨n3, rfl⟩ := Int.eq_ofNat_of_zero_le hr0
      (try clear hr0); (try clear hr1); (try clear hX); (try clear hc3); (try clear hk3)
      go_wp2_with fail
      refine (text_C _ n3 rfl (by omega) hV.1.1).mono ?_
      rintro e W4 ⟨d4, rfl, hd4, hc4, hk4⟩
      have hU := hV.step hgl h3 hc4 hk4
      (try clear hV); (try clear hc4); (try clear hk4)
      obtain ⟨D, k2, m, vE, es, vC, cf, hn, he, hi, hd, k3⟩ := id hU
      (try clear he); (try clear hi)
      have c10 := k3.cell 10 rfl
      have f10 := k3.free 10
      have l3 := k3.lt
      go_upto_region 15 with fail
      refine wp_at (MsgAt w0 w g b3 0) (hU.set10 hgl h3 hws _ (by omega)) ?_
      (try clear c10); (try clear f10); (try clear l3); (try clear hU); (try clear D); (try clear k2); (try clear k3); (try clear hn); (try clear hd); (try clear m); (try clear vE); (try clear es); (try clear vC); (try clear cf); (try clear W4)
      intro W4 hX
      go_wp2_with fail
      refine (once_C 2 hX.1.1).mono ?_
      rintro e W5 ⟨q5, rfl, hc5, hk5⟩
      have hV := hX.step hgl h3 hc5 hk5
      (try clear hX); (try clear hc5); (try clear hk5)
      obtain ⟨D, k2, m, vE, es, vC, cf, hn, he, hi, hd, k3⟩ := id hV
      (try clear he); (try clear hi)
      have c11 := k3.cell 11 rfl
      have f11 := k3.free 11
      have l3 := k3.lt
      go_upto_region 16 with fail
      refine wp_at (MsgAt w0 w g b3 4) ((hV.set11 hgl h3 hws _).more (by omega)) ?_
      rintro Wz hz
      obtain ⟨D, k2, m, vE, es, vC, cf, hn, he, hi, hd, k3⟩ := id hz
      (try clear hz)
      obtain ⟨AE, cE, rfl, -, -⟩ := Kd.R_reads he.1
      obtain ⟨AC, cC, rfl, -, -⟩ := Kd.R_reads hi.1
      have HE := Lib.hid he
      have HI := Lib.hid hi
      (try clear he); (try clear hi)
      have c0 := k3.cell 0 rfl
      have c1 := k3.cell 1 rfl
      have c2 := k3.cell 2 rfl
      have c3 := k3.cell 3 rfl
      have c4 := k3.cell 4 rfl
      have c5 := k3.cell 5 rfl
      have c6 := k3.cell 6 rfl
      have c7 := k3.cell 7 rfl
      have c8 := k3.cell 8 rfl
      have c9 := k3.cell 9 rfl
      have c10 := k3.cell 10 rfl
      have c11 := k3.cell 11 rfl
      have x0 := k2.cell 0 rfl
      have y0 := k2.free 0
      have x1 := k2.cell 1 rfl
      have y1 := k2.free 1
      have x2 := k2.cell 2 rfl
      have y2 := k2.free 2
      have x3 := k2.cell 3 rfl
      have y3 := k2.free 3
      have x4 := k2.cell 4 rfl
      have y4 := k2.free 4
      have x5 := k2.cell 5 rfl
      have y5 := k2.free 5
      have x6 := k2.cell 6 rfl
      have y6 := k2.free 6
      have x7 := k2.cell 7 rfl
      have y7 := k2.free 7
      have x8 := k2.cell 8 rfl
      have y8 := k2.free 8
      have x9 := k2.cell 9 rfl
      have y9 := k2.free 9
      have x10 := k2.cell 10 rfl
      have y10 := k2.free 10
      have x11 := k2.cell 11 rfl
      have y11 := k2.free 11
      have l3 := k3.lt
      have l2 := k2.lt
      have n23 : w.heap.size ≠ b3 := by omega
      go_wp2_with fail
      obtain ⟨z1, z2, z3, z4⟩ := msg_fill D hgl (Nat.le_refl _) hws k2 HE.out HI.out m
      exact bodyPost_ret (results_cell_row rfl _ _ w.heap.size 27 #[.int .i64 m.a0, .int .i64 m.a1, .int .i64 m.a2, .int .i64 m.a3, .int .i64 m.a4, .int .i64 m.a5, .int .i64 m.a6, .bool m.a7, .slice AE es.length cE, .slice AC cf.length cC, .string m.d, .bool m.ls] (0, 0) _ rfl z1 Try.underlying27 rfl (by kernel_rfl)) rfl ⟨⟨m, _, es, _, cf, rfl, hn, z2, z3, hd⟩, z4⟩
    | false =>
      go_upto_region 16 with fail
      refine wp_at (MsgAt w0 w g b3 4) (hW.more (by omega)) ?_
      rintro Wz hz
      obtain ⟨D, k2, m, vE, es, vC, cf, hn, he, hi, hd, k3⟩ := id hz
      (try clear hz)
      obtain ⟨AE, cE, rfl, -, -⟩ := Kd.R_reads he.1
      obtain ⟨AC, cC, rfl, -, -⟩ := Kd.R_reads hi.1
      have HE := Lib.hid he
      have HI := Lib.hid hi
      (try clear he); (try clear hi)
      have c0 := k3.cell 0 rfl
      have c1 := k3.cell 1 rfl
      have c2 := k3.cell 2 rfl
      have c3 := k3.cell 3 rfl
      have c4 := k3.cell 4 rfl
      have c5 := k3.cell 5 rfl
      have c6 := k3.cell 6 rfl
      have c7 := k3.cell 7 rfl
      have c8 := k3.cell 8 rfl
      have c9 := k3.cell 9 rfl
      have c10 := k3.cell 10 rfl
      have c11 := k3.cell 11 rfl
      have x0 := k2.cell 0 rfl
      have y0 := k2.free 0
      have x1 := k2.cell 1 rfl
      have y1 := k2.free 1
      have x2 := k2.cell 2 rfl
      have y2 := k2.free 2
      have x3 := k2.cell 3 rfl
      have y3 := k2.free 3
      have x4 := k2.cell 4 rfl
      have y4 := k2.free 4
      have x5 := k2.cell 5 rfl
      have y5 := k2.free 5
      have x6 := k2.cell 6 rfl
      have y6 := k2.free 6
      have x7 := k2.cell 7 rfl
      have y7 := k2.free 7
      have x8 := k2.cell 8 rfl
      have y8 := k2.free 8
      have x9 := k2.cell 9 rfl
      have y9 := k2.free 9
      have x10 := k2.cell 10 rfl
      have y10 := k2.free 10
      have x11 := k2.cell 11 rfl
      have y11 := k2.free 11
      have l3 := k3.lt
      have l2 := k2.lt
      have n23 : w.heap.size ≠ b3 := by omega
      go_wp2_with fail
      obtain ⟨z1, z2, z3, z4⟩ := msg_fill D hgl (Nat.le_refl _) hws k2 HE.out HI.out m
      exact bodyPost_ret (results_cell_row rfl _ _ w.heap.size 27 #[.int .i64 m.a0, .int .i64 m.a1, .int .i64 m.a2, .int .i64 m.a3, .int .i64 m.a4, .int .i64 m.a5, .int .i64 m.a6, .bool m.a7, .slice AE es.length cE, .slice AC cf.length cC, .string m.d, .bool m.ls] (0, 0) _ rfl z1 Try.underlying27 rfl (by kernel_rfl)) rfl ⟨⟨m, _, es, _, cf, rfl, hn, z2, z3, hd⟩, z4⟩
set_option maxHeartbeats 8000000 in
set_option maxRecDepth 100000 in
theorem msgAny_C {w0 w : World} {g : Nat} (hc : Cur w0 w g) :
    Calls Try.prog 13 #[.pointer (some ⟨g, 0, none⟩)] w fun e w' => MsgV 5 w w' e ∧ Dw w0 w g w' := by
  have hgl := hc.lt
  have hws := hc.bl.size
  go_enter Try.func13, Try.ntmps13
  go_wp2_with fail
  refine calls_at (fun W => Dw w0 w g W ∧ Blk 27 w.heap.size #[.int .i64 0, .int .i64 0, .int .i64 0, .int .i64 0, .int .i64 0, .int .i64 0, .int .i64 0, .bool false, .slice none 0 0, .slice none 0 0, .string ⟨#[]⟩, .bool false] W) ⟨(Dw.start hc).alloc _, Blk.new _ _ w⟩ ?_
  rintro W1 ⟨D, k2⟩
  refine (msgRight_C D.1).mono ?_
  rintro e W2 ⟨⟨m, vE, es, vC, cf, rfl, hn, he, hi, hd⟩, DD⟩
  replace he := he.lower D.size
  replace hi := hi.lower D.size
  replace D := D.step DD.1 DD.2
  replace k2 := blk_keep k2 DD.2 (by omega)
  (try clear DD); (try clear W1)
  obtain ⟨AE, cE, rfl, -, -⟩ := Kd.R_reads he.1
  obtain ⟨AC, cC, rfl, -, -⟩ := Kd.R_reads hi.1
  have HE := Lib.hid he
  have HI := Lib.hid hi
  (try clear he); (try clear hi)
  go_upto_region 2 with fail
  have h3 : w.heap.size + 1 ≤ W2.heap.size := by have := k2.lt; omega
  obtain ⟨b3, hb3⟩ : ∃ b3, b3 = W2.heap.size := ⟨_, rfl⟩
  refine wp_at (MsgAt w0 w g b3 4) ⟨D.alloc _, k2.alloc _, m, _, es, _, cf, hn, HE.out.below (bl_alloc (Below.refl _ _) _), HI.out.below (bl_alloc (Below.refl _ _) _), hd, Blk.newE _ _ W2 hb3⟩ ?_
  rw [← hb3] at h3 ⊢
  (try clear D); (try clear k2); (try clear hb3); (try clear HE); (try clear HI); (try clear hn); (try clear hd); (try clear m); (try clear es); (try clear cf); (try clear AE); (try clear cE); (try clear AC); (try clear cC); (try clear W2)
  intro W hW
  go_wp2_with fail
  refine (below_C 40 hW.1.1).mono ?_
  rintro e W4 ⟨r, rfl, -, hc4, hk4⟩
  have hU := hW.step hgl h3 hc4 hk4
  (try clear hW); (try clear hc4); (try clear hk4); (try clear W)
  obtain ⟨o0, ho0⟩ : ∃ q, (r == 0) = q := ⟨_, rfl⟩
  obtain ⟨o1, ho1⟩ : ∃ q, (r == 1) = q := ⟨_, rfl⟩
  obtain ⟨o2, ho2⟩ : ∃ q, (r == 2) = q := ⟨_, rfl⟩
  obtain ⟨o3, ho3⟩ : ∃ q, (r == 3) = q := ⟨_, rfl⟩
  obtain ⟨o4, ho4⟩ : ∃ q, (r == 4) = q := ⟨_, rfl⟩
  obtain ⟨o5, ho5⟩ : ∃ q, (r == 5) = q := ⟨_, rfl⟩
  obtain ⟨o6, ho6⟩ : ∃ q, (r == 6) = q := ⟨_, rfl⟩
  obtain ⟨o7, ho7⟩ : ∃ q, (r == 7) = q := ⟨_, rfl⟩
  cases o0 with
  | true =>
    go_wp2_with fail
    refine calls_at (fun W => MsgAt w0 w g b3 4 W ∧ Blk 3 W4.heap.size (([0, 7, 1, 5] : List Int).map (Value.int .i64)).toArray W) ⟨hU.below hgl h3 (bl_alloc (Below.refl _ _) _), Blk.new _ _ W4⟩ ?_
    rintro W5 ⟨hV, kl⟩
    refine (pickInt_C _ 4 [0, 7, 1, 5] (by simp) hV.1.1 (blk_ints _ (by simp) kl) (by simp) (by rintro ad ⟨⟩; show W4.heap.size ≠ g; have := hU.1.size; omega)).mono ?_
    rintro e W6 ⟨r6, rfl, -, hc6, hk6⟩
    have hX := hV.step hgl h3 hc6 hk6
    (try clear hV); (try clear kl); (try clear hc6); (try clear hk6)
    obtain ⟨D, k2, m, vE, es, vC, cf, hn, he, hi, hd, k3⟩ := id hX
    have c0 := k3.cell 0 rfl
    have f0 := k3.free 0
    have l3 := k3.lt
    (try clear he); (try clear hi)
    go_upto_region 19 with fail
    refine wp_at (MsgAt w0 w g b3 5) ((hX.set0 hgl h3 hws r6).more (by omega)) ?_
    rintro Wz hz
    obtain ⟨D, k2, m, vE, es, vC, cf, hn, he, hi, hd, k3⟩ := id hz
    (try clear hz)
    obtain ⟨AE, cE, rfl, -, -⟩ := Kd.R_reads he.1
    obtain ⟨AC, cC, rfl, -, -⟩ := Kd.R_reads hi.1
    have HE := Lib.hid he
    have HI := Lib.hid hi
    (try clear he); (try clear hi)
    have c0 := k3.cell 0 rfl
    have c1 := k3.cell 1 rfl
    have c2 := k3.cell 2 rfl
    have c3 := k3.cell 3 rfl
    have c4 := k3.cell 4 rfl
    have c5 := k3.cell 5 rfl
    have c6 := k3.cell 6 rfl
    have c7 := k3.cell 7 rfl
    have c8 := k3.cell 8 rfl
    have c9 := k3.cell 9 rfl
    have c10 := k3.cell 10 rfl
    have c11 := k3.cell 11 rfl
    have x0 := k2.cell 0 rfl
    have y0 := k2.free 0
    have x1 := k2.cell 1 rfl
    have y1 := k2.free 1
    have x2 := k2.cell 2 rfl
    have y2 := k2.free 2
    have x3 := k2.cell 3 rfl
    have y3 := k2.free 3
    have x4 := k2.cell 4 rfl
    have y4 := k2.free 4
    have x5 := k2.cell 5 rfl
    have y5 := k2.free 5
    have x6 := k2.cell 6 rfl
    have y6 := k2.free 6
    have x7 := k2.cell 7 rfl
    have y7 := k2.free 7
    have x8 := k2.cell 8 rfl
    have y8 := k2.free 8
    have x9 := k2.cell 9 rfl
    have y9 := k2.free 9
    have x10 := k2.cell 10 rfl
    have y10 := k2.free 10
    have x11 := k2.cell 11 rfl
    have y11 := k2.free 11
    have l3 := k3.lt
    have l2 := k2.lt
    have n23 : w.heap.size ≠ b3 := by omega
    go_wp2_with fail
    obtain ⟨z1, z2, z3, z4⟩ := msg_fill D hgl (Nat.le_refl _) hws k2 HE.out HI.out m
    exact bodyPost_ret (results_cell_row rfl _ _ w.heap.size 27 #[.int .i64 m.a0, .int .i64 m.a1, .int .i64 m.a2, .int .i64 m.a3, .int .i64 m.a4, .int .i64 m.a5, .int .i64 m.a6, .bool m.a7, .slice AE es.length cE, .slice AC cf.length cC, .string m.d, .bool m.ls] (0, 0) _ rfl z1 Try.underlying27 rfl (by kernel_rfl)) rfl ⟨⟨m, _, es, _, cf, rfl, hn, z2, z3, hd⟩, z4⟩
  | false =>
    cases o1 with
    | true =>
      obtain ⟨D, k2, m, vE, es, vC, cf, hn, he, hi, hd, k3⟩ := id hU
      (try clear he); (try clear hi)
      have c2 := k3.cell 2 rfl
      have l3 := k3.lt
      go_wp2_with fail
      refine calls_at (fun W => MsgAt w0 w g b3 4 W ∧ Blk 3 W4.heap.size (([0, 5, m.a2] : List Int).map (Value.int .i64)).toArray W) ⟨hU.below hgl h3 (bl_alloc (Below.refl _ _) _), Blk.new _ _ W4⟩ ?_
      rintro W5 ⟨hV, kl⟩
      refine (pickInt_C _ 3 [0, 5, m.a2] (by simp) hV.1.1 (blk_ints _ (by simp) kl) (by simp) (by rintro ad ⟨⟩; show W4.heap.size ≠ g; have := hU.1.size; omega)).mono ?_
      rintro e W6 ⟨r6, rfl, -, hc6, hk6⟩
      have hX := hV.step hgl h3 hc6 hk6
      (try clear hV); (try clear kl); (try clear hc6); (try clear hk6)
      (try clear c2); (try clear l3); (try clear D); (try clear k2); (try clear k3); (try clear hn); (try clear hd); (try clear m); (try clear vE); (try clear es); (try clear vC); (try clear cf)
      obtain ⟨D, k2, m, vE, es, vC, cf, hn, he, hi, hd, k3⟩ := id hX
      have c1 := k3.cell 1 rfl
      have f1 := k3.free 1
      have l3 := k3.lt
      (try clear he); (try clear hi)
      go_upto_region 19 with fail
      refine wp_at (MsgAt w0 w g b3 5) ((hX.set1 hgl h3 hws r6).more (by omega)) ?_
      rintro Wz hz
      obtain ⟨D, k2, m, vE, es, vC, cf, hn, he, hi, hd, k3⟩ := id hz
      (try clear hz)
      obtain ⟨AE, cE, rfl, -, -⟩ := Kd.R_reads he.1
      obtain ⟨AC, cC, rfl, -, -⟩ := Kd.R_reads hi.1
      have HE := Lib.hid he
      have HI := Lib.hid hi
      (try clear he); (try clear hi)
      have c0 := k3.cell 0 rfl
      have c1 := k3.cell 1 rfl
      have c2 := k3.cell 2 rfl
      have c3 := k3.cell 3 rfl
      have c4 := k3.cell 4 rfl
      have c5 := k3.cell 5 rfl
      have c6 := k3.cell 6 rfl
      have c7 := k3.cell 7 rfl
      have c8 := k3.cell 8 rfl
      have c9 := k3.cell 9 rfl
      have c10 := k3.cell 10 rfl
      have c11 := k3.cell 11 rfl
      have x0 := k2.cell 0 rfl
      have y0 := k2.free 0
      have x1 := k2.cell 1 rfl
      have y1 := k2.free 1
      have x2 := k2.cell 2 rfl
      have y2 := k2.free 2
      have x3 := k2.cell 3 rfl
      have y3 := k2.free 3
      have x4 := k2.cell 4 rfl
      have y4 := k2.free 4
      have x5 := k2.cell 5 rfl
      have y5 := k2.free 5
      have x6 := k2.cell 6 rfl
      have y6 := k2.free 6
      have x7 := k2.cell 7 rfl
      have y7 := k2.free 7
      have x8 := k2.cell 8 rfl
      have y8 := k2.free 8
      have x9 := k2.cell 9 rfl
      have y9 := k2.free 9
      have x10 := k2.cell 10 rfl
      have y10 := k2.free 10
      have x11 := k2.cell 11 rfl
      have y11 := k2.free 11
      have l3 := k3.lt
      have l2 := k2.lt
      have n23 : w.heap.size ≠ b3 := by omega
      go_wp2_with fail
      obtain ⟨z1, z2, z3, z4⟩ := msg_fill D hgl (Nat.le_refl _) hws k2 HE.out HI.out m
      exact bodyPost_ret (results_cell_row rfl _ _ w.heap.size 27 #[.int .i64 m.a0, .int .i64 m.a1, .int .i64 m.a2, .int .i64 m.a3, .int .i64 m.a4, .int .i64 m.a5, .int .i64 m.a6, .bool m.a7, .slice AE es.length cE, .slice AC cf.length cC, .string m.d, .bool m.ls] (0, 0) _ rfl z1 Try.underlying27 rfl (by kernel_rfl)) rfl ⟨⟨m, _, es, _, cf, rfl, hn, z2, z3, hd⟩, z4⟩
    | false =>
      cases o2 with
      | true =>
        go_wp2_with fail
        refine calls_at (fun W => MsgAt w0 w g b3 4 W ∧ Blk 3 W4.heap.size (([-1, 100000, 100001] : List Int).map (Value.int .i64)).toArray W) ⟨hU.below hgl h3 (bl_alloc (Below.refl _ _) _), Blk.new _ _ W4⟩ ?_
        rintro W5 ⟨hV, kl⟩
        refine (pickInt_C _ 3 [-1, 100000, 100001] (by simp) hV.1.1 (blk_ints _ (by simp) kl) (by simp) (by rintro ad ⟨⟩; show W4.heap.size ≠ g; have := hU.1.size; omega)).mono ?_
        rintro e W6 ⟨r6, rfl, -, hc6, hk6⟩
        have hX := hV.step hgl h3 hc6 hk6
        (try clear hV); (try clear kl); (try clear hc6); (try clear hk6)
        obtain ⟨D, k2, m, vE, es, vC, cf, hn, he, hi, hd, k3⟩ := id hX
        have c3 := k3.cell 3 rfl
        have f3 := k3.free 3
        have l3 := k3.lt
        (try clear he); (try clear hi)
        go_upto_region 19 with fail
        refine wp_at (MsgAt w0 w g b3 5) ((hX.set3 hgl h3 hws r6).more (by omega)) ?_
        rintro Wz hz
        obtain ⟨D, k2, m, vE, es, vC, cf, hn, he, hi, hd, k3⟩ := id hz
        (try clear hz)
        obtain ⟨AE, cE, rfl, -, -⟩ := Kd.R_reads he.1
        obtain ⟨AC, cC, rfl, -, -⟩ := Kd.R_reads hi.1
        have HE := Lib.hid he
        have HI := Lib.hid hi
        (try clear he); (try clear hi)
        have c0 := k3.cell 0 rfl
        have c1 := k3.cell 1 rfl
        have c2 := k3.cell 2 rfl
        have c3 := k3.cell 3 rfl
        have c4 := k3.cell 4 rfl
        have c5 := k3.cell 5 rfl
        have c6 := k3.cell 6 rfl
        have c7 := k3.cell 7 rfl
        have c8 := k3.cell 8 rfl
        have c9 := k3.cell 9 rfl
        have c10 := k3.cell 10 rfl
        have c11 := k3.cell 11 rfl
        have x0 := k2.cell 0 rfl
        have y0 := k2.free 0
        have x1 := k2.cell 1 rfl
        have y1 := k2.free 1
        have x2 := k2.cell 2 rfl
        have y2 := k2.free 2
        have x3 := k2.cell 3 rfl
        have y3 := k2.free 3
        have x4 := k2.cell 4 rfl
        have y4 := k2.free 4
        have x5 := k2.cell 5 rfl
        have y5 := k2.free 5
        have x6 := k2.cell 6 rfl
        have y6 := k2.free 6
        have x7 := k2.cell 7 rfl
        have y7 := k2.free 7
        have x8 := k2.cell 8 rfl
        have y8 := k2.free 8
        have x9 := k2.cell 9 rfl
        have y9 := k2.free 9
        have x10 := k2.cell 10 rfl
        have y10 := k2.free 10
        have x11 := k2.cell 11 rfl
        have y11 := k2.free 11
        have l3 := k3.lt
        have l2 := k2.lt
        have n23 : w.heap.size ≠ b3 := by omega
        go_wp2_with fail
        obtain ⟨z1, z2, z3, z4⟩ := msg_fill D hgl (Nat.le_refl _) hws k2 HE.out HI.out m
        exact bodyPost_ret (results_cell_row rfl _ _ w.heap.size 27 #[.int .i64 m.a0, .int .i64 m.a1, .int .i64 m.a2, .int .i64 m.a3, .int .i64 m.a4, .int .i64 m.a5, .int .i64 m.a6, .bool m.a7, .slice AE es.length cE, .slice AC cf.length cC, .string m.d, .bool m.ls] (0, 0) _ rfl z1 Try.underlying27 rfl (by kernel_rfl)) rfl ⟨⟨m, _, es, _, cf, rfl, hn, z2, z3, hd⟩, z4⟩
      | false =>
        cases o3 with
        | true =>
          go_wp2_with fail
          refine calls_at (fun W => MsgAt w0 w g b3 4 W ∧ Blk 3 W4.heap.size (([-1, 1000000, 1000001] : List Int).map (Value.int .i64)).toArray W) ⟨hU.below hgl h3 (bl_alloc (Below.refl _ _) _), Blk.new _ _ W4⟩ ?_
          rintro W5 ⟨hV, kl⟩
          refine (pickInt_C _ 3 [-1, 1000000, 1000001] (by simp) hV.1.1 (blk_ints _ (by simp) kl) (by simp) (by rintro ad ⟨⟩; show W4.heap.size ≠ g; have := hU.1.size; omega)).mono ?_
          rintro e W6 ⟨r6, rfl, -, hc6, hk6⟩
          have hX := hV.step hgl h3 hc6 hk6
          (try clear hV); (try clear kl); (try clear hc6); (try clear hk6)
          obtain ⟨D, k2, m, vE, es, vC, cf, hn, he, hi, hd, k3⟩ := id hX
          have c4 := k3.cell 4 rfl
          have f4 := k3.free 4
          have l3 := k3.lt
          (try clear he); (try clear hi)
          go_upto_region 19 with fail
          refine wp_at (MsgAt w0 w g b3 5) ((hX.set4 hgl h3 hws r6).more (by omega)) ?_
          rintro Wz hz
          obtain ⟨D, k2, m, vE, es, vC, cf, hn, he, hi, hd, k3⟩ := id hz
          (try clear hz)
          obtain ⟨AE, cE, rfl, -, -⟩ := Kd.R_reads he.1
          obtain ⟨AC, cC, rfl, -, -⟩ := Kd.R_reads hi.1
          have HE := Lib.hid he
          have HI := Lib.hid hi
          (try clear he); (try clear hi)
          have c0 := k3.cell 0 rfl
          have c1 := k3.cell 1 rfl
          have c2 := k3.cell 2 rfl
          have c3 := k3.cell 3 rfl
          have c4 := k3.cell 4 rfl
          have c5 := k3.cell 5 rfl
          have c6 := k3.cell 6 rfl
          have c7 := k3.cell 7 rfl
          have c8 := k3.cell 8 rfl
          have c9 := k3.cell 9 rfl
          have c10 := k3.cell 10 rfl
          have c11 := k3.cell 11 rfl
          have x0 := k2.cell 0 rfl
          have y0 := k2.free 0
          have x1 := k2.cell 1 rfl
          have y1 := k2.free 1
          have x2 := k2.cell 2 rfl
          have y2 := k2.free 2
          have x3 := k2.cell 3 rfl
          have y3 := k2.free 3
          have x4 := k2.cell 4 rfl
          have y4 := k2.free 4
          have x5 := k2.cell 5 rfl
          have y5 := k2.free 5
          have x6 := k2.cell 6 rfl
          have y6 := k2.free 6
          have x7 := k2.cell 7 rfl
          have y7 := k2.free 7
          have x8 := k2.cell 8 rfl
          have y8 := k2.free 8
          have x9 := k2.cell 9 rfl
          have y9 := k2.free 9
          have x10 := k2.cell 10 rfl
          have y10 := k2.free 10
          have x11 := k2.cell 11 rfl
          have y11 := k2.free 11
          have l3 := k3.lt
          have l2 := k2.lt
          have n23 : w.heap.size ≠ b3 := by omega
          go_wp2_with fail
          obtain ⟨z1, z2, z3, z4⟩ := msg_fill D hgl (Nat.le_refl _) hws k2 HE.out HI.out m
          exact bodyPost_ret (results_cell_row rfl _ _ w.heap.size 27 #[.int .i64 m.a0, .int .i64 m.a1, .int .i64 m.a2, .int .i64 m.a3, .int .i64 m.a4, .int .i64 m.a5, .int .i64 m.a6, .bool m.a7, .slice AE es.length cE, .slice AC cf.length cC, .string m.d, .bool m.ls] (0, 0) _ rfl z1 Try.underlying27 rfl (by kernel_rfl)) rfl ⟨⟨m, _, es, _, cf, rfl, hn, z2, z3, hd⟩, z4⟩
        | false =>
          cases o4 with
          | true =>
            obtain ⟨D, k2, m, vE, es, vC, cf, hn, he, hi, hd, k3⟩ := id hU
            have HE := Lib.hid he
            have HI := Lib.hid hi
            have hrow : ∀ k, vE.ownBlock = some k → w.heap.size ≤ k := fun k hk => he.1.1 k hk
            have hrlt := Kd.R_lt he.1
            have n3v : some b3 ≠ vE.ownBlock := Kd.R_ne he.1 k3 (by decide)
            have n2v : some w.heap.size ≠ vE.ownBlock := Kd.R_ne he.1 k2 (by decide)
            have ngv : some g ≠ vE.ownBlock := fun e => by have := hrow g e.symm; omega
            have hgc := D.1.lt
            have l3 := k3.lt
            (try clear he); (try clear hi)
            go_upto_region 12 with fail
            refine wp_region_flowT (L := LR w0 g vE.ownBlock) (M := LD w0 g) (J := fun W => Ents w W vE es) (J1 := fun _ => True) 5 (HE.out.below (bl_drew (Below.refl _ _))) (fun a b h k => h.keep k.2 hgl) (fun _ _ _ _ => trivial) (LR.of w0 g _) (LR.drew w0 g _) (LR.trans w0 g _) [0, 3] 59 7 (by kernel_rfl) (by rfl) (by kernel_rfl) (by kernel_rfl) (by kernel_rfl) (by kernel_rfl) ?_
            (refine flowT_valE (by decide) ?_; apply Exists.intro; refine ⟨fun A wq hLq hbq hdq => ?_, ?_⟩; focus ((try simp [go_sem, baseF, deps, dep1, Region.binds] at hbq); (try simp [go_sem, baseF, deps, dep1, Region.binds] at hdq); go_simp; first | exact ⟨LD.refl _ _ _, rfl⟩ | (fail)))
            refine flowT_valE (by decide) ⟨vE, fun A wq hLq hbq hdq => ?_, ?_⟩
            · have q3 := blk_keepR k3 hLq.2 (by omega) n3v
              have qc := q3.cell 8 rfl
              have ql := q3.lt
              (try simp [go_sem, baseF, deps, dep1, Region.binds] at hbq)
              (try simp [go_sem, baseF, deps, dep1, Region.binds] at hdq)
              go_simp
              exact ⟨LD.refl _ _ _, rfl⟩
            iterate 1 (refine flowT_valE (by decide) ?_; apply Exists.intro; refine ⟨fun A wq hLq hbq hdq => ?_, ?_⟩; focus ((try simp [go_sem, baseF, deps, dep1, Region.binds] at hbq); (try simp [go_sem, baseF, deps, dep1, Region.binds] at hdq); go_simp; first | exact ⟨LD.refl _ _ _, rfl⟩ | (fail)))
            refine flowT_R (by decide) (fun W u => ∃ x : S43, u = .agg #[.int .i64 x.f0, .int .i64 x.f1, .string x.f2] ∧ x.f2.size ≤ 200) (fun _ _ _ h _ => h) (fun A wq hLq hbq hdq => ?_) ?_
            · (try simp [go_sem, baseF, deps, dep1, Region.binds] at hbq)
              (try simp [go_sem, baseF, deps, dep1, Region.binds] at hdq)
              go_simp
              refine (any_C (hLq.1 D.1)).mono ?_
              rintro e w5 ⟨⟨t5, k5, d5, rfl, hd5⟩, DD⟩
              exact ⟨_, rfl, ⟨fun _ => DD.1, DD.2⟩, ⟨t5, k5, d5⟩, rfl, hd5⟩
            refine flowT_R (by decide) (fun W u => ∃ (b : Nat) (x : S43), u = .slice (some ⟨b, 0, none⟩) 1 1 ∧ W4.heap.size ≤ b ∧ Blk 43 b #[.int .i64 x.f0, .int .i64 x.f1, .string x.f2] W ∧ x.f2.size ≤ 200) (fun W W' u ⟨b, x, e, hb, hk, hx⟩ hL => ⟨b, x, e, hb, blk_keepR hk hL.2 (by omega) (fun e => by have := hrlt b e.symm; omega), hx⟩) (fun A wq hLq hbq hdq => ?_) ?_
            · (try simp [go_sem, baseF, deps, dep1, Region.binds] at hbq)
              (try simp [go_sem, baseF, deps, dep1, Region.binds] at hdq)
              obtain ⟨x, hx, hxs⟩ := hdq
              go_simp
              first
                | exact ⟨LD.below (bl_alloc (Below.refl _ _) _), wq.heap.size, x, rfl, hLq.2.1, Blk.new _ _ wq, hxs⟩
                | exact ⟨LD.below (bl_alloc (Below.refl _ _) _), wq.heap.size, rfl, hLq.2.1, x, Blk.new _ _ wq, hxs⟩
                | exact ⟨LD.below (bl_alloc (Below.refl _ _) _), x, hLq.2.1, Blk.new _ _ wq, hxs⟩
            refine flowT_row rfl (fun W u => ∃ x : S43, x.f2.size ≤ 200 ∧ Kd.R k43 43 W w.heap.size (fun k => w.heap.size ≤ k) u (es ++ [x])) (fun W W' u ⟨x, hx, hR⟩ hL => ⟨x, hx, Kd.R_keep hR hL.2 (fun k hk => by omega)⟩) (fun A wq hLq hJ hbq hdq => ?_) ?_
            · (try simp [go_sem, baseF, deps, dep1, Region.binds] at hbq)
              (try simp [go_sem, baseF, deps, dep1, Region.binds] at hdq)
              obtain ⟨hE_, ⟨b, hS_, hb, x, hk, hx⟩, -⟩ := hdq
              obtain ⟨v1, w1, hrun, hR1, hg1, hat1⟩ := run_append_R (P := Try.prog) k43 wq w.heap.size 24 24 43 (.agg #[.int .i64 0, .int .i64 0, .string ⟨#[]⟩]) 32 Try.underlying24 (by kernel_rfl) rfl (by decide) (by decide) vE es x [.int .i64 x.f0, .int .i64 x.f1, .string x.f2] _ (fun _ => False) ⟨b, 0, none⟩ 1 (by simpa using World.news_of_block (cs := #[.int .i64 x.f0, .int .i64 x.f1, .string x.f2]) (t := 43) (fr := (0, 0)) hk) (k43_mkM wq _ _ x) (fun k h => h.elim) (fun k hk => by have := hLq.2.1; have := D.size; omega) hJ.1 (by have := hLq.2.1; have := D.size; omega) (by omega)
              have hE' : A.eval (.tmp 37) = vE := by simpa [Act.eval, Array.getD_eq_getD_getElem?] using hE_
              have hS' : A.eval (.tmp 40) = .slice (some ⟨b, 0, none⟩) 1 1 := by simpa [Act.eval, Array.getD_eq_getD_getElem?] using hS_
              rw [exec_append (by rw [hE', hS']; exact hrun)]
              exact ⟨⟨fun c => c.grown hg1 ngv (fun k hk => Nat.le_trans hws (hrow k hk)), KeepBut.of_grown hg1 g⟩, ⟨x, hx, hR1⟩, trivial⟩
            (refine flowT_valE (by decide) ?_; apply Exists.intro; refine ⟨fun A wq hLq hbq hdq => ?_, ?_⟩; focus ((try simp [go_sem, baseF, deps, dep1, Region.binds] at hbq); (try simp [go_sem, baseF, deps, dep1, Region.binds] at hdq); go_simp; first | exact ⟨LD.refl _ _ _, rfl⟩ | (fail)))
            with_reducible refine flowT_tail ?_
            intro x wq hLq hall _
            simp only [allT] at hall
            obtain ⟨h7, ⟨y, hy, hR1⟩, -, -, hall⟩ := hall
            obtain ⟨A6, c6, h6, hcap6, -⟩ := Kd.R_reads hR1
            rw [h6] at hR1
            have HR1 := Lib.hid hR1
            (try clear hR1)
            have q3 := blk_keepR k3 hLq.2 (by omega) n3v
            have q2 := blk_keepR k2 hLq.2 (by omega) n2v
            have DQ := D.row hLq hrow
            have c8 := q3.cell 8 rfl
            have f8 := q3.free 8
            have ql := q3.lt
            refine ⟨?_⟩
            simp [seqUpon, lastUpon, frameOf, Act.put, List.take, h7, h6, hall]
            (try clear hall); (try clear h6); (try clear h7)
            go_simp
            have hfin : MsgAt w0 w g b3 (5) (wq.setCell ⟨b3, 8, none⟩ (.slice A6 (es.length + 1) c6)) := by
              refine ⟨DQ.far hgl (p := ⟨b3, 8, none⟩) (by show w.heap.size ≤ b3; omega) _ hws, q2.far (a := ⟨b3, 8, none⟩) (by show w.heap.size ≠ b3; omega) _, m, .slice A6 (es.length + 1) c6, es ++ [y], vC, cf, by simp; omega, ?_, ?_, hd, q3.set 8 _ rfl⟩
              · have h9 : Ents w wq (.slice A6 (es.length + 1) c6) (es ++ [y]) := ⟨by simpa using HR1.out, fun z hz => by
                  rcases List.mem_append.1 hz with h | h
                  · exact HE.out.2 z h
                  · rw [List.mem_singleton] at h; rw [h]; exact hy⟩
                exact h9.far q3 (by decide) 8 _
              · exact (HI.out.row HE.out hLq.2 hgl).far q3 (by decide) 8 _
            (try clear DQ); (try clear q2); (try clear q3); (try clear c8); (try clear f8); (try clear ql); (try clear HR1); (try clear HE); (try clear HI)
            go_upto_region 19 with fail
            refine wp_at (MsgAt w0 w g b3 5) (hfin) ?_
            rintro Wz hz
            obtain ⟨D, k2, m, vE, es, vC, cf, hn, he, hi, hd, k3⟩ := id hz
            (try clear hz)
            obtain ⟨AE, cE, rfl, -, -⟩ := Kd.R_reads he.1
            obtain ⟨AC, cC, rfl, -, -⟩ := Kd.R_reads hi.1
            have HE := Lib.hid he
            have HI := Lib.hid hi
            (try clear he); (try clear hi)
            have c0 := k3.cell 0 rfl
            have c1 := k3.cell 1 rfl
            have c2 := k3.cell 2 rfl
            have c3 := k3.cell 3 rfl
            have c4 := k3.cell 4 rfl
            have c5 := k3.cell 5 rfl
            have c6 := k3.cell 6 rfl
            have c7 := k3.cell 7 rfl
            have c8 := k3.cell 8 rfl
            have c9 := k3.cell 9 rfl
            have c10 := k3.cell 10 rfl
            have c11 := k3.cell 11 rfl
            have x0 := k2.cell 0 rfl
            have y0 := k2.free 0
            have x1 := k2.cell 1 rfl
            have y1 := k2.free 1
            have x2 := k2.cell 2 rfl
            have y2 := k2.free 2
            have x3 := k2.cell 3 rfl
            have y3 := k2.free 3
            have x4 := k2.cell 4 rfl
            have y4 := k2.free 4
            have x5 := k2.cell 5 rfl
            have y5 := k2.free 5
            have x6 := k2.cell 6 rfl
            have y6 := k2.free 6
            have x7 := k2.cell 7 rfl
            have y7 := k2.free 7
            have x8 := k2.cell 8 rfl
            have y8 := k2.free 8
            have x9 := k2.cell 9 rfl
            have y9 := k2.free 9
            have x10 := k2.cell 10 rfl
            have y10 := k2.free 10
            have x11 := k2.cell 11 rfl
            have y11 := k2.free 11
            have l3 := k3.lt
            have l2 := k2.lt
            have n23 : w.heap.size ≠ b3 := by omega
            go_wp2_with fail
            obtain ⟨z1, z2, z3, z4⟩ := msg_fill D hgl (Nat.le_refl _) hws k2 HE.out HI.out m
            exact bodyPost_ret (results_cell_row rfl _ _ w.heap.size 27 #[.int .i64 m.a0, .int .i64 m.a1, .int .i64 m.a2, .int .i64 m.a3, .int .i64 m.a4, .int .i64 m.a5, .int .i64 m.a6, .bool m.a7, .slice AE es.length cE, .slice AC cf.length cC, .string m.d, .bool m.ls] (0, 0) _ rfl z1 Try.underlying27 rfl (by kernel_rfl)) rfl ⟨⟨m, _, es, _, cf, rfl, hn, z2, z3, hd⟩, z4⟩
          | false =>
            cases o5 with
            | true =>
              go_wp2_with fail
              refine (below_C 2 hU.1.1).mono ?_
              rintro e W5 ⟨r5, rfl, hr5, hc5, hk5⟩
              have hX := hU.step hgl h3 hc5 hk5
              (try clear hU); (try clear hc5); (try clear hk5)
              have E5 := Lib.hid (show wrap64 (60 + r5) = 60 + r5 from by have := hr5.2.1 (by decide); unfold wrap64; omega)
              go_wp2_with fail
              refine (long_C _ 65 W5 (by first | omega | (rw [E5.out]; omega)) (by first | omega | (rw [E5.out]; omega))).mono ?_
              rintro e W6 ⟨d6, rfl, hd6, hb6⟩
              have hY := hX.below hgl h3 hb6
              have hd6' : d6.size ≤ 200 := by first | omega | (rw [E5.out] at hd6; omega)
              (try clear hX); (try clear hb6)
              obtain ⟨D, k2, m, vE, es, vC, cf, hn, he, hi, hd, k3⟩ := id hY
              have c10 := k3.cell 10 rfl
              have f10 := k3.free 10
              have l3 := k3.lt
              (try clear he); (try clear hi)
              go_upto_region 19 with fail
              refine wp_at (MsgAt w0 w g b3 5) ((hY.set10 hgl h3 hws _ hd6').more (by omega)) ?_
              rintro Wz hz
              obtain ⟨D, k2, m, vE, es, vC, cf, hn, he, hi, hd, k3⟩ := id hz
              (try clear hz)
              obtain ⟨AE, cE, rfl, -, -⟩ := Kd.R_reads he.1
              obtain ⟨AC, cC, rfl, -, -⟩ := Kd.R_reads hi.1
              have HE := Lib.hid he
              have HI := Lib.hid hi
              (try clear he); (try clear hi)
              have c0 := k3.cell 0 rfl
              have c1 := k3.cell 1 rfl
              have c2 := k3.cell 2 rfl
              have c3 := k3.cell 3 rfl
              have c4 := k3.cell 4 rfl
              have c5 := k3.cell 5 rfl
              have c6 := k3.cell 6 rfl
              have c7 := k3.cell 7 rfl
              have c8 := k3.cell 8 rfl
              have c9 := k3.cell 9 rfl
              have c10 := k3.cell 10 rfl
              have c11 := k3.cell 11 rfl
              have x0 := k2.cell 0 rfl
              have y0 := k2.free 0
              have x1 := k2.cell 1 rfl
              have y1 := k2.free 1
              have x2 := k2.cell 2 rfl
              have y2 := k2.free 2
              have x3 := k2.cell 3 rfl
              have y3 := k2.free 3
              have x4 := k2.cell 4 rfl
              have y4 := k2.free 4
              have x5 := k2.cell 5 rfl
              have y5 := k2.free 5
              have x6 := k2.cell 6 rfl
              have y6 := k2.free 6
              have x7 := k2.cell 7 rfl
              have y7 := k2.free 7
              have x8 := k2.cell 8 rfl
              have y8 := k2.free 8
              have x9 := k2.cell 9 rfl
              have y9 := k2.free 9
              have x10 := k2.cell 10 rfl
              have y10 := k2.free 10
              have x11 := k2.cell 11 rfl
              have y11 := k2.free 11
              have l3 := k3.lt
              have l2 := k2.lt
              have n23 : w.heap.size ≠ b3 := by omega
              go_wp2_with fail
              obtain ⟨z1, z2, z3, z4⟩ := msg_fill D hgl (Nat.le_refl _) hws k2 HE.out HI.out m
              exact bodyPost_ret (results_cell_row rfl _ _ w.heap.size 27 #[.int .i64 m.a0, .int .i64 m.a1, .int .i64 m.a2, .int .i64 m.a3, .int .i64 m.a4, .int .i64 m.a5, .int .i64 m.a6, .bool m.a7, .slice AE es.length cE, .slice AC cf.length cC, .string m.d, .bool m.ls] (0, 0) _ rfl z1 Try.underlying27 rfl (by kernel_rfl)) rfl ⟨⟨m, _, es, _, cf, rfl, hn, z2, z3, hd⟩, z4⟩
            | false =>
              cases o6 with
              | true =>
                go_wp2_with fail
                refine (anyConf_R hU.1.1).mono ?_
                rintro e W5 ⟨v2, xs2, rfl, hl2, hR2, hc2, hk2⟩
                have hX := hU.step hgl h3 hc2 hk2
                have hI2 := Lib.hid (Ints.of hR2 hl2 hU.1.size)
                obtain ⟨A2, c2_, rfl, -, -⟩ := Kd.R_reads hR2
                (try clear hU); (try clear hc2); (try clear hk2); (try clear hR2)
                obtain ⟨D, k2, m, vE, es, vC, cf, hn, he, hi, hd, k3⟩ := id hX
                (try clear he); (try clear hi)
                have c9 := k3.cell 9 rfl
                have f9 := k3.free 9
                have l3 := k3.lt
                go_upto_region 19 with fail
                refine wp_at (MsgAt w0 w g b3 5) ((hX.set9 hgl h3 hws _ _ hI2.out).more (by omega)) ?_
                rintro Wz hz
                obtain ⟨D, k2, m, vE, es, vC, cf, hn, he, hi, hd, k3⟩ := id hz
                (try clear hz)
                obtain ⟨AE, cE, rfl, -, -⟩ := Kd.R_reads he.1
                obtain ⟨AC, cC, rfl, -, -⟩ := Kd.R_reads hi.1
                have HE := Lib.hid he
                have HI := Lib.hid hi
                (try clear he); (try clear hi)
                have c0 := k3.cell 0 rfl
                have c1 := k3.cell 1 rfl
                have c2 := k3.cell 2 rfl
                have c3 := k3.cell 3 rfl
                have c4 := k3.cell 4 rfl
                have c5 := k3.cell 5 rfl
                have c6 := k3.cell 6 rfl
                have c7 := k3.cell 7 rfl
                have c8 := k3.cell 8 rfl
                have c9 := k3.cell 9 rfl
                have c10 := k3.cell 10 rfl
                have c11 := k3.cell 11 rfl
                have x0 := k2.cell 0 rfl
                have y0 := k2.free 0
                have x1 := k2.cell 1 rfl
                have y1 := k2.free 1
                have x2 := k2.cell 2 rfl
                have y2 := k2.free 2
                have x3 := k2.cell 3 rfl
                have y3 := k2.free 3
                have x4 := k2.cell 4 rfl
                have y4 := k2.free 4
                have x5 := k2.cell 5 rfl
                have y5 := k2.free 5
                have x6 := k2.cell 6 rfl
                have y6 := k2.free 6
                have x7 := k2.cell 7 rfl
                have y7 := k2.free 7
                have x8 := k2.cell 8 rfl
                have y8 := k2.free 8
                have x9 := k2.cell 9 rfl
                have y9 := k2.free 9
                have x10 := k2.cell 10 rfl
                have y10 := k2.free 10
                have x11 := k2.cell 11 rfl
                have y11 := k2.free 11
                have l3 := k3.lt
                have l2 := k2.lt
                have n23 : w.heap.size ≠ b3 := by omega
                go_wp2_with fail
                obtain ⟨z1, z2, z3, z4⟩ := msg_fill D hgl (Nat.le_refl _) hws k2 HE.out HI.out m
                exact bodyPost_ret (results_cell_row rfl _ _ w.heap.size 27 #[.int .i64 m.a0, .int .i64 m.a1, .int .i64 m.a2, .int .i64 m.a3, .int .i64 m.a4, .int .i64 m.a5, .int .i64 m.a6, .bool m.a7, .slice AE es.length cE, .slice AC cf.length cC, .string m.d, .bool m.ls] (0, 0) _ rfl z1 Try.underlying27 rfl (by kernel_rfl)) rfl ⟨⟨m, _, es, _, cf, rfl, hn, z2, z3, hd⟩, z4⟩
              | false =>
                cases o7 with
                | true =>
                  obtain ⟨D, k2, m, vE, es, vC, cf, hn, he, hi, hd, k3⟩ := id hU
                  (try clear he); (try clear hi)
                  have c11 := k3.cell 11 rfl
                  have f11 := k3.free 11
                  have l3 := k3.lt
                  go_upto_region 19 with fail
                  refine wp_at (MsgAt w0 w g b3 5) ((hU.set11 hgl h3 hws true).more (by omega)) ?_
                  rintro Wz hz
                  obtain ⟨D, k2, m, vE, es, vC, cf, hn, he, hi, hd, k3⟩ := id hz
                  (try clear hz)
                  obtain ⟨AE, cE, rfl, -, -⟩ := Kd.R_reads he.1
                  obtain ⟨AC, cC, rfl, -, -⟩ := Kd.R_reads hi.1
                  have HE := Lib.hid he
                  have HI := Lib.hid hi
                  (try clear he); (try clear hi)
                  have c0 := k3.cell 0 rfl
                  have c1 := k3.cell 1 rfl
                  have c2 := k3.cell 2 rfl
                  have c3 := k3.cell 3 rfl
                  have c4 := k3.cell 4 rfl
                  have c5 := k3.cell 5 rfl
                  have c6 := k3.cell 6 rfl
                  have c7 := k3.cell 7 rfl
                  have c8 := k3.cell 8 rfl
                  have c9 := k3.cell 9 rfl
                  have c10 := k3.cell 10 rfl
                  have c11 := k3.cell 11 rfl
                  have x0 := k2.cell 0 rfl
                  have y0 := k2.free 0
                  have x1 := k2.cell 1 rfl
                  have y1 := k2.free 1
                  have x2 := k2.cell 2 rfl
                  have y2 := k2.free 2
                  have x3 := k2.cell 3 rfl
                  have y3 := k2.free 3
                  have x4 := k2.cell 4 rfl
                  have y4 := k2.free 4
                  have x5 := k2.cell 5 rfl
                  have y5 := k2.free 5
                  have x6 := k2.cell 6 rfl
                  have y6 := k2.free 6
                  have x7 := k2.cell 7 rfl
                  have y7 := k2.free 7
                  have x8 := k2.cell 8 rfl
                  have y8 := k2.free 8
                  have x9 := k2.cell 9 rfl
                  have y9 := k2.free 9
                  have x10 := k2.cell 10 rfl
                  have y10 := k2.free 10
                  have x11 := k2.cell 11 rfl
                  have y11 := k2.free 11
                  have l3 := k3.lt
                  have l2 := k2.lt
                  have n23 : w.heap.size ≠ b3 := by omega
                  go_wp2_with fail
                  obtain ⟨z1, z2, z3, z4⟩ := msg_fill D hgl (Nat.le_refl _) hws k2 HE.out HI.out m
                  exact bodyPost_ret (results_cell_row rfl _ _ w.heap.size 27 #[.int .i64 m.a0, .int .i64 m.a1, .int .i64 m.a2, .int .i64 m.a3, .int .i64 m.a4, .int .i64 m.a5, .int .i64 m.a6, .bool m.a7, .slice AE es.length cE, .slice AC cf.length cC, .string m.d, .bool m.ls] (0, 0) _ rfl z1 Try.underlying27 rfl (by kernel_rfl)) rfl ⟨⟨m, _, es, _, cf, rfl, hn, z2, z3, hd⟩, z4⟩
                | false =>
                  go_upto_region 19 with fail
                  refine wp_at (MsgAt w0 w g b3 5) (hU.more (by omega)) ?_
                  rintro Wz hz
                  obtain ⟨D, k2, m, vE, es, vC, cf, hn, he, hi, hd, k3⟩ := id hz
                  (try clear hz)
                  obtain ⟨AE, cE, rfl, -, -⟩ := Kd.R_reads he.1
                  obtain ⟨AC, cC, rfl, -, -⟩ := Kd.R_reads hi.1
                  have HE := Lib.hid he
                  have HI := Lib.hid hi
                  (try clear he); (try clear hi)
                  have c0 := k3.cell 0 rfl
                  have c1 := k3.cell 1 rfl
                  have c2 := k3.cell 2 rfl
                  have c3 := k3.cell 3 rfl
                  have c4 := k3.cell 4 rfl
                  have c5 := k3.cell 5 rfl
                  have c6 := k3.cell 6 rfl
                  have c7 := k3.cell 7 rfl
                  have c8 := k3.cell 8 rfl
                  have c9 := k3.cell 9 rfl
                  have c10 := k3.cell 10 rfl
                  have c11 := k3.cell 11 rfl
                  have x0 := k2.cell 0 rfl
                  have y0 := k2.free 0
                  have x1 := k2.cell 1 rfl
                  have y1 := k2.free 1
                  have x2 := k2.cell 2 rfl
                  have y2 := k2.free 2
                  have x3 := k2.cell 3 rfl
                  have y3 := k2.free 3
                  have x4 := k2.cell 4 rfl
                  have y4 := k2.free 4
                  have x5 := k2.cell 5 rfl
                  have y5 := k2.free 5
                  have x6 := k2.cell 6 rfl
                  have y6 := k2.free 6
                  have x7 := k2.cell 7 rfl
                  have y7 := k2.free 7
                  have x8 := k2.cell 8 rfl
                  have y8 := k2.free 8
                  have x9 := k2.cell 9 rfl
                  have y9 := k2.free 9
                  have x10 := k2.cell 10 rfl
                  have y10 := k2.free 10
                  have x11 := k2.cell 11 rfl
                  have y11 := k2.free 11
                  have l3 := k3.lt
                  have l2 := k2.lt
                  have n23 : w.heap.size ≠ b3 := by omega
                  go_wp2_with fail
                  obtain ⟨z1, z2, z3, z4⟩ := msg_fill D hgl (Nat.le_refl _) hws k2 HE.out HI.out m
                  exact bodyPost_ret (results_cell_row rfl _ _ w.heap.size 27 #[.int .i64 m.a0, .int .i64 m.a1, .int .i64 m.a2, .int .i64 m.a3, .int .i64 m.a4, .int .i64 m.a5, .int .i64 m.a6, .bool m.a7, .slice AE es.length cE, .slice AC cf.length cC, .string m.d, .bool m.ls] (0, 0) _ rfl z1 Try.underlying27 rfl (by kernel_rfl)) rfl ⟨⟨m, _, es, _, cf, rfl, hn, z2, z3, hd⟩, z4⟩
end Go.Proofs.Ytmljihfaapoakaa.PFnMessages
end

section
namespace Go.Proofs.Ytmljihfaapoakaa.PFnMessages
open Go.RowKit Go.Proofs.YtmljihfaapoakaaW.PrintWords
set_option linter.unusedSimpArgs false
set_option linter.unusedVariables false
attribute [local go_sem] ByteArray.size_append
set_option maxHeartbeats 4000000 in
set_option maxRecDepth 100000 in
theorem spoilt_C (s : ByteArray) (hs : s.size ≤ 1000000) {w0 w : World} {g : Nat} (hc : Cur w0 w g) :
    Calls Try.prog 36 #[.pointer (some ⟨g, 0, none⟩), .string s] w fun e w' => (∃ r : ByteArray, e = .returned (.string r) ∧ r.size ≤ s.size + 1) ∧ Dw w0 w g w' := by
  have hgl := hc.lt
  go_enter Try.func36, Try.ntmps36
  go_wp2_with fail
  refine (below_C 12 hc).mono ?_
  rintro e W1 ⟨r, rfl, -, hc1, hk1⟩
  have D := (Dw.start hc).step hc1 hk1
  clear hc1 hk1 hc
  obtain ⟨o0, ho0⟩ : ∃ q, (r == 0) = q := ⟨_, rfl⟩
  obtain ⟨o1, ho1⟩ : ∃ q, (r == 1) = q := ⟨_, rfl⟩
  obtain ⟨o2, ho2⟩ : ∃ q, (r == 2) = q := ⟨_, rfl⟩
  obtain ⟨o3, ho3⟩ : ∃ q, (r == 3) = q := ⟨_, rfl⟩
  have hsame : ∀ {X : World} (h : Dw w0 w g X), (∃ r : ByteArray, Ending.returned (.string s) = .returned (.string r) ∧ r.size ≤ s.size + 1) ∧ Dw w0 w g X := fun h => ⟨⟨s, rfl, by omega⟩, h⟩
  cases o0 with
  | true =>
    go_wp2_with fail
    refine (text_C _ 1 rfl (by omega) D.1).mono ?_
    rintro e W2 ⟨d, rfl, hd, hc2, hk2⟩
    have D2 := D.step hc2 hk2
    have hz : ¬ (9223372036854775807 < s.size + d.size) := by omega
    go_wp2_with fail
    go_ret
    exact ⟨⟨_, rfl, by rw [ByteArray.size_append]; omega⟩, D2⟩
  | false =>
    cases o1 with
    | true =>
      have E1 := Lib.hid (show wrap64 ((s.size : Int) + 1) = (s.size : Int) + 1 from by unfold wrap64; omega)
      go_wp2_with fail
      refine (below_C _ D.1).mono ?_
      rintro e W2 ⟨k, rfl, ⟨hk0, hk1', -⟩, hc2, hk2⟩
      have hkk := hk1' (by omega)
      have D2 := D.step hc2 hk2
      have hk3 : k ≤ (s.size : Int) := by omega
      clear hk1'
      go_wp2_with fail
      go_ret
      refine ⟨⟨_, rfl, ?_⟩, D2⟩
      rw [ByteArray.size_extract]; omega
    | false =>
      have hE1 : 0 < s.size → (((s.size : Int) > 0)) := fun h => by omega
      by_cases hpos : 0 < s.size
      · have hpos' : (0 : Int) < (s.size : Int) := by omega
        cases o2 with
        | true =>
          go_wp2_with fail
          refine (below_C _ D.1).mono ?_
          rintro e W2 ⟨k, rfl, ⟨hk0, hk1', -⟩, hc2, hk2⟩
          have hkk := hk1' (by omega)
          have D2 := D.step hc2 hk2
          obtain ⟨n, rfl⟩ := Int.eq_ofNat_of_zero_le hk0
          have E1 := Lib.hid (show wrap64 ((n : Int) + 1) = (n : Int) + 1 from by unfold wrap64; omega)
          have hwi : IntKind.i64.wrap ((n : Int) + 1) = (n : Int) + 1 := by rw [IntKind.wrap_i64]; omega
          have hk3 : (n : Int) ≤ (s.size : Int) := by omega
          have hk4 : (n : Int) + 1 ≤ (s.size : Int) := by omega
          have hk5 : (0 : Int) ≤ (n : Int) + 1 := by omega
          clear hk1' hc2 hk2
          go_upto_region 10 with fail
          refine wp_region_flowL (L := LD w0 g) (LD.drew w0 g) (LD.trans w0 g) [0, 1, 5] 45 (by kernel_rfl) (by rfl) (by kernel_rfl) (by kernel_rfl) (by kernel_rfl) (by kernel_rfl) ?_
          iterate 4 (refine flowL_valE ?_; apply Exists.intro; refine ⟨fun A wq hLq hbq hdq => ?_, ?_⟩; focus (obtain ⟨hkc, hkf⟩ := kcell hLq.2; have hkz := hLq.2.1; (try simp [go_sem, baseF, deps, dep1, Region.binds] at hbq); (try simp [go_sem, baseF, deps, dep1, Region.binds] at hdq); go_simp; first | exact ⟨LD.refl _ _ _, rfl⟩ | (fail)))
          refine flowL_R (fun W u => ∃ d : ByteArray, u = .string d ∧ d.size = 1) (fun _ _ _ h _ => h) (fun A wq hLq hbq hdq => ?_) ?_
          · (try simp [go_sem, baseF, deps, dep1, Region.binds] at hdq)
            go_simp
            refine (text_C _ 1 rfl (by omega) (hLq.1 D2.1)).mono ?_
            rintro e w5 ⟨d, rfl, hd, hc5, hk5⟩
            first | exact ⟨_, rfl, ⟨fun _ => hc5, hk5⟩, d, rfl, hd⟩ | exact ⟨⟨fun _ => hc5, hk5⟩, d, rfl, hd⟩
          refine flowL_R (fun W u => ∃ d : ByteArray, u = .string d ∧ d.size ≤ n + 1) (fun _ _ _ h _ => h) (fun A wq hLq hbq hdq => ?_) ?_
          · (try simp [go_sem, baseF, deps, dep1, Region.binds] at hdq)
            obtain ⟨h35, d, h37, hd⟩ := hdq
            have hz : ¬ (9223372036854775807 < (s.extract 0 n).size + d.size) := by rw [ByteArray.size_extract]; omega
            have hz2 : (s.extract 0 n ++ d).size ≤ n + 1 := by rw [ByteArray.size_append, ByteArray.size_extract]; omega
            go_simp
            rw [if_neg (by omega)]
            exact ⟨LD.refl _ _ _, _, rfl, hz2⟩
          iterate 4 (refine flowL_valE ?_; apply Exists.intro; refine ⟨fun A wq hLq hbq hdq => ?_, ?_⟩; focus (obtain ⟨hkc, hkf⟩ := kcell hLq.2; have hkz := hLq.2.1; (try simp [go_sem, baseF, deps, dep1, Region.binds] at hbq); (try simp [go_sem, baseF, deps, dep1, Region.binds] at hdq); go_simp; first | exact ⟨LD.refl _ _ _, rfl⟩ | (fail)))
          refine flowL_R (fun W u => ∃ d : ByteArray, u = .string d ∧ d.size ≤ s.size + 1) (fun _ _ _ h _ => h) (fun A wq hLq hbq hdq => ?_) ?_
          · (try simp [go_sem, baseF, deps, dep1, Region.binds] at hdq)
            obtain ⟨⟨d, h38, hd⟩, h42⟩ := hdq
            have hz2 : (d ++ s.extract (n + 1) s.size).size ≤ s.size + 1 := by rw [ByteArray.size_append, ByteArray.size_extract]; omega
            have hz3 : d.size ≤ n + 1 := hd
            go_simp
            try rw [h38]
            go_simp
            rw [if_neg (by omega)]
            exact ⟨LD.refl _ _ _, _, rfl, hz2⟩
          with_reducible refine flowL_last ?_
          intro x wq hLq hall
          simp only [allT] at hall
          obtain ⟨⟨d, h43, hd⟩, -, -, -, -, -, -, hall⟩ := hall
          refine ⟨?_⟩
          simp [lastUpon, frameOf, Act.put, List.dropLast, h43]
          clear hall h43
          go_simp
          have D3 := D2.step (hLq.1 D2.1) hLq.2
          go_wp2_with fail
          go_ret
          exact ⟨⟨_, rfl, hd⟩, D3⟩
        | false =>
          cases o3 with
          | true =>
            go_wp2_with fail
            refine (below_C _ D.1).mono ?_
            rintro e W2 ⟨k, rfl, ⟨hk0, hk1', -⟩, hc2, hk2⟩
            have hkk := hk1' (by omega)
            have D2 := D.step hc2 hk2
            obtain ⟨n, rfl⟩ := Int.eq_ofNat_of_zero_le hk0
            have E1 := Lib.hid (show wrap64 ((n : Int) + 1) = (n : Int) + 1 from by unfold wrap64; omega)
            have hwi : IntKind.i64.wrap ((n : Int) + 1) = (n : Int) + 1 := by rw [IntKind.wrap_i64]; omega
            have hk3 : (n : Int) ≤ (s.size : Int) := by omega
            have hk4 : (n : Int) + 1 ≤ (s.size : Int) := by omega
            have hk5 : (0 : Int) ≤ (n : Int) + 1 := by omega
            clear hk1' hc2 hk2
            go_upto_region 10 with fail
            refine wp_region_flowL (L := LD w0 g) (LD.drew w0 g) (LD.trans w0 g) [0, 1, 5] 45 (by kernel_rfl) (by rfl) (by kernel_rfl) (by kernel_rfl) (by kernel_rfl) (by kernel_rfl) ?_
            iterate 4 (refine flowL_valE ?_; apply Exists.intro; refine ⟨fun A wq hLq hbq hdq => ?_, ?_⟩; focus (obtain ⟨hkc, hkf⟩ := kcell hLq.2; have hkz := hLq.2.1; (try simp [go_sem, baseF, deps, dep1, Region.binds] at hbq); (try simp [go_sem, baseF, deps, dep1, Region.binds] at hdq); go_simp; first | exact ⟨LD.refl _ _ _, rfl⟩ | (fail)))
            refine flowL_R (fun W u => ∃ d : ByteArray, u = .string d ∧ d.size = 1) (fun _ _ _ h _ => h) (fun A wq hLq hbq hdq => ?_) ?_
            · (try simp [go_sem, baseF, deps, dep1, Region.binds] at hdq)
              go_simp
              refine (text_C _ 1 rfl (by omega) (hLq.1 D2.1)).mono ?_
              rintro e w5 ⟨d, rfl, hd, hc5, hk5⟩
              first | exact ⟨_, rfl, ⟨fun _ => hc5, hk5⟩, d, rfl, hd⟩ | exact ⟨⟨fun _ => hc5, hk5⟩, d, rfl, hd⟩
            refine flowL_R (fun W u => ∃ d : ByteArray, u = .string d ∧ d.size ≤ n + 1) (fun _ _ _ h _ => h) (fun A wq hLq hbq hdq => ?_) ?_
            · (try simp [go_sem, baseF, deps, dep1, Region.binds] at hdq)
              obtain ⟨h35, d, h37, hd⟩ := hdq
              have hz : ¬ (9223372036854775807 < (s.extract 0 n).size + d.size) := by rw [ByteArray.size_extract]; omega
              have hz2 : (s.extract 0 n ++ d).size ≤ n + 1 := by rw [ByteArray.size_append, ByteArray.size_extract]; omega
              go_simp
              rw [if_neg (by omega)]
              exact ⟨LD.refl _ _ _, _, rfl, hz2⟩
            iterate 4 (refine flowL_valE ?_; apply Exists.intro; refine ⟨fun A wq hLq hbq hdq => ?_, ?_⟩; focus (obtain ⟨hkc, hkf⟩ := kcell hLq.2; have hkz := hLq.2.1; (try simp [go_sem, baseF, deps, dep1, Region.binds] at hbq); (try simp [go_sem, baseF, deps, dep1, Region.binds] at hdq); go_simp; first | exact ⟨LD.refl _ _ _, rfl⟩ | (fail)))
            refine flowL_R (fun W u => ∃ d : ByteArray, u = .string d ∧ d.size ≤ s.size + 1) (fun _ _ _ h _ => h) (fun A wq hLq hbq hdq => ?_) ?_
            · (try simp [go_sem, baseF, deps, dep1, Region.binds] at hdq)
              obtain ⟨⟨d, h38, hd⟩, h42⟩ := hdq
              have hz2 : (d ++ s.extract (n + 1) s.size).size ≤ s.size + 1 := by rw [ByteArray.size_append, ByteArray.size_extract]; omega
              have hz3 : d.size ≤ n + 1 := hd
              go_simp
              try rw [h38]
              go_simp
              rw [if_neg (by omega)]
              exact ⟨LD.refl _ _ _, _, rfl, hz2⟩
            with_reducible refine flowL_last ?_
            intro x wq hLq hall
            simp only [allT] at hall
            obtain ⟨⟨d, h43, hd⟩, -, -, -, -, -, -, hall⟩ := hall
            refine ⟨?_⟩
            simp [lastUpon, frameOf, Act.put, List.dropLast, h43]
            clear hall h43
            go_simp
            have D3 := D2.step (hLq.1 D2.1) hLq.2
            go_wp2_with fail
            go_ret
            exact ⟨⟨_, rfl, hd⟩, D3⟩
          | false =>
            go_wp2_with fail
            go_ret
            exact hsame D
      · have hpos' : ¬ ((0 : Int) < (s.size : Int)) := by omega
        cases o2 with
        | true =>
          go_wp2_with fail
          go_ret
          exact hsame D
        | false =>
          cases o3 with
          | true =>
            go_wp2_with fail
            go_ret
            exact hsame D
          | false =>
            go_wp2_with fail
            go_ret
            exact hsame D
end Go.Proofs.Ytmljihfaapoakaa.PFnMessages
end
