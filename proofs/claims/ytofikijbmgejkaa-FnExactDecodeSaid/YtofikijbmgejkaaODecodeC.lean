import Derived.Test.YtofikijbmgejkaaODecodeB
import Derived.Test.YtofikijbmgejkaaPDecodeA
import Derived.Test.YtofikijbmgejkaaPDecodeB
import Derived.Test.YtofikijbmgejkaaODecodeA

/-! ### YtofikijbmgejkaaDecPure -/
section
namespace Go.Proofs.Ytofikijbmgejkaa
open Go.RowKit Go.Proofs.YtofikijbmgejkaaW.PrintWords PFnExactDecode
set_option linter.unusedSimpArgs false
set_option linter.unusedVariables false

/-! Messages and their bytes: what is read of a right message's bytes, and what was read stands there. (own) -/
theorem nums8_inj {a b : ByteArray} (h : nums8 a = nums8 b) : a = b := by
  apply ByteArray.ext
  apply Array.toList_inj.1
  unfold nums8 at h
  exact (List.map_inj_right (fun x y hxy => UInt8.toNat_inj.1 hxy)).1 h
theorem nums8_extract (s : ByteArray) (a b : Nat) : nums8 (s.extract a b) = ((nums8 s).drop a).take (b - a) := by
  simp [nums8, ByteArray.data_extract, List.map_take, List.map_drop]
/-- What stands at a place, to the end. -/
def Tail (s : ByteArray) (p : Int) (L : List Nat) : Prop := ∃ pre : List Nat, nums8 s = pre ++ L ∧ p = pre.length
theorem Tail.start (s : ByteArray) : Tail s 0 (nums8 s) := ⟨[], rfl, rfl⟩
theorem Tail.num {s : ByteArray} {p n : Int} {L : List Nat} (h0 : 0 ≤ n) (h1 : n ≤ 1000000000) (h : Tail s p ((varN n.toNat).map Int.toNat ++ L)) : ∃ p', rdNum s p false = (n, p', false) ∧ Tail s p' L := by
  obtain ⟨pre, hs, hp⟩ := h
  exact ⟨_, rdNum_fwd (pre := pre) (post := L) h0 h1 (by rw [hs, List.append_assoc]) hp, pre ++ (varN n.toNat).map Int.toNat, by rw [hs, List.append_assoc], by simp⟩
theorem Tail.byte {s : ByteArray} {p : Int} {b : Nat} {L : List Nat} (h : Tail s p (b :: L)) : rdByte s p false = ((b : Int), p + 1, false) ∧ Tail s (p + 1) L := by
  obtain ⟨pre, hs, hp⟩ := h
  refine ⟨?_, pre ++ [b], by rw [hs]; simp, by rw [hp]; simp⟩
  rw [rdByte_fwd (pre := pre) (post := L) hs hp, hp]
  simp
theorem Tail.fin {s : ByteArray} {p : Int} (h : Tail s p []) : p = s.size := by
  obtain ⟨pre, hs, hp⟩ := h
  rw [hp, ← nums8_length, hs]
  simp
theorem Tail.take {s t : ByteArray} {p : Int} {L : List Nat} (h : Tail s p (nums8 t ++ L)) : s.extract p.toNat (p.toNat + t.size) = t ∧ (t.size : Int) ≤ s.size - p ∧ 0 ≤ p ∧ Tail s (p + t.size) L := by
  obtain ⟨pre, hs, hp⟩ := h
  subst hp
  have hz : s.size = pre.length + t.size + L.length := by
    rw [← nums8_length, hs]
    simp [nums8_length]
    omega
  refine ⟨?_, by omega, by omega, pre ++ nums8 t, by rw [hs]; simp, by simp [nums8_length]⟩
  apply nums8_inj
  rw [nums8_extract, hs, Int.toNat_natCast, List.drop_left, Nat.add_sub_cancel_left, ← nums8_length t, List.take_left]
theorem nums8_varS (n : Int) : nums8 (varS n) = (varN n.toNat).map Int.toNat := nums8_str _ (varN_range _)
theorem nums8_byteS (n : Int) : nums8 (byteS n) = [(n % 256).toNat] := by
  unfold byteS
  rw [nums8_str [n % 256] (by intro x hx; simp at hx; omega)]
  rfl
theorem rv_of_num {s : ByteArray} {p n p' : Int} (h : rdNum s p false = (n, p', false)) : ∃ a b : Nat, rv s p = some (a, b) ∧ n = a ∧ p' = b := by
  unfold rdNum at h
  rw [if_neg (by simp)] at h
  rcases hq : rv s p with _ | ⟨a, b⟩
  · rw [hq] at h; simp at h
  · rw [hq] at h
    simp at h
    exact ⟨a, b, rfl, h.1.symm, h.2.symm⟩
theorem Tail.text {s t : ByteArray} {p : Int} {L : List Nat} (ht : t.size ≤ 20000) (h : Tail s p (nums8 (shortS t) ++ L)) : ∃ p', rdText s p false = (t, p', false) ∧ Tail s p' L := by
  have e : nums8 (shortS t) = (varN (t.size : Int).toNat).map Int.toNat ++ nums8 t := by
    unfold shortS
    rw [nums8_append, nums8_varS]
  rw [e, List.append_assoc] at h
  obtain ⟨p1, h1, h2⟩ := h.num (by omega) (by omega)
  obtain ⟨a, b, hv, ha, hb⟩ := rv_of_num h1
  obtain ⟨h3, h4, h5, h6⟩ := h2.take
  subst hb
  have ha' : a = t.size := by omega
  subst ha'
  refine ⟨_, ?_, h6⟩
  unfold rdText rs
  rw [if_neg (by simp), hv]
  simp only
  rw [if_neg (by omega)]
  simp only [Int.toNat_natCast] at h3
  simp [h3]
theorem Tail.cut {s : ByteArray} {p p' : Int} {L : List Nat} (h : Tail s p L) (h1 : p ≤ p') (h2 : p' ≤ s.size) : ∃ L', L = nums8 (s.extract p.toNat p'.toNat) ++ L' ∧ Tail s p' L' := by
  obtain ⟨pre, hs, hp⟩ := h
  subst hp
  have hz : s.size = pre.length + L.length := by rw [← nums8_length, hs]; simp
  refine ⟨L.drop (p' - pre.length).toNat, ?_, pre ++ L.take (p' - pre.length).toNat, ?_, ?_⟩
  · rw [nums8_extract, hs, Int.toNat_natCast, List.drop_left, show p'.toNat - pre.length = (p' - pre.length).toNat from by omega, List.take_append_drop]
  · rw [List.append_assoc, List.take_append_drop]; exact hs
  · simp
    omega
theorem Tail.done {s : ByteArray} {L : List Nat} (h : Tail s s.size L) : L = [] := by
  obtain ⟨pre, hs, hp⟩ := h
  have hz : s.size = pre.length + L.length := by rw [← nums8_length, hs]; simp
  exact List.eq_nil_of_length_eq_zero (by omega)

/-- What ReadEntry makes of a text: right or not, the index, the entry. -/
def rentI (t : ByteArray) : Bool × Int × S105 :=
  let r1 := rdByte t 0 false
  let r2 := rdNum t r1.2.1 r1.2.2
  let r3 := rdNum t r2.2.1 r2.2.2
  let r4 := rdByte t r3.2.1 r3.2.2
  let d := t.extract r4.2.1.toNat t.size
  if (!r4.2.2 && (r1.1 == 69) && entryOk r3.1 r4.1 d && inB r2.1 1 1000000) = true then (true, r2.1, ⟨r3.1, r4.1, d⟩) else (false, 0, ⟨0, 0, ⟨#[]⟩⟩)
theorem rentI_fwd (i : Int) (e : S105) (h : entryOkI i e.f0 e.f1 e.f2 = true) : rentI (entryS i e.f0 e.f1 e.f2) = (true, i, e) := by
  unfold entryOkI at h
  simp only [Bool.and_eq_true] at h
  obtain ⟨p2, p3, p4, h1, h2, h3, h4, h5⟩ := entry_reads i e.f0 e.f1 e.f2 h.1 h.2
  unfold rentI
  simp only [h1, h2, h3, h4, h5, h.1, h.2]
  rfl
theorem rentI_inv {t : ByteArray} {i : Int} {e : S105} (h : rentI t = (true, i, e)) : entryOkI i e.f0 e.f1 e.f2 = true ∧ t = entryS i e.f0 e.f1 e.f2 := by
  unfold rentI at h
  rcases h1 : rdByte t 0 false with ⟨mk, p1, q1⟩
  rcases h2 : rdNum t p1 q1 with ⟨ix, p2, q2⟩
  rcases h3 : rdNum t p2 q2 with ⟨tm, p3, q3⟩
  rcases h4 : rdByte t p3 q3 with ⟨k, p4, q4⟩
  simp only [h1, h2, h3, h4] at h
  split at h
  · rename_i hc
    simp only [Prod.mk.injEq, true_and] at h
    obtain ⟨rfl, rfl⟩ := h
    simp only [Bool.and_eq_true, Bool.not_eq_true', beq_iff_eq] at hc
    obtain ⟨⟨⟨hq, hmk⟩, hok⟩, hin⟩ := hc
    subst hq
    subst hmk
    refine ⟨by unfold entryOkI; simp only [hok, hin, Bool.and_self], ?_⟩
    have r3 := rdNum_range t p2 q2
    obtain ⟨g0, g1, g2, g3, g4⟩ := (byte_bytes (p := p3) (by
      have a := rdByte_range t 0 false (by omega) (by omega)
      rw [h1] at a
      have b := rdNum_range t p1 q1 a.2.2.1 a.2.2.2
      rw [h2] at b
      have c := rdNum_range t p2 q2 b.2.2.1 b.2.2.2
      rw [h3] at c
      exact c.2.2.1) h4)
    subst g0
    obtain ⟨f0, f1, f2, f3, f4⟩ := num_bytes h3
    subst f0
    obtain ⟨e0, e1, e2, e3, e4⟩ := num_bytes h2
    subst e0
    obtain ⟨d0, d1, d2, d3, d4⟩ := byte_bytes (by omega) h1
    have hd4 : t.extract 0 p1.toNat = (⟨#[69]⟩ : ByteArray) := d4.trans (by decide +kernel)
    unfold entryS
    show t = (⟨#[69]⟩ : ByteArray) ++ varS ix ++ varS tm ++ byteS k ++ t.extract p4.toNat t.size
    rw [← hd4, ← e4, ← f4, ← g4, extract_join t 0 p1.toNat p2.toNat (by omega) (by omega), extract_join t 0 p2.toNat p3.toNat (by omega) (by omega), extract_join t 0 p3.toNat p4.toNat (by omega) (by omega), extract_join t 0 p4.toNat t.size (by omega) (by omega)]
    apply ByteArray.ext
    have : t.data.extract 0 t.data.size = t.data := by simp
    simp [ByteArray.data_extract]
  · simp at h

/-- The entries' bytes. -/
def entL (e : S105) : List Nat := nums8 (shortS (entryT 1 e.f0 e.f1 e.f2))
def entsL (es : List S105) : List Nat := es.flatMap entL
theorem entsS_nums (es : List S105) : ∀ (n i : Nat) (s : ByteArray), n + i = es.length → nums8 (entsS es i n s) = nums8 s ++ entsL (es.drop i)
  | 0, i, s, h => by
    rw [List.drop_of_length_le (by omega)]
    simp [entsS, entsL]
  | n + 1, i, s, h => by
    have hi : i < es.length := by omega
    unfold entsS
    have : rd_T105 es (i : Int) = es[i] := by simp [rd_T105, hi]
    rw [entsS_nums es n (i + 1) _ (by omega), nums8_append, List.drop_eq_getElem_cons hi]
    unfold entS entsL
    rw [this, List.flatMap_cons, List.append_assoc]
    rfl
def headL (a0 a1 a2 a3 a4 a5 a6 : Int) (a7 ls : Bool) (n : Nat) : List Nat :=
  [(a0 % 256).toNat, (a1 % 256).toNat, (a2 % 256).toNat] ++ ((varN a3.toNat).map Int.toNat ++ ((varN a4.toNat).map Int.toNat ++ ((varN a5.toNat).map Int.toNat ++ ((varN a6.toNat).map Int.toNat ++ ((flagN a7).toNat :: (flagN ls).toNat :: (varN n).map Int.toNat)))))
theorem encS_nums (a0 a1 a2 a3 a4 a5 a6 : Int) (a7 : Bool) (es : List S105) (cf : List Int) (d : ByteArray) (ls : Bool) :
    nums8 (encS a0 a1 a2 a3 a4 a5 a6 a7 es cf d ls) = headL a0 a1 a2 a3 a4 a5 a6 a7 ls es.length ++ (entsL es ++ (nums8 (shortS (confT cf)) ++ nums8 (shortS d))) := by
  have hf : ∀ b : Bool, nums8 (byteS (flagN b)) = [(flagN b).toNat] := fun b => by rw [nums8_byteS]; cases b <;> rfl
  have h3 : nums8 (strOfNums [a0 % 256, a1 % 256, a2 % 256]) = [(a0 % 256).toNat, (a1 % 256).toNat, (a2 % 256).toNat] := by
    rw [nums8_str _ (by intro x hx; simp at hx; omega)]
    rfl
  unfold encS
  rw [nums8_append, nums8_append, entsS_nums es es.length 0 _ (by omega), List.drop_zero]
  unfold headS headL
  rw [nums8_append, nums8_append, nums8_append, nums8_append, nums8_append, nums8_append, nums8_append, h3, hf, hf, nums8_varS, nums8_varS, nums8_varS, nums8_varS, nums8_varS, Int.toNat_natCast]
  simp
/-- What impl.Decode's loop does: so many rounds. -/
def iRun (s : ByteArray) : Nat → Int → Bool → List S105 → Int × Bool × List S105
  | 0, p, q, es => (p, q, es)
  | n + 1, p, q, es => iRun s n (rdText s p q).2.1 ((rdText s p q).2.2 || !(rentI (rdText s p q).1).1 || (rentI (rdText s p q).1).2.1 != 1) (es ++ [(rentI (rdText s p q).1).2.2])
theorem iRun_fwd (s : ByteArray) : ∀ (es : List S105) (L : List Nat) (p : Int) (acc : List S105), (∀ e ∈ es, entryOkI 1 e.f0 e.f1 e.f2 = true) → Tail s p (entsL es ++ L) →
    ∃ p', iRun s es.length p false acc = (p', false, acc ++ es) ∧ Tail s p' L
  | [], L, p, acc, _, h => ⟨p, by simp [iRun], by simpa [entsL] using h⟩
  | e :: es, L, p, acc, hok, h => by
    have hk := hok e (.head _)
    have h' : Tail s p (nums8 (shortS (entryT 1 e.f0 e.f1 e.f2)) ++ (entsL es ++ L)) := by simpa [entsL, entL] using h
    obtain ⟨p1, h1, h2⟩ := h'.text (by have := entryT_size 1 e.f0 e.f1 e.f2; omega)
    have he : entryT 1 e.f0 e.f1 e.f2 = entryS 1 e.f0 e.f1 e.f2 := by unfold entryT; rw [if_pos hk]
    have hr := rentI_fwd 1 e hk
    obtain ⟨p', h3, h4⟩ := iRun_fwd s es L p1 (acc ++ [e]) (fun x hx => hok x (.tail _ hx)) h2
    refine ⟨p', ?_, h4⟩
    simp only [List.length_cons, iRun, h1, he, hr]
    simpa using h3
theorem iRun_bad (s : ByteArray) : ∀ (n : Nat) (p : Int) (acc : List S105), (iRun s n p true acc).2.1 = true
  | 0, _, _ => rfl
  | n + 1, p, acc => by
    have h : (rdText s p true).2.2 = true := rfl
    unfold iRun
    rw [h, Bool.true_or, Bool.true_or]
    exact iRun_bad s n _ _
theorem iRun_inv (s : ByteArray) : ∀ (n : Nat) (p : Int) (q : Bool) (acc : List S105) (p' : Int) (es : List S105) (L : List Nat), iRun s n p q acc = (p', false, es) → 0 ≤ p → p ≤ s.size → Tail s p L →
    q = false ∧ ∃ zs L', es = acc ++ zs ∧ zs.length = n ∧ (∀ e ∈ zs, entryOkI 1 e.f0 e.f1 e.f2 = true) ∧ L = entsL zs ++ L' ∧ Tail s p' L' ∧ 0 ≤ p' ∧ p' ≤ s.size
  | 0, p, q, acc, p', es, L, h, h0, h1, ht => by
    simp only [iRun, Prod.mk.injEq] at h
    obtain ⟨rfl, rfl, rfl⟩ := h
    exact ⟨rfl, [], L, by simp, rfl, by simp, by simp [entsL], ht, h0, h1⟩
  | n + 1, p, q, acc, p', es, L, h, h0, h1, ht => by
    simp only [iRun] at h
    rcases hx : rdText s p q with ⟨t, p1, q1⟩
    rcases hy : rentI t with ⟨b, ix, e⟩
    simp only [hx, hy] at h
    have hr : 0 ≤ p1 ∧ p1 ≤ s.size := by
      unfold rdText rs at hx
      cases q with
      | true => simp at hx; omega
      | false =>
        rw [if_neg (by simp)] at hx
        rcases hv : rv s p with _ | ⟨a, c⟩
        · simp [hv] at hx; omega
        · have hrv := rv_range hv
          simp only [hv] at hx
          split at hx
          · simp only [Prod.mk.injEq] at hx
            rename_i heq
            split at heq
            · cases heq
            · simp only [Option.some.injEq, Prod.mk.injEq] at heq
              omega
          · simp only [Prod.mk.injEq] at hx; omega
    rcases hq : (q1 || !b || ix != 1) with _ | _
    · rw [hq] at h
      simp only [Bool.or_eq_false_iff, Bool.not_eq_false', bne_eq_false_iff_eq] at hq
      obtain ⟨⟨hq1, hb⟩, hix⟩ := hq
      subst hq1
      subst hb
      subst hix
      obtain ⟨hok, htx⟩ := rentI_inv hy
      have hs := short_of_text hx
      obtain ⟨c0, c1, c2, c3, c4⟩ := short_bytes h0 h1 hs
      obtain ⟨L1, hL1, ht1⟩ := ht.cut c2 c3
      obtain ⟨-, zs, L', e1, e2, e3, e4, e5, e6⟩ := iRun_inv s n p1 false (acc ++ [e]) p' es L1 h hr.1 hr.2 ht1
      refine ⟨c0, e :: zs, L', by rw [e1]; simp, by simp [e2], fun x hx => ?_, ?_, e5, e6⟩
      · rcases List.mem_cons.1 hx with h | h
        · rw [h]; exact hok
        · exact e3 x h
      · rw [hL1, e4, c4, htx]
        have he : entryT 1 e.f0 e.f1 e.f2 = entryS 1 e.f0 e.f1 e.f2 := by unfold entryT; rw [if_pos hok]
        simp [entsL, entL, he]
    · rw [hq] at h
      have hb := iRun_bad s n p1 (acc ++ [e])
      rw [h] at hb
      cases hb
end Go.Proofs.Ytofikijbmgejkaa
end

/-! ### YtofikijbmgejkaaDecLaw -/
section
namespace Go.Proofs.Ytofikijbmgejkaa
open Go.RowKit Go.Proofs.YtofikijbmgejkaaW.PrintWords PFnExactDecode
set_option linter.unusedSimpArgs false
set_option linter.unusedVariables false

/-! Both Decodes in plain Lean. (own) -/
def rdFlag (s : ByteArray) (p : Int) (q : Bool) : Bool × Int × Bool := ((rdByte s p q).1 == 1, (rdByte s p q).2.1, (rdByte s p q).2.2 || decide ((rdByte s p q).1 > 1))
def rdMany (s : ByteArray) (p : Int) (q : Bool) (m : Int) : Int × Int × Bool := if (rdNum s p q).1 > m then (0, (rdNum s p q).2.1, true) else rdNum s p q
theorem num_r {s : ByteArray} {p n p' : Int} {q q' : Bool} (h : rdNum s p q = (n, p', q')) (hp : 0 ≤ p ∧ p ≤ s.size) : 0 ≤ p' ∧ p' ≤ s.size ∧ 0 ≤ n ∧ n ≤ 1000000000 := by
  have := rdNum_range s p q hp.1 hp.2
  rw [h] at this
  simp only at this
  omega
theorem byte_r {s : ByteArray} {p n p' : Int} {q q' : Bool} (h : rdByte s p q = (n, p', q')) (hp : 0 ≤ p ∧ p ≤ s.size) : 0 ≤ p' ∧ p' ≤ s.size ∧ 0 ≤ n ∧ n ≤ 255 := by
  have := rdByte_range s p q hp.1 hp.2
  rw [h] at this
  simp only at this
  omega
theorem flag_r {s : ByteArray} {p p' : Int} {b q q' : Bool} (h : rdFlag s p q = (b, p', q')) (hp : 0 ≤ p ∧ p ≤ s.size) : 0 ≤ p' ∧ p' ≤ s.size := by
  have := rdByte_range s p q hp.1 hp.2
  unfold rdFlag at h
  simp only [Prod.mk.injEq] at h
  omega
theorem many_r {s : ByteArray} {p n p' m : Int} {q q' : Bool} (h : rdMany s p q m = (n, p', q')) (hm : 0 ≤ m) (hp : 0 ≤ p ∧ p ≤ s.size) : 0 ≤ p' ∧ p' ≤ s.size ∧ 0 ≤ n ∧ n ≤ m := by
  have := rdNum_range s p q hp.1 hp.2
  unfold rdMany at h
  split at h
  · simp only [Prod.mk.injEq] at h
    omega
  · rw [h] at this
    rename_i hc
    rw [h] at hc
    simp only at this hc
    omega
theorem text_r {s t : ByteArray} {p p' : Int} {q q' : Bool} (h : rdText s p q = (t, p', q')) (hp : 0 ≤ p ∧ p ≤ s.size) : 0 ≤ p' ∧ p' ≤ s.size ∧ t.size ≤ 20000 := by
  unfold rdText rs at h
  cases q with
  | true =>
    simp at h
    obtain ⟨h1, h2, -⟩ := h
    subst h1
    subst h2
    exact ⟨hp.1, hp.2, by decide⟩
  | false =>
    rw [if_neg (by simp)] at h
    rcases hv : rv s p with _ | ⟨a, c⟩
    · simp [hv] at h
      obtain ⟨h1, h2, -⟩ := h
      subst h1
      subst h2
      exact ⟨hp.1, hp.2, by decide⟩
    · have hrv := rv_range hv
      simp only [hv] at h
      by_cases hc : a > 20000 ∨ (a : Int) > s.size - c
      · rw [if_pos hc] at h
        simp only [Prod.mk.injEq] at h
        obtain ⟨h1, h2, -⟩ := h
        subst h1
        subst h2
        exact ⟨hp.1, hp.2, by decide⟩
      · rw [if_neg hc] at h
        simp only [Prod.mk.injEq] at h
        obtain ⟨h1, h2, -⟩ := h
        subst h1
        subst h2
        rw [ByteArray.size_extract]
        omega
theorem run_r (s : ByteArray) : ∀ (n : Nat) (p : Int) (q : Bool) (acc : List S105) (p' : Int) (q' : Bool) (es : List S105), iRun s n p q acc = (p', q', es) → 0 ≤ p ∧ p ≤ s.size → 0 ≤ p' ∧ p' ≤ s.size
  | 0, p, q, acc, p', q', es, h, hp => by
    simp only [iRun, Prod.mk.injEq] at h
    obtain ⟨rfl, -⟩ := h
    exact hp
  | n + 1, p, q, acc, p', q', es, h, hp => by
    simp only [iRun] at h
    rcases hx : rdText s p q with ⟨t, p1, q1⟩
    have := text_r hx hp
    rw [hx] at h
    exact run_r s n _ _ _ p' q' es h ⟨this.1, this.2.1⟩
theorem byte_flag {s : ByteArray} {p n p' : Int} {q : Bool} (h : rdByte s p q = (n, p', false)) : q = false := by
  cases q with
  | false => rfl
  | true => simp [rdByte] at h
theorem num_flag {s : ByteArray} {p n p' : Int} {q : Bool} (h : rdNum s p q = (n, p', false)) : q = false := by
  cases q with
  | false => rfl
  | true => simp [rdNum] at h
theorem txt_flag {s t : ByteArray} {p p' : Int} {q : Bool} (h : rdText s p q = (t, p', false)) : q = false := by
  cases q with
  | false => rfl
  | true => simp [rdText] at h
theorem flag_bytes {s : ByteArray} {p p' : Int} {b q : Bool} (hp : 0 ≤ p ∧ p ≤ s.size) (h : rdFlag s p q = (b, p', false)) : q = false ∧ p ≤ p' ∧ p' ≤ s.size ∧ rdByte s p q = (flagN b, p', false) ∧ nums8 (s.extract p.toNat p'.toNat) = [(flagN b).toNat] := by
  rcases hx : rdByte s p q with ⟨n, p1, q1⟩
  have hr := byte_r hx hp
  unfold rdFlag at h
  rw [hx] at h
  simp only [Prod.mk.injEq, Bool.or_eq_false_iff, decide_eq_false_iff_not] at h
  obtain ⟨hb, rfl, rfl, hn⟩ := h
  obtain ⟨c0, c1, c2, c3, c4⟩ := byte_bytes hp.1 hx
  have hv : n = flagN b := by
    subst hb
    unfold flagN
    by_cases h1 : n = 1
    · subst h1; rfl
    · rw [if_neg (by simpa using h1)]
      omega
  subst hv
  refine ⟨c0, c2, c3, rfl, ?_⟩
  rw [c4, nums8_byteS]
  cases b <;> rfl

/-- impl.Decode took all, and rightly: what it read stands there. -/
theorem dec_inv {s ct d : ByteArray} {a0 a1 a2 a3 a4 a5 a6 n p0 p1 p2 p3 p4 p5 p6 p7 p8 p9 p10 p11 p12 : Int} {a7 ls q0 q1 q2 q3 q4 q5 q6 q7 q8 q9 q10 q11 q12 : Bool} {es : List S105}
    (h0 : rdByte s 0 false = (a0, p0, q0)) (h1 : rdByte s p0 q0 = (a1, p1, q1)) (h2 : rdByte s p1 q1 = (a2, p2, q2)) (h3 : rdNum s p2 q2 = (a3, p3, q3)) (h4 : rdNum s p3 q3 = (a4, p4, q4)) (h5 : rdNum s p4 q4 = (a5, p5, q5)) (h6 : rdNum s p5 q5 = (a6, p6, q6))
    (h7 : rdFlag s p6 q6 = (a7, p7, q7)) (h8 : rdFlag s p7 q7 = (ls, p8, q8)) (h9 : rdMany s p8 q8 4 = (n, p9, q9)) (h10 : iRun s n.toNat p9 q9 [] = (p10, q10, es)) (h11 : rdText s p10 q10 = (ct, p11, q11)) (h12 : rdText s p11 q11 = (d, p12, q12))
    (hq : q12 = false) (hp : p12 = s.size) :
    nums8 s = headL a0 a1 a2 a3 a4 a5 a6 a7 ls es.length ++ (entsL es ++ (nums8 (shortS ct) ++ nums8 (shortS d))) := by
  have g : 0 ≤ (0 : Int) ∧ (0 : Int) ≤ s.size := by omega
  have r0 := byte_r h0 g
  have r1 := byte_r h1 ⟨r0.1, r0.2.1⟩
  have r2 := byte_r h2 ⟨r1.1, r1.2.1⟩
  have r3 := num_r h3 ⟨r2.1, r2.2.1⟩
  have r4 := num_r h4 ⟨r3.1, r3.2.1⟩
  have r5 := num_r h5 ⟨r4.1, r4.2.1⟩
  have r6 := num_r h6 ⟨r5.1, r5.2.1⟩
  have r7 := flag_r h7 ⟨r6.1, r6.2.1⟩
  have r8 := flag_r h8 r7
  have r9 := many_r h9 (by omega) r8
  have r10 := run_r s _ _ _ _ _ _ _ h10 ⟨r9.1, r9.2.1⟩
  have r11 := text_r h11 r10
  subst hq
  subst hp
  obtain ⟨rfl, -, e12, f12, x12⟩ := short_bytes r11.1 r11.2.1 (short_of_text h12)
  obtain ⟨rfl, -, e11, f11, x11⟩ := short_bytes r10.1 r10.2 (short_of_text h11)
  have hb9 : q9 = false := (iRun_inv s _ _ _ _ _ _ ((nums8 s).drop p9.toNat) h10 r9.1 r9.2.1 ⟨(nums8 s).take p9.toNat, (List.take_append_drop _ _).symm, by
    simp [nums8_length]; omega⟩).1
  subst hb9
  have h9' : rdNum s p8 q8 = (n, p9, false) := by
    unfold rdMany at h9
    split at h9
    · simp at h9
    · exact h9
  obtain ⟨rfl, -, e9, f9, x9⟩ := num_bytes h9'
  obtain ⟨rfl, e8, f8, -, x8⟩ := flag_bytes r7 h8
  obtain ⟨rfl, e7, f7, -, x7⟩ := flag_bytes ⟨r6.1, r6.2.1⟩ h7
  obtain ⟨rfl, -, e6, f6, x6⟩ := num_bytes h6
  obtain ⟨rfl, -, e5, f5, x5⟩ := num_bytes h5
  obtain ⟨rfl, -, e4, f4, x4⟩ := num_bytes h4
  obtain ⟨rfl, -, e3, f3, x3⟩ := num_bytes h3
  obtain ⟨rfl, -, e2, f2, x2⟩ := byte_bytes r1.1 h2
  obtain ⟨rfl, -, e1, f1, x1⟩ := byte_bytes r0.1 h1
  obtain ⟨-, -, e0, f0, x0⟩ := byte_bytes (by omega) h0
  obtain ⟨L0, y0, t0⟩ := (Tail.start s).cut e0 f0
  obtain ⟨L1, y1, t1⟩ := t0.cut e1 f1
  obtain ⟨L2, y2, t2⟩ := t1.cut e2 f2
  obtain ⟨L3, y3, t3⟩ := t2.cut e3 f3
  obtain ⟨L4, y4, t4⟩ := t3.cut e4 f4
  obtain ⟨L5, y5, t5⟩ := t4.cut e5 f5
  obtain ⟨L6, y6, t6⟩ := t5.cut e6 f6
  obtain ⟨L7, y7, t7⟩ := t6.cut e7 f7
  obtain ⟨L8, y8, t8⟩ := t7.cut e8 f8
  obtain ⟨L9, y9, t9⟩ := t8.cut e9 f9
  obtain ⟨-, zs, L10, z1, z2, z3, y10, t10, -⟩ := iRun_inv s _ _ _ _ _ _ _ h10 r9.1 r9.2.1 t9
  obtain ⟨L11, y11, t11⟩ := t10.cut e11 f11
  obtain ⟨L12, y12, t12⟩ := t11.cut e12 f12
  have y13 := t12.done
  subst y13
  simp only [List.nil_append] at z1
  subst z1
  rw [x0, nums8_byteS] at y0
  rw [x1, nums8_byteS] at y1
  rw [x2, nums8_byteS] at y2
  rw [x3, nums8_varS] at y3
  rw [x4, nums8_varS] at y4
  rw [x5, nums8_varS] at y5
  rw [x6, nums8_varS] at y6
  rw [x7] at y7
  rw [x8] at y8
  rw [x9, nums8_varS, ← z2] at y9
  rw [x11] at y11
  rw [x12, List.append_nil] at y12
  rw [y0, y1, y2, y3, y4, y5, y6, y7, y8, y9, y10, y11, y12]
  unfold headL
  simp
end Go.Proofs.Ytofikijbmgejkaa
end

/-! ### YtofikijbmgejkaaEnc -/
section
namespace Go.Proofs.Ytofikijbmgejkaa
open Go.RowKit Go.Proofs.YtofikijbmgejkaaW.PrintWords PFnExactDecode
set_option linter.unusedSimpArgs false
set_option linter.unusedVariables false

theorem spec_MsgH (es : List S105) (hS : Short es) (a0 a1 a2 a3 a4 a5 a6 : Int) (a7 : Bool) (cf : List Int) (d : ByteArray) (ls : Bool) (hl : es.length ≤ 1048576) (hcf : cf.length ≤ 1048576) (A8 : Option Addr) (c8 : Nat) (A9 : Option Addr) (c9 : Nat) (w : World)
    (hr8 : Kd.C k105 w A8 es.length es) (hc8 : es.length ≤ c8) (hr9 : Kd.C (Kd.int .i64) w A9 cf.length cf) (hc9 : cf.length ≤ c9) (b : Bool) (h : Hid (msgB a0 a1 a2 a3 a4 a5 a6 es cf d ls = b)) :
    Calls Try.prog 114 #[.agg #[.int .i64 a0, .int .i64 a1, .int .i64 a2, .int .i64 a3, .int .i64 a4, .int .i64 a5, .int .i64 a6, .bool a7, .slice A8 es.length c8, .slice A9 cf.length c9, .string d, .bool ls]] w fun e w' => e = .returned (.bool b) ∧ Below w.heap.size w w' := by
  have := spec_MessageOk es hS a0 a1 a2 a3 a4 a5 a6 a7 cf d ls hl hcf A8 c8 A9 c9 w hr8 hc8 hr9 hc9
  rw [h.out] at this
  exact this
theorem impl_MsgH (es : List S105) (hS : Short es) (a0 a1 a2 a3 a4 a5 a6 : Int) (a7 : Bool) (cf : List Int) (d : ByteArray) (ls : Bool) (hl : es.length ≤ 1048576) (hcf : cf.length ≤ 1048576) (A8 : Option Addr) (c8 : Nat) (A9 : Option Addr) (c9 : Nat) (w : World)
    (hr8 : Kd.C k105 w A8 es.length es) (hc8 : es.length ≤ c8) (hr9 : Kd.C (Kd.int .i64) w A9 cf.length cf) (hc9 : cf.length ≤ c9) (b : Bool) (h : Hid (msgB a0 a1 a2 a3 a4 a5 a6 es cf d ls = b)) :
    Calls Try.prog 76 #[.agg #[.int .i64 a0, .int .i64 a1, .int .i64 a2, .int .i64 a3, .int .i64 a4, .int .i64 a5, .int .i64 a6, .bool a7, .slice A8 es.length c8, .slice A9 cf.length c9, .string d, .bool ls]] w fun e w' => e = .returned (.bool b) ∧ Below w.heap.size w w' := by
  have := impl_MessageOk es hS a0 a1 a2 a3 a4 a5 a6 a7 cf d ls hl hcf A8 c8 A9 c9 w hr8 hc8 hr9 hc9
  rw [implB_eq, h.out] at this
  exact this

theorem msgB_facts {a0 a1 a2 a3 a4 a5 a6 : Int} {es : List S105} {cf : List Int} {d : ByteArray} {ls : Bool} (h : msgB a0 a1 a2 a3 a4 a5 a6 es cf d ls = true) :
    (0 ≤ a3 ∧ a3 ≤ 100000) ∧ (0 ≤ a4 ∧ a4 ≤ 1000000) ∧ (0 ≤ a5 ∧ a5 ≤ 100000) ∧ (0 ≤ a6 ∧ a6 ≤ 1000000) ∧ es.length ≤ 4 ∧ (confOk cf = true ∨ cf.length = 0) ∧ d.size ≤ 60 := by
  unfold msgB headB tailB lastB at h
  simp only [Bool.and_eq_true, decide_eq_true_eq, inM] at h
  obtain ⟨⟨⟨⟨⟨⟨h0, h1⟩, h2⟩, hne⟩, ⟨⟨⟨h3, h5⟩, h4⟩, h6⟩⟩, ⟨⟨hen, hl4⟩, hk⟩⟩, hlast⟩ := h
  by_cases c : a0 = 5
  · rw [if_pos c] at hlast
    simp only [Bool.and_eq_true, decide_eq_true_eq] at hlast
    exact ⟨h3, h4, h5, h6, hl4, .inl hlast.1, by omega⟩
  · rw [if_neg c] at hlast
    simp only [Bool.and_eq_true, decide_eq_true_eq] at hlast
    have hd : d.size = 0 := by
      have hz := hlast.1.2
      rw [ByteArray.toList_eq] at hz
      have : d.data.size = 0 := by rw [← Array.length_toList, hz]; rfl
      exact this
    exact ⟨h3, h4, h5, h6, hl4, .inr hlast.1.1, by omega⟩
theorem sctext_l0 (xs : List Int) (hl : xs.length ≤ 1099511627776) : ∀ (n k i : Nat), n + i = xs.length → n < k → spec_ConfText.l0 k xs ((PFnExactDecode.confBs xs).take i) i = some (strOfNums (PFnExactDecode.confBs xs), true)
  | _, 0, _, _, hk => by omega
  | 0, k + 1, i, h, hk => by
    unfold spec_ConfText.l0
    rw [if_neg (by omega), List.take_of_length_le (by simp [PFnExactDecode.confBs]; omega)]
  | n + 1, k + 1, i, h, hk => by
    have e1 : wrap64 ((i : Int) + 1) = ((i + 1 : Nat) : Int) := by unfold wrap64; omega
    unfold spec_ConfText.l0
    rw [if_pos (by omega), if_pos (by omega), if_pos (by simp [PFnExactDecode.confBs]; omega), e1, ← PFnExactDecode.take_confBs xs i (by omega)]
    clear e1
    exact sctext_l0 xs hl n k (i + 1) (by omega) (by omega)
theorem spec_ConfTextH (A : Option Addr) (c : Nat) (xs : List Int) (w : World) (hr : Kd.C (Kd.int .i64) w A xs.length xs) (hc : xs.length ≤ c) (hl : xs.length ≤ 1048576) (hok : confOk xs = true ∨ xs.length = 0) :
    Calls Try.prog 118 #[.slice A xs.length c] w fun e w' => (∃ b, e = .returned (.tuple #[.string (confT xs), .bool b])) ∧ Below w.heap.size w w' := by
  have hf : spec_ConfText.f (xs.length + 1) xs = some (if confOk xs then (strOfNums (PFnExactDecode.confBs xs), true) else (⟨#[]⟩, false)) := by
    unfold spec_ConfText.f
    rw [PFnExactDecode.sconf_f xs (xs.length + 1) (by omega) (by omega), Option.bind_some]
    have := sctext_l0 xs (by omega) xs.length (xs.length + 1) 0 (by omega) (by omega)
    cases hc : confOk xs with
    | false => rw [if_neg (by simp)]; rfl
    | true => rw [if_pos rfl]; exact this
  rcases hok with h1 | h0
  · rw [h1, if_pos rfl] at hf
    refine (spec_ConfText.calls (xs.length + 1) A c xs _ _ w hr hc hf).mono ?_
    rintro e w' h
    first | (obtain ⟨rfl, hb⟩ := h; exact ⟨⟨_, rfl⟩, hb⟩) | (obtain ⟨rfl, ⟨n, rfl⟩⟩ := h; exact ⟨⟨_, rfl⟩, bl_drewN (Below.refl _ _) n⟩)
  · obtain rfl : xs = [] := List.eq_nil_of_length_eq_zero h0
    rw [if_neg (by simp [confOk])] at hf
    refine (spec_ConfText.calls _ A c [] _ _ w hr hc hf).mono ?_
    rintro e w' h
    first | (obtain ⟨rfl, hb⟩ := h; exact ⟨⟨_, rfl⟩, hb⟩) | (obtain ⟨rfl, ⟨n, rfl⟩⟩ := h; exact ⟨⟨_, rfl⟩, bl_drewN (Below.refl _ _) n⟩)
theorem str3_size (x y z : Int) : (strOfNums [x, y, z]).size = 3 := by simp [strOfNums_size]
theorem str2_size (x y : Int) : (strOfNums [x, y]).size = 2 := by simp [strOfNums_size]
end Go.Proofs.Ytofikijbmgejkaa
end

/-! ### YtofikijbmgejkaaDecLaw2 -/
section
namespace Go.Proofs.Ytofikijbmgejkaa
open Go.RowKit Go.Proofs.YtofikijbmgejkaaW.PrintWords PFnExactDecode
set_option linter.unusedSimpArgs false
set_option linter.unusedVariables false

/-! A right message's bytes are read back, by both programs. (own) -/
theorem ents_all (es : List S105) (mt : Int) : ∀ (n i : Nat) (pt : Int), ents es mt i n pt = true → ∀ j, i ≤ j → j < i + n → entryOk (rd_T105 es (j : Int)).f0 (rd_T105 es (j : Int)).f1 (rd_T105 es (j : Int)).f2 = true
  | 0, i, pt, _, j, h1, h2 => by omega
  | n + 1, i, pt, h, j, h1, h2 => by
    simp only [ents, Bool.and_eq_true] at h
    rcases Nat.eq_or_lt_of_le h1 with rfl | h3
    · exact h.1.1.1
    · exact ents_all es mt n (i + 1) _ h.2 j h3 (by omega)
theorem msg_ents {a0 a1 a2 a3 a4 a5 a6 : Int} {es : List S105} {cf : List Int} {d : ByteArray} {ls : Bool} (h : msgB a0 a1 a2 a3 a4 a5 a6 es cf d ls = true) : ∀ e ∈ es, entryOkI 1 e.f0 e.f1 e.f2 = true := by
  unfold msgB tailB at h
  simp only [Bool.and_eq_true] at h
  have he := h.1.2.1.1
  intro e hm
  obtain ⟨j, hj, rfl⟩ := List.mem_iff_getElem.1 hm
  have := ents_all es a3 es.length 0 a5 he j (by omega) (by omega)
  have hr : rd_T105 es (j : Int) = es[j] := by simp [rd_T105, hj]
  rw [hr] at this
  unfold entryOkI
  rw [this]
  decide
theorem msg_head {a0 a1 a2 a3 a4 a5 a6 : Int} {es : List S105} {cf : List Int} {d : ByteArray} {ls : Bool} (h : msgB a0 a1 a2 a3 a4 a5 a6 es cf d ls = true) : (1 ≤ a0 ∧ a0 ≤ 6) ∧ (1 ≤ a1 ∧ a1 ≤ 4) ∧ (1 ≤ a2 ∧ a2 ≤ 4) := by
  unfold msgB inM at h
  simp only [Bool.and_eq_true, decide_eq_true_eq] at h
  exact ⟨h.1.1.1.1.1.1, h.1.1.1.1.1.2, h.1.1.1.1.2⟩
theorem bytesFrom_nums (t : ByteArray) : ∀ n i, n + i = t.size → bytesFrom t i n = ((nums8 t).drop i).map (fun x : Nat => (x : Int))
  | 0, i, h => by
    rw [List.drop_of_length_le (by rw [nums8_length]; omega)]
    rfl
  | n + 1, i, h => by
    have hi : i < (nums8 t).length := by rw [nums8_length]; omega
    have h1 := byN_nums t i (by omega)
    rw [List.getElem?_eq_getElem hi] at h1
    simp only [Option.some.injEq] at h1
    rw [bytesFrom, bytesFrom_nums t n (i + 1) (by omega), List.drop_eq_getElem_cons hi, List.map_cons, h1, bt_byN]
theorem rises_in (xs : List Int) : ∀ (n i : Nat), rises xs i n = true → ∀ j, i ≤ j → j < i + n → 1 ≤ rd xs (j : Int) ∧ rd xs (j : Int) ≤ 4
  | 0, i, _, j, h1, h2 => by omega
  | n + 1, i, h, j, h1, h2 => by
    simp only [rises, Bool.and_eq_true, decide_eq_true_eq] at h
    rcases Nat.eq_or_lt_of_le h1 with rfl | h3
    · exact h.1.1
    · exact rises_in xs n (i + 1) h.2 j h3 (by omega)
theorem conf_in {cf : List Int} (h : confOk cf = true ∨ cf.length = 0) : ∀ x ∈ cf, 1 ≤ x ∧ x ≤ 4 := by
  rcases h with h | h
  · unfold confOk at h
    simp only [Bool.and_eq_true] at h
    intro x hx
    obtain ⟨j, hj, rfl⟩ := List.mem_iff_getElem.1 hx
    have := rises_in cf cf.length 0 h.1 j (by omega) (by omega)
    have hr : rd cf (j : Int) = cf[j] := by simp [rd, hj]
    rwa [hr] at this
  · rw [List.eq_nil_of_length_eq_zero h]
    simp
theorem confT_back {cf : List Int} (h : confOk cf = true ∨ cf.length = 0) : bytesFrom (confT cf) 0 (confT cf).size = cf := by
  have hin := conf_in h
  have e : PFnExactDecode.confBs cf = cf := by
    unfold PFnExactDecode.confBs
    have : cf.map (fun x => x % 256) = cf.map id := List.map_congr_left (fun x hx => by have := hin x hx; simp; omega)
    simpa using this
  rw [bytesFrom_nums _ _ 0 (by omega), List.drop_zero]
  unfold confT
  rw [e, nums8_str cf (fun x hx => by have := hin x hx; omega), List.map_map]
  have : cf.map ((fun x : Nat => (x : Int)) ∘ Int.toNat) = cf.map id := List.map_congr_left (fun x hx => by have := hin x hx; simp; omega)
  simpa using this
theorem Tail.flag {s : ByteArray} {p : Int} {b : Bool} {L : List Nat} (h : Tail s p ((flagN b).toNat :: L)) : rdFlag s p false = (b, p + 1, false) ∧ rdByte s p false = (flagN b, p + 1, false) ∧ Tail s (p + 1) L := by
  obtain ⟨h1, h2⟩ := h.byte
  have e : (((flagN b).toNat : Nat) : Int) = flagN b := by cases b <;> rfl
  rw [e] at h1
  refine ⟨?_, h1, h2⟩
  unfold rdFlag
  rw [h1]
  cases b <;> rfl

theorem dec_fwd {a0 a1 a2 a3 a4 a5 a6 : Int} {a7 ls : Bool} {es : List S105} {cf : List Int} {d : ByteArray} (hm : msgB a0 a1 a2 a3 a4 a5 a6 es cf d ls = true) (s : ByteArray)
    (hs : nums8 s = headL a0 a1 a2 a3 a4 a5 a6 a7 ls es.length ++ (entsL es ++ (nums8 (shortS (confT cf)) ++ nums8 (shortS d)))) :
    ∃ p3 p4 p5 p6 p9 p10 p11 : Int, rdByte s 0 false = (a0, 1, false) ∧ rdByte s 1 false = (a1, 2, false) ∧ rdByte s 2 false = (a2, 3, false) ∧ rdNum s 3 false = (a3, p3, false) ∧ rdNum s p3 false = (a4, p4, false) ∧ rdNum s p4 false = (a5, p5, false) ∧ rdNum s p5 false = (a6, p6, false) ∧
      (rdFlag s p6 false = (a7, p6 + 1, false) ∧ rdByte s p6 false = (flagN a7, p6 + 1, false)) ∧ (rdFlag s (p6 + 1) false = (ls, p6 + 1 + 1, false) ∧ rdByte s (p6 + 1) false = (flagN ls, p6 + 1 + 1, false)) ∧ rdNum s (p6 + 1 + 1) false = ((es.length : Int), p9, false) ∧
      iRun s es.length p9 false [] = (p10, false, es) ∧ rdText s p10 false = (confT cf, p11, false) ∧ rdText s p11 false = (d, (s.size : Int), false) ∧ 0 ≤ p6 ∧ p6 + 1 + 1 ≤ s.size ∧ 0 ≤ p9 ∧ p9 ≤ s.size ∧ es.length ≤ 4 ∧ Tail s p9 (entsL es ++ (nums8 (shortS (confT cf)) ++ nums8 (shortS d))) := by
  obtain ⟨⟨g01, g02⟩, ⟨g11, g12⟩, ⟨g21, g22⟩⟩ := msg_head hm
  obtain ⟨⟨b3, b3'⟩, ⟨b4, b4'⟩, ⟨b5, b5'⟩, ⟨b6, b6'⟩, b8, b9, b10⟩ := msgB_facts hm
  have t := Tail.start s
  rw [hs] at t
  unfold headL at t
  simp only [List.cons_append, List.nil_append, List.append_assoc] at t
  have m8 : ∀ a : Int, 1 ≤ a → a ≤ 6 → (((a % 256).toNat : Nat) : Int) = a := fun a _ _ => by omega
  obtain ⟨h0, t⟩ := t.byte
  obtain ⟨h1, t⟩ := t.byte
  obtain ⟨h2, t⟩ := t.byte
  rw [m8 a0 g01 g02] at h0
  rw [m8 a1 g11 (by omega)] at h1
  rw [m8 a2 g21 (by omega)] at h2
  obtain ⟨p3, h3, t⟩ := t.num b3 (by omega)
  obtain ⟨p4, h4, t⟩ := t.num b4 (by omega)
  obtain ⟨p5, h5, t⟩ := t.num b5 (by omega)
  obtain ⟨p6, h6, t⟩ := t.num b6 (by omega)
  obtain ⟨h7, k7, t⟩ := t.flag
  obtain ⟨h8, k8, t⟩ := t.flag
  obtain ⟨p9, h9, t⟩ := Tail.num (n := (es.length : Int)) (by omega) (by omega) (by simpa using t)
  have t9 : Tail s p9 (entsL es ++ (nums8 (shortS (confT cf)) ++ nums8 (shortS d))) := by first | exact t | simpa using t
  obtain ⟨p10, h10, t⟩ := iRun_fwd s es _ p9 [] (msg_ents hm) t
  have hct : (confT cf).size ≤ 20000 := by
    rw [confT_size]
    rcases b9 with h | h
    · have := confOk_short h; omega
    · omega
  obtain ⟨p11, h11, t⟩ := t.text hct
  have t' : Tail s p11 (nums8 (shortS d) ++ []) := by simpa using t
  obtain ⟨p12, h12, t⟩ := t'.text (by omega)
  rw [t.fin] at h12
  obtain ⟨-, c6, c6', c6'', -⟩ := num_bytes h6
  obtain ⟨-, d8, d8', -, -⟩ := byte_bytes (by omega) k8
  obtain ⟨-, e9, e9', e9'', -⟩ := num_bytes h9
  exact ⟨p3, p4, p5, p6, p9, p10, p11, h0, h1, h2, h3, h4, h5, h6, ⟨h7, k7⟩, ⟨h8, k8⟩, h9, by simpa using h10, h11, h12, by omega, by omega, by omega, by omega, b8, t9⟩

/-- What spec.ReadEntry makes of a text. -/
def rentS (t : ByteArray) : Bool × Int × S105 :=
  let r1 := rdTake t 0 false 1
  let r2 := rdNum t r1.2.1 r1.2.2
  let r3 := rdNum t r2.2.1 r2.2.2
  let r4 := rdTake t r3.2.1 r3.2.2 1
  let d := t.extract r4.2.1.toNat t.size
  if r4.2.2 = true then (false, 0, ⟨0, 0, ⟨#[]⟩⟩) else if (entryOkI r2.1 r3.1 (bt r4.1 0) d && (entryT r2.1 r3.1 (bt r4.1 0) d).toList == t.toList) = true then (true, r2.1, ⟨r3.1, bt r4.1 0, d⟩) else (false, 0, ⟨0, 0, ⟨#[]⟩⟩)
theorem take_of_byte {s : ByteArray} {p b p' : Int} (hp : 0 ≤ p) (h : rdByte s p false = (b, p', false)) : rdTake s p false 1 = (byteS b, p', false) ∧ bt (byteS b) 0 = b := by
  have hr : 0 ≤ b ∧ b ≤ 255 := by
    have := bt_range s p
    unfold rdByte at h
    split at h
    · simp at h
    · simp only [Prod.mk.injEq] at h
      omega
  obtain ⟨-, c1, c2, c3, c4⟩ := byte_bytes hp h
  have hp' : p' = p + 1 := by
    unfold rdByte at h
    split at h
    · simp at h
    · simp only [Prod.mk.injEq] at h
      omega
  subst hp'
  constructor
  · unfold rdTake
    rw [if_neg (by simp; omega), c4]
  · have h2 : byteS b = strOfNums [b] := by unfold byteS; rw [show b % 256 = b from by omega]
    have h3 : nums8 (byteS b) = [] ++ b.toNat :: [] := by
      rw [h2, nums8_str [b] (by intro x hx; simp at hx; omega)]
      rfl
    have := (byN_at h3).1
    have e := bt_byN (byteS b) 0
    simp only [List.length_nil] at this
    rw [show ((0 : Nat) : Int) = (0 : Int) from rfl] at e
    rw [e, this]
    omega
theorem rentS_fwd (i : Int) (e : S105) (h : entryOkI i e.f0 e.f1 e.f2 = true) : rentS (entryS i e.f0 e.f1 e.f2) = (true, i, e) := by
  have h' := h
  unfold entryOkI at h'
  simp only [Bool.and_eq_true] at h'
  obtain ⟨p2, p3, p4, h1, h2, h3, h4, h5⟩ := entry_reads i e.f0 e.f1 e.f2 h'.1 h'.2
  obtain ⟨k1, -⟩ := take_of_byte (by omega) h1
  obtain ⟨-, c1, c2, c3, -⟩ := num_bytes h3
  obtain ⟨k4, k5⟩ := take_of_byte (by omega) h4
  have ht : entryT i e.f0 e.f1 e.f2 = entryS i e.f0 e.f1 e.f2 := by unfold entryT; rw [if_pos h]
  unfold rentS
  simp only [k1, h2, h3, k4, k5, h5, h, ht]
  simp
/-- What spec.Decode's loop does from round i on. -/
def sRun (s : ByteArray) (n : Int) : Nat → Nat → Int → Bool → List S105 → Int × Bool × List S105
  | 0, _, p, q, es => (p, q, es)
  | k + 1, i, p, q, es => if (i : Int) < n ∧ q = false ∧ i ≤ 4 then sRun s n k (i + 1) (rdShort s p q).2.1 (rdShort s p q).2.2 (es ++ [(rentS (rdShort s p q).1).2.2]) else (p, q, es)
theorem sRun_fwd (s : ByteArray) (n : Int) : ∀ (es : List S105) (L : List Nat) (k i : Nat) (p : Int) (acc : List S105), (∀ e ∈ es, entryOkI 1 e.f0 e.f1 e.f2 = true) → Tail s p (entsL es ++ L) → (i : Int) + es.length = n → n ≤ 4 → es.length < k →
    ∃ p', sRun s n k i p false acc = (p', false, acc ++ es) ∧ iRun s es.length p false acc = (p', false, acc ++ es) ∧ Tail s p' L
  | es, L, 0, i, p, acc, _, h, _, _, hk => by omega
  | [], L, k + 1, i, p, acc, _, h, hi, _, _ => ⟨p, by simp only [sRun, List.append_nil]; rw [if_neg (by simp at hi; omega)], by simp [iRun], by simpa [entsL] using h⟩
  | e :: es, L, k + 1, i, p, acc, hok, h, hi, hn, hk => by
    have hke := hok e (.head _)
    have h' : Tail s p (nums8 (shortS (entryT 1 e.f0 e.f1 e.f2)) ++ (entsL es ++ L)) := by simpa [entsL, entL] using h
    obtain ⟨p1, h1, h2⟩ := h'.text (by have := entryT_size 1 e.f0 e.f1 e.f2; omega)
    have h1s := short_of_text h1
    have he : entryT 1 e.f0 e.f1 e.f2 = entryS 1 e.f0 e.f1 e.f2 := by unfold entryT; rw [if_pos hke]
    have hr := rentI_fwd 1 e hke
    have hrs := rentS_fwd 1 e hke
    simp only [List.length_cons] at hi hk
    obtain ⟨p', h3, h4, h5⟩ := sRun_fwd s n es L k (i + 1) p1 (acc ++ [e]) (fun x hx => hok x (.tail _ hx)) h2 (by push_cast; push_cast at hi; omega) hn (by omega)
    refine ⟨p', ?_, ?_, h5⟩
    · simp only [sRun]
      rw [if_pos ⟨by push_cast at hi; omega, by simp, by push_cast at hi; omega⟩]
      simp only [h1s, he, hrs]
      simpa using h3
    · simp only [List.length_cons, iRun, h1, he, hr]
      simpa using h4
theorem sRun_same {s : ByteArray} {n p : Int} {es acc : List S105} {L : List Nat} {k : Nat} (hok : ∀ e ∈ es, entryOkI 1 e.f0 e.f1 e.f2 = true) (h : Tail s p (entsL es ++ L)) (hn : (es.length : Int) = n) (h4 : n ≤ 4) (hk : es.length < k) : ∃ p', sRun s n k 0 p false acc = (p', false, acc ++ es) ∧ iRun s es.length p false acc = (p', false, acc ++ es) ∧ Tail s p' L :=
  sRun_fwd s n es L k 0 p acc hok h (by omega) h4 hk
end Go.Proofs.Ytofikijbmgejkaa
end

/-! ### YtofikijbmgejkaaDecR -/
section
namespace Go.Proofs.Ytofikijbmgejkaa
open Go.RowKit Go.Proofs.YtofikijbmgejkaaW.PrintWords PFnExactDecode
set_option linter.unusedSimpArgs false
set_option linter.unusedVariables false

/-! What both Decodes call. (own) -/
theorem rflagH (g : Nat) (s : ByteArray) (p : Int) (bad : Bool) (b : Bool) (p' : Int) (bad' : Bool) (w : World) (h : Hid (rdFlag s p bad = (b, p', bad'))) (hs : s.size ≤ 1099511627776) (hp : 0 ≤ p ∧ p ≤ s.size) (hR : Rd 115 g s p bad w) :
    Calls Try.prog 70 #[.pointer (some ⟨g, 0, none⟩)] w fun e w' => e = .returned (.bool b) ∧ Rd 115 g s p' bad' w' ∧ Upd g w w' := by
  have hlt := Nat.le_of_lt hR.lt
  refine (PFnExactDecode.impl_reader_flag.calls g s p bad b s p' bad' (trunc w g) w ⟨hR, Nat.le_of_eq (trunc_size hlt)⟩ (trunc_below hlt) ?_).mono ?_
  · unfold PFnExactDecode.impl_reader_flag.f
    rw [byte_f s p bad hs hp.1 hp.2]
    have h1 := h.out
    unfold rdFlag at h1
    simp only [Prod.mk.injEq] at h1
    obtain ⟨rfl, rfl, rfl⟩ := h1
    simp only [Option.bind_some]
    cases (rdByte s p bad).2.2 <;> simp
  · rintro e w' ⟨rfl, hI, hB, hK⟩
    exact ⟨rfl, hI.1, upd_of (trunc_below hlt) hB hK⟩
theorem rmanyH (g : Nat) (s : ByteArray) (p : Int) (bad : Bool) (m n : Int) (p' : Int) (bad' : Bool) (w : World) (h : Hid (rdMany s p bad m = (n, p', bad'))) (hs : s.size ≤ 1099511627776) (hR : Rd 115 g s p bad w) :
    Calls Try.prog 71 #[.pointer (some ⟨g, 0, none⟩), .int .i64 m] w fun e w' => e = .returned (.int .i64 n) ∧ Rd 115 g s p' bad' w' ∧ Upd g w w' := by
  have hlt := Nat.le_of_lt hR.lt
  refine (PFnExactDecode.impl_reader_many.calls 12 g s p bad m n s p' bad' (trunc w g) w ⟨hR, Nat.le_of_eq (trunc_size hlt)⟩ (trunc_below hlt) ?_).mono ?_
  · have hf : PFnExactDecode.impl_reader_number.f 12 s p bad = some ((rdNum s p bad).1, s, (rdNum s p bad).2.1, (rdNum s p bad).2.2) := by
      unfold PFnExactDecode.impl_reader_number.f rdNum
      rw [impl_rv_f s p hs]
      cases bad with
      | true => rfl
      | false =>
        rcases hq : rv s p with _ | ⟨a, c⟩
        · rfl
        · rfl
    unfold PFnExactDecode.impl_reader_many.f
    rw [hf, Option.bind_some]
    have h1 := h.out
    unfold rdMany at h1
    by_cases hc : (rdNum s p bad).1 > m
    · rw [if_pos hc] at h1
      rw [if_pos hc]
      simp only [Prod.mk.injEq] at h1
      obtain ⟨rfl, rfl, rfl⟩ := h1
      rfl
    · rw [if_neg hc] at h1
      rw [if_neg hc]
      rw [h1]
  · rintro e w' ⟨rfl, hI, hB, hK⟩
    exact ⟨rfl, hI.1, upd_of (trunc_below hlt) hB hK⟩
theorem rtextH (g : Nat) (s : ByteArray) (p : Int) (bad : Bool) (n : ByteArray) (p' : Int) (bad' : Bool) (w : World) (h : Hid (rdText s p bad = (n, p', bad'))) (hs : s.size ≤ 1099511627776) (hR : Rd 115 g s p bad w) :
    Calls Try.prog 73 #[.pointer (some ⟨g, 0, none⟩)] w fun e w' => e = .returned (.string n) ∧ Rd 115 g s p' bad' w' ∧ Upd g w w' := by
  have := impl_text g s p bad w hs hR
  rw [h.out] at this
  exact this
theorem rdoneH (g : Nat) (s : ByteArray) (p : Int) (bad dn : Bool) (w : World) (h : Hid ((!bad && p == s.size) = dn)) (hR : Rd 115 g s p bad w) :
    Calls Try.prog 75 #[.pointer (some ⟨g, 0, none⟩)] w fun e w' => e = .returned (.bool dn) ∧ Rd 115 g s p bad w' ∧ Upd g w w' := by
  have := impl_done g s p bad w hR
  rw [h.out] at this
  exact this
theorem numbers_l0 (t : ByteArray) (ht : t.size ≤ 1099511627776) : ∀ (n k i : Nat) (acc : List Int), n + i = t.size → acc.length = i → n < k → PFnExactDecode.impl_numbers.l0 k t acc (t.size : Int) (i : Int) = some (acc ++ bytesFrom t i n)
  | _, 0, _, _, _, _, hk => by omega
  | 0, k + 1, i, acc, h, ha, _ => by
    unfold PFnExactDecode.impl_numbers.l0
    rw [if_neg (by omega)]
    simp [bytesFrom]
  | n + 1, k + 1, i, acc, h, ha, hk => by
    have hb := bt_range t (i : Int)
    unfold PFnExactDecode.impl_numbers.l0
    rw [if_pos (by omega), if_pos (by omega), if_pos (by omega), if_pos (by omega), show wrap64 ((i : Int) + 1) = ((i + 1 : Nat) : Int) from by unfold wrap64; omega, show wrap64 (bt t (i : Int)) = bt t (i : Int) from by unfold wrap64; omega, numbers_l0 t ht n k (i + 1) _ (by omega) (by simp; omega) (by omega)]
    simp [bytesFrom]
theorem impl_numbersH (t : ByteArray) (w : World) (ht : t.size ≤ 1099511627776) :
    Calls Try.prog 74 #[.string t] w fun e w' => ∃ v, e = .returned v ∧ Kd.R (Kd.int .i64) 3 w' w.heap.size (fun _ => True) v (bytesFrom t 0 t.size) ∧ Below w.heap.size w w' :=
  PFnExactDecode.impl_numbers.calls (t.size + 1) t _ w (by
    unfold PFnExactDecode.impl_numbers.f
    have := numbers_l0 t ht t.size (t.size + 1) 0 [] (by omega) rfl (by omega)
    simpa using this)
theorem impl_ReadEntryF (t : ByteArray) (w : World) (ht : t.size ≤ 1099511627776) :
    Calls Try.prog 72 #[.string t] w fun e w' => e = .returned (.tuple #[.int .i64 (rentI t).2.1, .agg #[.int .i64 (rentI t).2.2.f0, .int .i64 (rentI t).2.2.f1, .string (rentI t).2.2.f2], .bool (rentI t).1]) ∧ Below w.heap.size w w' := by
  rcases h1 : rdByte t 0 false with ⟨mk, p1, q1⟩
  rcases h2 : rdNum t p1 q1 with ⟨ix, p2, q2⟩
  rcases h3 : rdNum t p2 q2 with ⟨tm, p3, q3⟩
  rcases h4 : rdByte t p3 q3 with ⟨k, p4, q4⟩
  have hw := impl_ReadEntry t ht mk ix tm k p1 p2 p3 p4 q1 q2 q3 q4 (t.extract p4.toNat t.size) w (Lib.hid h1) (Lib.hid h2) (Lib.hid h3) (Lib.hid h4) (Lib.hid rfl) _ _ (mk == 69) (Lib.hid rfl) (Lib.hid rfl) (by simp [bne])
  refine hw.mono ?_
  rintro e w' ⟨rfl, hb⟩
  refine ⟨?_, hb⟩
  unfold rentI rentV
  simp only [h1, h2, h3, h4]
  cases (!q4 && (mk == 69) && entryOk tm k (t.extract p4.toNat t.size) && inB ix 1 1000000) <;> rfl

/-- Decode, under way: the answer's cell, the reader, the message's own cell. -/
def DAt (RT : Nat) (w : World) (s : ByteArray) (p : Int) (q : Bool) (b : Nat) (cs : Array Value) (W : World) : Prop :=
  Blk 57 w.heap.size #[.int .i64 0, .int .i64 0, .int .i64 0, .int .i64 0, .int .i64 0, .int .i64 0, .int .i64 0, .bool false, .slice none 0 0, .slice none 0 0, .string ⟨#[]⟩, .bool false] W ∧ Rd RT (w.heap.size + 1) s p q W ∧ Below w.heap.size w W ∧ Blk 57 b cs W ∧ w.heap.size + 1 < b
section
variable {RT : Nat} {w : World} {s : ByteArray} {p p' : Int} {q q' : Bool} {b : Nat} {cs cs' : Array Value} {W W1 : World}
theorem DAt.upd (h : DAt RT w s p q b cs W) (R : Rd RT (w.heap.size + 1) s p' q' W1) (U : Upd (w.heap.size + 1) W W1) : DAt RT w s p' q' b cs W1 := by
  obtain ⟨k2, -, B, k5, hb⟩ := h
  exact ⟨k2.upd U (by omega), R, U.below B (by omega), k5.upd U (by omega), hb⟩
theorem DAt.below (h : DAt RT w s p q b cs W) (hb : Below W.heap.size W W1) : DAt RT w s p q b cs W1 := by
  obtain ⟨k2, R, B, k5, hlt⟩ := h
  exact ⟨k2.below hb, R.below hb, bl_then B hb, k5.below hb, hlt⟩
theorem DAt.set {o : Nat} {v : Value} (h : DAt RT w s p q b cs W) (hc : cs.setIfInBounds o v = cs') : DAt RT w s p q b cs' (W.setCell ⟨b, o, none⟩ v) := by
  obtain ⟨k2, R, B, k5, hlt⟩ := h
  exact ⟨k2.far (a := ⟨b, o, none⟩) (by show w.heap.size ≠ b; omega) v, R.far (a := ⟨b, o, none⟩) (by show w.heap.size + 1 ≠ b; omega) v, bl_set B (by show w.heap.size ≤ b; omega), k5.set o v hc, hlt⟩
theorem DAt.bad (h : DAt RT w s p q b cs W) (q2 : Bool) : DAt RT w s p q2 b cs (W.setCell ⟨w.heap.size + 1, 2, none⟩ (.bool q2)) := by
  obtain ⟨k2, R, B, k5, hlt⟩ := h
  exact ⟨k2.far (a := ⟨w.heap.size + 1, 2, none⟩) (by show w.heap.size ≠ w.heap.size + 1; omega) _, R.set2 q2, bl_set B (Nat.le_succ _), k5.far (a := ⟨w.heap.size + 1, 2, none⟩) (by show b ≠ w.heap.size + 1; omega) _, hlt⟩
theorem DAt.grown {row : Option Nat} (h : DAt RT w s p q b cs W) (hg : W.grownBy W1 row) (hrow : ∀ k, row = some k → b < k) : DAt RT w s p q b cs W1 := by
  obtain ⟨k2, R, B, k5, hlt⟩ := h
  have hn : ∀ k, k ≤ b → some k ≠ row := fun k hk e => by have := hrow k e.symm; omega
  refine ⟨(hg.block _ k2.lt (hn _ (by omega))).trans k2, (hg.block _ R.lt (hn _ (by omega))).trans R, ⟨hg.os.trans B.os, hg.tape.trans B.tape, hg.output.trans B.output, Nat.le_trans B.size hg.size, fun k hk => (hg.block k (Nat.lt_of_lt_of_le hk B.size) (hn _ (by omega))).trans (B.block k hk)⟩, (hg.block _ k5.lt (hn _ (by omega))).trans k5, hlt⟩
end
/-- What is owned behind block b stays. -/
theorem own_upd {α : Type} {d : Kd α} {e base g b : Nat} {W W1 : World} {v : Value} {xs : List α} (h : d.R e W base (fun k => b < k) v xs) (U : Upd g W W1) (hg : g ≤ b) : d.R e W1 base (fun k => b < k) v xs :=
  Kd.R_step h (fun k hk hlt => U.block k hlt (by have : b < k := hk; omega))
theorem own_set {α : Type} {d : Kd α} {e base g o b : Nat} {W : World} {u v : Value} {xs : List α} (h : d.R e W base (fun k => b < k) v xs) (hg : g ≤ b) : d.R e (W.setCell ⟨g, o, none⟩ u) base (fun k => b < k) v xs :=
  Kd.R_far h (p := ⟨g, o, none⟩) (fun k hk => by have : b < k := hk; show k ≠ g; omega) u
/-- What Decode hands back: a message that owns its memory, or none. -/
def DecBack (w w' : World) (e : Ending) (ok : Bool) (a0 a1 a2 a3 a4 a5 a6 : Int) (a7 : Bool) (es : List S105) (cf : List Int) (d : ByteArray) (ls : Bool) : Prop :=
  (∃ vE vC, e = .returned (if ok = true then .tuple #[.agg #[.int .i64 a0, .int .i64 a1, .int .i64 a2, .int .i64 a3, .int .i64 a4, .int .i64 a5, .int .i64 a6, .bool a7, vE, vC, .string d, .bool ls], .bool true]
    else .tuple #[.agg #[.int .i64 0, .int .i64 0, .int .i64 0, .int .i64 0, .int .i64 0, .int .i64 0, .int .i64 0, .bool false, vE, vC, .string ⟨#[]⟩, .bool false], .bool false]) ∧
    Kd.R k105 105 w' w.heap.size (fun _ => True) vE (if ok = true then es else []) ∧ Kd.R (Kd.int .i64) 3 w' w.heap.size (fun _ => True) vC (if ok = true then cf else [])) ∧ Below w.heap.size w w'
end Go.Proofs.Ytofikijbmgejkaa
end

/-! ### YtofikijbmgejkaaDecI -/
section
namespace Go.Proofs.Ytofikijbmgejkaa
open Go.RowKit Go.Proofs.YtofikijbmgejkaaW.PrintWords PFnExactDecode
set_option linter.unusedSimpArgs false
set_option linter.unusedVariables false

/-! impl.Decode at any text. (own) -/
set_option maxHeartbeats 4000000 in
set_option maxRecDepth 100000 in
theorem impl_Decode (s : ByteArray) (hs : s.size ≤ 1048576) (a0 a1 a2 a3 a4 a5 a6 n p0 p1 p2 p3 p4 p5 p6 p7 p8 p9 p10 p11 p12 : Int) (a7 ls q0 q1 q2 q3 q4 q5 q6 q7 q8 q9 q10 q11 q12 : Bool) (es : List S105) (ct d : ByteArray) (w : World)
    (h0 : Hid (rdByte s 0 false = (a0, p0, q0))) (h1 : Hid (rdByte s p0 q0 = (a1, p1, q1))) (h2 : Hid (rdByte s p1 q1 = (a2, p2, q2))) (h3 : Hid (rdNum s p2 q2 = (a3, p3, q3))) (h4 : Hid (rdNum s p3 q3 = (a4, p4, q4))) (h5 : Hid (rdNum s p4 q4 = (a5, p5, q5))) (h6 : Hid (rdNum s p5 q5 = (a6, p6, q6)))
    (h7 : Hid (rdFlag s p6 q6 = (a7, p7, q7))) (h8 : Hid (rdFlag s p7 q7 = (ls, p8, q8))) (h9 : Hid (rdMany s p8 q8 4 = (n, p9, q9))) (h10 : Hid (iRun s n.toNat p9 q9 [] = (p10, q10, es))) (h11 : Hid (rdText s p10 q10 = (ct, p11, q11))) (h12 : Hid (rdText s p11 q11 = (d, p12, q12)))
    (dn mk : Bool) (hdn : Hid ((!q12 && p12 == s.size) = dn)) (hmk : Hid (msgB a0 a1 a2 a3 a4 a5 a6 es (bytesFrom ct 0 ct.size) d ls = mk)) (hSE : Short es) (hEl : es.length ≤ 4) :
    Calls Try.prog 30 #[.string s] w fun e w' => DecBack w w' e (dn && mk) a0 a1 a2 a3 a4 a5 a6 a7 es (bytesFrom ct 0 ct.size) d ls := by
  have g : 0 ≤ (0 : Int) ∧ (0 : Int) ≤ s.size := by omega
  have r0 := byte_r h0.out g
  have r1 := byte_r h1.out ⟨r0.1, r0.2.1⟩
  have r2 := byte_r h2.out ⟨r1.1, r1.2.1⟩
  have r3 := num_r h3.out ⟨r2.1, r2.2.1⟩
  have r4 := num_r h4.out ⟨r3.1, r3.2.1⟩
  have r5 := num_r h5.out ⟨r4.1, r4.2.1⟩
  have r6 := num_r h6.out ⟨r5.1, r5.2.1⟩
  have r7 := flag_r h7.out ⟨r6.1, r6.2.1⟩
  have r8 := flag_r h8.out r7
  have r9 := many_r h9.out (by omega) r8
  have r10 := run_r s _ _ _ _ _ _ _ h10.out ⟨r9.1, r9.2.1⟩
  have r11 := text_r h11.out r10
  have r12 := text_r h12.out ⟨r11.1, r11.2.1⟩
  have hs1 : s.size ≤ 1099511627776 := by omega
  go_enter Try.func30, Try.ntmps30
  go_wp2_with fail
  refine calls_at' (fun W => Blk 57 w.heap.size #[.int .i64 0, .int .i64 0, .int .i64 0, .int .i64 0, .int .i64 0, .int .i64 0, .int .i64 0, .bool false, .slice none 0 0, .slice none 0 0, .string ⟨#[]⟩, .bool false] W ∧ Rd 115 (w.heap.size + 1) s 0 false W ∧ Below w.heap.size w W) ⟨(Blk.new _ _ w).alloc _, by have := Rd.new 115 s 0 false (w.alloc (.cells #[.int .i64 0, .int .i64 0, .int .i64 0, .int .i64 0, .int .i64 0, .int .i64 0, .int .i64 0, .bool false, .slice none 0 0, .slice none 0 0, .string ⟨#[]⟩, .bool false] 57)); simpa using this, (by repeat (first | exact Below.refl _ _ | apply bl_alloc | apply bl_drewN | apply bl_drew | refine bl_set ?_ (by simp) | refine bl_then ?_ (by assumption)))⟩ ?_
  rintro W0 ⟨k2, R0, B0⟩
  refine (rbyteH _ _ _ _ _ _ _ _ h0 hs1 g R0).mono ?_
  rintro e W1 ⟨rfl, R1, U1⟩
  replace k2 := k2.upd U1 (by omega)
  have B1 := U1.below B0 (by omega)
  have l1 := R1.lt
  clear R0 U1 B0 W0
  go_wp2_with fail
  obtain ⟨b, hb⟩ : ∃ b, b = W1.heap.size := ⟨_, rfl⟩
  refine calls_at' (DAt 115 w s p0 q0 b #[.int .i64 a0, .int .i64 0, .int .i64 0, .int .i64 0, .int .i64 0, .int .i64 0, .int .i64 0, .bool false, .slice none 0 0, .slice none 0 0, .string ⟨#[]⟩, .bool false]) ⟨k2.alloc _, R1.below (bl_alloc (Below.refl _ _) _), bl_alloc B1 _, Blk.newE _ _ W1 hb, by omega⟩ ?_
  try rw [← hb]
  clear hb k2 R1 B1 l1 W1
  intro W D
  refine (rbyteH _ _ _ _ _ _ _ _ h1 hs1 ⟨r0.1, r0.2.1⟩ D.2.1).mono ?_
  rintro e W' ⟨rfl, R, U⟩
  replace D := D.upd R U
  clear R U W
  have c := D.2.2.2.1.cell 1 rfl
  have f := D.2.2.2.1.free 1
  have l := D.2.2.2.1.lt
  go_wp2_with fail
  refine calls_at' (DAt 115 w s p1 q1 b #[.int .i64 a0, .int .i64 a1, .int .i64 0, .int .i64 0, .int .i64 0, .int .i64 0, .int .i64 0, .bool false, .slice none 0 0, .slice none 0 0, .string ⟨#[]⟩, .bool false]) (D.set rfl) ?_
  clear c f l D W'
  intro W D
  refine (rbyteH _ _ _ _ _ _ _ _ h2 hs1 ⟨r1.1, r1.2.1⟩ D.2.1).mono ?_
  rintro e W' ⟨rfl, R, U⟩
  replace D := D.upd R U
  clear R U W
  have c := D.2.2.2.1.cell 2 rfl
  have f := D.2.2.2.1.free 2
  have l := D.2.2.2.1.lt
  go_wp2_with fail
  refine calls_at' (DAt 115 w s p2 q2 b #[.int .i64 a0, .int .i64 a1, .int .i64 a2, .int .i64 0, .int .i64 0, .int .i64 0, .int .i64 0, .bool false, .slice none 0 0, .slice none 0 0, .string ⟨#[]⟩, .bool false]) (D.set rfl) ?_
  clear c f l D W'
  intro W D
  refine (rnumH _ _ _ _ _ _ _ _ h3 hs1 D.2.1).mono ?_
  rintro e W' ⟨rfl, R, U⟩
  replace D := D.upd R U
  clear R U W
  have c := D.2.2.2.1.cell 3 rfl
  have f := D.2.2.2.1.free 3
  have l := D.2.2.2.1.lt
  go_wp2_with fail
  refine calls_at' (DAt 115 w s p3 q3 b #[.int .i64 a0, .int .i64 a1, .int .i64 a2, .int .i64 a3, .int .i64 0, .int .i64 0, .int .i64 0, .bool false, .slice none 0 0, .slice none 0 0, .string ⟨#[]⟩, .bool false]) (D.set rfl) ?_
  clear c f l D W'
  intro W D
  refine (rnumH _ _ _ _ _ _ _ _ h4 hs1 D.2.1).mono ?_
  rintro e W' ⟨rfl, R, U⟩
  replace D := D.upd R U
  clear R U W
  have c := D.2.2.2.1.cell 4 rfl
  have f := D.2.2.2.1.free 4
  have l := D.2.2.2.1.lt
  go_wp2_with fail
  refine calls_at' (DAt 115 w s p4 q4 b #[.int .i64 a0, .int .i64 a1, .int .i64 a2, .int .i64 a3, .int .i64 a4, .int .i64 0, .int .i64 0, .bool false, .slice none 0 0, .slice none 0 0, .string ⟨#[]⟩, .bool false]) (D.set rfl) ?_
  clear c f l D W'
  intro W D
  refine (rnumH _ _ _ _ _ _ _ _ h5 hs1 D.2.1).mono ?_
  rintro e W' ⟨rfl, R, U⟩
  replace D := D.upd R U
  clear R U W
  have c := D.2.2.2.1.cell 5 rfl
  have f := D.2.2.2.1.free 5
  have l := D.2.2.2.1.lt
  go_wp2_with fail
  refine calls_at' (DAt 115 w s p5 q5 b #[.int .i64 a0, .int .i64 a1, .int .i64 a2, .int .i64 a3, .int .i64 a4, .int .i64 a5, .int .i64 0, .bool false, .slice none 0 0, .slice none 0 0, .string ⟨#[]⟩, .bool false]) (D.set rfl) ?_
  clear c f l D W'
  intro W D
  refine (rnumH _ _ _ _ _ _ _ _ h6 hs1 D.2.1).mono ?_
  rintro e W' ⟨rfl, R, U⟩
  replace D := D.upd R U
  clear R U W
  have c := D.2.2.2.1.cell 6 rfl
  have f := D.2.2.2.1.free 6
  have l := D.2.2.2.1.lt
  go_wp2_with fail
  refine calls_at' (DAt 115 w s p6 q6 b #[.int .i64 a0, .int .i64 a1, .int .i64 a2, .int .i64 a3, .int .i64 a4, .int .i64 a5, .int .i64 a6, .bool false, .slice none 0 0, .slice none 0 0, .string ⟨#[]⟩, .bool false]) (D.set rfl) ?_
  clear c f l D W'
  intro W D
  refine (rflagH _ _ _ _ _ _ _ _ h7 hs1 ⟨r6.1, r6.2.1⟩ D.2.1).mono ?_
  rintro e W' ⟨rfl, R, U⟩
  replace D := D.upd R U
  clear R U W
  have c := D.2.2.2.1.cell 7 rfl
  have f := D.2.2.2.1.free 7
  have l := D.2.2.2.1.lt
  go_wp2_with fail
  refine calls_at' (DAt 115 w s p7 q7 b #[.int .i64 a0, .int .i64 a1, .int .i64 a2, .int .i64 a3, .int .i64 a4, .int .i64 a5, .int .i64 a6, .bool a7, .slice none 0 0, .slice none 0 0, .string ⟨#[]⟩, .bool false]) (D.set rfl) ?_
  clear c f l D W'
  intro W D
  refine (rflagH _ _ _ _ _ _ _ _ h8 hs1 r7 D.2.1).mono ?_
  rintro e W' ⟨rfl, R, U⟩
  replace D := D.upd R U
  clear R U W
  have c := D.2.2.2.1.cell 11 rfl
  have f := D.2.2.2.1.free 11
  have l := D.2.2.2.1.lt
  go_wp2_with fail
  refine calls_at' (DAt 115 w s p8 q8 b #[.int .i64 a0, .int .i64 a1, .int .i64 a2, .int .i64 a3, .int .i64 a4, .int .i64 a5, .int .i64 a6, .bool a7, .slice none 0 0, .slice none 0 0, .string ⟨#[]⟩, .bool ls]) (D.set rfl) ?_
  clear c f l D W'
  intro W D
  refine (rmanyH _ _ _ _ _ _ _ _ _ h9 hs1 D.2.1).mono ?_
  rintro e W' ⟨rfl, R, U⟩
  replace D := D.upd R U
  clear R U W
  go_wp2_with fail
  have hn4 := r9.2.2
  obtain ⟨m, rfl⟩ : ∃ m : Nat, n = (m : Int) := ⟨n.toNat, by omega⟩
  have h10' : Hid (iRun s m p9 q9 [] = (p10, q10, es)) := h10
  clear h10
  go_loopg [41] (m + 1) (fun kq v41 w' => ∃ (i : Nat) (p : Int) (q : Bool) (acc : List S105) (vE : Value), v41 = .int .i64 (i : Int) ∧ i + kq = m + 1 ∧ Hid (iRun s (m - i) p q acc = (p10, q10, es)) ∧ (0 ≤ p ∧ p ≤ s.size) ∧ acc.length = i ∧ Kd.R k105 105 w' w.heap.size (fun k => b < k) vE acc ∧ DAt 115 w s p q b #[.int .i64 a0, .int .i64 a1, .int .i64 a2, .int .i64 a3, .int .i64 a4, .int .i64 a5, .int .i64 a6, .bool a7, vE, .slice none 0 0, .string ⟨#[]⟩, .bool ls] w')
  case atStart => exact ⟨0, p9, q9, [], .slice none 0 0, rfl, by omega, h10', ⟨r9.1, r9.2.1⟩, rfl, Kd.R_nil _ _ _ _ _, D⟩
  case round =>
    clear h10' D
    obtain ⟨i, p, q, acc, vE, rfl, hik, hrun, hp, hacc, hE, D⟩ := hrel
    obtain ⟨AE, cE, hvE, hcE, -⟩ := Kd.R_reads hE
    rw [hacc] at hvE hcE
    subst hvE
    have HE := Lib.hid hE
    clear hE
    by_cases hlt : i < m
    · obtain ⟨k1, rfl⟩ : ∃ k1, gk = k1 + 1 := ⟨gk - 1, by omega⟩
      have hlt' : (i : Int) < (m : Int) := by omega
      obtain ⟨m1, hm1⟩ : ∃ m1, m - i = m1 + 1 := ⟨m - i - 1, by omega⟩
      rw [hm1] at hrun
      rcases hx : rdText s p q with ⟨t, p', q'⟩
      rcases hy : rentI t with ⟨ok, ix, ⟨e0, e1, e2⟩⟩
      have hrun' : Hid (iRun s m1 p' (q' || !ok || ix != 1) (acc ++ [⟨e0, e1, e2⟩]) = (p10, q10, es)) := Lib.hid (by
        have h := hrun.out
        simp only [iRun, hx, hy] at h
        exact h)
      clear hrun
      have hp' := text_r hx hp
      have hx := Lib.hid hx
      go_wp2_with fail
      refine (rtextH _ _ _ _ _ _ _ _ hx hs1 D.2.1).mono ?_
      rintro e W1 ⟨rfl, R, U⟩
      have HE1 := Lib.hid (own_upd HE.out U (by have := D.2.2.2.2; omega))
      replace D := D.upd R U
      clear R U HE
      go_wp2_with fail
      have hre := impl_ReadEntryF t W1 (by omega)
      rw [hy] at hre
      refine hre.mono ?_
      clear hre
      rintro e W2 ⟨rfl, hb⟩
      have HE2 := Lib.hid (Kd.R_below HE1.out hb)
      replace D := D.below hb
      clear HE1 hb W1
      go_upto_region 14 with fail
      obtain ⟨b7, hb7⟩ : ∃ b7, b7 = W2.heap.size := ⟨_, rfl⟩
      have hbl : b < W2.heap.size := D.2.2.2.1.lt
      refine wp_at' (fun X => DAt 115 w s p' q' b #[.int .i64 a0, .int .i64 a1, .int .i64 a2, .int .i64 a3, .int .i64 a4, .int .i64 a5, .int .i64 a6, .bool a7, .slice AE i cE, .slice none 0 0, .string ⟨#[]⟩, .bool ls] X ∧ Kd.R k105 105 X w.heap.size (fun k => b < k) (.slice AE i cE) acc ∧ Blk 105 b7 #[.int .i64 e0, .int .i64 e1, .string e2] X) ⟨D.below (bl_alloc (Below.refl _ _) _), Kd.R_below HE2.out (bl_alloc (Below.refl _ _) _), Blk.newE _ _ W2 hb7⟩ ?_
      rw [← hb7]
      have n7 : b < b7 := by omega
      clear hb7 hbl D HE2 W2
      rintro X ⟨D, hE, k7⟩
      have HE := Lib.hid hE
      clear hE
      go_cut [] from 50 to 64 (fun wx => DAt 115 w s p' (q' || !ok || ix != 1) b #[.int .i64 a0, .int .i64 a1, .int .i64 a2, .int .i64 a3, .int .i64 a4, .int .i64 a5, .int .i64 a6, .bool a7, .slice AE i cE, .slice none 0 0, .string ⟨#[]⟩, .bool ls] wx ∧ Kd.R k105 105 wx w.heap.size (fun k => b < k) (.slice AE i cE) acc ∧ Blk 105 b7 #[.int .i64 e0, .int .i64 e1, .string e2] wx)
      case first =>
        obtain ⟨rc0, rc1, rc2, rcf⟩ := D.2.1.cells
        have rl := D.2.1.lt
        have nb := D.2.2.2.2
        rcases q' with _ | _
        · rcases ok with _ | _
          · go_wp2_with fail
            go_meet
            exact ⟨D.bad _, own_set HE.out (by omega), k7.far (a := ⟨w.heap.size + 1, 2, none⟩) (by show b7 ≠ w.heap.size + 1; omega) _⟩
          · cases hix : (ix != 1) with
            | true =>
              have hix2 : (ix == 1) = false := by simpa [bne] using hix
              go_wp2_with fail
              go_meet
              exact ⟨by first | exact D.bad _ | (have := D.bad true; simpa [hix] using this), own_set HE.out (by omega), k7.far (a := ⟨w.heap.size + 1, 2, none⟩) (by show b7 ≠ w.heap.size + 1; omega) _⟩
            | false =>
              have hix2 : (ix == 1) = true := by simpa [bne] using hix
              go_wp2_with fail
              go_meet
              exact ⟨by first | exact D.bad _ | (have := D.bad false; simpa [hix] using this), own_set HE.out (by omega), k7.far (a := ⟨w.heap.size + 1, 2, none⟩) (by show b7 ≠ w.heap.size + 1; omega) _⟩
        · go_wp2_with fail
          go_meet
          exact ⟨D.bad _, own_set HE.out (by omega), k7.far (a := ⟨w.heap.size + 1, 2, none⟩) (by show b7 ≠ w.heap.size + 1; omega) _⟩
      case rest =>
        clear D HE k7
        obtain ⟨D, hE, k7⟩ := hcut
        obtain ⟨qq, hqq⟩ : ∃ qq, (q' || !ok || ix != 1) = qq := ⟨_, rfl⟩
        rw [hqq] at D hrun'
        clear hqq
        have hrow : ∀ k, (Value.slice AE i cE).ownBlock = some k → b < k := fun k hk => hE.1 k hk
        have nbv : some b ≠ (Value.slice AE i cE).ownBlock := fun e => by have := hrow b e.symm; omega
        have hwz : w.heap.size ≤ wc.heap.size := D.2.2.1.size
        have k5 := D.2.2.2.1
        have c8 := k5.cell 8 rfl
        have l5 := k5.lt
        have c70 := k7.cell 0 rfl
        have c71 := k7.cell 1 rfl
        have c72 := k7.cell 2 rfl
        have l7 := k7.lt
        have HE := Lib.hid hE
        clear hE
        go_wp2_with (first | (refine Kd.R_append (w0 := wc) k105 w.heap.size rfl (.tmp 66) (.tmp 68) 55 105 (.agg #[.int .i64 0, .int .i64 0, .string ⟨#[]⟩]) 32 rfl Try.underlying55 (by kernel_rfl) rfl (by decide) (by decide) (.slice AE i cE) acc ⟨e0, e1, e2⟩ [.int .i64 e0, .int .i64 e1, .string e2] (fun k => b < k) (fun _ => False) rfl rfl (k105_mkM wc _ _ ⟨e0, e1, e2⟩) (fun k h => h.elim) (fun k hk => by omega) HE.out (Below.refl _ _) hwz (by omega) ?_; intro v1 w1 hR1 hB1 hg1 hat1; obtain ⟨A9, c9, hv9, -, -⟩ := Kd.R_reads hR1; rw [show (acc ++ [(⟨e0, e1, e2⟩ : S105)]).length = i + 1 from by simp [hacc]] at hv9; subst hv9; have D1 := D.grown hg1 hrow; have q5 := D1.2.2.2.1; have d8 := q5.cell 8 rfl; have df := q5.free 8; have dl := q5.lt; have HR1 := Lib.hid hR1; clear hR1 c8 l5 c70 c71 c72 l7 hat1))
        have hfin1 := D1.set (o := 8) (v := .slice A9 (i + 1) c9) (cs' := #[.int .i64 a0, .int .i64 a1, .int .i64 a2, .int .i64 a3, .int .i64 a4, .int .i64 a5, .int .i64 a6, .bool a7, .slice A9 (i + 1) c9, .slice none 0 0, .string ⟨#[]⟩, .bool ls]) rfl
        have hfin2 := own_set (g := b) (o := 8) (u := .slice A9 (i + 1) c9) HR1.out (Nat.le_refl _)
        clear D1 q5 d8 df dl HR1 D k5 k7 HE
        go_roundg k1
        case measure => omega
        case rel => exact ⟨i + 1, p', qq, acc ++ [⟨e0, e1, e2⟩], _, by first | rfl | simp, by omega, Lib.hid (by rw [show m - (i + 1) = m1 from by omega]; exact hrun'.out), ⟨hp'.1, hp'.2.1⟩, by simp [hacc], hfin2, hfin1⟩
    · have hm0 : m - i = 0 := by omega
      have hlt' : ¬ ((i : Int) < (m : Int)) := by omega
      rw [hm0] at hrun
      have hr := hrun.out
      simp only [iRun, Prod.mk.injEq] at hr
      obtain ⟨rfl, rfl, rfl⟩ := hr
      clear hrun
      subst hacc
      have nb := D.2.2.2.2
      go_wp2_with fail
      refine (rtextH _ _ _ _ _ _ _ _ h11 hs1 D.2.1).mono ?_
      rintro e W1 ⟨rfl, R, U⟩
      have HE1 := Lib.hid (own_upd HE.out U (by omega))
      replace D := D.upd R U
      clear R U HE
      go_wp2_with fail
      refine (impl_numbersH ct W1 (by omega)).mono ?_
      rintro e W2 ⟨vC, rfl, hC0, hb⟩
      have hbl : b < W1.heap.size := D.2.2.2.1.lt
      have hC := Kd.R_mono (Kd.R_lower (Kd.R_bound hC0) D.2.2.1.size) (ok' := fun k => b < k) (fun k hk => by have := hk.2.1; omega)
      have hbfl : (bytesFrom ct 0 ct.size).length = ct.size := bytesFrom_length _ _ _
      obtain ⟨AC, cC, rfl, hcC, -⟩ := Kd.R_reads hC
      obtain ⟨cf, hcf⟩ : ∃ cf, cf = bytesFrom ct 0 ct.size := ⟨_, rfl⟩
      rw [← hcf] at hC hcC hmk hbfl ⊢
      have HBF := Lib.hid hbfl
      have HCF := Lib.hid hcf.symm
      clear hbfl hcf
      have HC1 := Lib.hid hC
      have HE2 := Lib.hid (Kd.R_below HE1.out hb)
      replace D := D.below hb
      clear HE1 hb hC hC0 hbl W1
      have c := D.2.2.2.1.cell 9 rfl
      have f := D.2.2.2.1.free 9
      have l := D.2.2.2.1.lt
      go_wp2_with fail
      refine calls_at' (fun X => DAt 115 w s p11 q11 b #[.int .i64 a0, .int .i64 a1, .int .i64 a2, .int .i64 a3, .int .i64 a4, .int .i64 a5, .int .i64 a6, .bool a7, .slice AE acc.length cE, .slice AC cf.length cC, .string ⟨#[]⟩, .bool ls] X ∧ Kd.R k105 105 X w.heap.size (fun k => b < k) (.slice AE acc.length cE) acc ∧ Kd.R (Kd.int .i64) 3 X w.heap.size (fun k => b < k) (.slice AC cf.length cC) cf) ⟨D.set rfl, own_set HE2.out (Nat.le_refl _), own_set HC1.out (Nat.le_refl _)⟩ ?_
      clear c f l D HE2 HC1 W2
      rintro W3 ⟨D, hE, hC⟩
      have HE := Lib.hid hE
      have HC := Lib.hid hC
      clear hE hC
      refine (rtextH _ _ _ _ _ _ _ _ h12 hs1 D.2.1).mono ?_
      rintro e W4 ⟨rfl, R, U⟩
      replace HE := Lib.hid (own_upd HE.out U (by omega))
      replace HC := Lib.hid (own_upd HC.out U (by omega))
      replace D := D.upd R U
      clear R U W3
      have c := D.2.2.2.1.cell 10 rfl
      have f := D.2.2.2.1.free 10
      have l := D.2.2.2.1.lt
      go_wp2_with fail
      refine calls_at' (fun X => DAt 115 w s p12 q12 b #[.int .i64 a0, .int .i64 a1, .int .i64 a2, .int .i64 a3, .int .i64 a4, .int .i64 a5, .int .i64 a6, .bool a7, .slice AE acc.length cE, .slice AC cf.length cC, .string d, .bool ls] X ∧ Kd.R k105 105 X w.heap.size (fun k => b < k) (.slice AE acc.length cE) acc ∧ Kd.R (Kd.int .i64) 3 X w.heap.size (fun k => b < k) (.slice AC cf.length cC) cf) ⟨D.set rfl, own_set HE.out (Nat.le_refl _), own_set HC.out (Nat.le_refl _)⟩ ?_
      clear c f l D HE HC W4
      rintro W5 ⟨D, hE, hC⟩
      have HE := Lib.hid hE
      have HC := Lib.hid hC
      clear hE hC
      refine (rdoneH _ _ _ _ _ _ hdn D.2.1).mono ?_
      rintro e W6 ⟨rfl, R, U⟩
      replace HE := Lib.hid (own_upd HE.out U (by omega))
      replace HC := Lib.hid (own_upd HC.out U (by omega))
      replace D := D.upd R U
      clear R U W5
      cases dn with
      | false =>
        have k2 := D.1
        have y0 := k2.cell 0 rfl
        have y1 := k2.cell 1 rfl
        have y2 := k2.cell 2 rfl
        have y3 := k2.cell 3 rfl
        have y4 := k2.cell 4 rfl
        have y5 := k2.cell 5 rfl
        have y6 := k2.cell 6 rfl
        have y7 := k2.cell 7 rfl
        have y8 := k2.cell 8 rfl
        have y9 := k2.cell 9 rfl
        have y10 := k2.cell 10 rfl
        have y11 := k2.cell 11 rfl
        have yf : ∀ o, _ := fun o => k2.free o
        have yl := k2.lt
        go_wp2_with fail
        refine bodyPost_ret (v := .tuple #[.agg #[.int .i64 0, .int .i64 0, .int .i64 0, .int .i64 0, .int .i64 0, .int .i64 0, .int .i64 0, .bool false, .slice none 0 0, .slice none 0 0, .string ⟨#[]⟩, .bool false], .bool false]) ?_ rfl ⟨⟨.slice none 0 0, .slice none 0 0, rfl, Kd.R_nil _ _ _ _ _, Kd.R_nil _ _ _ _ _⟩, ?_⟩
        · simp only [results, Try.results30]
          go_simp
        · iterate 12 refine bl_set ?_ (Nat.le_refl _)
          exact D.2.2.1
      | true =>
        have c0 := D.2.2.2.1.cell 0 rfl
        have c1 := D.2.2.2.1.cell 1 rfl
        have c2 := D.2.2.2.1.cell 2 rfl
        have c3 := D.2.2.2.1.cell 3 rfl
        have c4 := D.2.2.2.1.cell 4 rfl
        have c5 := D.2.2.2.1.cell 5 rfl
        have c6 := D.2.2.2.1.cell 6 rfl
        have c7 := D.2.2.2.1.cell 7 rfl
        have c8 := D.2.2.2.1.cell 8 rfl
        have c9 := D.2.2.2.1.cell 9 rfl
        have c10 := D.2.2.2.1.cell 10 rfl
        have c11 := D.2.2.2.1.cell 11 rfl
        have l5 := D.2.2.2.1.lt
        go_wp2_with fail
        obtain ⟨-, -, hCE⟩ := Kd.R_reads' HE.out
        obtain ⟨-, -, hCC⟩ := Kd.R_reads' HC.out
        refine (impl_MsgH acc hSE a0 a1 a2 a3 a4 a5 a6 a7 cf d ls (by omega) (by have := HBF.out; omega) AE cE AC cC W6 hCE hcE hCC hcC mk hmk).mono ?_
        rintro e W7 ⟨rfl, hb⟩
        replace HE := Lib.hid (Kd.R_below HE.out hb)
        replace HC := Lib.hid (Kd.R_below HC.out hb)
        replace D := D.below hb
        clear hb hCE hCC c0 c1 c2 c3 c4 c5 c6 c7 c8 c9 c10 c11 l5 W6
        have k2 := D.1
        have y0 := k2.cell 0 rfl
        have y1 := k2.cell 1 rfl
        have y2 := k2.cell 2 rfl
        have y3 := k2.cell 3 rfl
        have y4 := k2.cell 4 rfl
        have y5 := k2.cell 5 rfl
        have y6 := k2.cell 6 rfl
        have y7 := k2.cell 7 rfl
        have y8 := k2.cell 8 rfl
        have y9 := k2.cell 9 rfl
        have y10 := k2.cell 10 rfl
        have y11 := k2.cell 11 rfl
        have yf : ∀ o, _ := fun o => k2.free o
        have yl := k2.lt
        cases mk with
        | false =>
          go_wp2_with fail
          refine bodyPost_ret (v := .tuple #[.agg #[.int .i64 0, .int .i64 0, .int .i64 0, .int .i64 0, .int .i64 0, .int .i64 0, .int .i64 0, .bool false, .slice none 0 0, .slice none 0 0, .string ⟨#[]⟩, .bool false], .bool false]) ?_ rfl ⟨⟨.slice none 0 0, .slice none 0 0, rfl, Kd.R_nil _ _ _ _ _, Kd.R_nil _ _ _ _ _⟩, ?_⟩
          · simp only [results, Try.results30]
            go_simp
          · iterate 12 refine bl_set ?_ (Nat.le_refl _)
            exact D.2.2.1
        | true =>
          have c0 := D.2.2.2.1.cell 0 rfl
          have c1 := D.2.2.2.1.cell 1 rfl
          have c2 := D.2.2.2.1.cell 2 rfl
          have c3 := D.2.2.2.1.cell 3 rfl
          have c4 := D.2.2.2.1.cell 4 rfl
          have c5 := D.2.2.2.1.cell 5 rfl
          have c6 := D.2.2.2.1.cell 6 rfl
          have c7 := D.2.2.2.1.cell 7 rfl
          have c8 := D.2.2.2.1.cell 8 rfl
          have c9 := D.2.2.2.1.cell 9 rfl
          have c10 := D.2.2.2.1.cell 10 rfl
          have c11 := D.2.2.2.1.cell 11 rfl
          have l5 := D.2.2.2.1.lt
          have nb2 : w.heap.size < b := by omega
          go_wp2_with fail
          have hE2 := HE.out
          have hC2 := HC.out
          rw [HCF.out]
          refine bodyPost_ret (v := .tuple #[.agg #[.int .i64 a0, .int .i64 a1, .int .i64 a2, .int .i64 a3, .int .i64 a4, .int .i64 a5, .int .i64 a6, .bool a7, .slice AE acc.length cE, .slice AC cf.length cC, .string d, .bool ls], .bool true]) ?_ rfl ⟨⟨.slice AE acc.length cE, .slice AC cf.length cC, rfl, ?_, ?_⟩, ?_⟩
          · simp only [results, Try.results30]
            go_simp
          · refine Kd.R_mono (ok := fun k => b < k) ?_ (fun _ _ => trivial)
            iterate 12 refine own_set ?_ (Nat.le_of_lt nb2)
            exact hE2
          · refine Kd.R_mono (ok := fun k => b < k) ?_ (fun _ _ => trivial)
            iterate 12 refine own_set ?_ (Nat.le_of_lt nb2)
            exact hC2
          · iterate 12 refine bl_set ?_ (Nat.le_refl _)
            exact D.2.2.1
end Go.Proofs.Ytofikijbmgejkaa
end

/-! ### YtofikijbmgejkaaDecE -/
section
namespace Go.Proofs.Ytofikijbmgejkaa
open Go.RowKit Go.Proofs.YtofikijbmgejkaaW.PrintWords PFnExactDecode
set_option linter.unusedSimpArgs false
set_option linter.unusedVariables false

/-! spec.ReadEntry at any text. (own) -/
theorem take_r {s t : ByteArray} {p p' n : Int} {q q' : Bool} (h : rdTake s p q n = (t, p', q')) (hn : 0 ≤ n) (hp : 0 ≤ p ∧ p ≤ s.size) : 0 ≤ p' ∧ p' ≤ s.size ∧ t.size ≤ s.size := by
  unfold rdTake at h
  split at h
  · simp only [Prod.mk.injEq] at h
    obtain ⟨rfl, rfl, -⟩ := h
    exact ⟨hp.1, hp.2, Nat.zero_le _⟩
  · rename_i hc
    simp only [Prod.mk.injEq] at h
    obtain ⟨rfl, rfl, -⟩ := h
    have : ¬ n > s.size - p := fun x => hc (.inr x)
    refine ⟨by omega, by omega, ?_⟩
    rw [ByteArray.size_extract]
    omega
theorem take_size {s t : ByteArray} {p p' n : Int} {q : Bool} (h : rdTake s p q n = (t, p', false)) (hn : 0 ≤ n) (hp : 0 ≤ p ∧ p ≤ s.size) : (t.size : Int) = n ∧ q = false := by
  unfold rdTake at h
  split at h
  · simp at h
  · rename_i hc
    simp only [Prod.mk.injEq] at h
    obtain ⟨rfl, rfl, -⟩ := h
    have : ¬ n > s.size - p := fun x => hc (.inr x)
    refine ⟨?_, by cases q; rfl; exact absurd (.inl rfl) hc⟩
    rw [ByteArray.size_extract]
    omega
theorem short_r {s t : ByteArray} {p p' : Int} {q q' : Bool} (h : rdShort s p q = (t, p', q')) (hp : 0 ≤ p ∧ p ≤ s.size) : 0 ≤ p' ∧ p' ≤ s.size ∧ t.size ≤ s.size := by
  unfold rdShort at h
  have hr := rdNum_range s p q hp.1 hp.2
  exact take_r h hr.1 ⟨hr.2.2.1, hr.2.2.2⟩
theorem stakeH (g : Nat) (s : ByteArray) (p : Int) (bad : Bool) (n : Int) (t : ByteArray) (p' : Int) (bad' : Bool) (w : World) (h : Hid (rdTake s p bad n = (t, p', bad'))) (hs : s.size ≤ 1099511627776) (hp : 0 ≤ p ∧ p ≤ s.size) (hn : 0 ≤ n ∧ n ≤ 1000000000) (hR : Rd 101 g s p bad w) :
    Calls Try.prog 62 #[.pointer (some ⟨g, 0, none⟩), .int .i64 n] w fun e w' => e = .returned (.string t) ∧ Rd 101 g s p' bad' w' ∧ Upd g w w' := by
  have := spec_l05Take g s p bad n w hs hp.1 hp.2 hn.1 hn.2 hR
  rw [h.out] at this
  exact this
theorem svarH (g : Nat) (s : ByteArray) (p : Int) (bad : Bool) (n : Int) (p' : Int) (bad' : Bool) (w : World) (h : Hid (rdNum s p bad = (n, p', bad'))) (hs : s.size ≤ 1099511627776) (hR : Rd 101 g s p bad w) :
    Calls Try.prog 63 #[.pointer (some ⟨g, 0, none⟩)] w fun e w' => e = .returned (.int .i64 n) ∧ Rd 101 g s p' bad' w' ∧ Upd g w w' := by
  have := spec_l05Var g s p bad w hs hR
  rw [h.out] at this
  exact this
theorem sshortH (g : Nat) (s : ByteArray) (p : Int) (bad : Bool) (t : ByteArray) (p' : Int) (bad' : Bool) (w : World) (h : Hid (rdShort s p bad = (t, p', bad'))) (hs : s.size ≤ 1099511627776) (hp : 0 ≤ p ∧ p ≤ s.size) (hR : Rd 101 g s p bad w) :
    Calls Try.prog 65 #[.pointer (some ⟨g, 0, none⟩)] w fun e w' => e = .returned (.string t) ∧ Rd 101 g s p' bad' w' ∧ Upd g w w' := by
  have := spec_l05ReadShort g s p bad w hs hp.1 hp.2 hR
  rw [h.out] at this
  exact this
theorem spec_EntryTextH (i t k : Int) (d : ByteArray) (T : ByteArray) (q : Bool) (w : World) (h : Hid (entryT i t k d = T)) (h2 : Hid (entryOkI i t k d = q)) (hd : d.size ≤ 1099511627776) :
    Calls Try.prog 113 #[.int .i64 i, .agg #[.int .i64 t, .int .i64 k, .string d]] w fun e w' => e = .returned (.tuple #[.string T, .bool q]) ∧ Below w.heap.size w w' := by
  have := spec_EntryText i t k d w hd
  rw [h.out, h2.out] at this
  exact this
/-- What ReadEntry hands back. -/
def rentW (b : Bool) (ix t k : Int) (d : ByteArray) : Value := if b then .tuple #[.int .i64 ix, .agg #[.int .i64 t, .int .i64 k, .string d], .bool true] else .tuple #[.int .i64 0, .agg #[.int .i64 0, .int .i64 0, .string ⟨#[]⟩], .bool false]

set_option maxHeartbeats 4000000 in
set_option maxRecDepth 100000 in
theorem spec_ReadEntry (s : ByteArray) (hs : s.size ≤ 1048576) (t1 k4 d T : ByteArray) (ix t k p1 p2 p3 p4 : Int) (q1 q2 q3 q4 ok sm : Bool) (w : World)
    (h1 : Hid (rdTake s 0 false 1 = (t1, p1, q1))) (h2 : Hid (rdNum s p1 q1 = (ix, p2, q2))) (h3 : Hid (rdNum s p2 q2 = (t, p3, q3))) (h4 : Hid (rdTake s p3 q3 1 = (k4, p4, q4))) (h5 : Hid (s.extract p4.toNat s.size = d))
    (hk : Hid (bt k4 0 = k)) (HT : Hid (entryT ix t k d = T)) (HO : Hid (entryOkI ix t k d = ok)) (HS : (T.toList == s.toList) = sm) :
    Calls Try.prog 64 #[.string s] w fun e w' => e = .returned (rentW (!q4 && (ok && sm)) ix t k d) ∧ Below w.heap.size w w' := by
  have g0 : 0 ≤ (0 : Int) ∧ (0 : Int) ≤ s.size := by omega
  have g1 := take_r h1.out (by omega) g0
  have g2 := num_r h2.out ⟨g1.1, g1.2.1⟩
  have g3 := num_r h3.out ⟨g2.1, g2.2.1⟩
  have g4 := take_r h4.out (by omega) ⟨g3.1, g3.2.1⟩
  have hs1 : s.size ≤ 1099511627776 := by omega
  have hd : d.size ≤ 1099511627776 := by rw [← h5.out, ByteArray.size_extract]; omega
  go_enter Try.func64, Try.ntmps64
  go_wp2_with fail
  refine calls_at' (fun W => Blk 105 w.heap.size #[.int .i64 0, .int .i64 0, .string ⟨#[]⟩] W ∧ Rd 101 (w.heap.size + 1) s 0 false W ∧ Below w.heap.size w W) ⟨(Blk.new _ _ w).alloc _, by have := Rd.new 101 s 0 false (w.alloc (.cells #[.int .i64 0, .int .i64 0, .string ⟨#[]⟩] 105)); simpa using this, (by repeat (first | exact Below.refl _ _ | apply bl_alloc | apply bl_drewN | apply bl_drew | refine bl_set ?_ (by simp) | refine bl_then ?_ (by assumption)))⟩ ?_
  rintro W0 ⟨k3, R0, B0⟩
  refine (stakeH _ _ _ _ _ _ _ _ _ h1 hs1 g0 (by omega) R0).mono ?_
  rintro e W1 ⟨rfl, R1, U1⟩
  replace k3 := k3.upd U1 (by omega)
  have B1 := U1.below B0 (by omega)
  clear R0 U1 B0 W0
  go_wp2_with fail
  refine (svarH _ _ _ _ _ _ _ _ h2 hs1 R1).mono ?_
  rintro e W2 ⟨rfl, R2, U2⟩
  replace k3 := k3.upd U2 (by omega)
  have B2 := U2.below B1 (by omega)
  have l2 := R2.lt
  clear R1 U2 B1 W1
  go_wp2_with fail
  obtain ⟨b8, hb8⟩ : ∃ b8, b8 = W2.heap.size := ⟨_, rfl⟩
  refine calls_at' (fun W => Blk 105 w.heap.size #[.int .i64 0, .int .i64 0, .string ⟨#[]⟩] W ∧ Rd 101 (w.heap.size + 1) s p2 q2 W ∧ Below w.heap.size w W ∧ Blk 105 b8 #[.int .i64 0, .int .i64 0, .string ⟨#[]⟩] W) ⟨k3.alloc _, R2.below (bl_alloc (Below.refl _ _) _), bl_alloc B2 _, Blk.newE _ _ W2 hb8⟩ ?_
  try rw [← hb8]
  have n8 : w.heap.size + 1 < b8 := by omega
  clear hb8 k3 R2 B2 l2 W2
  rintro W3 ⟨k3, R3, B3, k8⟩
  refine (svarH _ _ _ _ _ _ _ _ h3 hs1 R3).mono ?_
  rintro e W4 ⟨rfl, R4, U4⟩
  replace k3 := k3.upd U4 (by omega)
  replace k8 := k8.upd U4 (by omega)
  have B4 := U4.below B3 (by omega)
  clear R3 U4 B3 W3
  have c80 := k8.cell 0 rfl
  have f80 := k8.free 0
  have l8 := k8.lt
  go_wp2_with fail
  refine calls_at' (fun W => Blk 105 w.heap.size #[.int .i64 0, .int .i64 0, .string ⟨#[]⟩] W ∧ Rd 101 (w.heap.size + 1) s p3 q3 W ∧ Below w.heap.size w W ∧ Blk 105 b8 #[.int .i64 t, .int .i64 0, .string ⟨#[]⟩] W) ⟨k3.far (by show w.heap.size ≠ b8; omega) _, R4.far (by show w.heap.size + 1 ≠ b8; omega) _, bl_set B4 (by show w.heap.size ≤ b8; omega), k8.set 0 _ rfl⟩ ?_
  clear c80 f80 l8 k3 R4 B4 k8 W4
  rintro W5 ⟨k3, R5, B5, k8⟩
  refine (stakeH _ _ _ _ _ _ _ _ _ h4 hs1 ⟨g3.1, g3.2.1⟩ (by omega) R5).mono ?_
  rintro e W6 ⟨rfl, R6, U6⟩
  replace k3 := k3.upd U6 (by omega)
  replace k8 := k8.upd U6 (by omega)
  have B6 := U6.below B5 (by omega)
  clear R5 U6 B5 W5
  obtain ⟨r0, r1, r2, rf⟩ := R6.cells
  have rl := R6.lt
  have x0 := k3.cell 0 rfl
  have x1 := k3.cell 1 rfl
  have x2 := k3.cell 2 rfl
  have y0 := k3.free 0
  have y1 := k3.free 1
  have y2 := k3.free 2
  have l3 := k3.lt
  rcases q4 with _ | _
  · have hkz := take_size h4.out (by omega) ⟨g3.1, g3.2.1⟩
    have c80 := k8.cell 0 rfl
    have c81 := k8.cell 1 rfl
    have c82 := k8.cell 2 rfl
    have f81 := k8.free 1
    have f82 := k8.free 2
    have l8 := k8.lt
    have n38 : w.heap.size ≠ b8 := by omega
    have n48 : w.heap.size + 1 ≠ b8 := by omega
    have hr := bt_range k4 0
    rw [hk.out] at hr
    have hkb : ∀ h : 0 < k4.size, wrap64 ((k4[0]'h).toNat : Int) = k := fun h => by
      have e := hk.out
      unfold bt at e
      rw [dif_pos (by simpa using h)] at e
      have e2 : ((k4[0]'h).toNat : Int) = k := by simpa using e
      rw [e2]
      unfold wrap64
      omega
    have hd5 := h5.out
    go_wp2_with fail
    refine calls_at' (fun W => Blk 105 w.heap.size #[.int .i64 0, .int .i64 0, .string ⟨#[]⟩] W ∧ Below w.heap.size w W ∧ Blk 105 b8 #[.int .i64 t, .int .i64 k, .string d] W) ⟨(k3.far (a := ⟨b8, 1, none⟩) (by show w.heap.size ≠ b8; omega) _).far (a := ⟨b8, 2, none⟩) (by show w.heap.size ≠ b8; omega) _, bl_set (bl_set B6 (by show w.heap.size ≤ b8; omega)) (by show w.heap.size ≤ b8; omega), (k8.set 1 _ rfl).set 2 _ rfl⟩ ?_
    clear r0 r1 r2 rf rl x0 x1 x2 y0 y1 y2 l3 c80 c81 c82 f81 f82 l8 hkb hd5 k3 k8 B6 R6 W6
    rintro W7 ⟨k3, B7, k8⟩
    refine (spec_EntryTextH _ _ _ _ _ _ _ HT HO hd).mono ?_
    rintro e W8 ⟨rfl, hb⟩
    replace k3 := k3.below hb
    replace k8 := k8.below hb
    have B8 := bl_then B7 hb
    clear B7 hb W7
    have x0 := k3.cell 0 rfl
    have x1 := k3.cell 1 rfl
    have x2 := k3.cell 2 rfl
    have y0 := k3.free 0
    have y1 := k3.free 1
    have y2 := k3.free 2
    have l3 := k3.lt
    have c80 := k8.cell 0 rfl
    have c81 := k8.cell 1 rfl
    have c82 := k8.cell 2 rfl
    have l8 := k8.lt
    cases ok with
    | false =>
      go_wp2_with fail
      refine bodyPost_ret (v := .tuple #[.int .i64 0, .agg #[.int .i64 0, .int .i64 0, .string ⟨#[]⟩], .bool false]) ?_ rfl ⟨rfl, ?_⟩
      · simp only [results, Try.results64]
        go_simp
      · exact bl_set (bl_set (bl_set B8 (Nat.le_refl _)) (Nat.le_refl _)) (Nat.le_refl _)
    | true =>
      cases sm with
      | false =>
        go_wp2_with fail
        refine bodyPost_ret (v := .tuple #[.int .i64 0, .agg #[.int .i64 0, .int .i64 0, .string ⟨#[]⟩], .bool false]) ?_ rfl ⟨rfl, ?_⟩
        · simp only [results, Try.results64]
          go_simp
        · exact bl_set (bl_set (bl_set B8 (Nat.le_refl _)) (Nat.le_refl _)) (Nat.le_refl _)
      | true =>
        go_wp2_with fail
        go_region
        all_goals go_wp2_with fail
        all_goals refine bodyPost_ret (v := .tuple #[.int .i64 ix, .agg #[.int .i64 t, .int .i64 k, .string d], .bool true]) ?_ rfl ⟨rfl, ?_⟩
        rotate_left
        · repeat (first | exact B8 | apply bl_drew | apply bl_drewN | refine bl_set ?_ (Nat.le_refl _))
        simp only [results, Try.results64]
        go_simp
  · go_wp2_with fail
    refine bodyPost_ret (v := .tuple #[.int .i64 0, .agg #[.int .i64 0, .int .i64 0, .string ⟨#[]⟩], .bool false]) ?_ rfl ⟨rfl, ?_⟩
    · simp only [results, Try.results64]
      go_simp
    · first | exact bl_set (bl_set (bl_set B6 (Nat.le_refl _)) (Nat.le_refl _)) (Nat.le_refl _) | exact B6
end Go.Proofs.Ytofikijbmgejkaa
end

/-! ### YtofikijbmgejkaaEncS -/
section
namespace Go.Proofs.Ytofikijbmgejkaa
open Go.RowKit Go.Proofs.YtofikijbmgejkaaW.PrintWords PFnExactDecode
set_option linter.unusedSimpArgs false
set_option linter.unusedVariables false

/-- A text made from a new block of three bytes. -/
theorem conv_new3 {P : Program} {src e dst T : TypeId} (hs : P.underlying src = some (.slice e)) (he : P.underlying e = some (.int .u8)) (hd : P.underlying dst = some .string) {w : World} {b : Nat} {x y z : Int}
    (h : w.heap[b]? = some (.cells #[.int .u8 x, .int .u8 y, .int .u8 z] T (0, 0))) : (convert src dst (.slice (some ⟨b, 0, none⟩) 3 3)).run P w = .ok (.string (strOfNums [x, y, z])) w := by
  refine run_convert_bytes_arg w src e hs he b 0 3 3 [x, y, z] rfl (fun i hi => ?_) dst hd
  have : i = 0 ∨ i = 1 ∨ i = 2 := by omega
  rcases this with rfl | rfl | rfl <;> simp [World.cell?, h]

attribute [local go_sem] flowUpon ByteArray.size_append
set_option maxHeartbeats 1000000 in
set_option maxRecDepth 100000 in
theorem spec_Enc_no (es : List S105) (hS : Short es) (a0 a1 a2 a3 a4 a5 a6 : Int) (a7 : Bool) (cf : List Int) (d : ByteArray) (ls : Bool) (hl : es.length ≤ 1048576) (hcf : cf.length ≤ 1048576) (A8 : Option Addr) (c8 : Nat) (A9 : Option Addr) (c9 : Nat) (w : World)
    (hr8 : Kd.C k105 w A8 es.length es) (hc8 : es.length ≤ c8) (hr9 : Kd.C (Kd.int .i64) w A9 cf.length cf) (hc9 : cf.length ≤ c9) (HB : Hid (msgB a0 a1 a2 a3 a4 a5 a6 es cf d ls = false)) :
    Calls Try.prog 67 #[.agg #[.int .i64 a0, .int .i64 a1, .int .i64 a2, .int .i64 a3, .int .i64 a4, .int .i64 a5, .int .i64 a6, .bool a7, .slice A8 es.length c8, .slice A9 cf.length c9, .string d, .bool ls]] w fun e w' => e = .returned (.tuple #[.string ⟨#[]⟩, .bool false]) ∧ Below w.heap.size w w' := by
  have HR8 := Lib.hid hr8
  have HR9 := Lib.hid hr9
  clear hr8 hr9
  go_enter Try.func67, Try.ntmps67
  go_wp2_with (first | (go_at_call 114; refine (spec_MsgH es hS _ _ _ _ _ _ _ _ cf _ _ hl hcf _ _ _ _ _ (Kd.C_below HR8.out (by repeat (first | exact Below.refl _ _ | apply bl_alloc | apply bl_drewN | apply bl_drew | refine bl_set ?_ (by simp) | refine bl_then ?_ (by assumption)))) hc8 (Kd.C_below HR9.out (by repeat (first | exact Below.refl _ _ | apply bl_alloc | apply bl_drewN | apply bl_drew | refine bl_set ?_ (by simp) | refine bl_then ?_ (by assumption)))) hc9 false HB).mono ?_; rintro e w1 ⟨rfl, hb1⟩))
  go_ret2
  exact ⟨rfl, (by repeat (first | exact Below.refl _ _ | apply bl_alloc | apply bl_drewN | apply bl_drew | refine bl_set ?_ (by simp) | refine bl_then ?_ (by assumption)))⟩

set_option maxHeartbeats 4000000 in
set_option maxRecDepth 100000 in
theorem spec_Enc_yes (es : List S105) (hS : Short es) (a0 a1 a2 a3 a4 a5 a6 : Int) (a7 : Bool) (cf : List Int) (d : ByteArray) (ls : Bool) (hl : es.length ≤ 1048576) (hcf : cf.length ≤ 1048576) (A8 : Option Addr) (c8 : Nat) (A9 : Option Addr) (c9 : Nat) (w : World)
    (hr8 : Kd.C k105 w A8 es.length es) (hc8 : es.length ≤ c8) (hr9 : Kd.C (Kd.int .i64) w A9 cf.length cf) (hc9 : cf.length ≤ c9) (HB : Hid (msgB a0 a1 a2 a3 a4 a5 a6 es cf d ls = true)) :
    Calls Try.prog 67 #[.agg #[.int .i64 a0, .int .i64 a1, .int .i64 a2, .int .i64 a3, .int .i64 a4, .int .i64 a5, .int .i64 a6, .bool a7, .slice A8 es.length c8, .slice A9 cf.length c9, .string d, .bool ls]] w fun e w' => e = .returned (.tuple #[.string (encS a0 a1 a2 a3 a4 a5 a6 a7 es cf d ls), .bool true]) ∧ Below w.heap.size w w' := by
  obtain ⟨⟨b3, b3'⟩, ⟨b4, b4'⟩, ⟨b5, b5'⟩, ⟨b6, b6'⟩, b8, b9, b10⟩ := msgB_facts HB.out
  have HR8 := Lib.hid hr8
  have HR9 := Lib.hid hr9
  clear hr8 hr9
  have s0 := str3_size (a0 % 256) (a1 % 256) (a2 % 256)
  have s2 := str2_size (flagN a7 % 256) (flagN ls % 256)
  have s3 := varS_size a3 (by omega) (by omega)
  have s4 := varS_size a4 (by omega) (by omega)
  have s5 := varS_size a5 (by omega) (by omega)
  have s6 := varS_size a6 (by omega) (by omega)
  have s7 := byteS_size (flagN a7)
  have s11 := byteS_size (flagN ls)
  have s8 := varS_size es.length (by omega) (by omega)
  go_enter Try.func67, Try.ntmps67
  go_wp2_with fail
  obtain ⟨X, hX⟩ : ∃ X, X = w.alloc (.cells #[.int .i64 a0, .int .i64 a1, .int .i64 a2, .int .i64 a3, .int .i64 a4, .int .i64 a5, .int .i64 a6, .bool a7, .slice A8 es.length c8, .slice A9 cf.length c9, .string d, .bool ls] 57) := ⟨_, rfl⟩
  have KA : Blk 57 w.heap.size #[.int .i64 a0, .int .i64 a1, .int .i64 a2, .int .i64 a3, .int .i64 a4, .int .i64 a5, .int .i64 a6, .bool a7, .slice A8 es.length c8, .slice A9 cf.length c9, .string d, .bool ls] X := by rw [hX]; exact Blk.new _ _ w
  have HX : Below w.heap.size w X := by rw [hX]; exact (by repeat (first | exact Below.refl _ _ | apply bl_alloc | apply bl_drewN | apply bl_drew | refine bl_set ?_ (by simp) | refine bl_then ?_ (by assumption)))
  rw [← hX]
  clear hX
  go_at_call 114
  refine (spec_MsgH es hS _ _ _ _ _ _ _ _ cf _ _ hl hcf _ _ _ _ _ (Kd.C_below HR8.out HX) hc8 (Kd.C_below HR9.out HX) hc9 true HB).mono ?_
  rintro e w1 ⟨rfl, hb1⟩
  have HW1 := bl_then HX hb1
  have K1 := KA.below hb1
  clear hb1 KA HX
  go_wp2_with fail

  have k0 := K1.cell 0 rfl
  have k1 := K1.cell 1 rfl
  have k2 := K1.cell 2 rfl
  have k3 := K1.cell 3 rfl
  have k4 := K1.cell 4 rfl
  have k5 := K1.cell 5 rfl
  have k6 := K1.cell 6 rfl
  have k7 := K1.cell 7 rfl
  have k8 := K1.cell 8 rfl
  have k9 := K1.cell 9 rfl
  have k10 := K1.cell 10 rfl
  have k11 := K1.cell 11 rfl
  have la := K1.lt
  refine wp_region_flow [1] 87 (by kernel_rfl) (by rfl) (by kernel_rfl) (by kernel_rfl) (by kernel_rfl) ?_
  iterate 9 (refine flow_valE ?_; apply Exists.intro; refine ⟨fun A wq hBq hbq hdq => ?_, ?_⟩; focus (obtain ⟨hcq, hfq⟩ := bcell hBq; (try simp [go_sem, baseF, deps, dep1, Region.binds] at hbq); (try simp [go_sem, baseF, deps, dep1, Region.binds, NewSl] at hdq); go_simp; first | exact ⟨Below.refl _ _, rfl⟩ | (rw [if_neg]; (focus (exact ⟨Below.refl _ _, rfl⟩)); (focus ((try simp only [ByteArray.size_append]); omega))) | (fail)))
  (refine flow_newSlE ?_; apply Exists.intro; apply Exists.intro; apply Exists.intro; refine ⟨fun A wq hBq hbq hdq => ?_, ?_⟩; focus (obtain ⟨hcq, hfq⟩ := bcell hBq; (try simp [go_sem, baseF, deps, dep1, Region.binds] at hbq); (try simp [go_sem, baseF, deps, dep1, Region.binds, NewSl] at hdq); go_simp; exact ⟨rfl, rfl⟩))
  refine flow_val (.string (strOfNums [a0 % 256, a1 % 256, a2 % 256])) (fun A wq hBq hbq hdq => ?_) ?_
  · (try simp [go_sem, baseF, deps, dep1, Region.binds] at hbq)
    (try simp [go_sem, baseF, deps, dep1, Region.binds, NewSl] at hdq)
    go_simp
    obtain ⟨g, h1, h2, h3⟩ := hdq
    rw [h1, conv_new3 Try.underlying150 Try.underlying5 Try.underlying9 h3]
    exact ⟨Below.refl _ _, by rw [IntKind.wrap_u8, IntKind.wrap_u8, IntKind.wrap_u8]⟩
  iterate 16 (refine flow_valE ?_; apply Exists.intro; refine ⟨fun A wq hBq hbq hdq => ?_, ?_⟩; focus (obtain ⟨hcq, hfq⟩ := bcell hBq; (try simp [go_sem, baseF, deps, dep1, Region.binds] at hbq); (try simp [go_sem, baseF, deps, dep1, Region.binds, NewSl] at hdq); go_simp; first | exact ⟨Below.refl _ _, rfl⟩ | (rw [if_neg]; (focus (exact ⟨Below.refl _ _, rfl⟩)); (focus ((try simp only [ByteArray.size_append]); omega))) | (first | (go_at_call 115; exact (spec_l01Var _ _ (by omega) (by omega))))))
  iterate 8 (refine flow_valE ?_; apply Exists.intro; refine ⟨fun A wq hBq hbq hdq => ?_, ?_⟩; focus (obtain ⟨hcq, hfq⟩ := bcell hBq; (try simp [go_sem, baseF, deps, dep1, Region.binds] at hbq); (try simp [go_sem, baseF, deps, dep1, Region.binds, NewSl] at hdq); go_simp; first | exact ⟨Below.refl _ _, rfl⟩ | (rw [if_neg]; (focus (exact ⟨Below.refl _ _, rfl⟩)); (focus ((try simp only [ByteArray.size_append]); omega))) | (first | (go_at_call 116; exact (spec_flagH _ _)))))
  iterate 6 (refine flow_valE ?_; apply Exists.intro; refine ⟨fun A wq hBq hbq hdq => ?_, ?_⟩; focus (obtain ⟨hcq, hfq⟩ := bcell hBq; (try simp [go_sem, baseF, deps, dep1, Region.binds] at hbq); (try simp [go_sem, baseF, deps, dep1, Region.binds, NewSl] at hdq); go_simp; first | exact ⟨Below.refl _ _, rfl⟩ | (rw [if_neg]; (focus (exact ⟨Below.refl _ _, rfl⟩)); (focus ((try simp only [ByteArray.size_append]); omega))) | (first | (go_at_call 115; exact (spec_l01Var _ _ (by omega) (by omega))))))
  refine fun x w2 hb2 hall => ?_
  simp only [allT] at hall
  simp [frameOf, Act.put, hall]
  clear hall
  go_wp2_with fail
  have K2 := K1.below hb2
  have HW2 := bl_then HW1 hb2
  clear hb2 K1 la k0 k1 k2 k3 k4 k5 k6 k7 k8 k9 k10 k11 HW1
  obtain ⟨r, hr⟩ : ∃ r, Hid (entsS es 0 es.length (headS a0 a1 a2 a3 a4 a5 a6 a7 ls es.length) = r) := ⟨_, Lib.hid rfl⟩
  have hrz := entsS_size es es.length 0 (headS a0 a1 a2 a3 a4 a5 a6 a7 ls es.length)
  have hhz : (headS a0 a1 a2 a3 a4 a5 a6 a7 ls es.length).size ≤ 30 := by unfold headS; simp only [ByteArray.size_append]; omega
  rw [hr.out] at hrz
  clear s0 s2 s3 s4 s5 s6 s7 s8 s11
  go_loopg [4, 5] es.length (fun kq v4 v5 w' => ∃ (i : Nat) (s : ByteArray), v4 = .string s ∧ v5 = .int .i64 (i : Int) ∧ i + kq = es.length ∧ s.size ≤ 30 + 137 * i ∧ Hid (entsS es i kq s = r) ∧ Below w2.heap.size w2 w')
  case atStart => exact ⟨0, _, rfl, rfl, by omega, hhz, hr, Below.refl _ _⟩
  case round =>
    obtain ⟨i, s, rfl, rfl, hik, hsz, hix, hb⟩ := hrel
    have KW := K2.below hb
    have k8 := KW.cell 8 rfl
    have k9 := KW.cell 9 rfl
    have k10 := KW.cell 10 rfl
    have la := KW.lt
    cases gk with
    | zero =>
      have hlt : ¬ ((i : Int) < (es.length : Int)) := by omega
      have hrv := hix.out
      simp only [entsS] at hrv
      subst hrv
      clear hix
      go_wp2_with fail
      go_at_call 118
      refine (spec_ConfTextH _ _ cf _ (Kd.C_below HR9.out (bl_then HW2 hb)) hc9 hcf b9).mono ?_
      rintro e w3 ⟨⟨bq, rfl⟩, hb3⟩
      have K3 := KW.below hb3
      have HW3 := bl_then HW2 (bl_then hb hb3)
      clear hb hb3 KW K2 HW2 k8 k9 k10 la
      have k10 := K3.cell 10 rfl
      have la := K3.lt
      have cz := confT_size cf
      have cz1 := shortS_size (confT cf) (by omega)
      have cz2 := shortS_size d (by omega)
      have cl : cf.length ≤ 4 := by rcases b9 with h | h; exact (confOk_short h).2; omega
      go_wp2_with fail
      refine wp_region_flow [4, 8, 1] 87 (by kernel_rfl) (by rfl) (by kernel_rfl) (by kernel_rfl) (by kernel_rfl) ?_
      iterate 10 (refine flow_valE ?_; apply Exists.intro; refine ⟨fun A wq hBq hbq hdq => ?_, ?_⟩; focus (obtain ⟨hcq, hfq⟩ := bcell hBq; (try simp [go_sem, baseF, deps, dep1, Region.binds] at hbq); (try simp [go_sem, baseF, deps, dep1, Region.binds, NewSl] at hdq); go_simp; first | exact ⟨Below.refl _ _, rfl⟩ | (rw [if_neg]; (focus (exact ⟨Below.refl _ _, rfl⟩)); (focus ((try simp only [ByteArray.size_append]); omega))) | (first | (go_at_call 117; exact (spec_l05Short _ _ (by omega))))))
      refine fun x w4 hb4 hall => ?_
      simp only [allT] at hall
      simp [frameOf, Act.put, hall]
      clear hall
      go_wp2
      go_ret2
      refine ⟨?_, bl_then HW3 hb4⟩
      rw [encS, hr.out]
      rfl
    | succ n =>
      have hlt : (i : Int) < (es.length : Int) := by omega
      obtain ⟨ad, e1, x0, x1, x2⟩ := at_T105 (Kd.C_below HR8.out (bl_then HW2 hb)) i (by omega) hlt
      subst e1
      simp only [Int.toNat_natCast] at x0 x1 x2
      have lx : (ad.add (i * 3)).block < wr.heap.size := World.block_lt_of_cell? wr _ x0
      have E1 := Lib.hid (show wrap64 ((i : Int) + 1) = ((i + 1 : Nat) : Int) from by unfold wrap64; omega)
      have hrv := hix.out
      simp only [entsS] at hrv
      have hix2 := Lib.hid hrv
      clear hrv hix
      have hSi := hS i
      have hze : (shortS (entryT 1 (rd_T105 es (i : Int)).f0 (rd_T105 es (i : Int)).f1 (rd_T105 es (i : Int)).f2)).size ≤ 137 := entS_size es i
      have hzt := entryT_size 1 (rd_T105 es (i : Int)).f0 (rd_T105 es (i : Int)).f1 (rd_T105 es (i : Int)).f2
      go_wp2_with fail
      go_at_call 113
      with_reducible refine (spec_EntryText 1 _ _ _ _ (by omega)).mono ?_
      rintro e w3 ⟨rfl, hb3⟩
      have hb4 := bl_then hb hb3
      clear hb hb3 KW k8 k9 k10 la x0 x1 x2 lx
      go_wp2_with fail
      go_at_call 117
      refine (spec_l05Short _ _ (by omega)).mono ?_
      rintro e w5 ⟨rfl, hb5⟩
      have hb6 := bl_then hb4 hb5
      clear hb4 hb5
      go_wp2_with fail
      go_roundg n
      case measure => omega
      case rel => exact ⟨i + 1, _, rfl, by first | rfl | (rw [E1.out]), by omega, by simp only [ByteArray.size_append]; omega, hix2, hb6⟩

end Go.Proofs.Ytofikijbmgejkaa
end

/-! ### YtofikijbmgejkaaFlowW -/
section
namespace Go.Proofs.Ytofikijbmgejkaa
open Go.RowKit
set_option linter.unusedVariables false
set_option linter.unusedSimpArgs false

/-! The flow rule where a tmp that is read from before may be written by an operation that waits for all others. (own) -/
section
variable {P : Program}
def lastW (l : List Oper) (t : Nat) : Bool := (List.range l.length).all fun j => match l[j]? with
  | some o => o.dst != some t || (List.range l.length).all fun i => i == j || o.after.toList.any fun e => e.on == i && Region.binds .any e
  | none => true
theorem lastW_spec {l : List Oper} {t : Nat} (h : lastW l t = true) (j : Nat) (o : Oper) (hj : l[j]? = some o) (hd : o.dst = some t) (i : Nat) (hi : i < l.length) (hij : i ≠ j) : ∃ e ∈ o.after.toList, e.on = i ∧ Region.binds .any e = true := by
  have hjl : j < l.length := (List.getElem?_eq_some_iff.1 hj).1
  have h1 := List.all_eq_true.1 h j (List.mem_range.2 hjl)
  rw [hj] at h1
  simp only [hd, bne_self_eq_false, Bool.false_or] at h1
  have h2 := List.all_eq_true.1 h1 i (List.mem_range.2 hi)
  simp only [Bool.or_eq_true, beq_iff_eq, hij, false_or, List.any_eq_true, Bool.and_eq_true] at h2
  obtain ⟨e, he, h3, h4⟩ := h2
  exact ⟨e, he, h3, h4⟩
theorem getD_ft {l : Array Bool} {i : Nat} (h : i < l.size) : l.getD i false = l.getD i true := by simp [Array.getD_eq_getD_getElem?, h]
theorem getD_set_self {l : Array Bool} {i : Nat} (h : i < l.size) : (l.setIfInBounds i true).getD i false = true := by simp [Array.getD_eq_getD_getElem?, h]
theorem getD_set_mono {l : Array Bool} {i j : Nat} (h : l.getD j false = true) : (l.setIfInBounds i true).getD j false = true := by
  by_cases hij : i = j
  · subst hij
    refine getD_set_self ?_
    rcases Nat.lt_or_ge i l.size with h1 | h1
    · exact h1
    · simp [Array.getD_eq_getD_getElem?, Array.getElem?_eq_none h1] at h
  · rw [getD_set_ne false hij]; exact h

theorem wp_region_flowW {id : Nat} {Q : Exit → Act → World → Prop} {a : Act} {w : World} {l : List Oper} (bs : List Nat) (n : Nat) (hm : P.follows .mixedOrders = true) (hn : a.tmps.size = n)
    (hB : flowB n l = true) (hO : flowO l 0 = true) (hbs : bs.all (lastW l) = true) (h : Flow P w a bs Q l l 0 []) : (Code.region id l.toArray true).wp P Q a w := by
  obtain ⟨T, -, -, hlen, hobl, hfin⟩ := flow_table l 0 [] (by simp) h
  subst hn
  refine wp_region_any hm ?_
  refine wpAny_inv (fun listed A w' => listed.size = l.length ∧ Below w.heap.size w w' ∧ A.defers = a.defers ∧ A.tmps.size = a.tmps.size ∧ (∀ t, a.tmps[t]? ≠ A.tmps[t]? → ∃ (i : Nat) (o : Oper), l[i]? = some o ∧ o.dst = some t ∧ listed.getD i false = true) ∧
      (∀ (j : Nat) (o : Oper), l[j]? = some o → listed.getD j false = true → ∀ e ∈ o.after.toList, Region.binds .any e = true → listed.getD e.on false = true) ∧
      (∀ i d R, (i, d, R) ∈ T → listed.getD i false = true → R w' (A.eval (.tmp d)))) ?_ ?_ (fun listed => unl listed.toList) ?_ _ _ _ _ ?_ ?_
  · rintro listed A w' i ⟨hsz, hbel, hdef, hts, hdiff, hcl, hall⟩ hi
    obtain ⟨hun, o, ho, haft⟩ := mem_ready.1 hi
    have ho' : l[i]? = some o := by simpa using ho
    obtain ⟨hg, hd⟩ := flowB_spec hB i o ho'
    obtain ⟨R, hmono, huniq, hob⟩ := hobl i o ho'
    simp only [Nat.zero_add] at huniq
    unfold wpOp
    rw [ho]
    simp only [Region.wanted, hg, if_true]
    refine .inl (flow_upon (hob A w' hbel (baseF_of fun t ht => ?_) fun e he hb d R hmem => hall _ d R hmem (haft e (by simpa using he) hb)) fun v w2 hb2 hR => ?_)
    · have h1 := List.all_eq_true.1 hbs t ht
      have h3 : a.tmps[t]? = A.tmps[t]? := Classical.byContradiction fun hne => by
        obtain ⟨j, oj, hj, hdj, hlj⟩ := hdiff t hne
        have hil : i < l.length := (List.getElem?_eq_some_iff.1 ho').1
        have hij : i ≠ j := fun e => by
          subst e
          rw [getD_ft (by omega)] at hlj
          simp [hun] at hlj
        obtain ⟨e, he, heo, heb⟩ := lastW_spec h1 j oj hj hdj i hil hij
        have := hcl j oj hj hlj e he heb
        rw [heo, getD_ft (by omega)] at this
        simp [hun] at this
      simp only [Act.eval, Array.getD_eq_getD_getElem?, h3]
    · refine ⟨by simpa using hsz, hbel.trans ⟨hb2.os, hb2.tape, hb2.output, hb2.size, fun k hk => hb2.block k (Nat.lt_of_lt_of_le hk hbel.size)⟩, ?_, ?_, ?_, ?_, ?_⟩
      · rw [← hdef]; unfold Act.put; split <;> rfl
      · rw [← hts]; unfold Act.put; split <;> simp
      · intro t ht
        by_cases hdt : o.dst = some t
        · exact ⟨i, o, ho', hdt, getD_set_self (by have := (List.getElem?_eq_some_iff.1 ho').1; omega)⟩
        · refine (hdiff t fun he => ht ?_).imp fun j => Exists.imp fun oj h => ⟨h.1, h.2.1, getD_set_mono h.2.2⟩
          rw [he]
          unfold Act.put
          split
          · rename_i t' ht'
            have : t' ≠ t := fun e => hdt (by rw [ht', e])
            rw [Array.getElem?_setIfInBounds_ne this]
          · rfl
      · intro j oj hj hlj e he hb
        by_cases hij : i = j
        · subst hij
          obtain rfl : o = oj := by rw [ho'] at hj; exact Option.some.inj hj
          exact getD_set_mono (haft e (by simpa using he) hb)
        · rw [getD_set_ne false hij] at hlj
          exact getD_set_mono (hcl j oj hj hlj e he hb)
      · intro k d R' hmem hk
        by_cases hki : i = k
        · subst hki
          obtain ⟨hod, rfl⟩ := huniq d R' hmem
          rw [eval_put_eq hod (by rw [hts]; exact (hd d hod).1)]
          exact hR
        · have hk' : listed.getD k false = true := by rw [getD_set_ne false hki] at hk; exact hk
          have hold := hall k d R' hmem hk'
          have hkl : k < l.length := by simpa using hlen k d R' hmem
          have hko : l[k]? = some l[k] := by simp [hkl]
          obtain ⟨R2, hmono2, huniq2, -⟩ := hobl k l[k] hko
          simp only [Nat.zero_add] at huniq2
          obtain ⟨hod, rfl⟩ := huniq2 d R' hmem
          have hne : o.dst ≠ some d := fun hd0 => by
            rcases Nat.lt_or_gt_of_ne hki with h | h
            · exact (hd d hd0).2 k l[k] hko h hod
            · exact ((flowB_spec hB k l[k] hko).2 d hod).2 i o ho' h hd0
          rw [eval_put_ne hne]
          exact hmono2 _ _ _ hold hb2
  · rintro listed A w' ⟨hsz, hbel, hdef, hts, hdiff, hcl, hall⟩ hno
    have hdone : ∀ k, k < l.length → listed.getD k false = true := by
      intro k
      induction k using Nat.strongRecOn with
      | _ k ih =>
        intro hk
        refine Classical.byContradiction fun hf => hno k (mem_ready.2 ⟨?_, l[k], by simp [hk], fun e he hb => ?_⟩)
        · have hks : k < listed.size := by omega
          simp only [Array.getD_eq_getD_getElem?, Array.getElem?_eq_getElem hks, Option.getD_some] at hf ⊢
          simpa using hf
        · have hlt := flowO_spec hO k l[k] (by simp [hk]) e (by simpa using he) hb
          exact ih e.on (by omega) (by omega)
    have hx : frameOf (fun i => match (l[i]?).bind (·.dst) with | some d => A.eval (.tmp d) | none => undef) l 0 a = A := by
      refine frame_eq _ A l 0 a hdef hts (fun i o d hi hd hlt => ?_) (fun t ht => (hdiff t ht).imp fun j => Exists.imp fun oj h => ⟨h.1, h.2.1⟩)
      simp only [Nat.zero_add, hi, Option.bind_some, hd, Act.eval, Array.getD_eq_getD_getElem?]
      have : d < A.tmps.size := by rw [hts]; exact hlt
      simp [this]
    have := hfin (fun i => match (l[i]?).bind (·.dst) with | some d => A.eval (.tmp d) | none => undef) w' hbel (allT_of fun k d R hmem => by
      have hkl : k < l.length := by simpa using hlen k d R hmem
      have hko : l[k]? = some l[k] := by simp [hkl]
      obtain ⟨R2, -, huniq2, -⟩ := hobl k l[k] hko
      simp only [Nat.zero_add] at huniq2
      obtain ⟨hod, -⟩ := huniq2 d R hmem
      simp only [hko, Option.bind_some, hod]
      exact hall k d R hmem (hdone k hkl))
    rw [hx] at this
    exact this
  · rintro listed A w' i ⟨hsz, -⟩ hi
    obtain ⟨hun, o, ho, -⟩ := mem_ready.1 hi
    have hil : i < listed.size := by have := (Array.getElem?_eq_some_iff.1 ho).1; simp at this; omega
    simp only [Array.toList_setIfInBounds]
    refine unl_set _ _ ?_
    simp only [Array.getD_eq_getD_getElem?, Array.getElem?_eq_getElem hil, Option.getD_some] at hun
    simp [hil, hun]
  · simp [unl_rep]
  · exact ⟨by simp, ⟨rfl, rfl, rfl, Nat.le_refl _, fun _ _ => rfl⟩, rfl, rfl, fun t ht => absurd rfl ht, fun j o _ hl => by simp [Array.getD_eq_getD_getElem?, Array.getElem?_replicate] at hl; split at hl <;> simp at hl, fun i d R _ hl => by simp [Array.getD_eq_getD_getElem?, Array.getElem?_replicate] at hl; split at hl <;> simp at hl⟩

end
end Go.Proofs.Ytofikijbmgejkaa
end
