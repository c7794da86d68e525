import Derived.Test.YtmljihfaapoakaaSMessagesJ
import Derived.Test.YtmljihfaapoakaaSMessagesL
import Derived.Test.YtmljihfaapoakaaSMessagesA

section
namespace Go.Proofs.Ytmljihfaapoakaa
open Go.RowKit Go.Proofs.YtmljihfaapoakaaW.PrintWords PFnMessages
set_option linter.unusedSimpArgs false
set_option linter.unusedVariables false
theorem nums8_inj {a b : ByteArray} (h : nums8 a = nums8 b) : a = b := by
  apply ByteArray.ext
  apply Array.toList_inj.1
  unfold nums8 at h
  exact (List.map_inj_right (fun x y hxy => UInt8.toNat_inj.1 hxy)).1 h
theorem nums8_extract (s : ByteArray) (a b : Nat) : nums8 (s.extract a b) = ((nums8 s).drop a).take (b - a) := by
  simp [nums8, ByteArray.data_extract, List.map_take, List.map_drop]
def Tail (s : ByteArray) (p : Int) (L : List Nat) : Prop := ∃ pre : List Nat, nums8 s = pre ++ L ∧ p = pre.length
theorem Tail.start (s : ByteArray) : Tail s 0 (nums8 s) := ⟨[], rfl, rfl⟩
theorem Tail.num {s : ByteArray} {p n : Int} {L : List Nat} (h0 : 0 ≤ n) (h1 : n ≤ 1000000000) (h : Tail s p ((varN n.toNat).map Int.toNat ++ L)) : ∃ p', rdNum s p false = (n, p', false) ∧ Tail s p' L := by
  obtain ⟨pre, hs, hp⟩ := h
  exact ⟨_, rdNum_fwd (pre := pre) (post := L) h0 h1 (by rw [hs, List.append_assoc]) hp, pre ++ (varN n.toNat).map Int.toNat, by rw [hs, List.append_assoc], by simp⟩
theorem Tail.byte {s : ByteArray} {p : Int} {b : Nat} {L : List Nat} (h : Tail s p (b :: L)) : rdByte s p false = ((b : Int), p + 1, false) ∧ Tail s (p + 1) L := by
  obtain ⟨pre, hs, hp⟩ := h
  refine ⟨?_, pre ++ [b], by rw [hs]; simp, by rw [hp]; simp⟩
  rw [rdByte_fwd (pre := pre) (post := L) hs hp, hp]
  simp
theorem Tail.fin {s : ByteArray} {p : Int} (h : Tail s p []) : p = s.size := by
  obtain ⟨pre, hs, hp⟩ := h
  rw [hp, ← nums8_length, hs]
  simp
theorem Tail.take {s t : ByteArray} {p : Int} {L : List Nat} (h : Tail s p (nums8 t ++ L)) : s.extract p.toNat (p.toNat + t.size) = t ∧ (t.size : Int) ≤ s.size - p ∧ 0 ≤ p ∧ Tail s (p + t.size) L := by
  obtain ⟨pre, hs, hp⟩ := h
  subst hp
  have hz : s.size = pre.length + t.size + L.length := by
    rw [← nums8_length, hs]
    simp [nums8_length]
    omega
  refine ⟨?_, by omega, by omega, pre ++ nums8 t, by rw [hs]; simp, by simp [nums8_length]⟩
  apply nums8_inj
  rw [nums8_extract, hs, Int.toNat_natCast, List.drop_left, Nat.add_sub_cancel_left, ← nums8_length t, List.take_left]
theorem nums8_varS (n : Int) : nums8 (varS n) = (varN n.toNat).map Int.toNat := nums8_str _ (varN_range _)
theorem nums8_byteS (n : Int) : nums8 (byteS n) = [(n % 256).toNat] := by
  unfold byteS
  rw [nums8_str [n % 256] (by intro x hx; simp at hx; omega)]
  rfl
theorem rv_of_num {s : ByteArray} {p n p' : Int} (h : rdNum s p false = (n, p', false)) : ∃ a b : Nat, rv s p = some (a, b) ∧ n = a ∧ p' = b := by
  unfold rdNum at h
  rw [if_neg (by simp)] at h
  rcases hq : rv s p with _ | ⟨a, b⟩
  · rw [hq] at h; simp at h
  · rw [hq] at h
    simp at h
    exact ⟨a, b, rfl, h.1.symm, h.2.symm⟩
theorem Tail.text {s t : ByteArray} {p : Int} {L : List Nat} (ht : t.size ≤ 20000) (h : Tail s p (nums8 (shortS t) ++ L)) : ∃ p', rdText s p false = (t, p', false) ∧ Tail s p' L := by
  have e : nums8 (shortS t) = (varN (t.size : Int).toNat).map Int.toNat ++ nums8 t := by
    unfold shortS
    rw [nums8_append, nums8_varS]
  rw [e, List.append_assoc] at h
  obtain ⟨p1, h1, h2⟩ := h.num (by omega) (by omega)
  obtain ⟨a, b, hv, ha, hb⟩ := rv_of_num h1
  obtain ⟨h3, h4, h5, h6⟩ := h2.take
  subst hb
  have ha' : a = t.size := by omega
  subst ha'
  refine ⟨_, ?_, h6⟩
  unfold rdText rs
  rw [if_neg (by simp), hv]
  simp only
  rw [if_neg (by omega)]
  simp only [Int.toNat_natCast] at h3
  simp [h3]
theorem Tail.cut {s : ByteArray} {p p' : Int} {L : List Nat} (h : Tail s p L) (h1 : p ≤ p') (h2 : p' ≤ s.size) : ∃ L', L = nums8 (s.extract p.toNat p'.toNat) ++ L' ∧ Tail s p' L' := by
  obtain ⟨pre, hs, hp⟩ := h
  subst hp
  have hz : s.size = pre.length + L.length := by rw [← nums8_length, hs]; simp
  refine ⟨L.drop (p' - pre.length).toNat, ?_, pre ++ L.take (p' - pre.length).toNat, ?_, ?_⟩
  · rw [nums8_extract, hs, Int.toNat_natCast, List.drop_left, show p'.toNat - pre.length = (p' - pre.length).toNat from by omega, List.take_append_drop]
  · rw [List.append_assoc, List.take_append_drop]; exact hs
  · simp
    omega
theorem Tail.done {s : ByteArray} {L : List Nat} (h : Tail s s.size L) : L = [] := by
  obtain ⟨pre, hs, hp⟩ := h
  have hz : s.size = pre.length + L.length := by rw [← nums8_length, hs]; simp
  exact List.eq_nil_of_length_eq_zero (by omega)
def rentI (t : ByteArray) : Bool × Int × S43 :=
  let r1 := rdByte t 0 false
  let r2 := rdNum t r1.2.1 r1.2.2
  let r3 := rdNum t r2.2.1 r2.2.2
  let r4 := rdByte t r3.2.1 r3.2.2
  let d := t.extract r4.2.1.toNat t.size
  if (!r4.2.2 && (r1.1 == 69) && entryOk r3.1 r4.1 d && inB r2.1 1 1000000) = true then (true, r2.1, ⟨r3.1, r4.1, d⟩) else (false, 0, ⟨0, 0, ⟨#[]⟩⟩)
theorem rentI_fwd (i : Int) (e : S43) (h : entryOkI i e.f0 e.f1 e.f2 = true) : rentI (entryS i e.f0 e.f1 e.f2) = (true, i, e) := by
  unfold entryOkI at h
  simp only [Bool.and_eq_true] at h
  obtain ⟨p2, p3, p4, h1, h2, h3, h4, h5⟩ := entry_reads i e.f0 e.f1 e.f2 h.1 h.2
  unfold rentI
  simp only [h1, h2, h3, h4, h5, h.1, h.2]
  rfl
theorem rentI_inv {t : ByteArray} {i : Int} {e : S43} (h : rentI t = (true, i, e)) : entryOkI i e.f0 e.f1 e.f2 = true ∧ t = entryS i e.f0 e.f1 e.f2 := by
  unfold rentI at h
  rcases h1 : rdByte t 0 false with ⟨mk, p1, q1⟩
  rcases h2 : rdNum t p1 q1 with ⟨ix, p2, q2⟩
  rcases h3 : rdNum t p2 q2 with ⟨tm, p3, q3⟩
  rcases h4 : rdByte t p3 q3 with ⟨k, p4, q4⟩
  simp only [h1, h2, h3, h4] at h
  split at h
  · rename_i hc
    simp only [Prod.mk.injEq, true_and] at h
    obtain ⟨rfl, rfl⟩ := h
    simp only [Bool.and_eq_true, Bool.not_eq_true', beq_iff_eq] at hc
    obtain ⟨⟨⟨hq, hmk⟩, hok⟩, hin⟩ := hc
    subst hq
    subst hmk
    refine ⟨by unfold entryOkI; simp only [hok, hin, Bool.and_self], ?_⟩
    have r3 := rdNum_range t p2 q2
    obtain ⟨g0, g1, g2, g3, g4⟩ := (byte_bytes (p := p3) (by
      have a := rdByte_range t 0 false (by omega) (by omega)
      rw [h1] at a
      have b := rdNum_range t p1 q1 a.2.2.1 a.2.2.2
      rw [h2] at b
      have c := rdNum_range t p2 q2 b.2.2.1 b.2.2.2
      rw [h3] at c
      exact c.2.2.1) h4)
    subst g0
    obtain ⟨f0, f1, f2, f3, f4⟩ := num_bytes h3
    subst f0
    obtain ⟨e0, e1, e2, e3, e4⟩ := num_bytes h2
    subst e0
    obtain ⟨d0, d1, d2, d3, d4⟩ := byte_bytes (by omega) h1
    have hd4 : t.extract 0 p1.toNat = (⟨#[69]⟩ : ByteArray) := d4.trans (by decide +kernel)
    unfold entryS
    show t = (⟨#[69]⟩ : ByteArray) ++ varS ix ++ varS tm ++ byteS k ++ t.extract p4.toNat t.size
    rw [← hd4, ← e4, ← f4, ← g4, extract_join t 0 p1.toNat p2.toNat (by omega) (by omega), extract_join t 0 p2.toNat p3.toNat (by omega) (by omega), extract_join t 0 p3.toNat p4.toNat (by omega) (by omega), extract_join t 0 p4.toNat t.size (by omega) (by omega)]
    apply ByteArray.ext
    have : t.data.extract 0 t.data.size = t.data := by simp
    simp [ByteArray.data_extract]
  · simp at h
def entL (e : S43) : List Nat := nums8 (shortS (entryT 1 e.f0 e.f1 e.f2))
def entsL (es : List S43) : List Nat := es.flatMap entL
theorem entsS_nums (es : List S43) : ∀ (n i : Nat) (s : ByteArray), n + i = es.length → nums8 (entsS es i n s) = nums8 s ++ entsL (es.drop i)
  | 0, i, s, h => by
    rw [List.drop_of_length_le (by omega)]
    simp [entsS, entsL]
  | n + 1, i, s, h => by
    have hi : i < es.length := by omega
    unfold entsS
    have : rd_T43 es (i : Int) = es[i] := by simp [rd_T43, hi]
    rw [entsS_nums es n (i + 1) _ (by omega), nums8_append, List.drop_eq_getElem_cons hi]
    unfold entS entsL
    rw [this, List.flatMap_cons, List.append_assoc]
    rfl
def headL (a0 a1 a2 a3 a4 a5 a6 : Int) (a7 ls : Bool) (n : Nat) : List Nat :=
  [(a0 % 256).toNat, (a1 % 256).toNat, (a2 % 256).toNat] ++ ((varN a3.toNat).map Int.toNat ++ ((varN a4.toNat).map Int.toNat ++ ((varN a5.toNat).map Int.toNat ++ ((varN a6.toNat).map Int.toNat ++ ((flagN a7).toNat :: (flagN ls).toNat :: (varN n).map Int.toNat)))))
theorem encS_nums (a0 a1 a2 a3 a4 a5 a6 : Int) (a7 : Bool) (es : List S43) (cf : List Int) (d : ByteArray) (ls : Bool) :
    nums8 (encS a0 a1 a2 a3 a4 a5 a6 a7 es cf d ls) = headL a0 a1 a2 a3 a4 a5 a6 a7 ls es.length ++ (entsL es ++ (nums8 (shortS (confT cf)) ++ nums8 (shortS d))) := by
  have hf : ∀ b : Bool, nums8 (byteS (flagN b)) = [(flagN b).toNat] := fun b => by rw [nums8_byteS]; cases b <;> rfl
  have h3 : nums8 (strOfNums [a0 % 256, a1 % 256, a2 % 256]) = [(a0 % 256).toNat, (a1 % 256).toNat, (a2 % 256).toNat] := by
    rw [nums8_str _ (by intro x hx; simp at hx; omega)]
    rfl
  unfold encS
  rw [nums8_append, nums8_append, entsS_nums es es.length 0 _ (by omega), List.drop_zero]
  unfold headS headL
  rw [nums8_append, nums8_append, nums8_append, nums8_append, nums8_append, nums8_append, nums8_append, h3, hf, hf, nums8_varS, nums8_varS, nums8_varS, nums8_varS, nums8_varS, Int.toNat_natCast]
  simp
def iRun (s : ByteArray) : Nat → Int → Bool → List S43 → Int × Bool × List S43
  | 0, p, q, es => (p, q, es)
  | n + 1, p, q, es => iRun s n (rdText s p q).2.1 ((rdText s p q).2.2 || !(rentI (rdText s p q).1).1 || (rentI (rdText s p q).1).2.1 != 1) (es ++ [(rentI (rdText s p q).1).2.2])
theorem iRun_fwd (s : ByteArray) : ∀ (es : List S43) (L : List Nat) (p : Int) (acc : List S43), (∀ e ∈ es, entryOkI 1 e.f0 e.f1 e.f2 = true) → Tail s p (entsL es ++ L) →
    ∃ p', iRun s es.length p false acc = (p', false, acc ++ es) ∧ Tail s p' L
  | [], L, p, acc, _, h => ⟨p, by simp [iRun], by simpa [entsL] using h⟩
  | e :: es, L, p, acc, hok, h => by
    have hk := hok e (.head _)
    have h' : Tail s p (nums8 (shortS (entryT 1 e.f0 e.f1 e.f2)) ++ (entsL es ++ L)) := by simpa [entsL, entL] using h
    obtain ⟨p1, h1, h2⟩ := h'.text (by have := entryT_size 1 e.f0 e.f1 e.f2; omega)
    have he : entryT 1 e.f0 e.f1 e.f2 = entryS 1 e.f0 e.f1 e.f2 := by unfold entryT; rw [if_pos hk]
    have hr := rentI_fwd 1 e hk
    obtain ⟨p', h3, h4⟩ := iRun_fwd s es L p1 (acc ++ [e]) (fun x hx => hok x (.tail _ hx)) h2
    refine ⟨p', ?_, h4⟩
    simp only [List.length_cons, iRun, h1, he, hr]
    simpa using h3
theorem iRun_bad (s : ByteArray) : ∀ (n : Nat) (p : Int) (acc : List S43), (iRun s n p true acc).2.1 = true
  | 0, _, _ => rfl
  | n + 1, p, acc => by
    have h : (rdText s p true).2.2 = true := rfl
    unfold iRun
    rw [h, Bool.true_or, Bool.true_or]
    exact iRun_bad s n _ _
theorem iRun_inv (s : ByteArray) : ∀ (n : Nat) (p : Int) (q : Bool) (acc : List S43) (p' : Int) (es : List S43) (L : List Nat), iRun s n p q acc = (p', false, es) → 0 ≤ p → p ≤ s.size → Tail s p L →
    q = false ∧ ∃ zs L', es = acc ++ zs ∧ zs.length = n ∧ (∀ e ∈ zs, entryOkI 1 e.f0 e.f1 e.f2 = true) ∧ L = entsL zs ++ L' ∧ Tail s p' L' ∧ 0 ≤ p' ∧ p' ≤ s.size
  | 0, p, q, acc, p', es, L, h, h0, h1, ht => by
    simp only [iRun, Prod.mk.injEq] at h
    obtain ⟨rfl, rfl, rfl⟩ := h
    exact ⟨rfl, [], L, by simp, rfl, by simp, by simp [entsL], ht, h0, h1⟩
  | n + 1, p, q, acc, p', es, L, h, h0, h1, ht => by
    simp only [iRun] at h
    rcases hx : rdText s p q with ⟨t, p1, q1⟩
    rcases hy : rentI t with ⟨b, ix, e⟩
    simp only [hx, hy] at h
    have hr : 0 ≤ p1 ∧ p1 ≤ s.size := by
      unfold rdText rs at hx
      cases q with
      | true => simp at hx; omega
      | false =>
        rw [if_neg (by simp)] at hx
        rcases hv : rv s p with _ | ⟨a, c⟩
        · simp [hv] at hx; omega
        · have hrv := rv_range hv
          simp only [hv] at hx
          split at hx
          · simp only [Prod.mk.injEq] at hx
            rename_i heq
            split at heq
            · cases heq
            · simp only [Option.some.injEq, Prod.mk.injEq] at heq
              omega
          · simp only [Prod.mk.injEq] at hx; omega
    rcases hq : (q1 || !b || ix != 1) with _ | _
    · rw [hq] at h
      simp only [Bool.or_eq_false_iff, Bool.not_eq_false', bne_eq_false_iff_eq] at hq
      obtain ⟨⟨hq1, hb⟩, hix⟩ := hq
      subst hq1
      subst hb
      subst hix
      obtain ⟨hok, htx⟩ := rentI_inv hy
      have hs := short_of_text hx
      obtain ⟨c0, c1, c2, c3, c4⟩ := short_bytes h0 h1 hs
      obtain ⟨L1, hL1, ht1⟩ := ht.cut c2 c3
      obtain ⟨-, zs, L', e1, e2, e3, e4, e5, e6⟩ := iRun_inv s n p1 false (acc ++ [e]) p' es L1 h hr.1 hr.2 ht1
      refine ⟨c0, e :: zs, L', by rw [e1]; simp, by simp [e2], fun x hx => ?_, ?_, e5, e6⟩
      · rcases List.mem_cons.1 hx with h | h
        · rw [h]; exact hok
        · exact e3 x h
      · rw [hL1, e4, c4, htx]
        have he : entryT 1 e.f0 e.f1 e.f2 = entryS 1 e.f0 e.f1 e.f2 := by unfold entryT; rw [if_pos hok]
        simp [entsL, entL, he]
    · rw [hq] at h
      have hb := iRun_bad s n p1 (acc ++ [e])
      rw [h] at hb
      cases hb
end Go.Proofs.Ytmljihfaapoakaa
end

section
namespace Go.Proofs.Ytmljihfaapoakaa
open Go.RowKit Go.Proofs.YtmljihfaapoakaaW.PrintWords PFnMessages
set_option linter.unusedSimpArgs false
set_option linter.unusedVariables false
def rdFlag (s : ByteArray) (p : Int) (q : Bool) : Bool × Int × Bool := ((rdByte s p q).1 == 1, (rdByte s p q).2.1, (rdByte s p q).2.2 || decide ((rdByte s p q).1 > 1))
def rdMany (s : ByteArray) (p : Int) (q : Bool) (m : Int) : Int × Int × Bool := if (rdNum s p q).1 > m then (0, (rdNum s p q).2.1, true) else rdNum s p q
theorem num_r {s : ByteArray} {p n p' : Int} {q q' : Bool} (h : rdNum s p q = (n, p', q')) (hp : 0 ≤ p ∧ p ≤ s.size) : 0 ≤ p' ∧ p' ≤ s.size ∧ 0 ≤ n ∧ n ≤ 1000000000 := by
  have := rdNum_range s p q hp.1 hp.2
  rw [h] at this
  simp only at this
  omega
theorem byte_r {s : ByteArray} {p n p' : Int} {q q' : Bool} (h : rdByte s p q = (n, p', q')) (hp : 0 ≤ p ∧ p ≤ s.size) : 0 ≤ p' ∧ p' ≤ s.size ∧ 0 ≤ n ∧ n ≤ 255 := by
  have := rdByte_range s p q hp.1 hp.2
  rw [h] at this
  simp only at this
  omega
theorem flag_r {s : ByteArray} {p p' : Int} {b q q' : Bool} (h : rdFlag s p q = (b, p', q')) (hp : 0 ≤ p ∧ p ≤ s.size) : 0 ≤ p' ∧ p' ≤ s.size := by
  have := rdByte_range s p q hp.1 hp.2
  unfold rdFlag at h
  simp only [Prod.mk.injEq] at h
  omega
theorem many_r {s : ByteArray} {p n p' m : Int} {q q' : Bool} (h : rdMany s p q m = (n, p', q')) (hm : 0 ≤ m) (hp : 0 ≤ p ∧ p ≤ s.size) : 0 ≤ p' ∧ p' ≤ s.size ∧ 0 ≤ n ∧ n ≤ m := by
  have := rdNum_range s p q hp.1 hp.2
  unfold rdMany at h
  split at h
  · simp only [Prod.mk.injEq] at h
    omega
  · rw [h] at this
    rename_i hc
    rw [h] at hc
    simp only at this hc
    omega
theorem text_r {s t : ByteArray} {p p' : Int} {q q' : Bool} (h : rdText s p q = (t, p', q')) (hp : 0 ≤ p ∧ p ≤ s.size) : 0 ≤ p' ∧ p' ≤ s.size ∧ t.size ≤ 20000 := by
  unfold rdText rs at h
  cases q with
  | true =>
    simp at h
    obtain ⟨h1, h2, -⟩ := h
    subst h1
    subst h2
    exact ⟨hp.1, hp.2, by decide⟩
  | false =>
    rw [if_neg (by simp)] at h
    rcases hv : rv s p with _ | ⟨a, c⟩
    · simp [hv] at h
      obtain ⟨h1, h2, -⟩ := h
      subst h1
      subst h2
      exact ⟨hp.1, hp.2, by decide⟩
    · have hrv := rv_range hv
      simp only [hv] at h
      by_cases hc : a > 20000 ∨ (a : Int) > s.size - c
      · rw [if_pos hc] at h
        simp only [Prod.mk.injEq] at h
        obtain ⟨h1, h2, -⟩ := h
        subst h1
        subst h2
        exact ⟨hp.1, hp.2, by decide⟩
      · rw [if_neg hc] at h
        simp only [Prod.mk.injEq] at h
        obtain ⟨h1, h2, -⟩ := h
        subst h1
        subst h2
        rw [ByteArray.size_extract]
        omega
theorem run_r (s : ByteArray) : ∀ (n : Nat) (p : Int) (q : Bool) (acc : List S43) (p' : Int) (q' : Bool) (es : List S43), iRun s n p q acc = (p', q', es) → 0 ≤ p ∧ p ≤ s.size → 0 ≤ p' ∧ p' ≤ s.size
  | 0, p, q, acc, p', q', es, h, hp => by
    simp only [iRun, Prod.mk.injEq] at h
    obtain ⟨rfl, -⟩ := h
    exact hp
  | n + 1, p, q, acc, p', q', es, h, hp => by
    simp only [iRun] at h
    rcases hx : rdText s p q with ⟨t, p1, q1⟩
    have := text_r hx hp
    rw [hx] at h
    exact run_r s n _ _ _ p' q' es h ⟨this.1, this.2.1⟩
theorem flag_bytes {s : ByteArray} {p p' : Int} {b q : Bool} (hp : 0 ≤ p ∧ p ≤ s.size) (h : rdFlag s p q = (b, p', false)) : q = false ∧ p ≤ p' ∧ p' ≤ s.size ∧ rdByte s p q = (flagN b, p', false) ∧ nums8 (s.extract p.toNat p'.toNat) = [(flagN b).toNat] := by
  rcases hx : rdByte s p q with ⟨n, p1, q1⟩
  have hr := byte_r hx hp
  unfold rdFlag at h
  rw [hx] at h
  simp only [Prod.mk.injEq, Bool.or_eq_false_iff, decide_eq_false_iff_not] at h
  obtain ⟨hb, rfl, rfl, hn⟩ := h
  obtain ⟨c0, c1, c2, c3, c4⟩ := byte_bytes hp.1 hx
  have hv : n = flagN b := by
    subst hb
    unfold flagN
    by_cases h1 : n = 1
    · subst h1; rfl
    · rw [if_neg (by simpa using h1)]
      omega
  subst hv
  refine ⟨c0, c2, c3, rfl, ?_⟩
  rw [c4, nums8_byteS]
  cases b <;> rfl
theorem dec_inv {s ct d : ByteArray} {a0 a1 a2 a3 a4 a5 a6 n p0 p1 p2 p3 p4 p5 p6 p7 p8 p9 p10 p11 p12 : Int} {a7 ls q0 q1 q2 q3 q4 q5 q6 q7 q8 q9 q10 q11 q12 : Bool} {es : List S43}
    (h0 : rdByte s 0 false = (a0, p0, q0)) (h1 : rdByte s p0 q0 = (a1, p1, q1)) (h2 : rdByte s p1 q1 = (a2, p2, q2)) (h3 : rdNum s p2 q2 = (a3, p3, q3)) (h4 : rdNum s p3 q3 = (a4, p4, q4)) (h5 : rdNum s p4 q4 = (a5, p5, q5)) (h6 : rdNum s p5 q5 = (a6, p6, q6))
    (h7 : rdFlag s p6 q6 = (a7, p7, q7)) (h8 : rdFlag s p7 q7 = (ls, p8, q8)) (h9 : rdMany s p8 q8 4 = (n, p9, q9)) (h10 : iRun s n.toNat p9 q9 [] = (p10, q10, es)) (h11 : rdText s p10 q10 = (ct, p11, q11)) (h12 : rdText s p11 q11 = (d, p12, q12))
    (hq : q12 = false) (hp : p12 = s.size) :
    nums8 s = headL a0 a1 a2 a3 a4 a5 a6 a7 ls es.length ++ (entsL es ++ (nums8 (shortS ct) ++ nums8 (shortS d))) := by
  have g : 0 ≤ (0 : Int) ∧ (0 : Int) ≤ s.size := by omega
  have r0 := byte_r h0 g
  have r1 := byte_r h1 ⟨r0.1, r0.2.1⟩
  have r2 := byte_r h2 ⟨r1.1, r1.2.1⟩
  have r3 := num_r h3 ⟨r2.1, r2.2.1⟩
  have r4 := num_r h4 ⟨r3.1, r3.2.1⟩
  have r5 := num_r h5 ⟨r4.1, r4.2.1⟩
  have r6 := num_r h6 ⟨r5.1, r5.2.1⟩
  have r7 := flag_r h7 ⟨r6.1, r6.2.1⟩
  have r8 := flag_r h8 r7
  have r9 := many_r h9 (by omega) r8
  have r10 := run_r s _ _ _ _ _ _ _ h10 ⟨r9.1, r9.2.1⟩
  have r11 := text_r h11 r10
  subst hq
  subst hp
  obtain ⟨rfl, -, e12, f12, x12⟩ := short_bytes r11.1 r11.2.1 (short_of_text h12)
  obtain ⟨rfl, -, e11, f11, x11⟩ := short_bytes r10.1 r10.2 (short_of_text h11)
  have hb9 : q9 = false := (iRun_inv s _ _ _ _ _ _ ((nums8 s).drop p9.toNat) h10 r9.1 r9.2.1 ⟨(nums8 s).take p9.toNat, (List.take_append_drop _ _).symm, by
    simp [nums8_length]; omega⟩).1
  subst hb9
  have h9' : rdNum s p8 q8 = (n, p9, false) := by
    unfold rdMany at h9
    split at h9
    · simp at h9
    · exact h9
  obtain ⟨rfl, -, e9, f9, x9⟩ := num_bytes h9'
  obtain ⟨rfl, e8, f8, -, x8⟩ := flag_bytes r7 h8
  obtain ⟨rfl, e7, f7, -, x7⟩ := flag_bytes ⟨r6.1, r6.2.1⟩ h7
  obtain ⟨rfl, -, e6, f6, x6⟩ := num_bytes h6
  obtain ⟨rfl, -, e5, f5, x5⟩ := num_bytes h5
  obtain ⟨rfl, -, e4, f4, x4⟩ := num_bytes h4
  obtain ⟨rfl, -, e3, f3, x3⟩ := num_bytes h3
  obtain ⟨rfl, -, e2, f2, x2⟩ := byte_bytes r1.1 h2
  obtain ⟨rfl, -, e1, f1, x1⟩ := byte_bytes r0.1 h1
  obtain ⟨-, -, e0, f0, x0⟩ := byte_bytes (by omega) h0
  obtain ⟨L0, y0, t0⟩ := (Tail.start s).cut e0 f0
  obtain ⟨L1, y1, t1⟩ := t0.cut e1 f1
  obtain ⟨L2, y2, t2⟩ := t1.cut e2 f2
  obtain ⟨L3, y3, t3⟩ := t2.cut e3 f3
  obtain ⟨L4, y4, t4⟩ := t3.cut e4 f4
  obtain ⟨L5, y5, t5⟩ := t4.cut e5 f5
  obtain ⟨L6, y6, t6⟩ := t5.cut e6 f6
  obtain ⟨L7, y7, t7⟩ := t6.cut e7 f7
  obtain ⟨L8, y8, t8⟩ := t7.cut e8 f8
  obtain ⟨L9, y9, t9⟩ := t8.cut e9 f9
  obtain ⟨-, zs, L10, z1, z2, z3, y10, t10, -⟩ := iRun_inv s _ _ _ _ _ _ _ h10 r9.1 r9.2.1 t9
  obtain ⟨L11, y11, t11⟩ := t10.cut e11 f11
  obtain ⟨L12, y12, t12⟩ := t11.cut e12 f12
  have y13 := t12.done
  subst y13
  simp only [List.nil_append] at z1
  subst z1
  rw [x0, nums8_byteS] at y0
  rw [x1, nums8_byteS] at y1
  rw [x2, nums8_byteS] at y2
  rw [x3, nums8_varS] at y3
  rw [x4, nums8_varS] at y4
  rw [x5, nums8_varS] at y5
  rw [x6, nums8_varS] at y6
  rw [x7] at y7
  rw [x8] at y8
  rw [x9, nums8_varS, ← z2] at y9
  rw [x11] at y11
  rw [x12, List.append_nil] at y12
  rw [y0, y1, y2, y3, y4, y5, y6, y7, y8, y9, y10, y11, y12]
  unfold headL
  simp
end Go.Proofs.Ytmljihfaapoakaa
end

section
namespace Go.Proofs.Ytmljihfaapoakaa
open Go.RowKit Go.Proofs.YtmljihfaapoakaaW.PrintWords PFnMessages
set_option linter.unusedSimpArgs false
set_option linter.unusedVariables false
theorem ents_all (es : List S43) (mt : Int) : ∀ (n i : Nat) (pt : Int), ents es mt i n pt = true → ∀ j, i ≤ j → j < i + n → entryOk (rd_T43 es (j : Int)).f0 (rd_T43 es (j : Int)).f1 (rd_T43 es (j : Int)).f2 = true
  | 0, i, pt, _, j, h1, h2 => by omega
  | n + 1, i, pt, h, j, h1, h2 => by
    simp only [ents, Bool.and_eq_true] at h
    rcases Nat.eq_or_lt_of_le h1 with rfl | h3
    · exact h.1.1.1
    · exact ents_all es mt n (i + 1) _ h.2 j h3 (by omega)
theorem msg_ents {a0 a1 a2 a3 a4 a5 a6 : Int} {es : List S43} {cf : List Int} {d : ByteArray} {ls : Bool} (h : msgB a0 a1 a2 a3 a4 a5 a6 es cf d ls = true) : ∀ e ∈ es, entryOkI 1 e.f0 e.f1 e.f2 = true := by
  unfold msgB tailB at h
  simp only [Bool.and_eq_true] at h
  have he := h.1.2.1.1
  intro e hm
  obtain ⟨j, hj, rfl⟩ := List.mem_iff_getElem.1 hm
  have := ents_all es a3 es.length 0 a5 he j (by omega) (by omega)
  have hr : rd_T43 es (j : Int) = es[j] := by simp [rd_T43, hj]
  rw [hr] at this
  unfold entryOkI
  rw [this]
  decide
theorem msg_head {a0 a1 a2 a3 a4 a5 a6 : Int} {es : List S43} {cf : List Int} {d : ByteArray} {ls : Bool} (h : msgB a0 a1 a2 a3 a4 a5 a6 es cf d ls = true) : (1 ≤ a0 ∧ a0 ≤ 6) ∧ (1 ≤ a1 ∧ a1 ≤ 4) ∧ (1 ≤ a2 ∧ a2 ≤ 4) := by
  unfold msgB inM at h
  simp only [Bool.and_eq_true, decide_eq_true_eq] at h
  exact ⟨h.1.1.1.1.1.1, h.1.1.1.1.1.2, h.1.1.1.1.2⟩
theorem bytesFrom_nums (t : ByteArray) : ∀ n i, n + i = t.size → bytesFrom t i n = ((nums8 t).drop i).map (fun x : Nat => (x : Int))
  | 0, i, h => by
    rw [List.drop_of_length_le (by rw [nums8_length]; omega)]
    rfl
  | n + 1, i, h => by
    have hi : i < (nums8 t).length := by rw [nums8_length]; omega
    have h1 := byN_nums t i (by omega)
    rw [List.getElem?_eq_getElem hi] at h1
    simp only [Option.some.injEq] at h1
    rw [bytesFrom, bytesFrom_nums t n (i + 1) (by omega), List.drop_eq_getElem_cons hi, List.map_cons, h1, bt_byN]
theorem rises_in (xs : List Int) : ∀ (n i : Nat), rises xs i n = true → ∀ j, i ≤ j → j < i + n → 1 ≤ rd xs (j : Int) ∧ rd xs (j : Int) ≤ 4
  | 0, i, _, j, h1, h2 => by omega
  | n + 1, i, h, j, h1, h2 => by
    simp only [rises, Bool.and_eq_true, decide_eq_true_eq] at h
    rcases Nat.eq_or_lt_of_le h1 with rfl | h3
    · exact h.1.1
    · exact rises_in xs n (i + 1) h.2 j h3 (by omega)
theorem conf_in {cf : List Int} (h : confOk cf = true ∨ cf.length = 0) : ∀ x ∈ cf, 1 ≤ x ∧ x ≤ 4 := by
  rcases h with h | h
  · unfold confOk at h
    simp only [Bool.and_eq_true] at h
    intro x hx
    obtain ⟨j, hj, rfl⟩ := List.mem_iff_getElem.1 hx
    have := rises_in cf cf.length 0 h.1 j (by omega) (by omega)
    have hr : rd cf (j : Int) = cf[j] := by simp [rd, hj]
    rwa [hr] at this
  · rw [List.eq_nil_of_length_eq_zero h]
    simp
theorem confT_back {cf : List Int} (h : confOk cf = true ∨ cf.length = 0) : bytesFrom (confT cf) 0 (confT cf).size = cf := by
  have hin := conf_in h
  have e : PFnMessages.confBs cf = cf := by
    unfold PFnMessages.confBs
    have : cf.map (fun x => x % 256) = cf.map id := List.map_congr_left (fun x hx => by have := hin x hx; simp; omega)
    simpa using this
  rw [bytesFrom_nums _ _ 0 (by omega), List.drop_zero]
  unfold confT
  rw [e, nums8_str cf (fun x hx => by have := hin x hx; omega), List.map_map]
  have : cf.map ((fun x : Nat => (x : Int)) ∘ Int.toNat) = cf.map id := List.map_congr_left (fun x hx => by have := hin x hx; simp; omega)
  simpa using this
theorem Tail.flag {s : ByteArray} {p : Int} {b : Bool} {L : List Nat} (h : Tail s p ((flagN b).toNat :: L)) : rdFlag s p false = (b, p + 1, false) ∧ rdByte s p false = (flagN b, p + 1, false) ∧ Tail s (p + 1) L := by
  obtain ⟨h1, h2⟩ := h.byte
  have e : (((flagN b).toNat : Nat) : Int) = flagN b := by cases b <;> rfl
  rw [e] at h1
  refine ⟨?_, h1, h2⟩
  unfold rdFlag
  rw [h1]
  cases b <;> rfl
theorem dec_fwd {a0 a1 a2 a3 a4 a5 a6 : Int} {a7 ls : Bool} {es : List S43} {cf : List Int} {d : ByteArray} (hm : msgB a0 a1 a2 a3 a4 a5 a6 es cf d ls = true) (s : ByteArray)
    (hs : nums8 s = headL a0 a1 a2 a3 a4 a5 a6 a7 ls es.length ++ (entsL es ++ (nums8 (shortS (confT cf)) ++ nums8 (shortS d)))) :
    ∃ p3 p4 p5 p6 p9 p10 p11 : Int, rdByte s 0 false = (a0, 1, false) ∧ rdByte s 1 false = (a1, 2, false) ∧ rdByte s 2 false = (a2, 3, false) ∧ rdNum s 3 false = (a3, p3, false) ∧ rdNum s p3 false = (a4, p4, false) ∧ rdNum s p4 false = (a5, p5, false) ∧ rdNum s p5 false = (a6, p6, false) ∧
      (rdFlag s p6 false = (a7, p6 + 1, false) ∧ rdByte s p6 false = (flagN a7, p6 + 1, false)) ∧ (rdFlag s (p6 + 1) false = (ls, p6 + 1 + 1, false) ∧ rdByte s (p6 + 1) false = (flagN ls, p6 + 1 + 1, false)) ∧ rdNum s (p6 + 1 + 1) false = ((es.length : Int), p9, false) ∧
      iRun s es.length p9 false [] = (p10, false, es) ∧ rdText s p10 false = (confT cf, p11, false) ∧ rdText s p11 false = (d, (s.size : Int), false) ∧ 0 ≤ p6 ∧ p6 + 1 + 1 ≤ s.size ∧ 0 ≤ p9 ∧ p9 ≤ s.size ∧ es.length ≤ 4 ∧ Tail s p9 (entsL es ++ (nums8 (shortS (confT cf)) ++ nums8 (shortS d))) := by
  obtain ⟨⟨g01, g02⟩, ⟨g11, g12⟩, ⟨g21, g22⟩⟩ := msg_head hm
  obtain ⟨⟨b3, b3'⟩, ⟨b4, b4'⟩, ⟨b5, b5'⟩, ⟨b6, b6'⟩, b8, b9, b10⟩ := msgB_facts hm
  have t := Tail.start s
  rw [hs] at t
  unfold headL at t
  simp only [List.cons_append, List.nil_append, List.append_assoc] at t
  have m8 : ∀ a : Int, 1 ≤ a → a ≤ 6 → (((a % 256).toNat : Nat) : Int) = a := fun a _ _ => by omega
  obtain ⟨h0, t⟩ := t.byte
  obtain ⟨h1, t⟩ := t.byte
  obtain ⟨h2, t⟩ := t.byte
  rw [m8 a0 g01 g02] at h0
  rw [m8 a1 g11 (by omega)] at h1
  rw [m8 a2 g21 (by omega)] at h2
  obtain ⟨p3, h3, t⟩ := t.num b3 (by omega)
  obtain ⟨p4, h4, t⟩ := t.num b4 (by omega)
  obtain ⟨p5, h5, t⟩ := t.num b5 (by omega)
  obtain ⟨p6, h6, t⟩ := t.num b6 (by omega)
  obtain ⟨h7, k7, t⟩ := t.flag
  obtain ⟨h8, k8, t⟩ := t.flag
  obtain ⟨p9, h9, t⟩ := Tail.num (n := (es.length : Int)) (by omega) (by omega) (by simpa using t)
  have t9 : Tail s p9 (entsL es ++ (nums8 (shortS (confT cf)) ++ nums8 (shortS d))) := by first | exact t | simpa using t
  obtain ⟨p10, h10, t⟩ := iRun_fwd s es _ p9 [] (msg_ents hm) t
  have hct : (confT cf).size ≤ 20000 := by
    rw [confT_size]
    rcases b9 with h | h
    · have := confOk_short h; omega
    · omega
  obtain ⟨p11, h11, t⟩ := t.text hct
  have t' : Tail s p11 (nums8 (shortS d) ++ []) := by simpa using t
  obtain ⟨p12, h12, t⟩ := t'.text (by omega)
  rw [t.fin] at h12
  obtain ⟨-, c6, c6', c6'', -⟩ := num_bytes h6
  obtain ⟨-, d8, d8', -, -⟩ := byte_bytes (by omega) k8
  obtain ⟨-, e9, e9', e9'', -⟩ := num_bytes h9
  exact ⟨p3, p4, p5, p6, p9, p10, p11, h0, h1, h2, h3, h4, h5, h6, ⟨h7, k7⟩, ⟨h8, k8⟩, h9, by simpa using h10, h11, h12, by omega, by omega, by omega, by omega, b8, t9⟩
def rentS (t : ByteArray) : Bool × Int × S43 :=
  let r1 := rdTake t 0 false 1
  let r2 := rdNum t r1.2.1 r1.2.2
  let r3 := rdNum t r2.2.1 r2.2.2
  let r4 := rdTake t r3.2.1 r3.2.2 1
  let d := t.extract r4.2.1.toNat t.size
  if r4.2.2 = true then (false, 0, ⟨0, 0, ⟨#[]⟩⟩) else if (entryOkI r2.1 r3.1 (bt r4.1 0) d && (entryT r2.1 r3.1 (bt r4.1 0) d).toList == t.toList) = true then (true, r2.1, ⟨r3.1, bt r4.1 0, d⟩) else (false, 0, ⟨0, 0, ⟨#[]⟩⟩)
theorem take_of_byte {s : ByteArray} {p b p' : Int} (hp : 0 ≤ p) (h : rdByte s p false = (b, p', false)) : rdTake s p false 1 = (byteS b, p', false) ∧ bt (byteS b) 0 = b := by
  have hr : 0 ≤ b ∧ b ≤ 255 := by
    have := bt_range s p
    unfold rdByte at h
    split at h
    · simp at h
    · simp only [Prod.mk.injEq] at h
      omega
  obtain ⟨-, c1, c2, c3, c4⟩ := byte_bytes hp h
  have hp' : p' = p + 1 := by
    unfold rdByte at h
    split at h
    · simp at h
    · simp only [Prod.mk.injEq] at h
      omega
  subst hp'
  constructor
  · unfold rdTake
    rw [if_neg (by simp; omega), c4]
  · have h2 : byteS b = strOfNums [b] := by unfold byteS; rw [show b % 256 = b from by omega]
    have h3 : nums8 (byteS b) = [] ++ b.toNat :: [] := by
      rw [h2, nums8_str [b] (by intro x hx; simp at hx; omega)]
      rfl
    have := (byN_at h3).1
    have e := bt_byN (byteS b) 0
    simp only [List.length_nil] at this
    rw [show ((0 : Nat) : Int) = (0 : Int) from rfl] at e
    rw [e, this]
    omega
theorem rentS_fwd (i : Int) (e : S43) (h : entryOkI i e.f0 e.f1 e.f2 = true) : rentS (entryS i e.f0 e.f1 e.f2) = (true, i, e) := by
  have h' := h
  unfold entryOkI at h'
  simp only [Bool.and_eq_true] at h'
  obtain ⟨p2, p3, p4, h1, h2, h3, h4, h5⟩ := entry_reads i e.f0 e.f1 e.f2 h'.1 h'.2
  obtain ⟨k1, -⟩ := take_of_byte (by omega) h1
  obtain ⟨-, c1, c2, c3, -⟩ := num_bytes h3
  obtain ⟨k4, k5⟩ := take_of_byte (by omega) h4
  have ht : entryT i e.f0 e.f1 e.f2 = entryS i e.f0 e.f1 e.f2 := by unfold entryT; rw [if_pos h]
  unfold rentS
  simp only [k1, h2, h3, k4, k5, h5, h, ht]
  simp
def sRun (s : ByteArray) (n : Int) : Nat → Nat → Int → Bool → List S43 → Int × Bool × List S43
  | 0, _, p, q, es => (p, q, es)
  | k + 1, i, p, q, es => if (i : Int) < n ∧ q = false ∧ i ≤ 4 then sRun s n k (i + 1) (rdShort s p q).2.1 (rdShort s p q).2.2 (es ++ [(rentS (rdShort s p q).1).2.2]) else (p, q, es)
theorem sRun_fwd (s : ByteArray) (n : Int) : ∀ (es : List S43) (L : List Nat) (k i : Nat) (p : Int) (acc : List S43), (∀ e ∈ es, entryOkI 1 e.f0 e.f1 e.f2 = true) → Tail s p (entsL es ++ L) → (i : Int) + es.length = n → n ≤ 4 → es.length < k →
    ∃ p', sRun s n k i p false acc = (p', false, acc ++ es) ∧ iRun s es.length p false acc = (p', false, acc ++ es) ∧ Tail s p' L
  | es, L, 0, i, p, acc, _, h, _, _, hk => by omega
  | [], L, k + 1, i, p, acc, _, h, hi, _, _ => ⟨p, by simp only [sRun, List.append_nil]; rw [if_neg (by simp at hi; omega)], by simp [iRun], by simpa [entsL] using h⟩
  | e :: es, L, k + 1, i, p, acc, hok, h, hi, hn, hk => by
    have hke := hok e (.head _)
    have h' : Tail s p (nums8 (shortS (entryT 1 e.f0 e.f1 e.f2)) ++ (entsL es ++ L)) := by simpa [entsL, entL] using h
    obtain ⟨p1, h1, h2⟩ := h'.text (by have := entryT_size 1 e.f0 e.f1 e.f2; omega)
    have h1s := short_of_text h1
    have he : entryT 1 e.f0 e.f1 e.f2 = entryS 1 e.f0 e.f1 e.f2 := by unfold entryT; rw [if_pos hke]
    have hr := rentI_fwd 1 e hke
    have hrs := rentS_fwd 1 e hke
    simp only [List.length_cons] at hi hk
    obtain ⟨p', h3, h4, h5⟩ := sRun_fwd s n es L k (i + 1) p1 (acc ++ [e]) (fun x hx => hok x (.tail _ hx)) h2 (by push_cast; push_cast at hi; omega) hn (by omega)
    refine ⟨p', ?_, ?_, h5⟩
    · simp only [sRun]
      rw [if_pos ⟨by push_cast at hi; omega, by simp, by push_cast at hi; omega⟩]
      simp only [h1s, he, hrs]
      simpa using h3
    · simp only [List.length_cons, iRun, h1, he, hr]
      simpa using h4
theorem sRun_same {s : ByteArray} {n p : Int} {es acc : List S43} {L : List Nat} {k : Nat} (hok : ∀ e ∈ es, entryOkI 1 e.f0 e.f1 e.f2 = true) (h : Tail s p (entsL es ++ L)) (hn : (es.length : Int) = n) (h4 : n ≤ 4) (hk : es.length < k) : ∃ p', sRun s n k 0 p false acc = (p', false, acc ++ es) ∧ iRun s es.length p false acc = (p', false, acc ++ es) ∧ Tail s p' L :=
  sRun_fwd s n es L k 0 p acc hok h (by omega) h4 hk
end Go.Proofs.Ytmljihfaapoakaa
end

section
namespace Go.Proofs.Ytmljihfaapoakaa.PFnMessages
open Go.RowKit Go.Proofs.YtmljihfaapoakaaW.PrintWords Go.Proofs.YtmljihfaapoakaaW.PrintLast Go.Proofs.YtmljihfaapoakaaW.PrintMore
set_option linter.unusedVariables false
set_option linter.unusedSimpArgs false
def impl_numbers.l0 : Nat → ByteArray → List Int → Int → Int → Option (List Int)
  | 0, _, _, _, _ => none
  | k + 1, x0, x3, x6, x7 => if x7 < x6 then (if 0 ≤ x7 then (if x7 < (x0.size : Int) then (if x3.length < 17592186044416 then (impl_numbers.l0 k x0 (x3 ++ [wrap64 (bt x0 x7)]) x6 (wrap64 (x7 + 1))) else (none)) else (none)) else (none)) else (some x3)
def impl_numbers.f (k : Nat) (a0 : ByteArray) : Option (List Int) := impl_numbers.l0 k a0 ([] : List Int) (a0.size : Int) 0
theorem impl_numbers.mono_l : ∀ k, (∀ y0 y1 y2 y3, LeO (impl_numbers.l0 k y0 y1 y2 y3) (impl_numbers.l0 (k + 1) y0 y1 y2 y3))
  | 0 => fun _ _ _ _ r h => by simp [impl_numbers.l0] at h
  | k + 1 => by
    have ih0 := impl_numbers.mono_l k
    · intro y0 y1 y2 y3
      unfold impl_numbers.l0
      repeat' first
      | (with_reducible exact ih0 _ _ _ _)
      | (with_reducible exact LeO.refl _)
      | (with_reducible exact LeO.none _)
      | (with_reducible refine LeO.ite ?_ ?_)
      | (with_reducible refine LeO.bind ?_ (fun _ => ?_))
      | exact ih0 _ _ _ _
      | exact LeO.none _
      | refine LeO.ite ?_ ?_
      | refine LeO.bind ?_ (fun _ => ?_)
theorem impl_numbers.mono : ∀ a0 k, LeO (impl_numbers.f k a0) (impl_numbers.f (k + 1) a0) := by
  intro a0 k
  have ih0 := impl_numbers.mono_l k
  unfold impl_numbers.f
  repeat' first
      | (with_reducible exact ih0 _ _ _ _)
      | (with_reducible exact LeO.refl _)
      | (with_reducible exact LeO.none _)
      | (with_reducible refine LeO.ite ?_ ?_)
      | (with_reducible refine LeO.bind ?_ (fun _ => ?_))
      | exact ih0 _ _ _ _
      | exact LeO.none _
      | refine LeO.ite ?_ ?_
      | refine LeO.bind ?_ (fun _ => ?_)
set_option maxHeartbeats 8000000 in
set_option maxRecDepth 100000 in
theorem impl_numbers.calls (k : Nat) (a0 : ByteArray) (r : List Int) (w : World) (h : impl_numbers.f k a0 = some r) :
    Calls Try.prog 26 #[.string a0] w fun e w' => ∃ v0_ : Value, e = .returned (v0_) ∧ Kd.R (Kd.int .i64) 3 w' w.heap.size (fun _ => True) v0_ r ∧ Below w.heap.size w w' := by
  have HB := Aside0.mk (Below.refl w.heap.size w)
  have H : (impl_numbers.l0 k a0 ([] : List Int) (a0.size : Int) 0) = some r := h
  clear h
  have H' := Aside0.mk H
  clear H
  go_enter Try.func26, Try.ntmps26
  go_wp2
  go_loopg [3, 7] k (fun kq v3 v7 w' => ∃ (x3_1 : List Int) (x7_1 : Int), v7 = .int .i64 x7_1 ∧ Aside0 (impl_numbers.l0 kq a0 x3_1 (a0.size : Int) x7_1 = some r) ∧ Aside0 (kq ≤ k) ∧ Aside0 (Kd.R (Kd.int .i64) 3 w' w.heap.size (fun _ => True) v3 x3_1) ∧ Aside0 (Below w.heap.size w w'))
  case atStart => exact ⟨(([] : List Int)), (0), (by first | rfl | (simp; done) | (simp [*]; done)), H', ⟨Nat.le_refl _⟩, ⟨by first | exact Kd.R_nil _ _ _ _ _ | exact Kd.N_nil _ _ _ _ _ | exact Kd.V_nil _ _ _ _ _ | exact Kd.Q_nil _ _ _ _ _ | exact Kd.S_nil _ _ _ _ _⟩, ⟨by repeat (first | (with_reducible first | exact HB.out | apply below_alloc | apply pw_below_drewN | apply below_drew1) | exact HB.out)⟩⟩
  case round =>
    clear H'
    obtain ⟨x3_1, x7_1, rfl, HA, HK1, HO_3, HB⟩ := hrel
    cases gk with
    | zero => exact absurd HA.out (by simp [impl_numbers.l0])
    | succ k1 =>
      have H := HA.out
      clear HA
      simp only [impl_numbers.l0] at H
      by_cases c2 : x7_1 < (a0.size : Int)
      · rw [if_pos c2] at H
        have c2b0 : decide (x7_1 < (a0.size : Int)) = true := decide_eq_true c2
        clear c2
        by_cases c3 : 0 ≤ x7_1
        · rw [if_pos c3] at H
          have c3b0 : decide (0 ≤ x7_1) = true := decide_eq_true c3
          clear c3
          by_cases c4 : x7_1 < (a0.size : Int)
          · rw [if_pos c4] at H
            have c4b0 : decide (x7_1 < (a0.size : Int)) = true := decide_eq_true c4
            clear c4
            by_cases c6 : x3_1.length < 17592186044416
            · rw [if_pos c6] at H
              have LMc6 := Aside0.mk c6
              clear c6
              obtain ⟨y495, hy495⟩ : ∃ y_ : List Int, y_ = (x3_1 ++ [wrap64 (bt a0 x7_1)]) := ⟨_, rfl⟩
              replace H : (impl_numbers.l0 k1 a0 y495 (a0.size : Int) (wrap64 (x7_1 + 1))) = some r := by first | (rw [hy495]; with_reducible exact H) | (have H2_ := (Option.bind_some _ _).symm.trans H; rw [hy495]; with_reducible exact H2_) | (have H2_ := (Option.bind_some _ _).symm.trans H; with_reducible exact H2_) | with_reducible exact H | (rw [hy495]; exact H) | exact H
              have Ny495 := Aside0.mk hy495
              clear hy495
              have H' := Aside0.mk H
              clear H
              have p5 : 0 ≤ (x7_1 : Int) := of_decide_eq_true (by first | (with_reducible assumption) | assumption)
              have q5 : x7_1 < (a0.size : Int) := of_decide_eq_true (by first | (with_reducible assumption) | assumption)
              have hx5 := bt_at a0 x7_1
              replace p5 := eq_true p5
              replace q5 := eq_true q5
              go_wp2_with (first | ((with_reducible refine gate_builtin (b := .append) (xs := #[.tmp 10, .tmp 15]) rfl ?_); at_builtin; refine Kd.R_append (Kd.int .i64) (w0 := w) w.heap.size rfl (.tmp 10) (.tmp 15) 25 3 (.int .i64 0) 8 rfl Try.underlying25 info3 rfl (by decide) (by omega) u3 x3_1 (wrap64 (bt a0 x7_1)) [.int .i64 (wrap64 (bt a0 x7_1))] (fun _ => True) (fun _ => False) rfl rfl ?aP (fun _ hk => hk.elim) ?aF ?aO ?aB ?aS ?aL ?_; (case aP => exact rfl); (case aB => exact (by repeat (first | (with_reducible first | exact HB.out | apply below_alloc | apply pw_below_drewN | apply below_drew1) | exact HB.out))); (case aF => exact (fun _ _ => trivial)); (case aO => exact (by (with_reducible repeat (first | apply Kd.R_alloc | apply Kd.R_drewN | apply Kd.R_drew)); exact HO_3.out)); (case aS => exact (below_size (by repeat (first | (with_reducible first | exact HB.out | apply below_alloc | apply pw_below_drewN | apply below_drew1) | exact HB.out)))); (case aL => have := LMc6.out; omega); intro v496 w7 ho hb hg hat; rw [← Ny495.out] at ho; have n0_ := Aside0.mk (hb); have n1_ := Aside0.mk (ho); clear HB; clear HO_3; have HB := n0_; have HO497 := n1_; clear n0_ n1_; clear ho hb hg hat))
              go_roundg k1
              case measure => have := HK1.out; omega
              case rel => exact ⟨(y495), (wrap64 (x7_1 + 1)), (by first | rfl | (simp; done) | (simp [*]; done)), H', ⟨by have := HK1.out; omega⟩, ⟨by (with_reducible repeat (first | apply Kd.R_alloc | apply Kd.R_drewN | apply Kd.R_drew)); exact HO497.out⟩, ⟨by repeat (first | (with_reducible first | exact HB.out | apply below_alloc | apply pw_below_drewN | apply below_drew1) | exact HB.out)⟩⟩
            · rw [if_neg c6] at H
              exact absurd H (by simp)
          · rw [if_neg c4] at H
            exact absurd H (by simp)
        · rw [if_neg c3] at H
          exact absurd H (by simp)
      · rw [if_neg c2] at H
        have c2b0 : decide (x7_1 < (a0.size : Int)) = false := decide_eq_false c2
        clear c2
        obtain rfl := Option.some.inj H
        go_wp2
        go_ret
        exact ⟨_, by first | rfl | (simp [errW_none, errW_some] <;> rfl) | (simp [*, errW_none, errW_some] <;> rfl), by (with_reducible repeat (first | apply Kd.R_alloc | apply Kd.R_drewN | apply Kd.R_drew)); exact HO_3.out, by repeat (first | (with_reducible first | exact HB.out | apply below_alloc | apply pw_below_drewN | apply below_drew1) | exact HB.out)⟩
end Go.Proofs.Ytmljihfaapoakaa.PFnMessages
end

section
namespace Go.Proofs.Ytmljihfaapoakaa.PFnMessages
open Go.RowKit Go.Proofs.YtmljihfaapoakaaW.PrintWords Go.Proofs.YtmljihfaapoakaaW.PrintLast Go.Proofs.YtmljihfaapoakaaW.PrintMore
set_option linter.unusedVariables false
set_option linter.unusedSimpArgs false
def impl_reader_flag.f (s0_0 : ByteArray) (s0_1 : Int) (s0_2 : Bool) : Option (Bool × ByteArray × Int × Bool) := (impl_reader_byte.f s0_0 s0_1 s0_2).bind fun bt456 => (if bt456.2.2.2 = true then (some ((bt456.1 == 1), bt456.2.1, bt456.2.2.1, true)) else (some ((bt456.1 == 1), bt456.2.1, bt456.2.2.1, decide (bt456.1 > 1))))
set_option maxHeartbeats 8000000 in
set_option maxRecDepth 100000 in
theorem impl_reader_flag.calls (g : Nat) (s0_0 : ByteArray) (s0_1 : Int) (s0_2 : Bool) (r1 : Bool) (r2 : ByteArray) (r3 : Int) (r4 : Bool) (w0 w : World) (hI : IsS48 w0 w g s0_0 s0_1 s0_2) (hB : Below w0.heap.size w0 w) (h : impl_reader_flag.f s0_0 s0_1 s0_2 = some (r1, r2, r3, r4)) :
    Calls Try.prog 22 #[.pointer (some ⟨g, 0, none⟩)] w fun e w' => e = .returned (.bool r1) ∧ IsS48 w0 w' g r2 r3 r4 ∧ Below w0.heap.size w0 w' ∧ KeepBut w w' g none := by
  have HI0 := Aside0.mk hI
  have HK := Aside0.mk (KeepBut.refl w g none)
  have HL := Aside0.mk hB.size
  clear hI
  have HW0 := Aside0.mk hB.size
  have HB := Aside0.mk hB
  clear hB
  have H : ((impl_reader_byte.f s0_0 s0_1 s0_2).bind fun bt456 => (if bt456.2.2.2 = true then (some ((bt456.1 == 1), bt456.2.1, bt456.2.2.1, true)) else (some ((bt456.1 == 1), bt456.2.1, bt456.2.2.1, decide (bt456.1 > 1))))) = some (r1, r2, r3, r4) := h
  clear h
  replace H := Option.bind_eq_some_iff.mp H
  obtain ⟨⟨t456, t457, t458, t459⟩, A20, H⟩ := H
  replace H : (if t459 = true then (some ((t456 == 1), t457, t458, true)) else (some ((t456 == 1), t457, t458, decide (t456 > 1)))) = some (r1, r2, r3, r4) := H
  have A2 := Aside0.mk A20
  clear A20
  by_cases c3 : t459 = true
  · subst c3
    have H1 : (some ((t456 == 1), t457, t458, true)) = some (r1, r2, r3, r4) := by rw [if_pos rfl] at H; exact H
    clear H
    have H := H1
    clear H1
    simp only [Option.some.injEq, Prod.mk.injEq] at H
    obtain ⟨rfl, rfl, rfl, rfl⟩ := H
    go_enter Try.func22, Try.ntmps22
    go_wp2_with (first | ((with_reducible refine gate_callee (f := 20) rfl ?_); refine goesL_ (some 5) rfl rfl Try.func20 (by kernel_rfl) rfl #[.pointer (some ⟨g, 0, none⟩)] rfl (by (try simp only [List.map_toArray, List.map_cons, List.map_nil]); first | done | rfl | (simp only [List.length_drop, List.length_take]; rfl)) ?_; (with_reducible refine (impl_reader_byte.calls g s0_0 s0_1 s0_2 t456 t457 t458 true w0 _ ?side1 ?side2 A2.out).mono ?_); (case side1 => repeat (first | (with_reducible first | exact HI0.out | apply IsS48.alloc | apply IsS48.drewN | apply IsS48.drew | apply IsS48.set_0 | apply IsS48.set_1 | apply IsS48.set_2) | exact HI0.out)); (case side2 => repeat (first | (with_reducible first | exact HB.out | apply below_alloc | apply pw_below_drewN | apply below_drew1 | refine below_set ?_ (IsS48.ge HI0.out)) | exact HB.out)); rintro e w4 ⟨rfl, hi, hb, hk⟩; refine ⟨_, rfl, ?_⟩; have n0_ := Aside0.mk (KeepBut.trans (by repeat (first | (with_reducible first | exact HK.out | apply KeepBut.set_ | apply keep_drewN | apply keep_drew | apply keep_alloc) | exact HK.out)) hk (.inl rfl)); have n1_ := Aside0.mk (hb); have n2_ := Aside0.mk (hi); clear HK; clear HB; clear HI0; have HK := n0_; have HB := n1_; have HI0 := n2_; clear n0_ n1_ n2_; (try clear hb); (try clear hb2); (try clear hk); (try clear hi); obtain ⟨HGz5, hgz5⟩ := HI0.out; have hcz5_0 := cellS48_0 HGz5; have hcz5_1 := cellS48_1 HGz5; have hcz5_2 := cellS48_2 HGz5; have hfz5_0 := blk_frozen HGz5 0; have hfz5_1 := blk_frozen HGz5 1; have hfz5_2 := blk_frozen HGz5 2; clear HGz5 hgz5))
    go_ret
    exact ⟨by first | rfl | (simp [errW_none, errW_some] <;> rfl) | (simp [*, errW_none, errW_some] <;> rfl), by repeat (first | (with_reducible first | exact HI0.out | apply IsS48.alloc | apply IsS48.drewN | apply IsS48.drew | apply IsS48.set_0 | apply IsS48.set_1 | apply IsS48.set_2) | exact HI0.out), by repeat (first | (with_reducible first | exact HB.out | apply below_alloc | apply pw_below_drewN | apply below_drew1 | refine below_set ?_ (IsS48.ge HI0.out)) | exact HB.out), by repeat (first | (with_reducible first | exact HK.out | apply KeepBut.set_ | apply keep_drewN | apply keep_drew | apply keep_alloc) | exact HK.out)⟩
  · replace c3 := Bool.eq_false_iff.mpr c3
    subst c3
    have H1 : (some ((t456 == 1), t457, t458, decide (t456 > 1))) = some (r1, r2, r3, r4) := by rw [if_neg (show ¬ (false = true) by decide)] at H; exact H
    clear H
    have H := H1
    clear H1
    simp only [Option.some.injEq, Prod.mk.injEq] at H
    obtain ⟨rfl, rfl, rfl, rfl⟩ := H
    go_enter Try.func22, Try.ntmps22
    go_wp2_with (first | ((with_reducible refine gate_callee (f := 20) rfl ?_); refine goesL_ (some 5) rfl rfl Try.func20 (by kernel_rfl) rfl #[.pointer (some ⟨g, 0, none⟩)] rfl (by (try simp only [List.map_toArray, List.map_cons, List.map_nil]); first | done | rfl | (simp only [List.length_drop, List.length_take]; rfl)) ?_; (with_reducible refine (impl_reader_byte.calls g s0_0 s0_1 s0_2 t456 t457 t458 false w0 _ ?side1 ?side2 A2.out).mono ?_); (case side1 => repeat (first | (with_reducible first | exact HI0.out | apply IsS48.alloc | apply IsS48.drewN | apply IsS48.drew | apply IsS48.set_0 | apply IsS48.set_1 | apply IsS48.set_2) | exact HI0.out)); (case side2 => repeat (first | (with_reducible first | exact HB.out | apply below_alloc | apply pw_below_drewN | apply below_drew1 | refine below_set ?_ (IsS48.ge HI0.out)) | exact HB.out)); rintro e w6 ⟨rfl, hi, hb, hk⟩; refine ⟨_, rfl, ?_⟩; have n0_ := Aside0.mk (KeepBut.trans (by repeat (first | (with_reducible first | exact HK.out | apply KeepBut.set_ | apply keep_drewN | apply keep_drew | apply keep_alloc) | exact HK.out)) hk (.inl rfl)); have n1_ := Aside0.mk (hb); have n2_ := Aside0.mk (hi); clear HK; clear HB; clear HI0; have HK := n0_; have HB := n1_; have HI0 := n2_; clear n0_ n1_ n2_; (try clear hb); (try clear hb2); (try clear hk); (try clear hi); obtain ⟨HGz7, hgz7⟩ := HI0.out; have hcz7_0 := cellS48_0 HGz7; have hcz7_1 := cellS48_1 HGz7; have hcz7_2 := cellS48_2 HGz7; have hfz7_0 := blk_frozen HGz7 0; have hfz7_1 := blk_frozen HGz7 1; have hfz7_2 := blk_frozen HGz7 2; clear HGz7 hgz7))
    go_ret
    exact ⟨by first | rfl | (simp [errW_none, errW_some] <;> rfl) | (simp [*, errW_none, errW_some] <;> rfl), by repeat (first | (with_reducible first | exact HI0.out | apply IsS48.alloc | apply IsS48.drewN | apply IsS48.drew | apply IsS48.set_0 | apply IsS48.set_1 | apply IsS48.set_2) | exact HI0.out), by repeat (first | (with_reducible first | exact HB.out | apply below_alloc | apply pw_below_drewN | apply below_drew1 | refine below_set ?_ (IsS48.ge HI0.out)) | exact HB.out), by repeat (first | (with_reducible first | exact HK.out | apply KeepBut.set_ | apply keep_drewN | apply keep_drew | apply keep_alloc) | exact HK.out)⟩
end Go.Proofs.Ytmljihfaapoakaa.PFnMessages
end

section
namespace Go.Proofs.Ytmljihfaapoakaa.PFnMessages
open Go.RowKit Go.Proofs.YtmljihfaapoakaaW.PrintWords Go.Proofs.YtmljihfaapoakaaW.PrintLast Go.Proofs.YtmljihfaapoakaaW.PrintMore
set_option linter.unusedVariables false
set_option linter.unusedSimpArgs false
def impl_reader_number.f (k : Nat) (s0_0 : ByteArray) (s0_1 : Int) (s0_2 : Bool) : Option (Int × ByteArray × Int × Bool) := (impl_ReadVar.f k s0_0 s0_1).bind fun bt453 => (if s0_2 = true then (some (0, s0_0, s0_1, true)) else (if bt453.2.2 = true then (some (bt453.1, s0_0, bt453.2.1, s0_2)) else (some (0, s0_0, s0_1, true))))
theorem impl_reader_number.mono : ∀ a0 a1 a2 k, LeO (impl_reader_number.f k a0 a1 a2) (impl_reader_number.f (k + 1) a0 a1 a2) := by
  intro a0 a1 a2 k
  unfold impl_reader_number.f
  repeat' first
      | (with_reducible exact impl_ReadVar.mono _ _ _)
      | (with_reducible exact LeO.refl _)
      | (with_reducible exact LeO.none _)
      | (with_reducible refine LeO.ite ?_ ?_)
      | (with_reducible refine LeO.bind ?_ (fun _ => ?_))
      | exact impl_ReadVar.mono _ _ _
      | exact LeO.none _
      | refine LeO.ite ?_ ?_
      | refine LeO.bind ?_ (fun _ => ?_)
set_option maxHeartbeats 8000000 in
set_option maxRecDepth 100000 in
theorem impl_reader_number.calls (k : Nat) (g : Nat) (s0_0 : ByteArray) (s0_1 : Int) (s0_2 : Bool) (r1 : Int) (r2 : ByteArray) (r3 : Int) (r4 : Bool) (w0 w : World) (hI : IsS48 w0 w g s0_0 s0_1 s0_2) (hB : Below w0.heap.size w0 w) (h : impl_reader_number.f k s0_0 s0_1 s0_2 = some (r1, r2, r3, r4)) :
    Calls Try.prog 21 #[.pointer (some ⟨g, 0, none⟩)] w fun e w' => e = .returned (.int .i64 r1) ∧ IsS48 w0 w' g r2 r3 r4 ∧ Below w0.heap.size w0 w' ∧ KeepBut w w' g none := by
  have HI0 := Aside0.mk hI
  have HK := Aside0.mk (KeepBut.refl w g none)
  have HL := Aside0.mk hB.size
  clear hI
  have HW0 := Aside0.mk hB.size
  have HB := Aside0.mk hB
  clear hB
  have H : ((impl_ReadVar.f k s0_0 s0_1).bind fun bt453 => (if s0_2 = true then (some (0, s0_0, s0_1, true)) else (if bt453.2.2 = true then (some (bt453.1, s0_0, bt453.2.1, s0_2)) else (some (0, s0_0, s0_1, true))))) = some (r1, r2, r3, r4) := h
  clear h
  replace H := Option.bind_eq_some_iff.mp H
  obtain ⟨⟨t453, t454, t455⟩, A20, H⟩ := H
  replace H : (if s0_2 = true then (some (0, s0_0, s0_1, true)) else (if t455 = true then (some (t453, s0_0, t454, s0_2)) else (some (0, s0_0, s0_1, true)))) = some (r1, r2, r3, r4) := H
  have A2 := Aside0.mk A20
  clear A20
  by_cases c3 : s0_2 = true
  · subst c3
    have H1 : (some (0, s0_0, s0_1, true)) = some (r1, r2, r3, r4) := by rw [if_pos rfl] at H; exact H
    clear H
    have H := H1
    clear H1
    simp only [Option.some.injEq, Prod.mk.injEq] at H
    obtain ⟨rfl, rfl, rfl, rfl⟩ := H
    obtain ⟨HGz4, hgz4⟩ := HI0.out
    have hcz4_0 := cellS48_0 HGz4
    have hcz4_1 := cellS48_1 HGz4
    have hcz4_2 := cellS48_2 HGz4
    have hfz4_0 := blk_frozen HGz4 0
    have hfz4_1 := blk_frozen HGz4 1
    have hfz4_2 := blk_frozen HGz4 2
    clear HGz4 hgz4
    go_enter Try.func21, Try.ntmps21
    go_wp2_with (first | (go_at_call 50; (with_reducible refine (impl_ReadVar.calls k s0_0 s0_1 t453 t454 t455 _ A2.out).mono ?_); rintro e w' ⟨rfl, ⟨nd, rfl⟩⟩; (try first | exact ⟨rfl, _, World.drewN_drewN _ _ _⟩ | exact ⟨rfl, _, Eq.trans (World.drewN_drewN _ _ _) (congrArg (World.drewN _) (Nat.add_assoc _ _ _))⟩)))
    repeat (go_quiet (first | (go_at_call 50; (with_reducible refine (impl_ReadVar.calls k s0_0 s0_1 t453 t454 t455 _ A2.out).mono ?_); rintro e w' ⟨rfl, ⟨nd, rfl⟩⟩; (try first | exact ⟨rfl, _, World.drewN_drewN _ _ _⟩ | exact ⟨rfl, _, Eq.trans (World.drewN_drewN _ _ _) (congrArg (World.drewN _) (Nat.add_assoc _ _ _))⟩))); try go_wp2_with (first | (go_at_call 50; (with_reducible refine (impl_ReadVar.calls k s0_0 s0_1 t453 t454 t455 _ A2.out).mono ?_); rintro e w' ⟨rfl, ⟨nd, rfl⟩⟩; (try first | exact ⟨rfl, _, World.drewN_drewN _ _ _⟩ | exact ⟨rfl, _, Eq.trans (World.drewN_drewN _ _ _) (congrArg (World.drewN _) (Nat.add_assoc _ _ _))⟩))))
    go_ret
    exact ⟨by first | rfl | (simp [errW_none, errW_some] <;> rfl) | (simp [*, errW_none, errW_some] <;> rfl), by repeat (first | (with_reducible first | exact HI0.out | apply IsS48.alloc | apply IsS48.drewN | apply IsS48.drew | apply IsS48.set_0 | apply IsS48.set_1 | apply IsS48.set_2) | exact HI0.out), by repeat (first | (with_reducible first | exact HB.out | apply below_alloc | apply pw_below_drewN | apply below_drew1 | refine below_set ?_ (IsS48.ge HI0.out)) | exact HB.out), by repeat (first | (with_reducible first | exact HK.out | apply KeepBut.set_ | apply keep_drewN | apply keep_drew | apply keep_alloc) | exact HK.out)⟩
  · replace c3 := Bool.eq_false_iff.mpr c3
    subst c3
    have H1 : (if t455 = true then (some (t453, s0_0, t454, false)) else (some (0, s0_0, s0_1, true))) = some (r1, r2, r3, r4) := by rw [if_neg (show ¬ (false = true) by decide)] at H; exact H
    clear H
    have H := H1
    clear H1
    by_cases c5 : t455 = true
    · subst c5
      have H1 : (some (t453, s0_0, t454, false)) = some (r1, r2, r3, r4) := by rw [if_pos rfl] at H; exact H
      clear H
      have H := H1
      clear H1
      simp only [Option.some.injEq, Prod.mk.injEq] at H
      obtain ⟨rfl, rfl, rfl, rfl⟩ := H
      obtain ⟨HGz6, hgz6⟩ := HI0.out
      have hcz6_0 := cellS48_0 HGz6
      have hcz6_1 := cellS48_1 HGz6
      have hcz6_2 := cellS48_2 HGz6
      have hfz6_0 := blk_frozen HGz6 0
      have hfz6_1 := blk_frozen HGz6 1
      have hfz6_2 := blk_frozen HGz6 2
      clear HGz6 hgz6
      go_enter Try.func21, Try.ntmps21
      go_wp2_with (first | (go_at_call 50; (with_reducible refine (impl_ReadVar.calls k s0_0 s0_1 t453 t454 true _ A2.out).mono ?_); rintro e w' ⟨rfl, ⟨nd, rfl⟩⟩; (try first | exact ⟨rfl, _, World.drewN_drewN _ _ _⟩ | exact ⟨rfl, _, Eq.trans (World.drewN_drewN _ _ _) (congrArg (World.drewN _) (Nat.add_assoc _ _ _))⟩)))
      repeat (go_quiet (first | (go_at_call 50; (with_reducible refine (impl_ReadVar.calls k s0_0 s0_1 t453 t454 true _ A2.out).mono ?_); rintro e w' ⟨rfl, ⟨nd, rfl⟩⟩; (try first | exact ⟨rfl, _, World.drewN_drewN _ _ _⟩ | exact ⟨rfl, _, Eq.trans (World.drewN_drewN _ _ _) (congrArg (World.drewN _) (Nat.add_assoc _ _ _))⟩))); try go_wp2_with (first | (go_at_call 50; (with_reducible refine (impl_ReadVar.calls k s0_0 s0_1 t453 t454 true _ A2.out).mono ?_); rintro e w' ⟨rfl, ⟨nd, rfl⟩⟩; (try first | exact ⟨rfl, _, World.drewN_drewN _ _ _⟩ | exact ⟨rfl, _, Eq.trans (World.drewN_drewN _ _ _) (congrArg (World.drewN _) (Nat.add_assoc _ _ _))⟩))))
      go_ret
      exact ⟨by first | rfl | (simp [errW_none, errW_some] <;> rfl) | (simp [*, errW_none, errW_some] <;> rfl), by repeat (first | (with_reducible first | exact HI0.out | apply IsS48.alloc | apply IsS48.drewN | apply IsS48.drew | apply IsS48.set_0 | apply IsS48.set_1 | apply IsS48.set_2) | exact HI0.out), by repeat (first | (with_reducible first | exact HB.out | apply below_alloc | apply pw_below_drewN | apply below_drew1 | refine below_set ?_ (IsS48.ge HI0.out)) | exact HB.out), by repeat (first | (with_reducible first | exact HK.out | apply KeepBut.set_ | apply keep_drewN | apply keep_drew | apply keep_alloc) | exact HK.out)⟩
    · replace c5 := Bool.eq_false_iff.mpr c5
      subst c5
      have H1 : (some (0, s0_0, s0_1, true)) = some (r1, r2, r3, r4) := by rw [if_neg (show ¬ (false = true) by decide)] at H; exact H
      clear H
      have H := H1
      clear H1
      simp only [Option.some.injEq, Prod.mk.injEq] at H
      obtain ⟨rfl, rfl, rfl, rfl⟩ := H
      obtain ⟨HGz7, hgz7⟩ := HI0.out
      have hcz7_0 := cellS48_0 HGz7
      have hcz7_1 := cellS48_1 HGz7
      have hcz7_2 := cellS48_2 HGz7
      have hfz7_0 := blk_frozen HGz7 0
      have hfz7_1 := blk_frozen HGz7 1
      have hfz7_2 := blk_frozen HGz7 2
      clear HGz7 hgz7
      go_enter Try.func21, Try.ntmps21
      go_wp2_with (first | (go_at_call 50; (with_reducible refine (impl_ReadVar.calls k s0_0 s0_1 t453 t454 false _ A2.out).mono ?_); rintro e w' ⟨rfl, ⟨nd, rfl⟩⟩; (try first | exact ⟨rfl, _, World.drewN_drewN _ _ _⟩ | exact ⟨rfl, _, Eq.trans (World.drewN_drewN _ _ _) (congrArg (World.drewN _) (Nat.add_assoc _ _ _))⟩)))
      repeat (go_quiet (first | (go_at_call 50; (with_reducible refine (impl_ReadVar.calls k s0_0 s0_1 t453 t454 false _ A2.out).mono ?_); rintro e w' ⟨rfl, ⟨nd, rfl⟩⟩; (try first | exact ⟨rfl, _, World.drewN_drewN _ _ _⟩ | exact ⟨rfl, _, Eq.trans (World.drewN_drewN _ _ _) (congrArg (World.drewN _) (Nat.add_assoc _ _ _))⟩))); try go_wp2_with (first | (go_at_call 50; (with_reducible refine (impl_ReadVar.calls k s0_0 s0_1 t453 t454 false _ A2.out).mono ?_); rintro e w' ⟨rfl, ⟨nd, rfl⟩⟩; (try first | exact ⟨rfl, _, World.drewN_drewN _ _ _⟩ | exact ⟨rfl, _, Eq.trans (World.drewN_drewN _ _ _) (congrArg (World.drewN _) (Nat.add_assoc _ _ _))⟩))))
      go_ret
      exact ⟨by first | rfl | (simp [errW_none, errW_some] <;> rfl) | (simp [*, errW_none, errW_some] <;> rfl), by repeat (first | (with_reducible first | exact HI0.out | apply IsS48.alloc | apply IsS48.drewN | apply IsS48.drew | apply IsS48.set_0 | apply IsS48.set_1 | apply IsS48.set_2) | exact HI0.out), by repeat (first | (with_reducible first | exact HB.out | apply below_alloc | apply pw_below_drewN | apply below_drew1 | refine below_set ?_ (IsS48.ge HI0.out)) | exact HB.out), by repeat (first | (with_reducible first | exact HK.out | apply KeepBut.set_ | apply keep_drewN | apply keep_drew | apply keep_alloc) | exact HK.out)⟩
end Go.Proofs.Ytmljihfaapoakaa.PFnMessages
end

section
namespace Go.Proofs.Ytmljihfaapoakaa.PFnMessages
open Go.RowKit Go.Proofs.YtmljihfaapoakaaW.PrintWords Go.Proofs.YtmljihfaapoakaaW.PrintLast Go.Proofs.YtmljihfaapoakaaW.PrintMore
set_option linter.unusedVariables false
set_option linter.unusedSimpArgs false
def impl_reader_many.f (k : Nat) (s0_0 : ByteArray) (s0_1 : Int) (s0_2 : Bool) (a1 : Int) : Option (Int × ByteArray × Int × Bool) := (impl_reader_number.f k s0_0 s0_1 s0_2).bind fun bt460 => (if bt460.1 > a1 then (some (0, bt460.2.1, bt460.2.2.1, true)) else (some (bt460.1, bt460.2.1, bt460.2.2.1, bt460.2.2.2)))
theorem impl_reader_many.mono : ∀ a0 a1 a2 a3 k, LeO (impl_reader_many.f k a0 a1 a2 a3) (impl_reader_many.f (k + 1) a0 a1 a2 a3) := by
  intro a0 a1 a2 a3 k
  unfold impl_reader_many.f
  repeat' first
      | (with_reducible exact impl_reader_number.mono _ _ _ _)
      | (with_reducible exact LeO.refl _)
      | (with_reducible exact LeO.none _)
      | (with_reducible refine LeO.ite ?_ ?_)
      | (with_reducible refine LeO.bind ?_ (fun _ => ?_))
      | exact impl_reader_number.mono _ _ _ _
      | exact LeO.none _
      | refine LeO.ite ?_ ?_
      | refine LeO.bind ?_ (fun _ => ?_)
set_option maxHeartbeats 8000000 in
set_option maxRecDepth 100000 in
theorem impl_reader_many.calls (k : Nat) (g : Nat) (s0_0 : ByteArray) (s0_1 : Int) (s0_2 : Bool) (a1 : Int) (r1 : Int) (r2 : ByteArray) (r3 : Int) (r4 : Bool) (w0 w : World) (hI : IsS48 w0 w g s0_0 s0_1 s0_2) (hB : Below w0.heap.size w0 w) (h : impl_reader_many.f k s0_0 s0_1 s0_2 a1 = some (r1, r2, r3, r4)) :
    Calls Try.prog 23 #[.pointer (some ⟨g, 0, none⟩), .int .i64 a1] w fun e w' => e = .returned (.int .i64 r1) ∧ IsS48 w0 w' g r2 r3 r4 ∧ Below w0.heap.size w0 w' ∧ KeepBut w w' g none := by
  have HI0 := Aside0.mk hI
  have HK := Aside0.mk (KeepBut.refl w g none)
  have HL := Aside0.mk hB.size
  clear hI
  have HW0 := Aside0.mk hB.size
  have HB := Aside0.mk hB
  clear hB
  have H : ((impl_reader_number.f k s0_0 s0_1 s0_2).bind fun bt460 => (if bt460.1 > a1 then (some (0, bt460.2.1, bt460.2.2.1, true)) else (some (bt460.1, bt460.2.1, bt460.2.2.1, bt460.2.2.2)))) = some (r1, r2, r3, r4) := h
  clear h
  replace H := Option.bind_eq_some_iff.mp H
  obtain ⟨⟨t460, t461, t462, t463⟩, A30, H⟩ := H
  replace H : (if t460 > a1 then (some (0, t461, t462, true)) else (some (t460, t461, t462, t463))) = some (r1, r2, r3, r4) := H
  have A3 := Aside0.mk A30
  clear A30
  by_cases c4 : t460 > a1
  · rw [if_pos c4] at H
    have c4b0 : decide (a1 < t460) = true := decide_eq_true c4
    clear c4
    simp only [Option.some.injEq, Prod.mk.injEq] at H
    obtain ⟨rfl, rfl, rfl, rfl⟩ := H
    go_enter Try.func23, Try.ntmps23
    go_wp2_with (first | ((with_reducible refine gate_callee (f := 21) rfl ?_); refine goesL_ (some 7) rfl rfl Try.func21 (by kernel_rfl) rfl #[.pointer (some ⟨g, 0, none⟩)] rfl (by (try simp only [List.map_toArray, List.map_cons, List.map_nil]); first | done | rfl | (simp only [List.length_drop, List.length_take]; rfl)) ?_; (with_reducible refine (impl_reader_number.calls k g s0_0 s0_1 s0_2 t460 t461 t462 t463 w0 _ ?side1 ?side2 A3.out).mono ?_); (case side1 => repeat (first | (with_reducible first | exact HI0.out | apply IsS48.alloc | apply IsS48.drewN | apply IsS48.drew | apply IsS48.set_0 | apply IsS48.set_1 | apply IsS48.set_2) | exact HI0.out)); (case side2 => repeat (first | (with_reducible first | exact HB.out | apply below_alloc | apply pw_below_drewN | apply below_drew1 | refine below_set ?_ (IsS48.ge HI0.out)) | exact HB.out)); rintro e w5 ⟨rfl, hi, hb, hk⟩; refine ⟨_, rfl, ?_⟩; have n0_ := Aside0.mk (KeepBut.trans (by repeat (first | (with_reducible first | exact HK.out | apply KeepBut.set_ | apply keep_drewN | apply keep_drew | apply keep_alloc) | exact HK.out)) hk (.inl rfl)); have n1_ := Aside0.mk (hb); have n2_ := Aside0.mk (hi); clear HK; clear HB; clear HI0; have HK := n0_; have HB := n1_; have HI0 := n2_; clear n0_ n1_ n2_; (try clear hb); (try clear hb2); (try clear hk); (try clear hi); obtain ⟨HGz6, hgz6⟩ := HI0.out; have hcz6_0 := cellS48_0 HGz6; have hcz6_1 := cellS48_1 HGz6; have hcz6_2 := cellS48_2 HGz6; have hfz6_0 := blk_frozen HGz6 0; have hfz6_1 := blk_frozen HGz6 1; have hfz6_2 := blk_frozen HGz6 2; clear HGz6 hgz6))
    go_ret
    exact ⟨by first | rfl | (simp [errW_none, errW_some] <;> rfl) | (simp [*, errW_none, errW_some] <;> rfl), by repeat (first | (with_reducible first | exact HI0.out | apply IsS48.alloc | apply IsS48.drewN | apply IsS48.drew | apply IsS48.set_0 | apply IsS48.set_1 | apply IsS48.set_2) | exact HI0.out), by repeat (first | (with_reducible first | exact HB.out | apply below_alloc | apply pw_below_drewN | apply below_drew1 | refine below_set ?_ (IsS48.ge HI0.out)) | exact HB.out), by repeat (first | (with_reducible first | exact HK.out | apply KeepBut.set_ | apply keep_drewN | apply keep_drew | apply keep_alloc) | exact HK.out)⟩
  · rw [if_neg c4] at H
    have c4b0 : decide (a1 < t460) = false := decide_eq_false c4
    clear c4
    simp only [Option.some.injEq, Prod.mk.injEq] at H
    obtain ⟨rfl, rfl, rfl, rfl⟩ := H
    go_enter Try.func23, Try.ntmps23
    go_wp2_with (first | ((with_reducible refine gate_callee (f := 21) rfl ?_); refine goesL_ (some 7) rfl rfl Try.func21 (by kernel_rfl) rfl #[.pointer (some ⟨g, 0, none⟩)] rfl (by (try simp only [List.map_toArray, List.map_cons, List.map_nil]); first | done | rfl | (simp only [List.length_drop, List.length_take]; rfl)) ?_; (with_reducible refine (impl_reader_number.calls k g s0_0 s0_1 s0_2 t460 t461 t462 t463 w0 _ ?side1 ?side2 A3.out).mono ?_); (case side1 => repeat (first | (with_reducible first | exact HI0.out | apply IsS48.alloc | apply IsS48.drewN | apply IsS48.drew | apply IsS48.set_0 | apply IsS48.set_1 | apply IsS48.set_2) | exact HI0.out)); (case side2 => repeat (first | (with_reducible first | exact HB.out | apply below_alloc | apply pw_below_drewN | apply below_drew1 | refine below_set ?_ (IsS48.ge HI0.out)) | exact HB.out)); rintro e w7 ⟨rfl, hi, hb, hk⟩; refine ⟨_, rfl, ?_⟩; have n0_ := Aside0.mk (KeepBut.trans (by repeat (first | (with_reducible first | exact HK.out | apply KeepBut.set_ | apply keep_drewN | apply keep_drew | apply keep_alloc) | exact HK.out)) hk (.inl rfl)); have n1_ := Aside0.mk (hb); have n2_ := Aside0.mk (hi); clear HK; clear HB; clear HI0; have HK := n0_; have HB := n1_; have HI0 := n2_; clear n0_ n1_ n2_; (try clear hb); (try clear hb2); (try clear hk); (try clear hi)))
    go_ret
    exact ⟨by first | rfl | (simp [errW_none, errW_some] <;> rfl) | (simp [*, errW_none, errW_some] <;> rfl), by repeat (first | (with_reducible first | exact HI0.out | apply IsS48.alloc | apply IsS48.drewN | apply IsS48.drew | apply IsS48.set_0 | apply IsS48.set_1 | apply IsS48.set_2) | exact HI0.out), by repeat (first | (with_reducible first | exact HB.out | apply below_alloc | apply pw_below_drewN | apply below_drew1 | refine below_set ?_ (IsS48.ge HI0.out)) | exact HB.out), by repeat (first | (with_reducible first | exact HK.out | apply KeepBut.set_ | apply keep_drewN | apply keep_drew | apply keep_alloc) | exact HK.out)⟩
end Go.Proofs.Ytmljihfaapoakaa.PFnMessages
end

section
namespace Go.Proofs.Ytmljihfaapoakaa
open Go.RowKit Go.Proofs.YtmljihfaapoakaaW.PrintWords PFnMessages
set_option linter.unusedSimpArgs false
set_option linter.unusedVariables false
theorem rflagH (g : Nat) (s : ByteArray) (p : Int) (bad : Bool) (b : Bool) (p' : Int) (bad' : Bool) (w : World) (h : Hid (rdFlag s p bad = (b, p', bad'))) (hs : s.size ≤ 1099511627776) (hp : 0 ≤ p ∧ p ≤ s.size) (hR : Rd 48 g s p bad w) :
    Calls Try.prog 22 #[.pointer (some ⟨g, 0, none⟩)] w fun e w' => e = .returned (.bool b) ∧ Rd 48 g s p' bad' w' ∧ Upd g w w' := by
  have hlt := Nat.le_of_lt hR.lt
  refine (PFnMessages.impl_reader_flag.calls g s p bad b s p' bad' (trunc w g) w ⟨hR, Nat.le_of_eq (trunc_size hlt)⟩ (trunc_below hlt) ?_).mono ?_
  · unfold PFnMessages.impl_reader_flag.f
    rw [byte_f s p bad hs hp.1 hp.2]
    have h1 := h.out
    unfold rdFlag at h1
    simp only [Prod.mk.injEq] at h1
    obtain ⟨rfl, rfl, rfl⟩ := h1
    simp only [Option.bind_some]
    cases (rdByte s p bad).2.2 <;> simp
  · rintro e w' ⟨rfl, hI, hB, hK⟩
    exact ⟨rfl, hI.1, upd_of (trunc_below hlt) hB hK⟩
theorem rmanyH (g : Nat) (s : ByteArray) (p : Int) (bad : Bool) (m n : Int) (p' : Int) (bad' : Bool) (w : World) (h : Hid (rdMany s p bad m = (n, p', bad'))) (hs : s.size ≤ 1099511627776) (hR : Rd 48 g s p bad w) :
    Calls Try.prog 23 #[.pointer (some ⟨g, 0, none⟩), .int .i64 m] w fun e w' => e = .returned (.int .i64 n) ∧ Rd 48 g s p' bad' w' ∧ Upd g w w' := by
  have hlt := Nat.le_of_lt hR.lt
  refine (PFnMessages.impl_reader_many.calls 12 g s p bad m n s p' bad' (trunc w g) w ⟨hR, Nat.le_of_eq (trunc_size hlt)⟩ (trunc_below hlt) ?_).mono ?_
  · have hf : PFnMessages.impl_reader_number.f 12 s p bad = some ((rdNum s p bad).1, s, (rdNum s p bad).2.1, (rdNum s p bad).2.2) := by
      unfold PFnMessages.impl_reader_number.f rdNum
      rw [impl_rv_f s p hs]
      cases bad with
      | true => rfl
      | false =>
        rcases hq : rv s p with _ | ⟨a, c⟩
        · rfl
        · rfl
    unfold PFnMessages.impl_reader_many.f
    rw [hf, Option.bind_some]
    have h1 := h.out
    unfold rdMany at h1
    by_cases hc : (rdNum s p bad).1 > m
    · rw [if_pos hc] at h1
      rw [if_pos hc]
      simp only [Prod.mk.injEq] at h1
      obtain ⟨rfl, rfl, rfl⟩ := h1
      rfl
    · rw [if_neg hc] at h1
      rw [if_neg hc]
      rw [h1]
  · rintro e w' ⟨rfl, hI, hB, hK⟩
    exact ⟨rfl, hI.1, upd_of (trunc_below hlt) hB hK⟩
theorem rtextH (g : Nat) (s : ByteArray) (p : Int) (bad : Bool) (n : ByteArray) (p' : Int) (bad' : Bool) (w : World) (h : Hid (rdText s p bad = (n, p', bad'))) (hs : s.size ≤ 1099511627776) (hR : Rd 48 g s p bad w) :
    Calls Try.prog 25 #[.pointer (some ⟨g, 0, none⟩)] w fun e w' => e = .returned (.string n) ∧ Rd 48 g s p' bad' w' ∧ Upd g w w' := by
  have := impl_text g s p bad w hs hR
  rw [h.out] at this
  exact this
theorem rdoneH (g : Nat) (s : ByteArray) (p : Int) (bad dn : Bool) (w : World) (h : Hid ((!bad && p == s.size) = dn)) (hR : Rd 48 g s p bad w) :
    Calls Try.prog 27 #[.pointer (some ⟨g, 0, none⟩)] w fun e w' => e = .returned (.bool dn) ∧ Rd 48 g s p bad w' ∧ Upd g w w' := by
  have := impl_done g s p bad w hR
  rw [h.out] at this
  exact this
theorem numbers_l0 (t : ByteArray) (ht : t.size ≤ 1099511627776) : ∀ (n k i : Nat) (acc : List Int), n + i = t.size → acc.length = i → n < k → PFnMessages.impl_numbers.l0 k t acc (t.size : Int) (i : Int) = some (acc ++ bytesFrom t i n)
  | _, 0, _, _, _, _, hk => by omega
  | 0, k + 1, i, acc, h, ha, _ => by
    unfold PFnMessages.impl_numbers.l0
    rw [if_neg (by omega)]
    simp [bytesFrom]
  | n + 1, k + 1, i, acc, h, ha, hk => by
    have hb := bt_range t (i : Int)
    unfold PFnMessages.impl_numbers.l0
    rw [if_pos (by omega), if_pos (by omega), if_pos (by omega), if_pos (by omega), show wrap64 ((i : Int) + 1) = ((i + 1 : Nat) : Int) from by unfold wrap64; omega, show wrap64 (bt t (i : Int)) = bt t (i : Int) from by unfold wrap64; omega, numbers_l0 t ht n k (i + 1) _ (by omega) (by simp; omega) (by omega)]
    simp [bytesFrom]
theorem impl_numbersH (t : ByteArray) (w : World) (ht : t.size ≤ 1099511627776) :
    Calls Try.prog 26 #[.string t] w fun e w' => ∃ v, e = .returned v ∧ Kd.R (Kd.int .i64) 3 w' w.heap.size (fun _ => True) v (bytesFrom t 0 t.size) ∧ Below w.heap.size w w' :=
  PFnMessages.impl_numbers.calls (t.size + 1) t _ w (by
    unfold PFnMessages.impl_numbers.f
    have := numbers_l0 t ht t.size (t.size + 1) 0 [] (by omega) rfl (by omega)
    simpa using this)
theorem impl_ReadEntryF (t : ByteArray) (w : World) (ht : t.size ≤ 1099511627776) :
    Calls Try.prog 24 #[.string t] w fun e w' => e = .returned (.tuple #[.int .i64 (rentI t).2.1, .agg #[.int .i64 (rentI t).2.2.f0, .int .i64 (rentI t).2.2.f1, .string (rentI t).2.2.f2], .bool (rentI t).1]) ∧ Below w.heap.size w w' := by
  rcases h1 : rdByte t 0 false with ⟨mk, p1, q1⟩
  rcases h2 : rdNum t p1 q1 with ⟨ix, p2, q2⟩
  rcases h3 : rdNum t p2 q2 with ⟨tm, p3, q3⟩
  rcases h4 : rdByte t p3 q3 with ⟨k, p4, q4⟩
  have hw := impl_ReadEntry t ht mk ix tm k p1 p2 p3 p4 q1 q2 q3 q4 (t.extract p4.toNat t.size) w (Lib.hid h1) (Lib.hid h2) (Lib.hid h3) (Lib.hid h4) (Lib.hid rfl) _ _ (mk == 69) (Lib.hid rfl) (Lib.hid rfl) (by simp [bne])
  refine hw.mono ?_
  rintro e w' ⟨rfl, hb⟩
  refine ⟨?_, hb⟩
  unfold rentI rentV
  simp only [h1, h2, h3, h4]
  cases (!q4 && (mk == 69) && entryOk tm k (t.extract p4.toNat t.size) && inB ix 1 1000000) <;> rfl
def DAt (RT : Nat) (w : World) (s : ByteArray) (p : Int) (q : Bool) (b : Nat) (cs : Array Value) (W : World) : Prop :=
  Blk 27 w.heap.size #[.int .i64 0, .int .i64 0, .int .i64 0, .int .i64 0, .int .i64 0, .int .i64 0, .int .i64 0, .bool false, .slice none 0 0, .slice none 0 0, .string ⟨#[]⟩, .bool false] W ∧ Rd RT (w.heap.size + 1) s p q W ∧ Below w.heap.size w W ∧ Blk 27 b cs W ∧ w.heap.size + 1 < b
section
variable {RT : Nat} {w : World} {s : ByteArray} {p p' : Int} {q q' : Bool} {b : Nat} {cs cs' : Array Value} {W W1 : World}
theorem DAt.upd (h : DAt RT w s p q b cs W) (R : Rd RT (w.heap.size + 1) s p' q' W1) (U : Upd (w.heap.size + 1) W W1) : DAt RT w s p' q' b cs W1 := by
  obtain ⟨k2, -, B, k5, hb⟩ := h
  exact ⟨k2.upd U (by omega), R, U.below B (by omega), k5.upd U (by omega), hb⟩
theorem DAt.below (h : DAt RT w s p q b cs W) (hb : Below W.heap.size W W1) : DAt RT w s p q b cs W1 := by
  obtain ⟨k2, R, B, k5, hlt⟩ := h
  exact ⟨k2.below hb, R.below hb, bl_then B hb, k5.below hb, hlt⟩
theorem DAt.set {o : Nat} {v : Value} (h : DAt RT w s p q b cs W) (hc : cs.setIfInBounds o v = cs') : DAt RT w s p q b cs' (W.setCell ⟨b, o, none⟩ v) := by
  obtain ⟨k2, R, B, k5, hlt⟩ := h
  exact ⟨k2.far (a := ⟨b, o, none⟩) (by show w.heap.size ≠ b; omega) v, R.far (a := ⟨b, o, none⟩) (by show w.heap.size + 1 ≠ b; omega) v, bl_set B (by show w.heap.size ≤ b; omega), k5.set o v hc, hlt⟩
theorem DAt.bad (h : DAt RT w s p q b cs W) (q2 : Bool) : DAt RT w s p q2 b cs (W.setCell ⟨w.heap.size + 1, 2, none⟩ (.bool q2)) := by
  obtain ⟨k2, R, B, k5, hlt⟩ := h
  exact ⟨k2.far (a := ⟨w.heap.size + 1, 2, none⟩) (by show w.heap.size ≠ w.heap.size + 1; omega) _, R.set2 q2, bl_set B (Nat.le_succ _), k5.far (a := ⟨w.heap.size + 1, 2, none⟩) (by show b ≠ w.heap.size + 1; omega) _, hlt⟩
theorem DAt.grown {row : Option Nat} (h : DAt RT w s p q b cs W) (hg : W.grownBy W1 row) (hrow : ∀ k, row = some k → b < k) : DAt RT w s p q b cs W1 := by
  obtain ⟨k2, R, B, k5, hlt⟩ := h
  have hn : ∀ k, k ≤ b → some k ≠ row := fun k hk e => by have := hrow k e.symm; omega
  refine ⟨(hg.block _ k2.lt (hn _ (by omega))).trans k2, (hg.block _ R.lt (hn _ (by omega))).trans R, ⟨hg.os.trans B.os, hg.tape.trans B.tape, hg.output.trans B.output, Nat.le_trans B.size hg.size, fun k hk => (hg.block k (Nat.lt_of_lt_of_le hk B.size) (hn _ (by omega))).trans (B.block k hk)⟩, (hg.block _ k5.lt (hn _ (by omega))).trans k5, hlt⟩
end
theorem own_upd {α : Type} {d : Kd α} {e base g b : Nat} {W W1 : World} {v : Value} {xs : List α} (h : d.R e W base (fun k => b < k) v xs) (U : Upd g W W1) (hg : g ≤ b) : d.R e W1 base (fun k => b < k) v xs :=
  Kd.R_step h (fun k hk hlt => U.block k hlt (by have : b < k := hk; omega))
theorem own_set {α : Type} {d : Kd α} {e base g o b : Nat} {W : World} {u v : Value} {xs : List α} (h : d.R e W base (fun k => b < k) v xs) (hg : g ≤ b) : d.R e (W.setCell ⟨g, o, none⟩ u) base (fun k => b < k) v xs :=
  Kd.R_far h (p := ⟨g, o, none⟩) (fun k hk => by have : b < k := hk; show k ≠ g; omega) u
def DecBack (w w' : World) (e : Ending) (ok : Bool) (a0 a1 a2 a3 a4 a5 a6 : Int) (a7 : Bool) (es : List S43) (cf : List Int) (d : ByteArray) (ls : Bool) : Prop :=
  (∃ vE vC, e = .returned (if ok = true then .tuple #[.agg #[.int .i64 a0, .int .i64 a1, .int .i64 a2, .int .i64 a3, .int .i64 a4, .int .i64 a5, .int .i64 a6, .bool a7, vE, vC, .string d, .bool ls], .bool true]
    else .tuple #[.agg #[.int .i64 0, .int .i64 0, .int .i64 0, .int .i64 0, .int .i64 0, .int .i64 0, .int .i64 0, .bool false, vE, vC, .string ⟨#[]⟩, .bool false], .bool false]) ∧
    Kd.R k43 43 w' w.heap.size (fun _ => True) vE (if ok = true then es else []) ∧ Kd.R (Kd.int .i64) 3 w' w.heap.size (fun _ => True) vC (if ok = true then cf else [])) ∧ Below w.heap.size w w'
end Go.Proofs.Ytmljihfaapoakaa
end
