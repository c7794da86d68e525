import Derived.Test.YtlbikcelfheohaaReadCmd
import Derived.Test.YtlbikcelfheohaaReadPure
import Derived.Test.YtlbikcelfheohaaCmdLaw
namespace Go.Proofs.Ytlbikcelfheohaa
open Go.RowKit Go.Proofs.YtlbikcelfheohaaW.PrintWords
set_option linter.unusedSimpArgs false
set_option linter.unusedVariables false

theorem three_bytesE (a b c : Int) : byteS a ++ byteS b ++ byteS c = strOfNums [a % 256, b % 256, c % 256] := by
  apply ByteArray.ext
  apply Array.toList_inj.1
  rw [ByteArray.data_append, ByteArray.data_append, Array.toList_append, Array.toList_append, byteS, byteS, byteS, strOfNums_data, strOfNums_data, strOfNums_data, strOfNums_data]
  rfl

theorem cmd_bytes {s tx : ByteArray} {op tok seq topic dev edge ep up p1 p2 p3 p4 p5 p6 p7 p8 p9 : Int} {q1 q2 q3 q4 q5 q6 q7 q8 : Bool}
    (h1 : rdByte s 0 false = (op, p1, q1)) (h2 : rdNum s p1 q1 = (tok, p2, q2)) (h3 : rdNum s p2 q2 = (seq, p3, q3)) (h4 : rdByte s p3 q3 = (topic, p4, q4))
    (h5 : rdByte s p4 q4 = (dev, p5, q5)) (h6 : rdByte s p5 q5 = (edge, p6, q6)) (h7 : rdNum s p6 q6 = (ep, p7, q7)) (h8 : rdNum s p7 q7 = (up, p8, q8)) (h9 : rdShort s p8 q8 = (tx, p9, false)) :
    0 ≤ p9 ∧ p9 ≤ s.size ∧ cmdS op tok seq topic dev edge ep up tx = s.extract 0 p9.toNat := by
  have g0 : 0 ≤ (0 : Int) ∧ (0 : Int) ≤ s.size := by omega
  have g1 := byteH_range (Lib.hid h1) g0
  have g2 := numH_range (Lib.hid h2) g1
  have g3 := numH_range (Lib.hid h3) g2
  have g4 := byteH_range (Lib.hid h4) g3
  have g5 := byteH_range (Lib.hid h5) g4
  have g6 := byteH_range (Lib.hid h6) g5
  have g7 := numH_range (Lib.hid h7) g6
  have g8 := numH_range (Lib.hid h8) g7
  obtain ⟨rfl, a8, b8, c8, e8⟩ := short_bytes g8.1 g8.2 h9
  obtain ⟨rfl, a7, b7, c7, e7⟩ := num_bytes h8
  obtain ⟨rfl, a6, b6, c6, e6⟩ := num_bytes h7
  obtain ⟨rfl, a5, b5, c5, e5⟩ := byte_bytes g5.1 h6
  obtain ⟨rfl, a4, b4, c4, e4⟩ := byte_bytes g4.1 h5
  obtain ⟨rfl, a3, b3, c3, e3⟩ := byte_bytes g3.1 h4
  obtain ⟨rfl, a2, b2, c2, e2⟩ := num_bytes h3
  obtain ⟨rfl, a1, b1, c1, e1⟩ := num_bytes h2
  obtain ⟨_, a0, b0, c0, e0⟩ := byte_bytes g0.1 h1
  refine ⟨by omega, by omega, ?_⟩
  unfold cmdS
  rw [← three_bytesE, ← e0, ← e1, ← e2, ← e3, ← e4, ← e5, ← e6, ← e7, ← e8]
  simp only [Int.toNat_zero]
  simp only [ByteArray.append_assoc]
  rw [extract_join s p7.toNat p8.toNat p9.toNat (by omega) (by omega), extract_join s p6.toNat p7.toNat p9.toNat (by omega) (by omega), extract_join s p5.toNat p6.toNat p9.toNat (by omega) (by omega), extract_join s p4.toNat p5.toNat p9.toNat (by omega) (by omega),
    extract_join s p3.toNat p4.toNat p9.toNat (by omega) (by omega), extract_join s p2.toNat p3.toNat p9.toNat (by omega) (by omega), extract_join s p1.toNat p2.toNat p9.toNat (by omega) (by omega), extract_join s 0 p1.toNat p9.toNat (by omega) (by omega)]

theorem readcmd_same {s tx ty : ByteArray} {op tok seq topic dev edge ep up p1 p2 p3 p4 p5 p6 p7 p8 p9 r9 : Int} {q1 q2 q3 q4 q5 q6 q7 q8 q9 u9 : Bool}
    (h1 : rdByte s 0 false = (op, p1, q1)) (h2 : rdNum s p1 q1 = (tok, p2, q2)) (h3 : rdNum s p2 q2 = (seq, p3, q3)) (h4 : rdByte s p3 q3 = (topic, p4, q4))
    (h5 : rdByte s p4 q4 = (dev, p5, q5)) (h6 : rdByte s p5 q5 = (edge, p6, q6)) (h7 : rdNum s p6 q6 = (ep, p7, q7)) (h8 : rdNum s p7 q7 = (up, p8, q8)) (h9 : rdText s p8 q8 = (tx, p9, q9)) (k9 : rdShort s p8 q8 = (ty, r9, u9)) :
    (!u9 && cmdOk op tok seq topic dev edge ep up ty && (cmdS op tok seq topic dev edge ep up ty).toList == s.toList) = (!q9 && p9 == s.size && cmdOk op tok seq topic dev edge ep up tx) ∧
      ((!q9 && p9 == s.size && cmdOk op tok seq topic dev edge ep up tx) = true → ty = tx) := by
  cases q9 with
  | true =>
    refine ⟨?_, by simp⟩
    rw [Bool.eq_iff_iff]
    simp
    intro hu hc
    subst hu
    have := text_of_short k9 (by have := (cmdOk_range hc).2.2.2.2; omega)
    rw [h9] at this
    simp at this
  | false =>
    have hk := short_of_text h9
    rw [k9] at hk
    simp at hk
    obtain ⟨rfl, rfl, rfl⟩ := hk
    refine ⟨?_, fun _ => rfl⟩
    obtain ⟨ha, hb, hc⟩ := cmd_bytes h1 h2 h3 h4 h5 h6 h7 h8 k9
    have hiff : ((cmdS op tok seq topic dev edge ep up ty).toList == s.toList) = (r9 == (s.size : Int)) := by
      rw [Bool.eq_iff_iff, beq_iff_eq, beq_iff_eq, hc]
      constructor
      · intro h
        have := ba_ext h
        have h2 := congrArg ByteArray.size this
        simp at h2
        omega
      · intro h
        subst h
        simp
    rw [hiff]
    cases cmdOk op tok seq topic dev edge ep up ty <;> simp
end Go.Proofs.Ytlbikcelfheohaa
