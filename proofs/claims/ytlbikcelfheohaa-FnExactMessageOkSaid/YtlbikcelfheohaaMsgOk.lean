import Derived.Test.YtlbikcelfheohaaMsgPure
import Derived.Test.YtlbikcelfheohaaBase
namespace Go.Proofs.Ytlbikcelfheohaa.PFnExactMessageOk
open Go.RowKit Go.Proofs.YtlbikcelfheohaaW.PrintWords
set_option linter.unusedSimpArgs false
set_option linter.unusedVariables false

def inM (a b c : Int) : Bool := decide (b ≤ a ∧ a ≤ c)
def tailB (es : List S93) (a0 a3 a5 : Int) : Bool := ents es a3 0 es.length a5 && decide (es.length ≤ 4) && (decide (es.length = 0) || a0 == 3)
def lastB (a0 : Int) (cf : List Int) (d : ByteArray) (ls : Bool) : Bool := if a0 = 5 then confOk cf && decide ((d.size : Int) ≤ 60) else decide (cf.length = 0) && decide (d.toList = []) && !ls
def headB (a3 a4 a5 a6 : Int) : Bool := inM a3 0 100000 && inM a5 0 100000 && inM a4 0 1000000 && inM a6 0 1000000
def msgB (a0 a1 a2 a3 a4 a5 a6 : Int) (es : List S93) (cf : List Int) (d : ByteArray) (ls : Bool) : Bool :=
  inM a0 1 6 && inM a1 1 4 && inM a2 1 4 && !(a1 == a2) && headB a3 a4 a5 a6 && tailB es a0 a3 a5 && lastB a0 cf d ls

section
variable (es : List S93) (hS : Short es) (a0 a1 a2 a3 a4 a5 a6 : Int) (a7 : Bool) (cf : List Int) (d : ByteArray) (ls : Bool) (hl : es.length ≤ 1048576) (hcf : cf.length ≤ 1048576)
include hS hl hcf
theorem sj2 (k : Nat) (x : Bool) (hk : 3145731 < k) : spec_MessageOk.j2 (k + 1) x a0 a1 a2 a3 a4 a5 a6 a7 es cf d ls = some (!x && ents es a3 0 es.length a5 && lastB a0 cf d ls) := by
  rw [spec_MessageOk.j2]
  have := sment_l0 es hS a0 a1 a2 a3 a4 a5 a6 a7 cf d ls (by omega) hcf es.length k 0 a5 (by omega) (by omega)
  cases x with
  | true => rfl
  | false =>
    rw [if_neg (by simp)]
    exact this.trans (by simp [lastB])
theorem sj1 (k : Nat) (x : Bool) (hk : 3145731 < k) : spec_MessageOk.j1 (k + 2) x a0 a1 a2 a3 a4 a5 a6 a7 es cf d ls = some (!x && tailB es a0 a3 a5 && lastB a0 cf d ls) := by
  rw [spec_MessageOk.j1]
  cases x with
  | true => rfl
  | false =>
    rw [if_neg (by simp), sj2 es hS a0 a1 a2 a3 a4 a5 a6 a7 cf d ls hl hcf k _ hk, sj2 es hS a0 a1 a2 a3 a4 a5 a6 a7 cf d ls hl hcf k _ hk, sj2 es hS a0 a1 a2 a3 a4 a5 a6 a7 cf d ls hl hcf k _ hk]
    unfold tailB
    by_cases h4 : (es.length : Int) > 4
    · rw [if_pos h4]
      have : ¬ es.length ≤ 4 := by omega
      simp [this]
    · rw [if_neg h4]
      have h4' : es.length ≤ 4 := by omega
      by_cases h0 : (es.length : Int) > 0
      · rw [if_pos h0]
        have : ¬ es.length = 0 := by omega
        simp only [this, h4', decide_true, decide_false, Bool.false_or, Bool.and_true, Bool.not_false, Bool.true_and]
        cases h3 : (a0 == 3) <;> simp [bne, h3]
      · rw [if_neg h0]
        have : es.length = 0 := by omega
        simp [this, h4']
theorem sj0 (k : Nat) (x : Bool) (hk : 3145731 < k) : spec_MessageOk.j0 (k + 3) x a0 a1 a2 a3 a4 a5 a6 a7 es cf d ls = some (!x && headB a3 a4 a5 a6 && tailB es a0 a3 a5 && lastB a0 cf d ls) := by
  rw [spec_MessageOk.j0]
  simp only [sj1 es hS a0 a1 a2 a3 a4 a5 a6 a7 cf d ls hl hcf k _ hk, l01In_f, Option.bind_some]
  show _ = some (!x && (decide _ && decide _ && decide _ && decide _) && _ && _)
  cases x with
  | true => rfl
  | false =>
    rw [if_neg (by simp)]
    generalize decide (0 ≤ a3 ∧ a3 ≤ 100000) = b3
    generalize decide (0 ≤ a5 ∧ a5 ≤ 100000) = b5
    generalize decide (0 ≤ a4 ∧ a4 ≤ 1000000) = b4
    generalize decide (0 ≤ a6 ∧ a6 ≤ 1000000) = b6
    cases b3 <;> cases b5 <;> cases b4 <;> cases b6 <;> simp
theorem smsg_f (k : Nat) (hk : 3145731 < k) : spec_MessageOk.f (k + 3) a0 a1 a2 a3 a4 a5 a6 a7 es cf d ls = some (msgB a0 a1 a2 a3 a4 a5 a6 es cf d ls) := by
  unfold spec_MessageOk.f
  simp only [sj0 es hS a0 a1 a2 a3 a4 a5 a6 a7 cf d ls hl hcf k _ hk, l01In_f, Option.bind_some]
  unfold msgB
  show _ = some (decide _ && decide _ && decide _ && _ && _ && _ && _)
  generalize decide (1 ≤ a0 ∧ a0 ≤ 6) = b0
  generalize decide (1 ≤ a1 ∧ a1 ≤ 4) = b1
  generalize decide (1 ≤ a2 ∧ a2 ≤ 4) = b2
  cases b0 <;> cases b1 <;> cases b2 <;> simp
end
end Go.Proofs.Ytlbikcelfheohaa.PFnExactMessageOk
