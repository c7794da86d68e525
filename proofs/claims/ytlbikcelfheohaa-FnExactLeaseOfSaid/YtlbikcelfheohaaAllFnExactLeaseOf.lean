/-
  FnExactLeaseOf: whatever the arguments (any values of the parameters' types that can be read), the law returns true and each argument reads afterwards as it read before. Conditions: none.
-/
import Derived.Test.YtlbikcelfheohaaWWords
import Derived.WideShapes
import Derived.ChangeMaps5
import Derived.ChangeShapes
import Derived.ChangeArms
import Derived.DataElems
import Derived.RowKit
import Derived.Test.YtlbikcelfheohaaProg
import Derived.Below
import Derived.WalkKit
import Derived.KernelRfl
import Derived.RowKit3
import Derived.Deep.QuietTactic
import Derived.BigQuiet
import Derived.WideLaws
import Derived.OwnWalk
import Derived.Outline
import Derived.Lib.Hide
import Derived.Deep.Draws
import Derived.Lib.QuietBelow
import Derived.Test.YtlbikcelfheohaaPFnExactLeaseOfx0
import Derived.Test.YtlbikcelfheohaaPFnExactLeaseOfx14
import Derived.Test.YtlbikcelfheohaaPFnExactLeaseOfx19
import Derived.Test.YtlbikcelfheohaaPFnExactLeaseOfx17
import Derived.Test.YtlbikcelfheohaaPFnExactLeaseOfx22
import Derived.Test.YtlbikcelfheohaaPFnExactLeaseOfx10
import Derived.Test.YtlbikcelfheohaaPFnExactLeaseOfx37
import Derived.Test.YtlbikcelfheohaaPFnExactLeaseOfx11
import Derived.Test.YtlbikcelfheohaaRows
import Derived.ProofKit
import Derived.OpenShut
import Derived.ShutString
import Derived.ChangeOld
import Derived.SizedLaws
import Derived.Carry

/-! ### YtlbikcelfheohaaOpen -/
section
namespace Go.Proofs.Ytlbikcelfheohaa
open Go.RowKit Go.WideShapes Go.ChangeMaps Go.ChangeShapes Go.Proofs.YtlbikcelfheohaaW.PrintWords

/-- A value of a type, as an argument that can be read holds it. -/
def ArgOf (P : Program) (W : World) (t : TypeId) (v : Value) : Prop :=
  (∃ base, Value.okWide P W .any base t v) ∧ ∃ (H : Type) (enc : TypeId × Value → H) (fuel : Nat) (x : DataW H × List MemPlace), DataW.trod enc P W 0 (fun _ => true) true fuel t v.cells.toList = some x

/-- Cells of a type that can be read are of a kind. -/
def Opens (P : Program) (W : World) (t : TypeId) {α : Type} (d : Kd α) (G : α → Prop) : Prop :=
  ∀ (H : Type) (enc : TypeId × Value → H) (fuel : Nat) (cs : List Value) (x : DataW H × List MemPlace), DataW.trod enc P W 0 (fun _ => true) true fuel t cs = some x → ∃ a, d.K W a cs ∧ G a

/-- The fields of a struct, from one on. -/
def OpensL (P : Program) (W : World) (fs : List Field) (o : Nat) {β : Type} (d : Kd β) (G : β → Prop) : Prop :=
  ∀ (H : Type) (enc : TypeId × Value → H) (fuel : Nat) (cs : List Value),
    (∀ f ∈ fs, ∃ y, DataW.trod enc P W 0 (fun _ => true) true fuel f.type ((cs.drop f.offset).take (P.cellsOf f.type)) = some y) → cs.length = o + d.sz → ∃ b, d.K W b (cs.drop o) ∧ G b

section
variable {P : Program} {W : World} {t e : TypeId} {α β : Type} {d : Kd α} {G : α → Prop}

theorem opens_int {k : IntKind} (ht : P.underlying t = some (.int k)) : Opens P W t (Kd.int k) (fun n => (Lit.int k n).wf = true) := by
  intro H enc fuel cs x h
  obtain ⟨n, rfl, _, hw⟩ := DataW.trod_int ht h
  exact ⟨n, rfl, hw⟩
theorem opens_bool (ht : P.underlying t = some .bool) : Opens P W t Kd.bool (fun _ => True) := by
  intro H enc fuel cs x h
  obtain ⟨b, rfl, _⟩ := DataW.trod_bool ht h
  exact ⟨b, rfl, trivial⟩
theorem opens_string (ht : P.underlying t = some .string) : Opens P W t Kd.string (fun s => s.size ≤ maxLen) := by
  intro H enc fuel cs x h
  obtain ⟨s, rfl, _, hs⟩ := DataW.trod_string ht h
  exact ⟨s, rfl, hs⟩
theorem opens_slice (ht : P.underlying t = some (.slice e)) (hsz : d.sz = P.cellsOf e) (he : Opens P W e d G) :
    Opens P W t (Kd.slice e d) (fun xs => xs.length ≤ maxLen ∧ ∀ x ∈ xs, G x) := by
  intro H enc fuel cs x h
  rcases DataW.trod_slice ht h with ⟨rfl, _⟩ | ⟨a, len, cap, elems, rest, n, _, rfl, _, _, hl, hc, hlen, hel, _⟩
  · exact ⟨[], ⟨none, 0, rfl, Nat.le_refl _, rfl, by simp, fun h => absurd h (by simp)⟩, by simp, by simp⟩
  · have step : ∀ i : Fin len, ∃ (a' : α) (c : List Value), d.K W a' c ∧ G a' ∧ ∀ j u, c[j]? = some u → W.cell? (a.add (i.1 * P.cellsOf e + j)) = some u := by
      intro i
      have h1 := hel i.1 i.2
      obtain ⟨y, hy⟩ : ∃ y, elems[i.1]? = some y := ⟨elems[i.1]'(by omega), List.getElem?_eq_getElem (by omega)⟩
      rw [hy] at h1
      obtain ⟨c, hcs, ht2⟩ := Option.bind_eq_some_iff.1 h1
      obtain ⟨a', hK, hG⟩ := he H enc n c y ht2
      refine ⟨a', c, hK, hG, fun j u hj => ?_⟩
      unfold World.cells? at hcs
      rw [if_pos (Nat.zero_le _)] at hcs
      have hlt : j < P.cellsOf e := by
        have h2 := mapM_some_length hcs
        have h3 : j < c.length := by
          rcases Nat.lt_or_ge j c.length with h | h
          · exact h
          · rw [List.getElem?_eq_none h] at hj; cases hj
        simpa [h2] using h3
      have h4 := mapM_some_get hcs j j (by simp [hlt])
      rw [Addr.add_add] at h4
      exact h4.trans hj
    let f : Fin len → α := fun i => Classical.choose (step i)
    let c : Fin len → List Value := fun i => Classical.choose (Classical.choose_spec (step i))
    have hK : ∀ i, d.K W (f i) (c i) := fun i => (Classical.choose_spec (Classical.choose_spec (step i))).1
    have hG : ∀ i, G (f i) := fun i => (Classical.choose_spec (Classical.choose_spec (step i))).2.1
    have hcell : ∀ (i : Fin len) j u, (c i)[j]? = some u → W.cell? (a.add (i.1 * P.cellsOf e + j)) = some u := fun i => (Classical.choose_spec (Classical.choose_spec (step i))).2.2
    refine ⟨List.ofFn f, ⟨some a, cap, by simp, by simpa using hl, by simp, by unfold maxLen at hc; simp; omega, fun _ => ⟨a, rfl, fun j p hj => ?_⟩⟩, by simp; omega, ?_⟩
    · obtain ⟨hjl, hjp⟩ := List.getElem?_eq_some_iff.1 hj
      have hjl' : j < len := by simpa using hjl
      refine ⟨c ⟨j, hjl'⟩, d.K_len (hK _), ?_, fun i u hu => ?_⟩
      · have : p = f ⟨j, hjl'⟩ := by rw [← hjp]; simp
        rw [this]
        exact hK _
      · rw [hsz]
        exact hcell ⟨j, hjl'⟩ i u hu
    · intro y hy
      obtain ⟨i, rfl⟩ := List.mem_ofFn.1 hy
      exact hG i
theorem opensL_last {f : Field} {o : Nat} (ho : f.offset = o) (hf : Opens P W f.type d G) (hs : d.sz = P.cellsOf f.type) : OpensL P W [f] o d G := by
  intro H enc fuel cs h hl
  obtain ⟨y, hy⟩ := h f (by simp)
  obtain ⟨a, hK, hG⟩ := hf H enc fuel _ y hy
  refine ⟨a, ?_, hG⟩
  rw [ho, List.take_of_length_le (by rw [List.length_drop, hl, hs]; omega)] at hK
  exact hK
theorem opensL_cons {f : Field} {fs : List Field} {o : Nat} {d2 : Kd β} {G2 : β → Prop} (ho : f.offset = o) (hf : Opens P W f.type d G) (hs : d.sz = P.cellsOf f.type) (hr : OpensL P W fs (o + d.sz) d2 G2) :
    OpensL P W (f :: fs) o (Kd.pair d d2) (fun x => G x.1 ∧ G2 x.2) := by
  intro H enc fuel cs h hl
  obtain ⟨y, hy⟩ := h f (by simp)
  obtain ⟨a, hK, hG⟩ := hf H enc fuel _ y hy
  have hl' : cs.length = o + (d.sz + d2.sz) := hl
  obtain ⟨b, hK2, hG2⟩ := hr H enc fuel cs (fun f' hf' => h f' (by simp [hf'])) (by omega)
  refine ⟨(a, b), ⟨_, _, ?_, hK, hK2⟩, hG, hG2⟩
  rw [ho, ← hs, ← List.drop_drop, List.take_append_drop]
theorem opens_struct {fs : Array Field} (ht : P.underlying t = some (.struct fs)) (hs : d.sz = P.cellsOf t) (hf : OpensL P W fs.toList 0 d G) : Opens P W t d G := by
  intro H enc fuel cs x h
  obtain ⟨xs, n, _, _, hl, hn, hget⟩ := DataW.trod_struct ht h
  have hall : ∀ f ∈ fs.toList, ∃ y, DataW.trod enc P W 0 (fun _ => true) true n f.type ((cs.drop f.offset).take (P.cellsOf f.type)) = some y := by
    intro f hfm
    obtain ⟨i, hi, hif⟩ := List.getElem_of_mem hfm
    have h1 := hget i f (by rw [← hif]; simp [Array.getElem?_eq_getElem (by simpa using hi)])
    have hi' : i < xs.length := by rw [hn]; simpa using hi
    exact ⟨xs[i], by rw [h1, List.getElem?_eq_getElem hi']⟩
  obtain ⟨b, hK, hG⟩ := hf H enc n cs hall (by omega)
  exact ⟨b, by simpa using hK, hG⟩
theorem opens_iso {p : β → α} (inv : α → β) (hi : ∀ x, p (inv x) = x) (h : Opens P W t d G) : Opens P W t (Kd.iso d p) (fun x => G (p x)) := by
  intro H enc fuel cs x hx
  obtain ⟨a, hK, hG⟩ := h H enc fuel cs x hx
  exact ⟨inv a, by show d.K W (p (inv a)) cs; rw [hi]; exact hK, by show G (p (inv a)); rw [hi]; exact hG⟩

theorem Opens.imp {G' : α → Prop} (h : Opens P W t d G) (hi : ∀ x, G x → G' x) : Opens P W t d G' := by
  intro H enc fuel cs x hx
  obtain ⟨a, hK, hG⟩ := h H enc fuel cs x hx
  exact ⟨a, hK, hi a hG⟩

theorem arg_int {k : IntKind} {v : Value} (ht : P.underlying t = some (.int k)) (h : ArgOf P W t v) : ∃ n, v = .int k n ∧ (Lit.int k n).wf = true := by
  obtain ⟨⟨base, ho⟩, H, enc, fuel, x, hx⟩ := h
  obtain ⟨n, hv, _, _, hw⟩ := open_int (P := P) (d := x.1) (ps := x.2) ht ho ⟨fuel, hx⟩
  exact ⟨n, hv, hw⟩
theorem arg_bool {v : Value} (ht : P.underlying t = some .bool) (h : ArgOf P W t v) : ∃ b, v = .bool b := by
  obtain ⟨⟨base, ho⟩, H, enc, fuel, x, hx⟩ := h
  obtain ⟨b, hv, _⟩ := open_bool (P := P) (d := x.1) (ps := x.2) ht ho ⟨fuel, hx⟩
  exact ⟨b, hv⟩
theorem arg_string {v : Value} (ht : P.underlying t = some .string) (h : ArgOf P W t v) : ∃ s : ByteArray, v = .string s ∧ s.size ≤ maxLen := by
  obtain ⟨⟨base, ho⟩, H, enc, fuel, x, hx⟩ := h
  obtain ⟨s, hv, _, _, hs⟩ := open_string (P := P) (d := x.1) (ps := x.2) ht ho ⟨fuel, hx⟩
  exact ⟨s, hv, hs⟩
theorem arg_struct {fs : Array Field} {v : Value} (ht : P.underlying t = some (.struct fs)) (hd : Opens P W t d G) (h : ArgOf P W t v) : ∃ a cs, v = .agg cs ∧ d.K W a cs.toList ∧ G a := by
  obtain ⟨⟨base, ho⟩, H, enc, fuel, x, hx⟩ := h
  obtain ⟨cs, rfl, _⟩ := okWide_struct ht ho
  obtain ⟨a, hK, hG⟩ := hd H enc fuel _ x hx
  exact ⟨a, cs, rfl, hK, hG⟩
theorem arg_slice {v : Value} (ht : P.underlying t = some (.slice e)) (hsz : d.sz = P.cellsOf e) (hd : Opens P W e d G) (h : ArgOf P W t v) :
    ∃ A xs c, v = .slice A xs.length c ∧ xs.length ≤ c ∧ Kd.C d W A xs.length xs ∧ xs.length ≤ maxLen ∧ ∀ x ∈ xs, G x := by
  obtain ⟨⟨base, ho⟩, H, enc, fuel, x, hx⟩ := h
  obtain ⟨A, len, cap, rfl⟩ := okWide_slice ht ho
  obtain ⟨xs, ⟨A', c, he, hc, hC⟩, hG⟩ := opens_slice ht hsz hd H enc fuel _ x hx
  simp [Value.cells] at he
  obtain ⟨rfl, rfl, rfl⟩ := he
  exact ⟨A, xs, cap, rfl, hc, hC, hG.1, hG.2⟩
end
end Go.Proofs.Ytlbikcelfheohaa
end

/-! ### YtlbikcelfheohaaBase -/
section
namespace Go.Proofs.Ytlbikcelfheohaa
open Go.RowKit

theorem bcell {W w1 : World} (hb : Below W.heap.size W w1) : (∀ b o, b < W.heap.size → w1.cell? ⟨b, o, none⟩ = W.cell? ⟨b, o, none⟩) ∧ (∀ b o, b < W.heap.size → w1.frozen? ⟨b, o, none⟩ = W.frozen? ⟨b, o, none⟩) :=
  ⟨fun b o h => hb.cell (p := ⟨b, o, none⟩) h, fun b o h => hb.frozen (p := ⟨b, o, none⟩) h⟩
theorem bl_alloc {w W : World} (h : Below w.heap.size w W) (o : Obj) : Below w.heap.size w (W.alloc o) := h.alloc h.size o
theorem bl_drewN {w W : World} (h : Below w.heap.size w W) (n : Nat) : Below w.heap.size w (W.drewN n) := ⟨h.os, h.tape, h.output, h.size, h.block⟩
theorem bl_drew {w W : World} (h : Below w.heap.size w W) : Below w.heap.size w W.drew := h.drew
theorem bl_set {w W : World} {p : Addr} {v : Value} (h : Below w.heap.size w W) (hg : w.heap.size ≤ p.block) : Below w.heap.size w (W.setCell p v) := h.setCell hg _
theorem bl_then {w W w2 : World} (h : Below w.heap.size w W) (k : Below W.heap.size W w2) : Below w.heap.size w w2 :=
  h.trans ⟨k.os, k.tape, k.output, k.size, fun i hi => k.block i (Nat.lt_of_lt_of_le hi h.size)⟩
theorem cell_grow {w : World} {d : Nat} {os : Array Obj} {a : Addr} (h : a.block < w.heap.size) : (Go.Sort.grow (redrawn w d) os).cell? a = w.cell? a := (below_regrown w d os).cell h
theorem bl_regrown {w W : World} (h : ∃ p : Regrown, W = Go.Sort.grow (redrawn w p.d) p.os) : Below w.heap.size w W := by
  obtain ⟨p, rfl⟩ := h
  exact below_regrown w p.d p.os
theorem ret_int {k : IntKind} {a b : Int} (h : a = b) : Ending.returned (.int k a) = .returned (.int k b) := by rw [h]
theorem ret_str {a b : ByteArray} (h : a = b) : Ending.returned (.string a) = .returned (.string b) := by rw [h]

/-- Whether a number lies in a range. -/
def inB (n lo hi : Int) : Bool := decide (lo ≤ n) && decide (n ≤ hi)
theorem inB_iff {n lo hi : Int} : inB n lo hi = true ↔ lo ≤ n ∧ n ≤ hi := by simp [inB]

set_option maxHeartbeats 400000 in
theorem impl_in (n lo hi : Int) (w : World) :
    Calls Try.prog 34 #[.int .i64 n, .int .i64 lo, .int .i64 hi] w fun e w' => e = .returned (.bool (inB n lo hi)) ∧ w = w' := by
  go_enter Try.func34, Try.ntmps34
  go_wp2
  all_goals (go_ret; exact ⟨by first | (simp [inB, *]; done) | (simp [inB, *]; omega), rfl⟩)
set_option maxHeartbeats 400000 in
theorem spec_l01In (n lo hi : Int) (w : World) :
    Calls Try.prog 33 #[.int .i64 n, .int .i64 lo, .int .i64 hi] w fun e w' => e = .returned (.bool (inB n lo hi)) ∧ w = w' := by
  go_enter Try.func33, Try.ntmps33
  go_wp2
  all_goals (go_ret; exact ⟨by first | (simp [inB, *]; done) | (simp [inB, *]; omega), rfl⟩)
end Go.Proofs.Ytlbikcelfheohaa
end

/-! ### YtlbikcelfheohaaLoops -/
section
namespace Go.Proofs.Ytlbikcelfheohaa
open Go.RowKit
set_option linter.unusedSimpArgs false
set_option linter.unusedVariables false

/-! The three loops of the laws' helpers, once for all: copying, summing up sizes, comparing with itself. (own) -/
theorem copy_loop {α β : Type} (L : Nat → List α → List β → Int → Option (List β)) (c : α → β) (z : β) (ok : Nat → α → Prop)
    (h0 : ∀ k xs acc (i : Nat), xs.length ≤ i → L (k + 1) xs acc i = some acc)
    (h1 : ∀ k xs acc (i : Nat) (hi : i < xs.length), xs.length ≤ 1048576 → acc.length = xs.length → ok k xs[i] → L (k + 1) xs acc i = L k xs (acc.set i (c xs[i])) ((i + 1 : Nat) : Int)) (xs : List α) (hl : xs.length ≤ 1048576) (m : Nat) (hok : ∀ k, m ≤ k → ∀ x ∈ xs, ok k x) :
    ∀ (n k i : Nat) (acc : List β), n + i = xs.length → acc = (xs.take i).map c ++ List.replicate n z → n + m < k → L k xs acc i = some (xs.map c)
  | _, 0, _, _, _, _, hk => by omega
  | 0, k + 1, i, acc, h, ha, hk => by
    rw [h0 k xs acc i (by omega), ha, List.take_of_length_le (by omega)]
    simp
  | n + 1, k + 1, i, acc, h, ha, hk => by
    have hi : i < xs.length := by omega
    rw [h1 k xs acc i hi hl (by rw [ha]; simp; omega) (hok k (by omega) _ (List.getElem_mem hi))]
    refine copy_loop L c z ok h0 h1 xs hl m hok n k (i + 1) _ (by omega) ?_ (by omega)
    rw [ha, List.replicate_succ, List.set_append_right _ _ (by simp; omega), List.take_succ_eq_append_getElem hi]
    have : i - (List.map c (List.take i xs)).length = 0 := by simp; omega
    rw [this]
    simp only [List.set_cons_zero, List.map_append, List.map_cons, List.map_nil, List.append_assoc, List.cons_append, List.nil_append]

theorem size_loop {α : Type} (L : Nat → List α → Int → Int → Option Int) (G P : α → Prop) (m : Nat)
    (h0 : ∀ k xs (left : Int) (i : Nat), xs.length ≤ i → L (k + 1) xs left i = some left)
    (h1 : ∀ k xs (left : Int) (i : Nat) (hi : i < xs.length), m ≤ k → xs.length ≤ 1048576 → 0 ≤ left → left ≤ 1048576 → G xs[i] →
      (∃ r : Int, r < 0 ∧ L (k + 1) xs left i = some r) ∨ ∃ r : Int, 0 ≤ r ∧ r ≤ left ∧ P xs[i] ∧ L (k + 1) xs left i = L k xs r ((i + 1 : Nat) : Int)) (xs : List α) (hl : xs.length ≤ 1048576) (hG : ∀ x ∈ xs, G x) :
    ∀ (n k i : Nat) (left : Int), n + i = xs.length → n + m < k → 0 ≤ left → left ≤ 1048576 → ∃ r, L k xs left i = some r ∧ (r < 0 ∨ (0 ≤ r ∧ r ≤ left ∧ ∀ j (hj : j < xs.length), i ≤ j → P xs[j]))
  | _, 0, _, _, _, hk, _, _ => by omega
  | 0, k + 1, i, left, h, hk, a, b => ⟨left, h0 k xs left i (by omega), .inr ⟨a, Int.le_refl _, fun j hj hij => by omega⟩⟩
  | n + 1, k + 1, i, left, h, hk, a, b => by
    have hi : i < xs.length := by omega
    rcases h1 k xs left i hi (by omega) hl a b (hG _ (List.getElem_mem hi)) with ⟨r, hr, he⟩ | ⟨r, r0, r1, hP, he⟩
    · exact ⟨r, he, .inl hr⟩
    · obtain ⟨q, hq, hh⟩ := size_loop L G P m h0 h1 xs hl hG n k (i + 1) r (by omega) (by omega) r0 (by omega)
      refine ⟨q, he.trans hq, hh.imp id fun ⟨x, y, f⟩ => ⟨x, by omega, fun j hj hij => ?_⟩⟩
      by_cases e : j = i
      · subst e; exact hP
      · exact f j hj (by omega)

theorem same_loop {α : Type} (L : Nat → List α → List α → Int → Option Bool) (ok : Nat → α → Prop)
    (h0 : ∀ k xs (i : Nat), xs.length ≤ i → L (k + 1) xs xs i = some true)
    (h1 : ∀ k xs (i : Nat) (hi : i < xs.length), xs.length ≤ 1048576 → ok k xs[i] → L (k + 1) xs xs i = L k xs xs ((i + 1 : Nat) : Int)) (xs : List α) (hl : xs.length ≤ 1048576) (m : Nat) (hok : ∀ k, m ≤ k → ∀ x ∈ xs, ok k x) :
    ∀ (n k i : Nat), n + i = xs.length → n + m < k → L k xs xs i = some true
  | _, 0, _, _, hk => by omega
  | 0, k + 1, i, h, hk => h0 k xs i (by omega)
  | n + 1, k + 1, i, h, hk => by
    have hi : i < xs.length := by omega
    rw [h1 k xs i hi hl (hok k (by omega) _ (List.getElem_mem hi))]
    exact same_loop L ok h0 h1 xs hl m hok n k (i + 1) (by omega) (by omega)
end Go.Proofs.Ytlbikcelfheohaa
end

/-! ### YtlbikcelfheohaaQFnExactLeaseOfx15 -/
section
namespace Go.Proofs.Ytlbikcelfheohaa.PFnExactLeaseOf
open Go.RowKit Go.Proofs.YtlbikcelfheohaaW.PrintWords Go.Proofs.YtlbikcelfheohaaW.PrintLast Go.Proofs.YtlbikcelfheohaaW.PrintMore
attribute [local go_sem] max2_int min2_int max_two min_two max_three min_three max_four min_four   -- for this text's walks alone
set_option linter.unusedVariables false
set_option linter.unusedSimpArgs false

/-! ### laws_toSessionS: function 71 -/
def laws_toSessionS.l0 : Nat → List (S138) → List (S145) → Int → Option ((List (S145)))
  | 0, _, _, _ => none
  | k + 1, x0, x3, x4 => if x4 < (x0.length : Int) then (if 0 ≤ x4 then ((laws_toSession.f k ((rd_T138 x0 x4).f0) ((rd_T138 x0 x4).f1) ((rd_T138 x0 x4).f2)).bind fun bt142 => (if x4 < (x3.length : Int) then (laws_toSessionS.l0 k x0 (x3.set (x4 : Int).toNat (⟨bt142.1, bt142.2.1, bt142.2.2⟩ : S145)) (wrap64 (x4 + 1))) else (none))) else (none)) else (some x3)
def laws_toSessionS.f (k : Nat) (l0 : List (S138)) : Option ((List (S145))) := if 0 ≤ (l0.length : Int) then (if ((l0.length : Int) : Int).toNat ≤ 7036874417766 then (laws_toSessionS.l0 k l0 (List.replicate ((l0.length : Int) : Int).toNat z145) 0) else (none)) else (none)
theorem laws_toSessionS.mono_l : ∀ k, (∀ y0 y1 y2, LeO (laws_toSessionS.l0 k y0 y1 y2) (laws_toSessionS.l0 (k + 1) y0 y1 y2))
  | 0 => fun _ _ _ r h => by simp [laws_toSessionS.l0] at h
  | k + 1 => by
    have ih0 := laws_toSessionS.mono_l k
    · intro y0 y1 y2
      unfold laws_toSessionS.l0
      repeat' first
      | (with_reducible exact ih0 _ _ _)
      | (with_reducible exact laws_toSession.mono _ _ _ _)
      | (with_reducible exact LeO.refl _)
      | (with_reducible exact LeO.none _)
      | (with_reducible refine LeO.ite ?_ ?_)
      | (with_reducible refine LeO.bind ?_ (fun _ => ?_))
      | exact ih0 _ _ _
      | exact laws_toSession.mono _ _ _ _
      | exact LeO.none _
      | refine LeO.ite ?_ ?_
      | refine LeO.bind ?_ (fun _ => ?_)
theorem laws_toSessionS.mono : ∀ a0 k, LeO (laws_toSessionS.f k a0) (laws_toSessionS.f (k + 1) a0) := by
  intro a0 k
  have ih0 := laws_toSessionS.mono_l k
  unfold laws_toSessionS.f
  repeat' first
      | (with_reducible exact ih0 _ _ _)
      | (with_reducible exact laws_toSession.mono _ _ _ _)
      | (with_reducible exact LeO.refl _)
      | (with_reducible exact LeO.none _)
      | (with_reducible refine LeO.ite ?_ ?_)
      | (with_reducible refine LeO.bind ?_ (fun _ => ?_))
      | exact ih0 _ _ _
      | exact laws_toSession.mono _ _ _ _
      | exact LeO.none _
      | refine LeO.ite ?_ ?_
      | refine LeO.bind ?_ (fun _ => ?_)
set_option maxHeartbeats 8000000 in
set_option maxRecDepth 100000 in
theorem laws_toSessionS.calls (k : Nat) (A0 : Option Addr) (c0 : Nat) (l0 : List (S138)) (r : List (S145)) (w : World) (hr0 : Kd.C k138 w A0 l0.length l0) (hc0 : l0.length ≤ c0) (h : laws_toSessionS.f k l0 = some r) :
    Calls Try.prog 71 #[.slice A0 l0.length c0] w fun e w' => ∃ v0_ : Value, e = .returned (v0_) ∧ Kd.S k145 145 w' w.heap.size (fun _ => True) v0_ r ∧ Below w.heap.size w w' := by
  have hu138 := Try.underlying138
  have hu145 := Try.underlying145
  have HR0 := Aside0.mk hr0
  have HC0 := Aside0.mk hc0
  clear hr0 hc0
  have HB := Aside0.mk (Below.refl w.heap.size w)
  have H : (if 0 ≤ (l0.length : Int) then (if ((l0.length : Int) : Int).toNat ≤ 7036874417766 then (laws_toSessionS.l0 k l0 (List.replicate ((l0.length : Int) : Int).toNat z145) 0) else (none)) else (none)) = some r := h
  clear h
  by_cases c2 : 0 ≤ (l0.length : Int)
  · rw [if_pos c2] at H
    have c2b0 := eq_true c2
    have c2b1 : decide (0 ≤ (l0.length : Int)) = true := decide_eq_true c2
    clear c2
    by_cases c3 : ((l0.length : Int) : Int).toNat ≤ 7036874417766
    · rw [if_pos c3] at H
      have c3b0 := eq_true c3
      have c3b1 : decide (((l0.length : Int) : Int).toNat ≤ 7036874417766) = true := decide_eq_true c3
      clear c3
      obtain ⟨y138, hy138⟩ : ∃ y_ : List (S145), y_ = (List.replicate ((l0.length : Int) : Int).toNat z145) := ⟨_, rfl⟩
      replace H : (laws_toSessionS.l0 k l0 y138 0) = some r := by first | (rw [hy138]; with_reducible exact H) | (have H2_ := (Option.bind_some _ _).symm.trans H; rw [hy138]; with_reducible exact H2_) | (have H2_ := (Option.bind_some _ _).symm.trans H; with_reducible exact H2_) | with_reducible exact H | (rw [hy138]; exact H) | exact H
      have Ny138 := Aside0.mk hy138
      clear hy138
      have H' := Aside0.mk H
      clear H
      go_enter Try.func71, Try.ntmps71
      go_wp2_with (first | ((with_reducible refine gate_dst (N := 7) rfl ?_); refine Kd.S_make k145 _ 145 rfl (N := 7) rfl 62 _ _ rfl (l0.length : Int) rfl rfl Try.underlying62 (.agg #[(.int .i64 0), (.int .i64 0), (.slice none 0 0)]) 40 info145 rfl (by decide) (by omega) z145 (ok := fun _ => True) (okp := fun _ => True) (k145_mkM _ _ _ z145 (Kd.R_nil _ _ _ _ _)) (fun _ hk => hk) trivial (of_decide_eq_true (by first | (with_reducible assumption) | assumption)) (Nat.le_trans (Nat.mul_le_mul_right _ (of_decide_eq_true (by first | (with_reducible assumption) | assumption) : (l0.length : Int).toNat ≤ 7036874417766)) (by omega)) (Below.refl _ _) (Nat.le_refl _) ?_; intro v139 w4 ho5 hb hg_ hnew_; clear hg_ hnew_; (first | rw [← Ny138.out] at ho5 | (simp only [Int.reduceToNat] at ho5; rw [← Ny138.out] at ho5)); have n0_ := Aside0.mk (Kd.S_lower ho5 (below_size (by repeat (first | (with_reducible first | exact HB.out | apply below_alloc | apply pw_below_drewN | apply below_drew1) | exact HB.out)))); have n1_ := Aside0.mk (below_step (by repeat (first | (with_reducible first | exact HB.out | apply below_alloc | apply pw_below_drewN | apply below_drew1) | exact HB.out)) hb); clear HB; have HO140 := n0_; have HB := n1_; clear n0_ n1_; clear hb ho5))
      go_loopg [4] k (fun kq v4 w' => ∃ (x3_1 : List (S145)) (x4_1 : Int), v4 = .int .i64 x4_1 ∧ Aside0 (laws_toSessionS.l0 kq l0 x3_1 x4_1 = some r) ∧ Aside0 (kq ≤ k) ∧ Aside0 (Kd.S k145 145 w' w.heap.size (fun _ => True) v139 x3_1) ∧ Aside0 (Below w.heap.size w w'))
      case atStart => exact ⟨(y138), (0), (by first | rfl | (simp; done) | (simp [*]; done)), H', ⟨Nat.le_refl _⟩, ⟨by (with_reducible repeat (first | apply Kd.S_alloc | apply Kd.S_drewN | apply Kd.S_drew)); exact HO140.out⟩, ⟨by repeat (first | (with_reducible first | exact HB.out | apply below_alloc | apply pw_below_drewN | apply below_drew1) | exact HB.out)⟩⟩
      case round =>
        clear H'
        try clear c2
        try clear c2b0
        try clear c2b1
        try clear p2
        try clear c3
        try clear c3b0
        try clear c3b1
        obtain ⟨x3_1, x4_1, rfl, HA, HK1, HO_3, HB⟩ := hrel
        cases gk with
        | zero => exact absurd HA.out (by simp [laws_toSessionS.l0])
        | succ k1 =>
          have H := HA.out
          clear HA
          simp only [laws_toSessionS.l0] at H
          by_cases c6 : x4_1 < (l0.length : Int)
          · rw [if_pos c6] at H
            have c6b0 : decide (x4_1 < (l0.length : Int)) = true := decide_eq_true c6
            clear c6
            by_cases c7 : 0 ≤ x4_1
            · rw [if_pos c7] at H
              have c7b0 : decide (0 ≤ x4_1) = true := decide_eq_true c7
              clear c7
              replace H := Option.bind_eq_some_iff.mp H
              obtain ⟨⟨t142, t143, t144⟩, A80, H⟩ := H
              replace H : (if x4_1 < (x3_1.length : Int) then (laws_toSessionS.l0 k1 l0 (x3_1.set (x4_1 : Int).toNat (⟨t142, t143, t144⟩ : S145)) (wrap64 (x4_1 + 1))) else (none)) = some r := H
              have A8 := Aside0.mk A80
              clear A80
              by_cases c9 : x4_1 < (x3_1.length : Int)
              · rw [if_pos c9] at H
                have c9b0 : decide (x4_1 < (x3_1.length : Int)) = true := decide_eq_true c9
                clear c9
                obtain ⟨y147, hy147⟩ : ∃ y_ : List (S145), y_ = (x3_1.set (x4_1 : Int).toNat (⟨t142, t143, t144⟩ : S145)) := ⟨_, rfl⟩
                replace H : (laws_toSessionS.l0 k1 l0 y147 (wrap64 (x4_1 + 1))) = some r := by first | (rw [hy147]; with_reducible exact H) | (have H2_ := (Option.bind_some _ _).symm.trans H; rw [hy147]; with_reducible exact H2_) | (have H2_ := (Option.bind_some _ _).symm.trans H; with_reducible exact H2_) | with_reducible exact H | (rw [hy147]; exact H) | exact H
                have Ny147 := Aside0.mk hy147
                clear hy147
                have H' := Aside0.mk H
                clear H
                have p141 : 0 ≤ (x4_1 : Int) := of_decide_eq_true (by first | (with_reducible assumption) | assumption)
                have q141 : x4_1 < (l0.length : Int) := of_decide_eq_true (by first | (with_reducible assumption) | assumption)
                obtain ⟨ad141, A141_2, c141_2, e141, hx141_0, hx141_1, hx141_2, hl141_2, hi141_2⟩ := at_T138 HR0.out x4_1 p141 q141
                cases e141
                replace hx141_0 := (HB.out.cell (World.block_lt_of_cell? w _ hx141_0)).trans hx141_0
                replace hx141_1 := (HB.out.cell (World.block_lt_of_cell? w _ hx141_1)).trans hx141_1
                replace hx141_2 := (HB.out.cell (World.block_lt_of_cell? w _ hx141_2)).trans hx141_2
                have HR141_2 := Aside0.mk hi141_2
                have HC141_2 := Aside0.mk hl141_2
                clear hi141_2 hl141_2
                replace p141 := eq_true p141
                replace q141 := eq_true q141
                go_wp2_with (first | ((with_reducible refine gate_callee (f := 99) rfl ?_); refine goesL_ (some 20) rfl rfl Try.func99 (by kernel_rfl) rfl #[.agg #[.int .i64 ((rd_T138 l0 x4_1).f0), .int .i64 ((rd_T138 l0 x4_1).f1), .slice A141_2 ((rd_T138 l0 x4_1).f2).length c141_2]] rfl (by (try simp only [List.map_toArray, List.map_cons, List.map_nil]); first | done | rfl | (simp only [List.length_drop, List.length_take]; rfl)) ?_; (with_reducible refine (laws_toSession.calls k1 ((rd_T138 l0 x4_1).f0) ((rd_T138 l0 x4_1).f1) _ _ ((rd_T138 l0 x4_1).f2) t142 t143 t144 _ ?side1 ?side2 A8.out).mono ?_); (case side1 => repeat (first | exact (Kd.C_below HR141_2.out HB.out) | (with_reducible refine Kd.C_alloc ?_ _) | (with_reducible refine Kd.C_drewN ?_ _) | (with_reducible refine Kd.C_drew ?_))); (case side2 => exact HC141_2.out); rintro e w11 ⟨v145, rfl, ho0, hb⟩; obtain ⟨As_, cs_, hv_⟩ := Kd.R_slice ho0; refine ⟨_, rfl, ?_⟩; have n0_ := Aside0.mk (Kd.S_elder' (by (with_reducible repeat (first | apply Kd.S_alloc | apply Kd.S_drewN | apply Kd.S_drew)); exact HO_3.out) (Kd.R_base ho0) hb); have n1_ := Aside0.mk (Kd.R_lower ho0 (below_size (by repeat (first | (with_reducible first | exact HB.out | apply below_alloc | apply pw_below_drewN | apply below_drew1) | exact HB.out)))); have n2_ := Aside0.mk (below_step (by repeat (first | (with_reducible first | exact HB.out | apply below_alloc | apply pw_below_drewN | apply below_drew1) | exact HB.out)) hb); clear HO_3; clear HB; have HO_3 := n0_; have HO146 := n1_; have HB := n2_; clear n0_ n1_ n2_; (try clear hb); (try clear hb2); (try clear hk); (try clear hi); (try clear ho0); have p10 : 0 ≤ (x4_1 : Int) := of_decide_eq_true (by first | (with_reducible assumption) | assumption); have q10 : (x4_1 : Int) < ((x3_1.length : Int) : Int) := of_decide_eq_true (by first | (with_reducible assumption) | assumption); obtain ⟨go10, co10, eo10, gb10, gl10, cl10, HG10⟩ := Kd.S_form HO_3.out (by omega); (first | cases eo10 | (injection eo10 with ea_ en_ ec_; (first | subst ea_ | (injection ea_ with ea_; subst ea_)); subst ec_; clear en_)); have GB10 := Aside0.mk gb10; have GG10 := Aside0.mk HG10; clear gb10 gl10 HG10; obtain ⟨_, ce10, hcl10, hM10, hcc10, hfr10, _, _⟩ := Kd.S_elem HO_3.out z145 (x4_1 : Int) p10 q10; obtain ⟨ve10_2, rfl, ge10_2⟩ := k145_openM hM10; have hx10_0 : w11.cell? ⟨go10, (x4_1 : Int).toNat * 3, none⟩ = some (.int .i64 ((rd_T145 x3_1 x4_1).f0)) := hcc10 0 _ rfl; have hx10_1 : w11.cell? ⟨go10, (x4_1 : Int).toNat * 3 + 1, none⟩ = some (.int .i64 ((rd_T145 x3_1 x4_1).f1)) := hcc10 1 _ rfl; have hx10_2 : w11.cell? ⟨go10, (x4_1 : Int).toNat * 3 + 2, none⟩ = some (ve10_2) := hcc10 2 _ rfl; have hf10_0 : w11.frozen? ⟨go10, (x4_1 : Int).toNat * 3, none⟩ = false := hfr10 0; have hf10_1 : w11.frozen? ⟨go10, (x4_1 : Int).toNat * 3 + 1, none⟩ = false := hfr10 1; have hf10_2 : w11.frozen? ⟨go10, (x4_1 : Int).toNat * 3 + 2, none⟩ = false := hfr10 2; clear hcl10 hcc10 hfr10 hM10; replace p10 := eq_true p10; replace q10 := eq_true q10; have n_ := Aside0.mk (Kd.S_mono (ok' := (fun k_ => some k_ ≠ (v145 : Value).ownBlock)) HO_3.out (fun k_ hk => hk.2)); clear HO_3; have HO_3 := n_; clear n_; have HX12 := Aside0.mk (show Kd.S k145 145 w11 w.heap.size (fun k_ => ((fun _ => True)) k_ ∧ ¬ ((fun k_ => some k_ = (v145 : Value).ownBlock)) k_) (.slice (some ⟨go10, 0, none⟩) x3_1.length co10) x3_1 from (by (with_reducible repeat (first | apply Kd.S_alloc | apply Kd.S_drewN | apply Kd.S_drew)); exact Kd.S_mono HO_3.out (fun k_ hk => ⟨trivial, fun e_ => hk e_⟩))); obtain ⟨oki12, ce12, hcl12, hM12, hcc12, hfr12, hoki12, hH12⟩ := Kd.S_elem HX12.out z145 (x4_1 : Int) (of_decide_eq_true (by first | (with_reducible assumption) | assumption)) (by have h_ : (x4_1 : Int) < ((x3_1.length : Int) : Int) := of_decide_eq_true (by first | (with_reducible assumption) | assumption); first | exact h_ | (have e_ := (Kd.S_reads' HO_3.out).1; omega) | simpa using h_); obtain ⟨ve12_2, rfl, ge12_2⟩ := k145_openM hM12; have HP12 := Kd.S_seg hH12 (of_decide_eq_true (by first | (with_reducible assumption) | assumption)) (by have h_ : (x4_1 : Int) < ((x3_1.length : Int) : Int) := of_decide_eq_true (by first | (with_reducible assumption) | assumption); first | exact h_ | (have e_ := (Kd.S_reads' HO_3.out).1; omega) | simpa using h_) (seg := [.int .i64 t142, .int .i64 t143, v145]) (j := 0) (show 3 ≤ 3 from by decide) (x' := (⟨t142, t143, t144⟩ : S145)) (k145_mkM _ _ _ (⟨t142, t143, t144⟩ : S145) (Kd.R_mono (Kd.R_tight rfl (Kd.R_mono (ok' := fun k_ => ((fun _ => True)) k_ ∧ k_ ≠ go10) (Kd.R_apart' (HO146.out) (Kd.S_typed HO_3.out) (by decide)) (fun k_ hk => ⟨trivial, fun e_ => (hk.2) (by rw [e_]; rfl)⟩))) (fun _ h_ => Or.inr (h_)))) (fun _ hk => hk) (fun k_ hk_ => ((Kd.R_mono (ok' := fun k_ => ((fun _ => True)) k_ ∧ k_ ≠ go10) (Kd.R_apart' (HO146.out) (Kd.S_typed HO_3.out) (by decide)) (fun k_ hk => ⟨trivial, fun e_ => (hk.2) (by rw [e_]; rfl)⟩))).1 k_ hk_.symm); have hx12_0 := hcc12 0 _ rfl; (try simp only [show (k145).sz = 3 from rfl, Nat.mul_one, Nat.add_zero] at hx12_0); have hf12_0 := hfr12 0; (try simp only [show (k145).sz = 3 from rfl, Nat.mul_one, Nat.add_zero] at hf12_0); have hx12_1 := hcc12 1 _ rfl; (try simp only [show (k145).sz = 3 from rfl, Nat.mul_one, Nat.add_zero] at hx12_1); have hf12_1 := hfr12 1; (try simp only [show (k145).sz = 3 from rfl, Nat.mul_one, Nat.add_zero] at hf12_1); have hx12_2 := hcc12 2 _ rfl; (try simp only [show (k145).sz = 3 from rfl, Nat.mul_one, Nat.add_zero] at hx12_2); have hf12_2 := hfr12 2; (try simp only [show (k145).sz = 3 from rfl, Nat.mul_one, Nat.add_zero] at hf12_2); clear hcl12 hcc12 hfr12 hM12 hoki12 hH12) | ((with_reducible refine gate_store (t := 145) (p := 21) rfl ?_); refine store_event (t := 145) (p := 21) (v := ?vo_w13) (w1 := (((w11.setCell ⟨go10, (x4_1 : Int).toNat * 3, none⟩ (.int .i64 t142)).setCell ⟨go10, (x4_1 : Int).toNat * 3 + 1, none⟩ (.int .i64 t143)).setCell ⟨go10, (x4_1 : Int).toNat * 3 + 2, none⟩ (v145))) ?hg ?ho ?hn ?hr ?_; (case ho => rfl); (case hg => rfl); (case hn => rfl); (case hr => first | (go_simp; done) | (go_simp; rfl)); intro w13 hw; have hg : w11.grownBy w13 (some go10) := (by rw [hw]; exact HP12.2); have hp_ : Kd.S k145 145 w13 w.heap.size (fun _ => True) (.slice (some ⟨go10, 0, none⟩) x3_1.length co10) y147 := (by rw [hw, Ny147.out]; exact HP12.1); clear HP12; have n0_ := Aside0.mk (hp_); have n1_ := Aside0.mk ((by rw [hw]; exact below_set (below_set (below_set (HB.out) GB10.out) GB10.out) GB10.out : Below w.heap.size w w13)); clear HO_3; clear HB; clear HO146; have HO_3 := n0_; have HB := n1_; clear n0_ n1_; clear hg hw hp_))
                subst hv_
                go_roundg k1
                case measure => have := HK1.out; omega
                case rel => exact ⟨(y147), (wrap64 (x4_1 + 1)), (by first | rfl | (simp; done) | (simp [*]; done)), H', ⟨by have := HK1.out; omega⟩, ⟨by (with_reducible repeat (first | apply Kd.S_alloc | apply Kd.S_drewN | apply Kd.S_drew)); exact HO_3.out⟩, ⟨by repeat (first | (with_reducible first | exact HB.out | apply below_alloc | apply pw_below_drewN | apply below_drew1) | exact HB.out)⟩⟩
              · rw [if_neg c9] at H
                exact absurd H (by simp)
            · rw [if_neg c7] at H
              exact absurd H (by simp)
          · rw [if_neg c6] at H
            have c6b0 : decide (x4_1 < (l0.length : Int)) = false := decide_eq_false c6
            clear c6
            obtain rfl := Option.some.inj H
            go_wp2
            go_ret
            exact ⟨_, by first | rfl | (simp [errW_none, errW_some] <;> rfl) | (simp [*, errW_none, errW_some] <;> rfl), by (with_reducible repeat (first | apply Kd.S_alloc | apply Kd.S_drewN | apply Kd.S_drew)); exact HO_3.out, by repeat (first | (with_reducible first | exact HB.out | apply below_alloc | apply pw_below_drewN | apply below_drew1) | exact HB.out)⟩
    · rw [if_neg c3] at H
      exact absurd H (by simp)
  · rw [if_neg c2] at H
    exact absurd H (by simp)

end Go.Proofs.Ytlbikcelfheohaa.PFnExactLeaseOf
end

/-! ### YtlbikcelfheohaaQFnExactLeaseOfx20 -/
section
namespace Go.Proofs.Ytlbikcelfheohaa.PFnExactLeaseOf
open Go.RowKit Go.Proofs.YtlbikcelfheohaaW.PrintWords Go.Proofs.YtlbikcelfheohaaW.PrintLast Go.Proofs.YtlbikcelfheohaaW.PrintMore
attribute [local go_sem] max2_int min2_int max_two min_two max_three min_three max_four min_four   -- for this text's walks alone
set_option linter.unusedVariables false
set_option linter.unusedSimpArgs false

/-! ### laws_toQueueS: function 73 -/
def laws_toQueueS.l0 : Nat → List (S142) → List (S149) → Int → Option ((List (S149)))
  | 0, _, _, _ => none
  | k + 1, x0, x3, x4 => if x4 < (x0.length : Int) then (if 0 ≤ x4 then ((laws_toQueue.f k ((rd_T142 x0 x4).f0) ((rd_T142 x0 x4).f1) ((rd_T142 x0 x4).f2)).bind fun bt173 => (if x4 < (x3.length : Int) then (laws_toQueueS.l0 k x0 (x3.set (x4 : Int).toNat (⟨bt173.1, bt173.2.1, bt173.2.2⟩ : S149)) (wrap64 (x4 + 1))) else (none))) else (none)) else (some x3)
def laws_toQueueS.f (k : Nat) (l0 : List (S142)) : Option ((List (S149))) := if 0 ≤ (l0.length : Int) then (if ((l0.length : Int) : Int).toNat ≤ 7036874417766 then (laws_toQueueS.l0 k l0 (List.replicate ((l0.length : Int) : Int).toNat z149) 0) else (none)) else (none)
theorem laws_toQueueS.mono_l : ∀ k, (∀ y0 y1 y2, LeO (laws_toQueueS.l0 k y0 y1 y2) (laws_toQueueS.l0 (k + 1) y0 y1 y2))
  | 0 => fun _ _ _ r h => by simp [laws_toQueueS.l0] at h
  | k + 1 => by
    have ih0 := laws_toQueueS.mono_l k
    · intro y0 y1 y2
      unfold laws_toQueueS.l0
      repeat' first
      | (with_reducible exact ih0 _ _ _)
      | (with_reducible exact laws_toQueue.mono _ _ _ _)
      | (with_reducible exact LeO.refl _)
      | (with_reducible exact LeO.none _)
      | (with_reducible refine LeO.ite ?_ ?_)
      | (with_reducible refine LeO.bind ?_ (fun _ => ?_))
      | exact ih0 _ _ _
      | exact laws_toQueue.mono _ _ _ _
      | exact LeO.none _
      | refine LeO.ite ?_ ?_
      | refine LeO.bind ?_ (fun _ => ?_)
theorem laws_toQueueS.mono : ∀ a0 k, LeO (laws_toQueueS.f k a0) (laws_toQueueS.f (k + 1) a0) := by
  intro a0 k
  have ih0 := laws_toQueueS.mono_l k
  unfold laws_toQueueS.f
  repeat' first
      | (with_reducible exact ih0 _ _ _)
      | (with_reducible exact laws_toQueue.mono _ _ _ _)
      | (with_reducible exact LeO.refl _)
      | (with_reducible exact LeO.none _)
      | (with_reducible refine LeO.ite ?_ ?_)
      | (with_reducible refine LeO.bind ?_ (fun _ => ?_))
      | exact ih0 _ _ _
      | exact laws_toQueue.mono _ _ _ _
      | exact LeO.none _
      | refine LeO.ite ?_ ?_
      | refine LeO.bind ?_ (fun _ => ?_)
set_option maxHeartbeats 8000000 in
set_option maxRecDepth 100000 in
theorem laws_toQueueS.calls (k : Nat) (A0 : Option Addr) (c0 : Nat) (l0 : List (S142)) (r : List (S149)) (w : World) (hr0 : Kd.C k142 w A0 l0.length l0) (hc0 : l0.length ≤ c0) (h : laws_toQueueS.f k l0 = some r) :
    Calls Try.prog 73 #[.slice A0 l0.length c0] w fun e w' => ∃ v0_ : Value, e = .returned (v0_) ∧ Kd.S k149 149 w' w.heap.size (fun _ => True) v0_ r ∧ Below w.heap.size w w' := by
  have hu142 := Try.underlying142
  have hu149 := Try.underlying149
  have HR0 := Aside0.mk hr0
  have HC0 := Aside0.mk hc0
  clear hr0 hc0
  have HB := Aside0.mk (Below.refl w.heap.size w)
  have H : (if 0 ≤ (l0.length : Int) then (if ((l0.length : Int) : Int).toNat ≤ 7036874417766 then (laws_toQueueS.l0 k l0 (List.replicate ((l0.length : Int) : Int).toNat z149) 0) else (none)) else (none)) = some r := h
  clear h
  by_cases c2 : 0 ≤ (l0.length : Int)
  · rw [if_pos c2] at H
    have c2b0 := eq_true c2
    have c2b1 : decide (0 ≤ (l0.length : Int)) = true := decide_eq_true c2
    clear c2
    by_cases c3 : ((l0.length : Int) : Int).toNat ≤ 7036874417766
    · rw [if_pos c3] at H
      have c3b0 := eq_true c3
      have c3b1 : decide (((l0.length : Int) : Int).toNat ≤ 7036874417766) = true := decide_eq_true c3
      clear c3
      obtain ⟨y169, hy169⟩ : ∃ y_ : List (S149), y_ = (List.replicate ((l0.length : Int) : Int).toNat z149) := ⟨_, rfl⟩
      replace H : (laws_toQueueS.l0 k l0 y169 0) = some r := by first | (rw [hy169]; with_reducible exact H) | (have H2_ := (Option.bind_some _ _).symm.trans H; rw [hy169]; with_reducible exact H2_) | (have H2_ := (Option.bind_some _ _).symm.trans H; with_reducible exact H2_) | with_reducible exact H | (rw [hy169]; exact H) | exact H
      have Ny169 := Aside0.mk hy169
      clear hy169
      have H' := Aside0.mk H
      clear H
      go_enter Try.func73, Try.ntmps73
      go_wp2_with (first | ((with_reducible refine gate_dst (N := 7) rfl ?_); refine Kd.S_make k149 _ 149 rfl (N := 7) rfl 64 _ _ rfl (l0.length : Int) rfl rfl Try.underlying64 (.agg #[(.int .i64 0), (.int .i64 0), (.slice none 0 0)]) 40 info149 rfl (by decide) (by omega) z149 (ok := fun _ => True) (okp := fun _ => True) (k149_mkM _ _ _ z149 (Kd.R_nil _ _ _ _ _)) (fun _ hk => hk) trivial (of_decide_eq_true (by first | (with_reducible assumption) | assumption)) (Nat.le_trans (Nat.mul_le_mul_right _ (of_decide_eq_true (by first | (with_reducible assumption) | assumption) : (l0.length : Int).toNat ≤ 7036874417766)) (by omega)) (Below.refl _ _) (Nat.le_refl _) ?_; intro v170 w4 ho5 hb hg_ hnew_; clear hg_ hnew_; (first | rw [← Ny169.out] at ho5 | (simp only [Int.reduceToNat] at ho5; rw [← Ny169.out] at ho5)); have n0_ := Aside0.mk (Kd.S_lower ho5 (below_size (by repeat (first | (with_reducible first | exact HB.out | apply below_alloc | apply pw_below_drewN | apply below_drew1) | exact HB.out)))); have n1_ := Aside0.mk (below_step (by repeat (first | (with_reducible first | exact HB.out | apply below_alloc | apply pw_below_drewN | apply below_drew1) | exact HB.out)) hb); clear HB; have HO171 := n0_; have HB := n1_; clear n0_ n1_; clear hb ho5))
      go_loopg [4] k (fun kq v4 w' => ∃ (x3_1 : List (S149)) (x4_1 : Int), v4 = .int .i64 x4_1 ∧ Aside0 (laws_toQueueS.l0 kq l0 x3_1 x4_1 = some r) ∧ Aside0 (kq ≤ k) ∧ Aside0 (Kd.S k149 149 w' w.heap.size (fun _ => True) v170 x3_1) ∧ Aside0 (Below w.heap.size w w'))
      case atStart => exact ⟨(y169), (0), (by first | rfl | (simp; done) | (simp [*]; done)), H', ⟨Nat.le_refl _⟩, ⟨by (with_reducible repeat (first | apply Kd.S_alloc | apply Kd.S_drewN | apply Kd.S_drew)); exact HO171.out⟩, ⟨by repeat (first | (with_reducible first | exact HB.out | apply below_alloc | apply pw_below_drewN | apply below_drew1) | exact HB.out)⟩⟩
      case round =>
        clear H'
        try clear c2
        try clear c2b0
        try clear c2b1
        try clear p2
        try clear c3
        try clear c3b0
        try clear c3b1
        obtain ⟨x3_1, x4_1, rfl, HA, HK1, HO_3, HB⟩ := hrel
        cases gk with
        | zero => exact absurd HA.out (by simp [laws_toQueueS.l0])
        | succ k1 =>
          have H := HA.out
          clear HA
          simp only [laws_toQueueS.l0] at H
          by_cases c6 : x4_1 < (l0.length : Int)
          · rw [if_pos c6] at H
            have c6b0 : decide (x4_1 < (l0.length : Int)) = true := decide_eq_true c6
            clear c6
            by_cases c7 : 0 ≤ x4_1
            · rw [if_pos c7] at H
              have c7b0 : decide (0 ≤ x4_1) = true := decide_eq_true c7
              clear c7
              replace H := Option.bind_eq_some_iff.mp H
              obtain ⟨⟨t173, t174, t175⟩, A80, H⟩ := H
              replace H : (if x4_1 < (x3_1.length : Int) then (laws_toQueueS.l0 k1 l0 (x3_1.set (x4_1 : Int).toNat (⟨t173, t174, t175⟩ : S149)) (wrap64 (x4_1 + 1))) else (none)) = some r := H
              have A8 := Aside0.mk A80
              clear A80
              by_cases c9 : x4_1 < (x3_1.length : Int)
              · rw [if_pos c9] at H
                have c9b0 : decide (x4_1 < (x3_1.length : Int)) = true := decide_eq_true c9
                clear c9
                obtain ⟨y178, hy178⟩ : ∃ y_ : List (S149), y_ = (x3_1.set (x4_1 : Int).toNat (⟨t173, t174, t175⟩ : S149)) := ⟨_, rfl⟩
                replace H : (laws_toQueueS.l0 k1 l0 y178 (wrap64 (x4_1 + 1))) = some r := by first | (rw [hy178]; with_reducible exact H) | (have H2_ := (Option.bind_some _ _).symm.trans H; rw [hy178]; with_reducible exact H2_) | (have H2_ := (Option.bind_some _ _).symm.trans H; with_reducible exact H2_) | with_reducible exact H | (rw [hy178]; exact H) | exact H
                have Ny178 := Aside0.mk hy178
                clear hy178
                have H' := Aside0.mk H
                clear H
                have p172 : 0 ≤ (x4_1 : Int) := of_decide_eq_true (by first | (with_reducible assumption) | assumption)
                have q172 : x4_1 < (l0.length : Int) := of_decide_eq_true (by first | (with_reducible assumption) | assumption)
                obtain ⟨ad172, A172_2, c172_2, e172, hx172_0, hx172_1, hx172_2, hl172_2, hi172_2⟩ := at_T142 HR0.out x4_1 p172 q172
                cases e172
                replace hx172_0 := (HB.out.cell (World.block_lt_of_cell? w _ hx172_0)).trans hx172_0
                replace hx172_1 := (HB.out.cell (World.block_lt_of_cell? w _ hx172_1)).trans hx172_1
                replace hx172_2 := (HB.out.cell (World.block_lt_of_cell? w _ hx172_2)).trans hx172_2
                have HR172_2 := Aside0.mk hi172_2
                have HC172_2 := Aside0.mk hl172_2
                clear hi172_2 hl172_2
                replace p172 := eq_true p172
                replace q172 := eq_true q172
                go_wp2_with (first | ((with_reducible refine gate_callee (f := 101) rfl ?_); refine goesL_ (some 20) rfl rfl Try.func101 (by kernel_rfl) rfl #[.agg #[.int .i64 ((rd_T142 l0 x4_1).f0), .int .i64 ((rd_T142 l0 x4_1).f1), .slice A172_2 ((rd_T142 l0 x4_1).f2).length c172_2]] rfl (by (try simp only [List.map_toArray, List.map_cons, List.map_nil]); first | done | rfl | (simp only [List.length_drop, List.length_take]; rfl)) ?_; (with_reducible refine (laws_toQueue.calls k1 ((rd_T142 l0 x4_1).f0) ((rd_T142 l0 x4_1).f1) _ _ ((rd_T142 l0 x4_1).f2) t173 t174 t175 _ ?side1 ?side2 A8.out).mono ?_); (case side1 => repeat (first | exact (Kd.C_below HR172_2.out HB.out) | (with_reducible refine Kd.C_alloc ?_ _) | (with_reducible refine Kd.C_drewN ?_ _) | (with_reducible refine Kd.C_drew ?_))); (case side2 => exact HC172_2.out); rintro e w11 ⟨v176, rfl, ho0, hb⟩; obtain ⟨As_, cs_, hv_⟩ := Kd.R_slice ho0; refine ⟨_, rfl, ?_⟩; have n0_ := Aside0.mk (Kd.S_elder' (by (with_reducible repeat (first | apply Kd.S_alloc | apply Kd.S_drewN | apply Kd.S_drew)); exact HO_3.out) (Kd.R_base ho0) hb); have n1_ := Aside0.mk (Kd.R_lower ho0 (below_size (by repeat (first | (with_reducible first | exact HB.out | apply below_alloc | apply pw_below_drewN | apply below_drew1) | exact HB.out)))); have n2_ := Aside0.mk (below_step (by repeat (first | (with_reducible first | exact HB.out | apply below_alloc | apply pw_below_drewN | apply below_drew1) | exact HB.out)) hb); clear HO_3; clear HB; have HO_3 := n0_; have HO177 := n1_; have HB := n2_; clear n0_ n1_ n2_; (try clear hb); (try clear hb2); (try clear hk); (try clear hi); (try clear ho0); have p10 : 0 ≤ (x4_1 : Int) := of_decide_eq_true (by first | (with_reducible assumption) | assumption); have q10 : (x4_1 : Int) < ((x3_1.length : Int) : Int) := of_decide_eq_true (by first | (with_reducible assumption) | assumption); obtain ⟨go10, co10, eo10, gb10, gl10, cl10, HG10⟩ := Kd.S_form HO_3.out (by omega); (first | cases eo10 | (injection eo10 with ea_ en_ ec_; (first | subst ea_ | (injection ea_ with ea_; subst ea_)); subst ec_; clear en_)); have GB10 := Aside0.mk gb10; have GG10 := Aside0.mk HG10; clear gb10 gl10 HG10; obtain ⟨_, ce10, hcl10, hM10, hcc10, hfr10, _, _⟩ := Kd.S_elem HO_3.out z149 (x4_1 : Int) p10 q10; obtain ⟨ve10_2, rfl, ge10_2⟩ := k149_openM hM10; have hx10_0 : w11.cell? ⟨go10, (x4_1 : Int).toNat * 3, none⟩ = some (.int .i64 ((rd_T149 x3_1 x4_1).f0)) := hcc10 0 _ rfl; have hx10_1 : w11.cell? ⟨go10, (x4_1 : Int).toNat * 3 + 1, none⟩ = some (.int .i64 ((rd_T149 x3_1 x4_1).f1)) := hcc10 1 _ rfl; have hx10_2 : w11.cell? ⟨go10, (x4_1 : Int).toNat * 3 + 2, none⟩ = some (ve10_2) := hcc10 2 _ rfl; have hf10_0 : w11.frozen? ⟨go10, (x4_1 : Int).toNat * 3, none⟩ = false := hfr10 0; have hf10_1 : w11.frozen? ⟨go10, (x4_1 : Int).toNat * 3 + 1, none⟩ = false := hfr10 1; have hf10_2 : w11.frozen? ⟨go10, (x4_1 : Int).toNat * 3 + 2, none⟩ = false := hfr10 2; clear hcl10 hcc10 hfr10 hM10; replace p10 := eq_true p10; replace q10 := eq_true q10; have n_ := Aside0.mk (Kd.S_mono (ok' := (fun k_ => some k_ ≠ (v176 : Value).ownBlock)) HO_3.out (fun k_ hk => hk.2)); clear HO_3; have HO_3 := n_; clear n_; have HX12 := Aside0.mk (show Kd.S k149 149 w11 w.heap.size (fun k_ => ((fun _ => True)) k_ ∧ ¬ ((fun k_ => some k_ = (v176 : Value).ownBlock)) k_) (.slice (some ⟨go10, 0, none⟩) x3_1.length co10) x3_1 from (by (with_reducible repeat (first | apply Kd.S_alloc | apply Kd.S_drewN | apply Kd.S_drew)); exact Kd.S_mono HO_3.out (fun k_ hk => ⟨trivial, fun e_ => hk e_⟩))); obtain ⟨oki12, ce12, hcl12, hM12, hcc12, hfr12, hoki12, hH12⟩ := Kd.S_elem HX12.out z149 (x4_1 : Int) (of_decide_eq_true (by first | (with_reducible assumption) | assumption)) (by have h_ : (x4_1 : Int) < ((x3_1.length : Int) : Int) := of_decide_eq_true (by first | (with_reducible assumption) | assumption); first | exact h_ | (have e_ := (Kd.S_reads' HO_3.out).1; omega) | simpa using h_); obtain ⟨ve12_2, rfl, ge12_2⟩ := k149_openM hM12; have HP12 := Kd.S_seg hH12 (of_decide_eq_true (by first | (with_reducible assumption) | assumption)) (by have h_ : (x4_1 : Int) < ((x3_1.length : Int) : Int) := of_decide_eq_true (by first | (with_reducible assumption) | assumption); first | exact h_ | (have e_ := (Kd.S_reads' HO_3.out).1; omega) | simpa using h_) (seg := [.int .i64 t173, .int .i64 t174, v176]) (j := 0) (show 3 ≤ 3 from by decide) (x' := (⟨t173, t174, t175⟩ : S149)) (k149_mkM _ _ _ (⟨t173, t174, t175⟩ : S149) (Kd.R_mono (Kd.R_tight rfl (Kd.R_mono (ok' := fun k_ => ((fun _ => True)) k_ ∧ k_ ≠ go10) (Kd.R_apart' (HO177.out) (Kd.S_typed HO_3.out) (by decide)) (fun k_ hk => ⟨trivial, fun e_ => (hk.2) (by rw [e_]; rfl)⟩))) (fun _ h_ => Or.inr (h_)))) (fun _ hk => hk) (fun k_ hk_ => ((Kd.R_mono (ok' := fun k_ => ((fun _ => True)) k_ ∧ k_ ≠ go10) (Kd.R_apart' (HO177.out) (Kd.S_typed HO_3.out) (by decide)) (fun k_ hk => ⟨trivial, fun e_ => (hk.2) (by rw [e_]; rfl)⟩))).1 k_ hk_.symm); have hx12_0 := hcc12 0 _ rfl; (try simp only [show (k149).sz = 3 from rfl, Nat.mul_one, Nat.add_zero] at hx12_0); have hf12_0 := hfr12 0; (try simp only [show (k149).sz = 3 from rfl, Nat.mul_one, Nat.add_zero] at hf12_0); have hx12_1 := hcc12 1 _ rfl; (try simp only [show (k149).sz = 3 from rfl, Nat.mul_one, Nat.add_zero] at hx12_1); have hf12_1 := hfr12 1; (try simp only [show (k149).sz = 3 from rfl, Nat.mul_one, Nat.add_zero] at hf12_1); have hx12_2 := hcc12 2 _ rfl; (try simp only [show (k149).sz = 3 from rfl, Nat.mul_one, Nat.add_zero] at hx12_2); have hf12_2 := hfr12 2; (try simp only [show (k149).sz = 3 from rfl, Nat.mul_one, Nat.add_zero] at hf12_2); clear hcl12 hcc12 hfr12 hM12 hoki12 hH12) | ((with_reducible refine gate_store (t := 149) (p := 21) rfl ?_); refine store_event (t := 149) (p := 21) (v := ?vo_w13) (w1 := (((w11.setCell ⟨go10, (x4_1 : Int).toNat * 3, none⟩ (.int .i64 t173)).setCell ⟨go10, (x4_1 : Int).toNat * 3 + 1, none⟩ (.int .i64 t174)).setCell ⟨go10, (x4_1 : Int).toNat * 3 + 2, none⟩ (v176))) ?hg ?ho ?hn ?hr ?_; (case ho => rfl); (case hg => rfl); (case hn => rfl); (case hr => first | (go_simp; done) | (go_simp; rfl)); intro w13 hw; have hg : w11.grownBy w13 (some go10) := (by rw [hw]; exact HP12.2); have hp_ : Kd.S k149 149 w13 w.heap.size (fun _ => True) (.slice (some ⟨go10, 0, none⟩) x3_1.length co10) y178 := (by rw [hw, Ny178.out]; exact HP12.1); clear HP12; have n0_ := Aside0.mk (hp_); have n1_ := Aside0.mk ((by rw [hw]; exact below_set (below_set (below_set (HB.out) GB10.out) GB10.out) GB10.out : Below w.heap.size w w13)); clear HO_3; clear HB; clear HO177; have HO_3 := n0_; have HB := n1_; clear n0_ n1_; clear hg hw hp_))
                subst hv_
                go_roundg k1
                case measure => have := HK1.out; omega
                case rel => exact ⟨(y178), (wrap64 (x4_1 + 1)), (by first | rfl | (simp; done) | (simp [*]; done)), H', ⟨by have := HK1.out; omega⟩, ⟨by (with_reducible repeat (first | apply Kd.S_alloc | apply Kd.S_drewN | apply Kd.S_drew)); exact HO_3.out⟩, ⟨by repeat (first | (with_reducible first | exact HB.out | apply below_alloc | apply pw_below_drewN | apply below_drew1) | exact HB.out)⟩⟩
              · rw [if_neg c9] at H
                exact absurd H (by simp)
            · rw [if_neg c7] at H
              exact absurd H (by simp)
          · rw [if_neg c6] at H
            have c6b0 : decide (x4_1 < (l0.length : Int)) = false := decide_eq_false c6
            clear c6
            obtain rfl := Option.some.inj H
            go_wp2
            go_ret
            exact ⟨_, by first | rfl | (simp [errW_none, errW_some] <;> rfl) | (simp [*, errW_none, errW_some] <;> rfl), by (with_reducible repeat (first | apply Kd.S_alloc | apply Kd.S_drewN | apply Kd.S_drew)); exact HO_3.out, by repeat (first | (with_reducible first | exact HB.out | apply below_alloc | apply pw_below_drewN | apply below_drew1) | exact HB.out)⟩
    · rw [if_neg c3] at H
      exact absurd H (by simp)
  · rw [if_neg c2] at H
    exact absurd H (by simp)

end Go.Proofs.Ytlbikcelfheohaa.PFnExactLeaseOf
end

/-! ### YtlbikcelfheohaaQFnExactLeaseOfx23 -/
section
namespace Go.Proofs.Ytlbikcelfheohaa.PFnExactLeaseOf
open Go.RowKit Go.Proofs.YtlbikcelfheohaaW.PrintWords Go.Proofs.YtlbikcelfheohaaW.PrintLast Go.Proofs.YtlbikcelfheohaaW.PrintMore
attribute [local go_sem] max2_int min2_int max_two min_two max_three min_three max_four min_four   -- for this text's walks alone
set_option linter.unusedVariables false
set_option linter.unusedSimpArgs false

/-! ### laws_toHouse: function 30 -/
def laws_toHouse.f (k : Nat) (l0_0 : List (S138)) (l0_1 : List (S148)) (l0_2 : List (S142)) (l0_3 : List (S152)) : Option ((List (S145)) × (List (S74)) × (List (S149)) × (List (S108))) := (laws_toSessionS.f k l0_0).bind fun t193 => ((laws_toListenS.f k l0_1).bind fun t196 => ((laws_toQueueS.f k l0_2).bind fun t199 => ((laws_toLeaseS.f k l0_3).bind fun t202 => (some (t193, t196, t199, t202)))))
theorem laws_toHouse.mono : ∀ a0 a1 a2 a3 k, LeO (laws_toHouse.f k a0 a1 a2 a3) (laws_toHouse.f (k + 1) a0 a1 a2 a3) := by
  intro a0 a1 a2 a3 k
  unfold laws_toHouse.f
  repeat' first
      | (with_reducible exact laws_toLeaseS.mono _ _)
      | (with_reducible exact laws_toListenS.mono _ _)
      | (with_reducible exact laws_toQueueS.mono _ _)
      | (with_reducible exact laws_toSessionS.mono _ _)
      | (with_reducible exact LeO.refl _)
      | (with_reducible exact LeO.none _)
      | (with_reducible refine LeO.ite ?_ ?_)
      | (with_reducible refine LeO.bind ?_ (fun _ => ?_))
      | exact laws_toLeaseS.mono _ _
      | exact laws_toListenS.mono _ _
      | exact laws_toQueueS.mono _ _
      | exact laws_toSessionS.mono _ _
      | exact LeO.none _
      | refine LeO.ite ?_ ?_
      | refine LeO.bind ?_ (fun _ => ?_)
set_option maxHeartbeats 8000000 in
set_option maxRecDepth 100000 in
theorem laws_toHouse.calls (k : Nat) (A0_0 : Option Addr) (c0_0 : Nat) (l0_0 : List (S138)) (A0_1 : Option Addr) (c0_1 : Nat) (l0_1 : List (S148)) (A0_2 : Option Addr) (c0_2 : Nat) (l0_2 : List (S142)) (A0_3 : Option Addr) (c0_3 : Nat) (l0_3 : List (S152)) (r1 : List (S145)) (r2 : List (S74)) (r3 : List (S149)) (r4 : List (S108)) (w : World) (hr0_0 : Kd.C k138 w A0_0 l0_0.length l0_0) (hc0_0 : l0_0.length ≤ c0_0) (hr0_1 : Kd.C k148 w A0_1 l0_1.length l0_1) (hc0_1 : l0_1.length ≤ c0_1) (hr0_2 : Kd.C k142 w A0_2 l0_2.length l0_2) (hc0_2 : l0_2.length ≤ c0_2) (hr0_3 : Kd.C k152 w A0_3 l0_3.length l0_3) (hc0_3 : l0_3.length ≤ c0_3) (h : laws_toHouse.f k l0_0 l0_1 l0_2 l0_3 = some (r1, r2, r3, r4)) :
    Calls Try.prog 30 #[.agg #[.slice A0_0 l0_0.length c0_0, .slice A0_1 l0_1.length c0_1, .slice A0_2 l0_2.length c0_2, .slice A0_3 l0_3.length c0_3]] w fun e w' => ∃ v0_ v1_ v2_ v3_ : Value, e = .returned (.agg #[v0_, v1_, v2_, v3_]) ∧ Kd.S k145 145 w' w.heap.size (fun _ => True) v0_ r1 ∧ Kd.R k74 74 w' w.heap.size (fun _ => True) v1_ r2 ∧ Kd.S k149 149 w' w.heap.size (fun _ => True) v2_ r3 ∧ Kd.R k108 108 w' w.heap.size (fun _ => True) v3_ r4 ∧ Below w.heap.size w w' := by
  have hu58 := Try.underlying58
  have hu67 := Try.underlying67
  have HR0_0 := Aside0.mk hr0_0
  have HC0_0 := Aside0.mk hc0_0
  clear hr0_0 hc0_0
  have HR0_1 := Aside0.mk hr0_1
  have HC0_1 := Aside0.mk hc0_1
  clear hr0_1 hc0_1
  have HR0_2 := Aside0.mk hr0_2
  have HC0_2 := Aside0.mk hc0_2
  clear hr0_2 hc0_2
  have HR0_3 := Aside0.mk hr0_3
  have HC0_3 := Aside0.mk hc0_3
  clear hr0_3 hc0_3
  have HB := Aside0.mk (Below.refl w.heap.size w)
  have H : ((laws_toSessionS.f k l0_0).bind fun t193 => ((laws_toListenS.f k l0_1).bind fun t196 => ((laws_toQueueS.f k l0_2).bind fun t199 => ((laws_toLeaseS.f k l0_3).bind fun t202 => (some (t193, t196, t199, t202)))))) = some (r1, r2, r3, r4) := h
  clear h
  replace H := Option.bind_eq_some_iff.mp H
  obtain ⟨t193, A20, H⟩ := H
  replace H : ((laws_toListenS.f k l0_1).bind fun t196 => ((laws_toQueueS.f k l0_2).bind fun t199 => ((laws_toLeaseS.f k l0_3).bind fun t202 => (some (t193, t196, t199, t202))))) = some (r1, r2, r3, r4) := H
  have A2 := Aside0.mk A20
  clear A20
  replace H := Option.bind_eq_some_iff.mp H
  obtain ⟨t196, A30, H⟩ := H
  replace H : ((laws_toQueueS.f k l0_2).bind fun t199 => ((laws_toLeaseS.f k l0_3).bind fun t202 => (some (t193, t196, t199, t202)))) = some (r1, r2, r3, r4) := H
  have A3 := Aside0.mk A30
  clear A30
  replace H := Option.bind_eq_some_iff.mp H
  obtain ⟨t199, A40, H⟩ := H
  replace H : ((laws_toLeaseS.f k l0_3).bind fun t202 => (some (t193, t196, t199, t202))) = some (r1, r2, r3, r4) := H
  have A4 := Aside0.mk A40
  clear A40
  replace H := Option.bind_eq_some_iff.mp H
  obtain ⟨t202, A50, H⟩ := H
  replace H : (some (t193, t196, t199, t202)) = some (r1, r2, r3, r4) := H
  have A5 := Aside0.mk A50
  clear A50
  simp only [Option.some.injEq, Prod.mk.injEq] at H
  obtain ⟨rfl, rfl, rfl, rfl⟩ := H
  go_enter Try.func30, Try.ntmps30
  go_wp2_with (first | ((with_reducible refine gate_dst (N := 1) rfl ?_); refine box_event ?hg (N := 1) ?hd (cs := #[.slice A0_0 l0_0.length c0_0, .slice A0_1 l0_1.length c0_1, .slice A0_2 l0_2.length c0_2, .slice A0_3 l0_3.length c0_3]) (t := 58) ?hr ?_; (case hd => rfl); (case hg => rfl); (case hr => first | (go_simp; done) | (go_simp; rfl)); intro gb190 hg w6 hbox hb; have n0_ := Aside0.mk (below_step (by repeat (first | (with_reducible first | exact HB.out | apply below_alloc | apply pw_below_drewN | apply below_drew1) | exact HB.out)) hb); have n1_ := Aside0.mk (hbox); have n2_ := Aside0.mk ((by rw [hg]; exact (below_size (by repeat (first | (with_reducible first | exact HB.out | apply below_alloc | apply pw_below_drewN | apply below_drew1) | exact HB.out))) : w.heap.size ≤ gb190)); have n3_ := Aside0.mk ((by rw [hg]; exact (below_size (by repeat (first | (with_reducible first | exact HB.out | apply below_alloc | apply pw_below_drewN | apply below_drew1) | exact HB.out))) : w.heap.size ≤ gb190)); clear HB; have HB := n0_; have BK190 := n1_; have GW190 := n2_; have GE190 := n3_; clear n0_ n1_ n2_ n3_; clear hb hbox hg) | ((with_reducible refine gate_dst (N := 2) rfl ?_); refine box_event ?hg (N := 2) ?hd (cs := #[.slice none 0 0, .slice none 0 0, .slice none 0 0, .slice none 0 0]) (t := 67) ?hr ?_; (case hd => rfl); (case hg => rfl); (case hr => first | (go_simp; done) | (go_simp; rfl)); intro gb191 hg w7 hbox hb; have n0_ := Aside0.mk (blk_below (g := gb190) (o := .cells #[.slice A0_0 l0_0.length c0_0, .slice A0_1 l0_1.length c0_1, .slice A0_2 l0_2.length c0_2, .slice A0_3 l0_3.length c0_3] 58 (0, 0)) (by (with_reducible repeat (first | refine blk_drewN ?_ _ | refine blk_drew ?_ | refine blk_alloc ?_ _)); exact BK190.out) hb); have n1_ := Aside0.mk (below_step (by repeat (first | (with_reducible first | exact HB.out | apply below_alloc | apply pw_below_drewN | apply below_drew1 | refine below_set ?_ GE190.out) | exact HB.out)) hb); have n2_ := Aside0.mk (hbox); have n3_ := Aside0.mk ((by rw [hg]; exact (below_size (by repeat (first | (with_reducible first | exact HB.out | apply below_alloc | apply pw_below_drewN | apply below_drew1 | refine below_set ?_ GE190.out) | exact HB.out))) : w.heap.size ≤ gb191)); have n4_ := Aside0.mk ((by rw [hg]; exact (below_size (by repeat (first | (with_reducible first | exact HB.out | apply below_alloc | apply pw_below_drewN | apply below_drew1 | refine below_set ?_ GE190.out) | exact HB.out))) : w.heap.size ≤ gb191)); have n5_ := Aside0.mk ((by rw [hg]; exact Nat.ne_of_lt (blk_lt (g := gb190) (o := .cells #[.slice A0_0 l0_0.length c0_0, .slice A0_1 l0_1.length c0_1, .slice A0_2 l0_2.length c0_2, .slice A0_3 l0_3.length c0_3] 58 (0, 0)) (by (with_reducible repeat (first | refine blk_drewN ?_ _ | refine blk_drew ?_ | refine blk_alloc ?_ _)); exact BK190.out)) : gb190 ≠ gb191)); have n6_ := Aside0.mk ((by rw [hg]; exact Nat.ne_of_gt (blk_lt (g := gb190) (o := .cells #[.slice A0_0 l0_0.length c0_0, .slice A0_1 l0_1.length c0_1, .slice A0_2 l0_2.length c0_2, .slice A0_3 l0_3.length c0_3] 58 (0, 0)) (by (with_reducible repeat (first | refine blk_drewN ?_ _ | refine blk_drew ?_ | refine blk_alloc ?_ _)); exact BK190.out)) : gb191 ≠ gb190)); clear BK190; clear HB; have BK190 := n0_; have HB := n1_; have BK191 := n2_; have GW191 := n3_; have GE191 := n4_; have NB190_191 := n5_; have NB191_190 := n6_; clear n0_ n1_ n2_ n3_ n4_ n5_ n6_; clear hb hbox hg) | ((with_reducible refine gate_dst (N := 3) rfl ?_); refine box_event ?hg (N := 3) ?hd (cs := #[.slice none 0 0, .slice none 0 0, .slice none 0 0, .slice none 0 0]) (t := 67) ?hr ?_; (case hd => rfl); (case hg => rfl); (case hr => first | (go_simp; done) | (go_simp; rfl)); intro gb192 hg w8 hbox hb; have n0_ := Aside0.mk (blk_below (g := gb190) (o := .cells #[.slice A0_0 l0_0.length c0_0, .slice A0_1 l0_1.length c0_1, .slice A0_2 l0_2.length c0_2, .slice A0_3 l0_3.length c0_3] 58 (0, 0)) (by (with_reducible repeat (first | refine blk_drewN ?_ _ | refine blk_drew ?_ | refine blk_alloc ?_ _)); exact BK190.out) hb); have n1_ := Aside0.mk (blk_below (g := gb191) (o := .cells #[.slice none 0 0, .slice none 0 0, .slice none 0 0, .slice none 0 0] 67 (0, 0)) (by (with_reducible repeat (first | refine blk_drewN ?_ _ | refine blk_drew ?_ | refine blk_alloc ?_ _)); exact BK191.out) hb); have n2_ := Aside0.mk (below_step (by repeat (first | (with_reducible first | exact HB.out | apply below_alloc | apply pw_below_drewN | apply below_drew1 | refine below_set ?_ GE190.out | refine below_set ?_ GE191.out) | exact HB.out)) hb); have n3_ := Aside0.mk (hbox); have n4_ := Aside0.mk ((by rw [hg]; exact (below_size (by repeat (first | (with_reducible first | exact HB.out | apply below_alloc | apply pw_below_drewN | apply below_drew1 | refine below_set ?_ GE190.out | refine below_set ?_ GE191.out) | exact HB.out))) : w.heap.size ≤ gb192)); have n5_ := Aside0.mk ((by rw [hg]; exact (below_size (by repeat (first | (with_reducible first | exact HB.out | apply below_alloc | apply pw_below_drewN | apply below_drew1 | refine below_set ?_ GE190.out | refine below_set ?_ GE191.out) | exact HB.out))) : w.heap.size ≤ gb192)); have n6_ := Aside0.mk ((by rw [hg]; exact Nat.ne_of_lt (blk_lt (g := gb190) (o := .cells #[.slice A0_0 l0_0.length c0_0, .slice A0_1 l0_1.length c0_1, .slice A0_2 l0_2.length c0_2, .slice A0_3 l0_3.length c0_3] 58 (0, 0)) (by (with_reducible repeat (first | refine blk_drewN ?_ _ | refine blk_drew ?_ | refine blk_alloc ?_ _)); exact BK190.out)) : gb190 ≠ gb192)); have n7_ := Aside0.mk ((by rw [hg]; exact Nat.ne_of_gt (blk_lt (g := gb190) (o := .cells #[.slice A0_0 l0_0.length c0_0, .slice A0_1 l0_1.length c0_1, .slice A0_2 l0_2.length c0_2, .slice A0_3 l0_3.length c0_3] 58 (0, 0)) (by (with_reducible repeat (first | refine blk_drewN ?_ _ | refine blk_drew ?_ | refine blk_alloc ?_ _)); exact BK190.out)) : gb192 ≠ gb190)); have n8_ := Aside0.mk ((by rw [hg]; exact Nat.ne_of_lt (blk_lt (g := gb191) (o := .cells #[.slice none 0 0, .slice none 0 0, .slice none 0 0, .slice none 0 0] 67 (0, 0)) (by (with_reducible repeat (first | refine blk_drewN ?_ _ | refine blk_drew ?_ | refine blk_alloc ?_ _)); exact BK191.out)) : gb191 ≠ gb192)); have n9_ := Aside0.mk ((by rw [hg]; exact Nat.ne_of_gt (blk_lt (g := gb191) (o := .cells #[.slice none 0 0, .slice none 0 0, .slice none 0 0, .slice none 0 0] 67 (0, 0)) (by (with_reducible repeat (first | refine blk_drewN ?_ _ | refine blk_drew ?_ | refine blk_alloc ?_ _)); exact BK191.out)) : gb192 ≠ gb191)); clear BK190; clear BK191; clear HB; have BK190 := n0_; have BK191 := n1_; have HB := n2_; have BK192 := n3_; have GW192 := n4_; have GE192 := n5_; have NB190_192 := n6_; have NB192_190 := n7_; have NB191_192 := n8_; have NB192_191 := n9_; clear n0_ n1_ n2_ n3_ n4_ n5_ n6_ n7_ n8_ n9_; clear hb hbox hg; have hnb9 := NB190_191.out; have hnc9 := NB191_190.out; have hnb10 := NB190_192.out; have hnc10 := NB192_190.out; have hcz11_0 : w8.cell? ⟨gb190, 0, none⟩ = some (.slice A0_0 l0_0.length c0_0) := (blk_cell BK190.out 0).trans rfl; have hcz11_1 : w8.cell? ⟨gb190, 1, none⟩ = some (.slice A0_1 l0_1.length c0_1) := (blk_cell BK190.out 1).trans rfl; have hcz11_2 : w8.cell? ⟨gb190, 2, none⟩ = some (.slice A0_2 l0_2.length c0_2) := (blk_cell BK190.out 2).trans rfl; have hcz11_3 : w8.cell? ⟨gb190, 3, none⟩ = some (.slice A0_3 l0_3.length c0_3) := (blk_cell BK190.out 3).trans rfl; have hfz11_0 := blk_frozen BK190.out 0; have hfz11_1 := blk_frozen BK190.out 1; have hfz11_2 := blk_frozen BK190.out 2; have hfz11_3 := blk_frozen BK190.out 3) | ((with_reducible refine gate_callee (f := 71) rfl ?_); refine goesL_ (some 6) rfl rfl Try.func71 (by kernel_rfl) rfl #[.slice A0_0 l0_0.length c0_0] rfl (by (try simp only [List.map_toArray, List.map_cons, List.map_nil]); first | done | rfl | (simp only [List.length_drop, List.length_take]; rfl)) ?_; (with_reducible refine (laws_toSessionS.calls k _ _ l0_0 t193 _ ?side1 ?side2 A2.out).mono ?_); (case side1 => repeat (first | exact (Kd.C_below HR0_0.out HB.out) | (with_reducible refine Kd.C_alloc ?_ _) | (with_reducible refine Kd.C_drewN ?_ _) | (with_reducible refine Kd.C_drew ?_))); (case side2 => exact HC0_0.out); rintro e w12 ⟨v194, rfl, ho0, hb⟩; refine ⟨_, rfl, ?_⟩; have n0_ := Aside0.mk (Kd.S_lower ho0 (below_size (by repeat (first | (with_reducible first | exact HB.out | apply below_alloc | apply pw_below_drewN | apply below_drew1 | refine below_set ?_ GE190.out | refine below_set ?_ GE191.out | refine below_set ?_ GE192.out) | exact HB.out)))); have n1_ := Aside0.mk (blk_below (g := gb190) (o := .cells #[.slice A0_0 l0_0.length c0_0, .slice A0_1 l0_1.length c0_1, .slice A0_2 l0_2.length c0_2, .slice A0_3 l0_3.length c0_3] 58 (0, 0)) (by (with_reducible repeat (first | refine blk_drewN ?_ _ | refine blk_drew ?_ | refine blk_alloc ?_ _)); exact BK190.out) hb); have n2_ := Aside0.mk (blk_below (g := gb191) (o := .cells #[.slice none 0 0, .slice none 0 0, .slice none 0 0, .slice none 0 0] 67 (0, 0)) (by (with_reducible repeat (first | refine blk_drewN ?_ _ | refine blk_drew ?_ | refine blk_alloc ?_ _)); exact BK191.out) hb); have n3_ := Aside0.mk (blk_below (g := gb192) (o := .cells #[.slice none 0 0, .slice none 0 0, .slice none 0 0, .slice none 0 0] 67 (0, 0)) (by (with_reducible repeat (first | refine blk_drewN ?_ _ | refine blk_drew ?_ | refine blk_alloc ?_ _)); exact BK192.out) hb); have n4_ := Aside0.mk (below_step (by repeat (first | (with_reducible first | exact HB.out | apply below_alloc | apply pw_below_drewN | apply below_drew1 | refine below_set ?_ GE190.out | refine below_set ?_ GE191.out | refine below_set ?_ GE192.out) | exact HB.out)) hb); clear BK190; clear BK191; clear BK192; clear HB; have HO195 := n0_; have BK190 := n1_; have BK191 := n2_; have BK192 := n3_; have HB := n4_; clear n0_ n1_ n2_ n3_ n4_; (try clear hb); (try clear hb2); (try clear hk); (try clear hi); (try clear ho0); obtain ⟨Ao13, co13, eo13⟩ := Kd.S_slice HO195.out; subst eo13; have hnb14 := NB192_191.out; have hnc14 := NB191_192.out; have hcz15_0 : w12.cell? ⟨gb192, 0, none⟩ = some (.slice none 0 0) := (blk_cell BK192.out 0).trans rfl; have hcz15_1 : w12.cell? ⟨gb192, 1, none⟩ = some (.slice none 0 0) := (blk_cell BK192.out 1).trans rfl; have hcz15_2 : w12.cell? ⟨gb192, 2, none⟩ = some (.slice none 0 0) := (blk_cell BK192.out 2).trans rfl; have hcz15_3 : w12.cell? ⟨gb192, 3, none⟩ = some (.slice none 0 0) := (blk_cell BK192.out 3).trans rfl; have hfz15_0 := blk_frozen BK192.out 0; have hfz15_1 := blk_frozen BK192.out 1; have hfz15_2 := blk_frozen BK192.out 2; have hfz15_3 := blk_frozen BK192.out 3; have hcz16_0 : w12.cell? ⟨gb190, 0, none⟩ = some (.slice A0_0 l0_0.length c0_0) := (blk_cell BK190.out 0).trans rfl; have hcz16_1 : w12.cell? ⟨gb190, 1, none⟩ = some (.slice A0_1 l0_1.length c0_1) := (blk_cell BK190.out 1).trans rfl; have hcz16_2 : w12.cell? ⟨gb190, 2, none⟩ = some (.slice A0_2 l0_2.length c0_2) := (blk_cell BK190.out 2).trans rfl; have hcz16_3 : w12.cell? ⟨gb190, 3, none⟩ = some (.slice A0_3 l0_3.length c0_3) := (blk_cell BK190.out 3).trans rfl; have hfz16_0 := blk_frozen BK190.out 0; have hfz16_1 := blk_frozen BK190.out 1; have hfz16_2 := blk_frozen BK190.out 2; have hfz16_3 := blk_frozen BK190.out 3) | ((with_reducible refine gate_callee (f := 72) rfl ?_); refine goesL_ (some 10) rfl rfl Try.func72 (by kernel_rfl) rfl #[.slice A0_1 l0_1.length c0_1] rfl (by (try simp only [List.map_toArray, List.map_cons, List.map_nil]); first | done | rfl | (simp only [List.length_drop, List.length_take]; rfl)) ?_; (with_reducible refine (laws_toListenS.calls k _ _ l0_1 t196 _ ?side1 ?side2 A3.out).mono ?_); (case side1 => exact Kd.C_below HR0_1.out (by repeat (first | (with_reducible first | exact HB.out | apply below_alloc | apply pw_below_drewN | apply below_drew1 | refine below_set ?_ GE190.out | refine below_set ?_ GE191.out | refine below_set ?_ GE192.out) | exact HB.out))); (case side2 => exact HC0_1.out); rintro e w17 ⟨v197, rfl, ho0, hb⟩; refine ⟨_, rfl, ?_⟩; have n0_ := Aside0.mk (Kd.S_below (by (with_reducible repeat (first | apply Kd.S_alloc | apply Kd.S_drewN | apply Kd.S_drew)); exact (Kd.S_mono (Kd.S_far (p := ⟨gb192, 0, none⟩) (Kd.S_types HO195.out BK192.out (by decide)) (fun _ hk => hk.2) (.slice Ao13 t193.length co13)) (fun _ h_ => h_.1))) hb); have n1_ := Aside0.mk (Kd.R_lower ho0 (below_size (by repeat (first | (with_reducible first | exact HB.out | apply below_alloc | apply pw_below_drewN | apply below_drew1 | refine below_set ?_ GE190.out | refine below_set ?_ GE191.out | refine below_set ?_ GE192.out) | exact HB.out)))); have n2_ := Aside0.mk (blk_below (g := gb190) (o := .cells #[.slice A0_0 l0_0.length c0_0, .slice A0_1 l0_1.length c0_1, .slice A0_2 l0_2.length c0_2, .slice A0_3 l0_3.length c0_3] 58 (0, 0)) (by (with_reducible repeat (first | refine blk_drewN ?_ _ | refine blk_drew ?_ | refine blk_alloc ?_ _)); refine blk_far ?_ NB190_192.out _; (with_reducible repeat (first | refine blk_drewN ?_ _ | refine blk_drew ?_ | refine blk_alloc ?_ _)); exact BK190.out) hb); have n3_ := Aside0.mk (blk_below (g := gb191) (o := .cells #[.slice none 0 0, .slice none 0 0, .slice none 0 0, .slice none 0 0] 67 (0, 0)) (by (with_reducible repeat (first | refine blk_drewN ?_ _ | refine blk_drew ?_ | refine blk_alloc ?_ _)); refine blk_far ?_ NB191_192.out _; (with_reducible repeat (first | refine blk_drewN ?_ _ | refine blk_drew ?_ | refine blk_alloc ?_ _)); exact BK191.out) hb); have n4_ := Aside0.mk (blk_below (g := gb192) (o := .cells #[.slice Ao13 t193.length co13, .slice none 0 0, .slice none 0 0, .slice none 0 0] 67 (0, 0)) (by (with_reducible repeat (first | refine blk_drewN ?_ _ | refine blk_drew ?_ | refine blk_alloc ?_ _)); refine blk_put (cs := #[.slice none 0 0, .slice none 0 0, .slice none 0 0, .slice none 0 0]) ?_ 0 _ rfl; (with_reducible repeat (first | refine blk_drewN ?_ _ | refine blk_drew ?_ | refine blk_alloc ?_ _)); exact BK192.out) hb); have n5_ := Aside0.mk (below_step (by repeat (first | (with_reducible first | exact HB.out | apply below_alloc | apply pw_below_drewN | apply below_drew1 | refine below_set ?_ GE190.out | refine below_set ?_ GE191.out | refine below_set ?_ GE192.out) | exact HB.out)) hb); clear HO195; clear BK190; clear BK191; clear BK192; clear HB; have HO195 := n0_; have HO198 := n1_; have BK190 := n2_; have BK191 := n3_; have BK192 := n4_; have HB := n5_; clear n0_ n1_ n2_ n3_ n4_ n5_; (try clear hb); (try clear hb2); (try clear hk); (try clear hi); (try clear ho0); obtain ⟨Ao18, co18, eo18⟩ := Kd.R_slice HO198.out; subst eo18; have hcz19_0 : w17.cell? ⟨gb192, 0, none⟩ = some (.slice Ao13 t193.length co13) := (blk_cell BK192.out 0).trans rfl; have hcz19_1 : w17.cell? ⟨gb192, 1, none⟩ = some (.slice none 0 0) := (blk_cell BK192.out 1).trans rfl; have hcz19_2 : w17.cell? ⟨gb192, 2, none⟩ = some (.slice none 0 0) := (blk_cell BK192.out 2).trans rfl; have hcz19_3 : w17.cell? ⟨gb192, 3, none⟩ = some (.slice none 0 0) := (blk_cell BK192.out 3).trans rfl; have hfz19_0 := blk_frozen BK192.out 0; have hfz19_1 := blk_frozen BK192.out 1; have hfz19_2 := blk_frozen BK192.out 2; have hfz19_3 := blk_frozen BK192.out 3; have hcz20_0 : w17.cell? ⟨gb190, 0, none⟩ = some (.slice A0_0 l0_0.length c0_0) := (blk_cell BK190.out 0).trans rfl; have hcz20_1 : w17.cell? ⟨gb190, 1, none⟩ = some (.slice A0_1 l0_1.length c0_1) := (blk_cell BK190.out 1).trans rfl; have hcz20_2 : w17.cell? ⟨gb190, 2, none⟩ = some (.slice A0_2 l0_2.length c0_2) := (blk_cell BK190.out 2).trans rfl; have hcz20_3 : w17.cell? ⟨gb190, 3, none⟩ = some (.slice A0_3 l0_3.length c0_3) := (blk_cell BK190.out 3).trans rfl; have hfz20_0 := blk_frozen BK190.out 0; have hfz20_1 := blk_frozen BK190.out 1; have hfz20_2 := blk_frozen BK190.out 2; have hfz20_3 := blk_frozen BK190.out 3) | ((with_reducible refine gate_callee (f := 73) rfl ?_); refine goesL_ (some 14) rfl rfl Try.func73 (by kernel_rfl) rfl #[.slice A0_2 l0_2.length c0_2] rfl (by (try simp only [List.map_toArray, List.map_cons, List.map_nil]); first | done | rfl | (simp only [List.length_drop, List.length_take]; rfl)) ?_; (with_reducible refine (laws_toQueueS.calls k _ _ l0_2 t199 _ ?side1 ?side2 A4.out).mono ?_); (case side1 => exact Kd.C_below HR0_2.out (by repeat (first | (with_reducible first | exact HB.out | apply below_alloc | apply pw_below_drewN | apply below_drew1 | refine below_set ?_ GE190.out | refine below_set ?_ GE191.out | refine below_set ?_ GE192.out) | exact HB.out))); (case side2 => exact HC0_2.out); rintro e w21 ⟨v200, rfl, ho0, hb⟩; refine ⟨_, rfl, ?_⟩; have n0_ := Aside0.mk (Kd.S_below (by (with_reducible repeat (first | apply Kd.S_alloc | apply Kd.S_drewN | apply Kd.S_drew)); exact (Kd.S_mono (Kd.S_far (p := ⟨gb192, 1, none⟩) (Kd.S_types HO195.out BK192.out (by decide)) (fun _ hk => hk.2) (.slice Ao18 t196.length co18)) (fun _ h_ => h_.1))) hb); have n1_ := Aside0.mk (Kd.R_below (by (with_reducible repeat (first | apply Kd.R_alloc | apply Kd.R_drewN | apply Kd.R_drew)); exact (Kd.R_mono (Kd.R_far (p := ⟨gb192, 1, none⟩) (Kd.R_types HO198.out BK192.out (by decide)) (fun _ hk => hk.2) (.slice Ao18 t196.length co18)) (fun _ h_ => h_.1))) hb); have n2_ := Aside0.mk (Kd.S_lower ho0 (below_size (by repeat (first | (with_reducible first | exact HB.out | apply below_alloc | apply pw_below_drewN | apply below_drew1 | refine below_set ?_ GE190.out | refine below_set ?_ GE191.out | refine below_set ?_ GE192.out) | exact HB.out)))); have n3_ := Aside0.mk (blk_below (g := gb190) (o := .cells #[.slice A0_0 l0_0.length c0_0, .slice A0_1 l0_1.length c0_1, .slice A0_2 l0_2.length c0_2, .slice A0_3 l0_3.length c0_3] 58 (0, 0)) (by (with_reducible repeat (first | refine blk_drewN ?_ _ | refine blk_drew ?_ | refine blk_alloc ?_ _)); refine blk_far ?_ NB190_192.out _; (with_reducible repeat (first | refine blk_drewN ?_ _ | refine blk_drew ?_ | refine blk_alloc ?_ _)); exact BK190.out) hb); have n4_ := Aside0.mk (blk_below (g := gb191) (o := .cells #[.slice none 0 0, .slice none 0 0, .slice none 0 0, .slice none 0 0] 67 (0, 0)) (by (with_reducible repeat (first | refine blk_drewN ?_ _ | refine blk_drew ?_ | refine blk_alloc ?_ _)); refine blk_far ?_ NB191_192.out _; (with_reducible repeat (first | refine blk_drewN ?_ _ | refine blk_drew ?_ | refine blk_alloc ?_ _)); exact BK191.out) hb); have n5_ := Aside0.mk (blk_below (g := gb192) (o := .cells #[.slice Ao13 t193.length co13, .slice Ao18 t196.length co18, .slice none 0 0, .slice none 0 0] 67 (0, 0)) (by (with_reducible repeat (first | refine blk_drewN ?_ _ | refine blk_drew ?_ | refine blk_alloc ?_ _)); refine blk_put (cs := #[.slice Ao13 t193.length co13, .slice none 0 0, .slice none 0 0, .slice none 0 0]) ?_ 1 _ rfl; (with_reducible repeat (first | refine blk_drewN ?_ _ | refine blk_drew ?_ | refine blk_alloc ?_ _)); exact BK192.out) hb); have n6_ := Aside0.mk (below_step (by repeat (first | (with_reducible first | exact HB.out | apply below_alloc | apply pw_below_drewN | apply below_drew1 | refine below_set ?_ GE190.out | refine below_set ?_ GE191.out | refine below_set ?_ GE192.out) | exact HB.out)) hb); clear HO195; clear HO198; clear BK190; clear BK191; clear BK192; clear HB; have HO195 := n0_; have HO198 := n1_; have HO201 := n2_; have BK190 := n3_; have BK191 := n4_; have BK192 := n5_; have HB := n6_; clear n0_ n1_ n2_ n3_ n4_ n5_ n6_; (try clear hb); (try clear hb2); (try clear hk); (try clear hi); (try clear ho0); obtain ⟨Ao22, co22, eo22⟩ := Kd.S_slice HO201.out; subst eo22; have hcz23_0 : w21.cell? ⟨gb192, 0, none⟩ = some (.slice Ao13 t193.length co13) := (blk_cell BK192.out 0).trans rfl; have hcz23_1 : w21.cell? ⟨gb192, 1, none⟩ = some (.slice Ao18 t196.length co18) := (blk_cell BK192.out 1).trans rfl; have hcz23_2 : w21.cell? ⟨gb192, 2, none⟩ = some (.slice none 0 0) := (blk_cell BK192.out 2).trans rfl; have hcz23_3 : w21.cell? ⟨gb192, 3, none⟩ = some (.slice none 0 0) := (blk_cell BK192.out 3).trans rfl; have hfz23_0 := blk_frozen BK192.out 0; have hfz23_1 := blk_frozen BK192.out 1; have hfz23_2 := blk_frozen BK192.out 2; have hfz23_3 := blk_frozen BK192.out 3; have hcz24_0 : w21.cell? ⟨gb190, 0, none⟩ = some (.slice A0_0 l0_0.length c0_0) := (blk_cell BK190.out 0).trans rfl; have hcz24_1 : w21.cell? ⟨gb190, 1, none⟩ = some (.slice A0_1 l0_1.length c0_1) := (blk_cell BK190.out 1).trans rfl; have hcz24_2 : w21.cell? ⟨gb190, 2, none⟩ = some (.slice A0_2 l0_2.length c0_2) := (blk_cell BK190.out 2).trans rfl; have hcz24_3 : w21.cell? ⟨gb190, 3, none⟩ = some (.slice A0_3 l0_3.length c0_3) := (blk_cell BK190.out 3).trans rfl; have hfz24_0 := blk_frozen BK190.out 0; have hfz24_1 := blk_frozen BK190.out 1; have hfz24_2 := blk_frozen BK190.out 2; have hfz24_3 := blk_frozen BK190.out 3) | ((with_reducible refine gate_callee (f := 74) rfl ?_); refine goesL_ (some 18) rfl rfl Try.func74 (by kernel_rfl) rfl #[.slice A0_3 l0_3.length c0_3] rfl (by (try simp only [List.map_toArray, List.map_cons, List.map_nil]); first | done | rfl | (simp only [List.length_drop, List.length_take]; rfl)) ?_; (with_reducible refine (laws_toLeaseS.calls k _ _ l0_3 t202 _ ?side1 ?side2 A5.out).mono ?_); (case side1 => exact Kd.C_below HR0_3.out (by repeat (first | (with_reducible first | exact HB.out | apply below_alloc | apply pw_below_drewN | apply below_drew1 | refine below_set ?_ GE190.out | refine below_set ?_ GE191.out | refine below_set ?_ GE192.out) | exact HB.out))); (case side2 => exact HC0_3.out); rintro e w25 ⟨v203, rfl, ho0, hb⟩; refine ⟨_, rfl, ?_⟩; have n0_ := Aside0.mk (Kd.S_below (by (with_reducible repeat (first | apply Kd.S_alloc | apply Kd.S_drewN | apply Kd.S_drew)); exact (Kd.S_mono (Kd.S_far (p := ⟨gb192, 2, none⟩) (Kd.S_types HO195.out BK192.out (by decide)) (fun _ hk => hk.2) (.slice Ao22 t199.length co22)) (fun _ h_ => h_.1))) hb); have n1_ := Aside0.mk (Kd.R_below (by (with_reducible repeat (first | apply Kd.R_alloc | apply Kd.R_drewN | apply Kd.R_drew)); exact (Kd.R_mono (Kd.R_far (p := ⟨gb192, 2, none⟩) (Kd.R_types HO198.out BK192.out (by decide)) (fun _ hk => hk.2) (.slice Ao22 t199.length co22)) (fun _ h_ => h_.1))) hb); have n2_ := Aside0.mk (Kd.S_below (by (with_reducible repeat (first | apply Kd.S_alloc | apply Kd.S_drewN | apply Kd.S_drew)); exact (Kd.S_mono (Kd.S_far (p := ⟨gb192, 2, none⟩) (Kd.S_types HO201.out BK192.out (by decide)) (fun _ hk => hk.2) (.slice Ao22 t199.length co22)) (fun _ h_ => h_.1))) hb); have n3_ := Aside0.mk (Kd.R_lower ho0 (below_size (by repeat (first | (with_reducible first | exact HB.out | apply below_alloc | apply pw_below_drewN | apply below_drew1 | refine below_set ?_ GE190.out | refine below_set ?_ GE191.out | refine below_set ?_ GE192.out) | exact HB.out)))); have n4_ := Aside0.mk (blk_below (g := gb190) (o := .cells #[.slice A0_0 l0_0.length c0_0, .slice A0_1 l0_1.length c0_1, .slice A0_2 l0_2.length c0_2, .slice A0_3 l0_3.length c0_3] 58 (0, 0)) (by (with_reducible repeat (first | refine blk_drewN ?_ _ | refine blk_drew ?_ | refine blk_alloc ?_ _)); refine blk_far ?_ NB190_192.out _; (with_reducible repeat (first | refine blk_drewN ?_ _ | refine blk_drew ?_ | refine blk_alloc ?_ _)); exact BK190.out) hb); have n5_ := Aside0.mk (blk_below (g := gb191) (o := .cells #[.slice none 0 0, .slice none 0 0, .slice none 0 0, .slice none 0 0] 67 (0, 0)) (by (with_reducible repeat (first | refine blk_drewN ?_ _ | refine blk_drew ?_ | refine blk_alloc ?_ _)); refine blk_far ?_ NB191_192.out _; (with_reducible repeat (first | refine blk_drewN ?_ _ | refine blk_drew ?_ | refine blk_alloc ?_ _)); exact BK191.out) hb); have n6_ := Aside0.mk (blk_below (g := gb192) (o := .cells #[.slice Ao13 t193.length co13, .slice Ao18 t196.length co18, .slice Ao22 t199.length co22, .slice none 0 0] 67 (0, 0)) (by (with_reducible repeat (first | refine blk_drewN ?_ _ | refine blk_drew ?_ | refine blk_alloc ?_ _)); refine blk_put (cs := #[.slice Ao13 t193.length co13, .slice Ao18 t196.length co18, .slice none 0 0, .slice none 0 0]) ?_ 2 _ rfl; (with_reducible repeat (first | refine blk_drewN ?_ _ | refine blk_drew ?_ | refine blk_alloc ?_ _)); exact BK192.out) hb); have n7_ := Aside0.mk (below_step (by repeat (first | (with_reducible first | exact HB.out | apply below_alloc | apply pw_below_drewN | apply below_drew1 | refine below_set ?_ GE190.out | refine below_set ?_ GE191.out | refine below_set ?_ GE192.out) | exact HB.out)) hb); clear HO195; clear HO198; clear HO201; clear BK190; clear BK191; clear BK192; clear HB; have HO195 := n0_; have HO198 := n1_; have HO201 := n2_; have HO204 := n3_; have BK190 := n4_; have BK191 := n5_; have BK192 := n6_; have HB := n7_; clear n0_ n1_ n2_ n3_ n4_ n5_ n6_ n7_; (try clear hb); (try clear hb2); (try clear hk); (try clear hi); (try clear ho0); obtain ⟨Ao26, co26, eo26⟩ := Kd.R_slice HO204.out; subst eo26; have hcz27_0 : w25.cell? ⟨gb192, 0, none⟩ = some (.slice Ao13 t193.length co13) := (blk_cell BK192.out 0).trans rfl; have hcz27_1 : w25.cell? ⟨gb192, 1, none⟩ = some (.slice Ao18 t196.length co18) := (blk_cell BK192.out 1).trans rfl; have hcz27_2 : w25.cell? ⟨gb192, 2, none⟩ = some (.slice Ao22 t199.length co22) := (blk_cell BK192.out 2).trans rfl; have hcz27_3 : w25.cell? ⟨gb192, 3, none⟩ = some (.slice none 0 0) := (blk_cell BK192.out 3).trans rfl; have hfz27_0 := blk_frozen BK192.out 0; have hfz27_1 := blk_frozen BK192.out 1; have hfz27_2 := blk_frozen BK192.out 2; have hfz27_3 := blk_frozen BK192.out 3; have hcz28_0 : w25.cell? ⟨gb191, 0, none⟩ = some (.slice none 0 0) := (blk_cell BK191.out 0).trans rfl; have hcz28_1 : w25.cell? ⟨gb191, 1, none⟩ = some (.slice none 0 0) := (blk_cell BK191.out 1).trans rfl; have hcz28_2 : w25.cell? ⟨gb191, 2, none⟩ = some (.slice none 0 0) := (blk_cell BK191.out 2).trans rfl; have hcz28_3 : w25.cell? ⟨gb191, 3, none⟩ = some (.slice none 0 0) := (blk_cell BK191.out 3).trans rfl; have hfz28_0 := blk_frozen BK191.out 0; have hfz28_1 := blk_frozen BK191.out 1; have hfz28_2 := blk_frozen BK191.out 2; have hfz28_3 := blk_frozen BK191.out 3))
  refine bodyPost_ret (results_cell_row rfl _ _ gb191 67 #[.slice Ao13 t193.length co13, .slice Ao18 t196.length co18, .slice Ao22 t199.length co22, .slice Ao26 t202.length co26] (0, 0) _ rfl (by (with_reducible repeat (first | refine blk_drewN ?_ _ | refine blk_drew ?_ | refine blk_alloc ?_ _)); refine blk_put (cs := #[.slice Ao13 t193.length co13, .slice Ao18 t196.length co18, .slice Ao22 t199.length co22, .slice none 0 0]) ?_ 3 _ rfl; (with_reducible repeat (first | refine blk_drewN ?_ _ | refine blk_drew ?_ | refine blk_alloc ?_ _)); refine blk_put (cs := #[.slice Ao13 t193.length co13, .slice Ao18 t196.length co18, .slice none 0 0, .slice none 0 0]) ?_ 2 _ rfl; (with_reducible repeat (first | refine blk_drewN ?_ _ | refine blk_drew ?_ | refine blk_alloc ?_ _)); refine blk_put (cs := #[.slice Ao13 t193.length co13, .slice none 0 0, .slice none 0 0, .slice none 0 0]) ?_ 1 _ rfl; (with_reducible repeat (first | refine blk_drewN ?_ _ | refine blk_drew ?_ | refine blk_alloc ?_ _)); refine blk_put (cs := #[.slice none 0 0, .slice none 0 0, .slice none 0 0, .slice none 0 0]) ?_ 0 _ rfl; (with_reducible repeat (first | refine blk_drewN ?_ _ | refine blk_drew ?_ | refine blk_alloc ?_ _)); refine blk_far ?_ NB191_192.out _; (with_reducible repeat (first | refine blk_drewN ?_ _ | refine blk_drew ?_ | refine blk_alloc ?_ _)); exact BK191.out) Try.underlying67 rfl (by kernel_rfl)) rfl ?_
  exact ⟨_, _, _, _, by first | rfl | (simp [errW_none, errW_some] <;> rfl) | (simp [*, errW_none, errW_some] <;> rfl), by (with_reducible repeat (first | apply Kd.S_alloc | apply Kd.S_drewN | apply Kd.S_drew)); exact Kd.S_mono (Kd.S_far (p := ⟨gb191, 3, none⟩) (Kd.S_far (p := ⟨gb191, 2, none⟩) (Kd.S_far (p := ⟨gb191, 1, none⟩) (Kd.S_far (p := ⟨gb191, 0, none⟩) (Kd.S_far (p := ⟨gb192, 3, none⟩) (Kd.S_types (Kd.S_types HO195.out BK192.out (by decide)) BK191.out (by decide)) (fun _ hk => hk.1.2) (.slice Ao26 t202.length co26)) (fun _ hk => hk.2) (.slice Ao13 t193.length co13)) (fun _ hk => hk.2) (.slice Ao18 t196.length co18)) (fun _ hk => hk.2) (.slice Ao22 t199.length co22)) (fun _ hk => hk.2) (.slice Ao26 t202.length co26)) (fun _ hk => trivial), by (with_reducible repeat (first | apply Kd.R_alloc | apply Kd.R_drewN | apply Kd.R_drew)); exact Kd.R_mono (Kd.R_far (p := ⟨gb191, 3, none⟩) (Kd.R_far (p := ⟨gb191, 2, none⟩) (Kd.R_far (p := ⟨gb191, 1, none⟩) (Kd.R_far (p := ⟨gb191, 0, none⟩) (Kd.R_far (p := ⟨gb192, 3, none⟩) (Kd.R_types (Kd.R_types HO198.out BK192.out (by decide)) BK191.out (by decide)) (fun _ hk => hk.1.2) (.slice Ao26 t202.length co26)) (fun _ hk => hk.2) (.slice Ao13 t193.length co13)) (fun _ hk => hk.2) (.slice Ao18 t196.length co18)) (fun _ hk => hk.2) (.slice Ao22 t199.length co22)) (fun _ hk => hk.2) (.slice Ao26 t202.length co26)) (fun _ hk => trivial), by (with_reducible repeat (first | apply Kd.S_alloc | apply Kd.S_drewN | apply Kd.S_drew)); exact Kd.S_mono (Kd.S_far (p := ⟨gb191, 3, none⟩) (Kd.S_far (p := ⟨gb191, 2, none⟩) (Kd.S_far (p := ⟨gb191, 1, none⟩) (Kd.S_far (p := ⟨gb191, 0, none⟩) (Kd.S_far (p := ⟨gb192, 3, none⟩) (Kd.S_types (Kd.S_types HO201.out BK192.out (by decide)) BK191.out (by decide)) (fun _ hk => hk.1.2) (.slice Ao26 t202.length co26)) (fun _ hk => hk.2) (.slice Ao13 t193.length co13)) (fun _ hk => hk.2) (.slice Ao18 t196.length co18)) (fun _ hk => hk.2) (.slice Ao22 t199.length co22)) (fun _ hk => hk.2) (.slice Ao26 t202.length co26)) (fun _ hk => trivial), by (with_reducible repeat (first | apply Kd.R_alloc | apply Kd.R_drewN | apply Kd.R_drew)); exact Kd.R_mono (Kd.R_far (p := ⟨gb191, 3, none⟩) (Kd.R_far (p := ⟨gb191, 2, none⟩) (Kd.R_far (p := ⟨gb191, 1, none⟩) (Kd.R_far (p := ⟨gb191, 0, none⟩) (Kd.R_far (p := ⟨gb192, 3, none⟩) (Kd.R_types (Kd.R_types HO204.out BK192.out (by decide)) BK191.out (by decide)) (fun _ hk => hk.1.2) (.slice Ao26 t202.length co26)) (fun _ hk => hk.2) (.slice Ao13 t193.length co13)) (fun _ hk => hk.2) (.slice Ao18 t196.length co18)) (fun _ hk => hk.2) (.slice Ao22 t199.length co22)) (fun _ hk => hk.2) (.slice Ao26 t202.length co26)) (fun _ hk => trivial), by repeat (first | (with_reducible first | exact HB.out | apply below_alloc | apply pw_below_drewN | apply below_drew1 | refine below_set ?_ GE190.out | refine below_set ?_ GE191.out | refine below_set ?_ GE192.out) | exact HB.out)⟩

end Go.Proofs.Ytlbikcelfheohaa.PFnExactLeaseOf
end

/-! ### YtlbikcelfheohaaHousePure -/
section
namespace Go.Proofs.Ytlbikcelfheohaa.PFnExactLeaseOf
open Go.RowKit Go.Proofs.YtlbikcelfheohaaW.PrintWords
set_option linter.unusedSimpArgs false
set_option linter.unusedVariables false

theorem next64 (i : Nat) (h : i < 4611686018427387904) : wrap64 ((i : Int) + 1) = ((i + 1 : Nat) : Int) := by unfold wrap64; omega
theorem less64 (a : Int) (n : Nat) (h0 : 0 ≤ a) (h1 : a ≤ 1048576) (hn : n ≤ 2 ^ 63 - 1) : wrap64 (a - (n : Int)) = a - (n : Int) := by unfold wrap64; omega
theorem rdStr (xs : List ByteArray) (i : Nat) (h : i < xs.length) : rdOf ByteArray.empty xs i = xs[i] := by simp [rdOf, h]

theorem rdLTold (xs : List S167) (i : Nat) (h : i < xs.length) : rd_T167 xs i = xs[i] := by simp [rd_T167, h]
theorem rdITold (xs : List S168) (i : Nat) (h : i < xs.length) : rd_T168 xs i = xs[i] := by simp [rd_T168, h]
theorem rdLSession (xs : List S138) (i : Nat) (h : i < xs.length) : rd_T138 xs i = xs[i] := by simp [rd_T138, h]
theorem rdISession (xs : List S145) (i : Nat) (h : i < xs.length) : rd_T145 xs i = xs[i] := by simp [rd_T145, h]
theorem rdLListen (xs : List S148) (i : Nat) (h : i < xs.length) : rd_T148 xs i = xs[i] := by simp [rd_T148, h]
theorem rdIListen (xs : List S74) (i : Nat) (h : i < xs.length) : rd_T74 xs i = xs[i] := by simp [rd_T74, h]
theorem rdLQueue (xs : List S142) (i : Nat) (h : i < xs.length) : rd_T142 xs i = xs[i] := by simp [rd_T142, h]
theorem rdIQueue (xs : List S149) (i : Nat) (h : i < xs.length) : rd_T149 xs i = xs[i] := by simp [rd_T149, h]
theorem rdLLease (xs : List S152) (i : Nat) (h : i < xs.length) : rd_T152 xs i = xs[i] := by simp [rd_T152, h]
theorem rdILease (xs : List S108) (i : Nat) (h : i < xs.length) : rd_T108 xs i = xs[i] := by simp [rd_T108, h]
def cTold (x : S167) : S168 := ⟨x.f0, x.f1⟩
def cSession (x : S138) : S145 := ⟨x.f0, x.f1, x.f2.map cTold⟩
def cListen (x : S148) : S74 := ⟨x.f0, x.f1⟩
def cQueue (x : S142) : S149 := ⟨x.f0, x.f1, x.f2⟩
def cLease (x : S152) : S108 := ⟨x.f0, x.f1, x.f2⟩

theorem toToldS_f (xs : List S167) (k m : Nat) (hk : xs.length + m < k) (hl : xs.length ≤ 1048576) : laws_toToldS.f k xs = some (xs.map cTold) := by
  unfold laws_toToldS.f
  rw [if_pos (by omega), if_pos (by omega), Int.toNat_natCast]
  refine copy_loop laws_toToldS.l0 cTold z168 (fun k x => True) ?_ ?_ xs hl m (fun _ _ _ _ => trivial) xs.length k 0 _ (by omega) (by simp) hk
  · intro k xs acc i h
    unfold laws_toToldS.l0
    rw [if_neg (by omega)]
  · intro k xs acc i hi hl ha hok
    rw [laws_toToldS.l0, if_pos (by omega), if_pos (by omega), rdLTold xs i hi, laws_toTold.f, Option.bind_some, if_pos (by omega), next64 i (by omega), Int.toNat_natCast]
    rfl

theorem toListenS_f (xs : List S148) (k m : Nat) (hk : xs.length + m < k) (hl : xs.length ≤ 1048576) : laws_toListenS.f k xs = some (xs.map cListen) := by
  unfold laws_toListenS.f
  rw [if_pos (by omega), if_pos (by omega), Int.toNat_natCast]
  refine copy_loop laws_toListenS.l0 cListen z74 (fun k x => True) ?_ ?_ xs hl m (fun _ _ _ _ => trivial) xs.length k 0 _ (by omega) (by simp) hk
  · intro k xs acc i h
    unfold laws_toListenS.l0
    rw [if_neg (by omega)]
  · intro k xs acc i hi hl ha hok
    rw [laws_toListenS.l0, if_pos (by omega), if_pos (by omega), rdLListen xs i hi, laws_toListen.f, Option.bind_some, if_pos (by omega), next64 i (by omega), Int.toNat_natCast]
    rfl

theorem toLeaseS_f (xs : List S152) (k m : Nat) (hk : xs.length + m < k) (hl : xs.length ≤ 1048576) : laws_toLeaseS.f k xs = some (xs.map cLease) := by
  unfold laws_toLeaseS.f
  rw [if_pos (by omega), if_pos (by omega), Int.toNat_natCast]
  refine copy_loop laws_toLeaseS.l0 cLease z108 (fun k x => True) ?_ ?_ xs hl m (fun _ _ _ _ => trivial) xs.length k 0 _ (by omega) (by simp) hk
  · intro k xs acc i h
    unfold laws_toLeaseS.l0
    rw [if_neg (by omega)]
  · intro k xs acc i hi hl ha hok
    rw [laws_toLeaseS.l0, if_pos (by omega), if_pos (by omega), rdLLease xs i hi, laws_toLease.f, Option.bind_some, if_pos (by omega), next64 i (by omega), Int.toNat_natCast]
    rfl

theorem toStringS_f (xs : List ByteArray) (k : Nat) (hk : xs.length < k) (hl : xs.length ≤ 1048576) : laws_toStringS.f k xs = some xs := by
  unfold laws_toStringS.f
  rw [if_pos (by omega), if_pos (by omega), Int.toNat_natCast]
  have := copy_loop laws_toStringS.l0 (fun x => x) (⟨#[]⟩ : ByteArray) (fun _ _ => True) ?_ ?_ xs hl 0 (fun _ _ _ _ => trivial) xs.length k 0 _ (by omega) (by simp; rfl) (by omega)
  · simpa using this
  · intro k xs acc i h
    unfold laws_toStringS.l0
    rw [if_neg (by omega)]
  · intro k xs acc i hi hl ha hok
    rw [laws_toStringS.l0, if_pos (by omega), if_pos (by omega), if_pos (by omega), rdStr xs i hi, next64 i (by omega), Int.toNat_natCast]

theorem toSessionS_f (xs : List S138) (k m : Nat) (hk : xs.length + m < k) (hl : xs.length ≤ 1048576) (hok : ∀ k, m ≤ k → ∀ x ∈ xs, (x.f2.length + 1 < k ∧ x.f2.length ≤ 1048576)) : laws_toSessionS.f k xs = some (xs.map cSession) := by
  unfold laws_toSessionS.f
  rw [if_pos (by omega), if_pos (by omega), Int.toNat_natCast]
  refine copy_loop laws_toSessionS.l0 cSession z145 (fun k x => (x.f2.length + 1 < k ∧ x.f2.length ≤ 1048576)) ?_ ?_ xs hl m (hok) xs.length k 0 _ (by omega) (by simp) hk
  · intro k xs acc i h
    unfold laws_toSessionS.l0
    rw [if_neg (by omega)]
  · intro k xs acc i hi hl ha hok
    rw [laws_toSessionS.l0, if_pos (by omega), if_pos (by omega), rdLSession xs i hi, laws_toSession.f, toToldS_f xs[i].f2 k 0 (by omega) hok.2, Option.bind_some, Option.bind_some, if_pos (by omega), next64 i (by omega), Int.toNat_natCast]
    rfl

theorem toQueueS_f (xs : List S142) (k m : Nat) (hk : xs.length + m < k) (hl : xs.length ≤ 1048576) (hok : ∀ k, m ≤ k → ∀ x ∈ xs, (x.f2.length + 1 < k ∧ x.f2.length ≤ 1048576)) : laws_toQueueS.f k xs = some (xs.map cQueue) := by
  unfold laws_toQueueS.f
  rw [if_pos (by omega), if_pos (by omega), Int.toNat_natCast]
  refine copy_loop laws_toQueueS.l0 cQueue z149 (fun k x => (x.f2.length + 1 < k ∧ x.f2.length ≤ 1048576)) ?_ ?_ xs hl m (hok) xs.length k 0 _ (by omega) (by simp) hk
  · intro k xs acc i h
    unfold laws_toQueueS.l0
    rw [if_neg (by omega)]
  · intro k xs acc i hi hl ha hok
    rw [laws_toQueueS.l0, if_pos (by omega), if_pos (by omega), rdLQueue xs i hi, laws_toQueue.f, toStringS_f xs[i].f2 k (by omega) hok.2, Option.bind_some, Option.bind_some, if_pos (by omega), next64 i (by omega), Int.toNat_natCast]
    rfl

theorem toHouse_f (ss : List S138) (li : List S148) (qu : List S142) (le : List S152) (h1 : ss.length ≤ 1048576) (h2 : li.length ≤ 1048576) (h3 : qu.length ≤ 1048576) (h4 : le.length ≤ 1048576)
    (h5 : ∀ x ∈ ss, x.f2.length ≤ 1048576) (h6 : ∀ x ∈ qu, x.f2.length ≤ 1048576) : laws_toHouse.f 4194304 ss li qu le = some (ss.map cSession, li.map cListen, qu.map cQueue, le.map cLease) := by
  unfold laws_toHouse.f
  rw [toSessionS_f ss 4194304 1048578 (by omega) h1 (fun k hk x hx => by have := h5 x hx; omega), toListenS_f li 4194304 0 (by omega) h2, toQueueS_f qu 4194304 1048578 (by omega) h3 (fun k hk x hx => by have := h6 x hx; omega), toLeaseS_f le 4194304 0 (by omega) h4]
  rfl

theorem szToldS_f (xs : List S167) (k : Nat) (left : Int) (hk : 1048576 + 0 < k) (h63 : xs.length ≤ 2 ^ 63 - 1) (hG : ∀ x ∈ xs, x.f1.size ≤ 2 ^ 63 - 1) (a : 0 ≤ left) (b : left ≤ 1048576) :
    ∃ r, laws_szToldS.f k xs left = some r ∧ (r < 0 ∨ (0 ≤ r ∧ r ≤ left ∧ xs.length ≤ 1048576 ∧ ∀ x ∈ xs, x.f1.size ≤ 1048576)) := by
  have hh0 : ∀ k (xs : List S167) (left : Int) (i : Nat), xs.length ≤ i → laws_szToldS.l0 (k + 1) xs left i = some left := by
    intro k xs left i h
    unfold laws_szToldS.l0
    rw [if_neg (by omega)]
  have hh1 : ∀ k (xs : List S167) (left : Int) (i : Nat) (hi : i < xs.length), 0 ≤ k → xs.length ≤ 1048576 → 0 ≤ left → left ≤ 1048576 → (fun x => x.f1.size ≤ 2 ^ 63 - 1) xs[i] →
      (∃ r : Int, r < 0 ∧ laws_szToldS.l0 (k + 1) xs left i = some r) ∨ ∃ r : Int, 0 ≤ r ∧ r ≤ left ∧ (fun x => x.f1.size ≤ 1048576) xs[i] ∧ laws_szToldS.l0 (k + 1) xs left i = laws_szToldS.l0 k xs r ((i + 1 : Nat) : Int) := by
    intro k xs left i hi hm hl a b hg
    (try simp only at hg)
    rw [laws_szToldS.l0, if_pos (by omega), if_pos (by omega), rdLTold xs i hi, laws_szTold.f, less64 left _ a b hg]
    by_cases hlt : left - (xs[i].f1.size : Int) < 0
    · exact .inl ⟨-1, by omega, by rw [if_pos hlt, Option.bind_some, if_pos (by omega)]⟩
    · exact .inr ⟨left - (xs[i].f1.size : Int), by omega, by omega, by simp only; omega, by rw [if_neg hlt, Option.bind_some, if_neg hlt, next64 i (by omega)]⟩
  unfold laws_szToldS.f
  rw [less64 left xs.length a b h63]
  by_cases h : left - (xs.length : Int) < 0
  · rw [if_pos h]; exact ⟨-1, rfl, .inl (by omega)⟩
  · rw [if_neg h]
    obtain ⟨r, hr, hh⟩ := size_loop laws_szToldS.l0 (fun x => x.f1.size ≤ 2 ^ 63 - 1) (fun x => x.f1.size ≤ 1048576) 0 hh0 hh1 xs (by omega) hG xs.length k 0 (left - (xs.length : Int)) (by omega) (by omega) (by omega) (by omega)
    refine ⟨r, hr, hh.imp id fun ⟨p, q, f⟩ => ⟨p, by omega, by omega, fun x hx => ?_⟩⟩
    obtain ⟨j, hj, rfl⟩ := List.getElem_of_mem hx
    exact f j hj (by omega)

theorem szStringS_f (xs : List ByteArray) (k : Nat) (left : Int) (hk : 1048576 + 0 < k) (h63 : xs.length ≤ 2 ^ 63 - 1) (hG : ∀ x ∈ xs, x.size ≤ 2 ^ 63 - 1) (a : 0 ≤ left) (b : left ≤ 1048576) :
    ∃ r, laws_szStringS.f k xs left = some r ∧ (r < 0 ∨ (0 ≤ r ∧ r ≤ left ∧ xs.length ≤ 1048576 ∧ ∀ x ∈ xs, x.size ≤ 1048576)) := by
  have hh0 : ∀ k (xs : List ByteArray) (left : Int) (i : Nat), xs.length ≤ i → laws_szStringS.l0 (k + 1) xs left i = some left := by
    intro k xs left i h
    unfold laws_szStringS.l0
    rw [if_neg (by omega)]
  have hh1 : ∀ k (xs : List ByteArray) (left : Int) (i : Nat) (hi : i < xs.length), 0 ≤ k → xs.length ≤ 1048576 → 0 ≤ left → left ≤ 1048576 → (fun x => x.size ≤ 2 ^ 63 - 1) xs[i] →
      (∃ r : Int, r < 0 ∧ laws_szStringS.l0 (k + 1) xs left i = some r) ∨ ∃ r : Int, 0 ≤ r ∧ r ≤ left ∧ (fun x => x.size ≤ 1048576) xs[i] ∧ laws_szStringS.l0 (k + 1) xs left i = laws_szStringS.l0 k xs r ((i + 1 : Nat) : Int) := by
    intro k xs left i hi hm hl a b hg
    (try simp only at hg)
    rw [laws_szStringS.l0, if_pos (by omega), if_pos (by omega), rdStr xs i hi, less64 left _ a b hg]
    by_cases hlt : left - (xs[i].size : Int) < 0
    · exact .inl ⟨-1, by omega, by rw [if_pos hlt]⟩
    · exact .inr ⟨left - (xs[i].size : Int), by omega, by omega, by simp only; omega, by rw [if_neg hlt, next64 i (by omega)]⟩
  unfold laws_szStringS.f
  rw [less64 left xs.length a b h63]
  by_cases h : left - (xs.length : Int) < 0
  · rw [if_pos h]; exact ⟨-1, rfl, .inl (by omega)⟩
  · rw [if_neg h]
    obtain ⟨r, hr, hh⟩ := size_loop laws_szStringS.l0 (fun x => x.size ≤ 2 ^ 63 - 1) (fun x => x.size ≤ 1048576) 0 hh0 hh1 xs (by omega) hG xs.length k 0 (left - (xs.length : Int)) (by omega) (by omega) (by omega) (by omega)
    refine ⟨r, hr, hh.imp id fun ⟨p, q, f⟩ => ⟨p, by omega, by omega, fun x hx => ?_⟩⟩
    obtain ⟨j, hj, rfl⟩ := List.getElem_of_mem hx
    exact f j hj (by omega)

theorem szSessionS_f (xs : List S138) (k : Nat) (left : Int) (hk : 1048576 + 1048578 < k) (h63 : xs.length ≤ 2 ^ 63 - 1) (hG : ∀ x ∈ xs, (x.f2.length ≤ 2 ^ 63 - 1 ∧ ∀ y ∈ x.f2, y.f1.size ≤ 2 ^ 63 - 1)) (a : 0 ≤ left) (b : left ≤ 1048576) :
    ∃ r, laws_szSessionS.f k xs left = some r ∧ (r < 0 ∨ (0 ≤ r ∧ r ≤ left ∧ xs.length ≤ 1048576 ∧ ∀ x ∈ xs, (x.f2.length ≤ 1048576 ∧ ∀ y ∈ x.f2, y.f1.size ≤ 1048576))) := by
  have hh0 : ∀ k (xs : List S138) (left : Int) (i : Nat), xs.length ≤ i → laws_szSessionS.l0 (k + 1) xs left i = some left := by
    intro k xs left i h
    unfold laws_szSessionS.l0
    rw [if_neg (by omega)]
  have hh1 : ∀ k (xs : List S138) (left : Int) (i : Nat) (hi : i < xs.length), 1048578 ≤ k → xs.length ≤ 1048576 → 0 ≤ left → left ≤ 1048576 → (fun x => (x.f2.length ≤ 2 ^ 63 - 1 ∧ ∀ y ∈ x.f2, y.f1.size ≤ 2 ^ 63 - 1)) xs[i] →
      (∃ r : Int, r < 0 ∧ laws_szSessionS.l0 (k + 1) xs left i = some r) ∨ ∃ r : Int, 0 ≤ r ∧ r ≤ left ∧ (fun x => (x.f2.length ≤ 1048576 ∧ ∀ y ∈ x.f2, y.f1.size ≤ 1048576)) xs[i] ∧ laws_szSessionS.l0 (k + 1) xs left i = laws_szSessionS.l0 k xs r ((i + 1 : Nat) : Int) := by
    intro k xs left i hi hm hl a b hg
    (try simp only at hg)
    rw [laws_szSessionS.l0, if_pos (by omega), if_pos (by omega), rdLSession xs i hi, laws_szSession.f]
    obtain ⟨r, hr, hh⟩ := szToldS_f xs[i].f2 k left (by omega) hg.1 hg.2 a b
    rw [hr, Option.bind_some]
    rcases hh with hh | ⟨p, q, u, v⟩
    · exact .inl ⟨-1, by omega, by rw [if_pos hh, Option.bind_some, if_pos (by omega)]⟩
    · exact .inr ⟨r, p, q, ⟨u, v⟩, by rw [if_neg (by omega), Option.bind_some, if_neg (by omega), next64 i (by omega)]⟩
  unfold laws_szSessionS.f
  rw [less64 left xs.length a b h63]
  by_cases h : left - (xs.length : Int) < 0
  · rw [if_pos h]; exact ⟨-1, rfl, .inl (by omega)⟩
  · rw [if_neg h]
    obtain ⟨r, hr, hh⟩ := size_loop laws_szSessionS.l0 (fun x => (x.f2.length ≤ 2 ^ 63 - 1 ∧ ∀ y ∈ x.f2, y.f1.size ≤ 2 ^ 63 - 1)) (fun x => (x.f2.length ≤ 1048576 ∧ ∀ y ∈ x.f2, y.f1.size ≤ 1048576)) 1048578 hh0 hh1 xs (by omega) hG xs.length k 0 (left - (xs.length : Int)) (by omega) (by omega) (by omega) (by omega)
    refine ⟨r, hr, hh.imp id fun ⟨p, q, f⟩ => ⟨p, by omega, by omega, fun x hx => ?_⟩⟩
    obtain ⟨j, hj, rfl⟩ := List.getElem_of_mem hx
    exact f j hj (by omega)

theorem szQueueS_f (xs : List S142) (k : Nat) (left : Int) (hk : 1048576 + 1048578 < k) (h63 : xs.length ≤ 2 ^ 63 - 1) (hG : ∀ x ∈ xs, (x.f2.length ≤ 2 ^ 63 - 1 ∧ ∀ y ∈ x.f2, y.size ≤ 2 ^ 63 - 1)) (a : 0 ≤ left) (b : left ≤ 1048576) :
    ∃ r, laws_szQueueS.f k xs left = some r ∧ (r < 0 ∨ (0 ≤ r ∧ r ≤ left ∧ xs.length ≤ 1048576 ∧ ∀ x ∈ xs, (x.f2.length ≤ 1048576 ∧ ∀ y ∈ x.f2, y.size ≤ 1048576))) := by
  have hh0 : ∀ k (xs : List S142) (left : Int) (i : Nat), xs.length ≤ i → laws_szQueueS.l0 (k + 1) xs left i = some left := by
    intro k xs left i h
    unfold laws_szQueueS.l0
    rw [if_neg (by omega)]
  have hh1 : ∀ k (xs : List S142) (left : Int) (i : Nat) (hi : i < xs.length), 1048578 ≤ k → xs.length ≤ 1048576 → 0 ≤ left → left ≤ 1048576 → (fun x => (x.f2.length ≤ 2 ^ 63 - 1 ∧ ∀ y ∈ x.f2, y.size ≤ 2 ^ 63 - 1)) xs[i] →
      (∃ r : Int, r < 0 ∧ laws_szQueueS.l0 (k + 1) xs left i = some r) ∨ ∃ r : Int, 0 ≤ r ∧ r ≤ left ∧ (fun x => (x.f2.length ≤ 1048576 ∧ ∀ y ∈ x.f2, y.size ≤ 1048576)) xs[i] ∧ laws_szQueueS.l0 (k + 1) xs left i = laws_szQueueS.l0 k xs r ((i + 1 : Nat) : Int) := by
    intro k xs left i hi hm hl a b hg
    (try simp only at hg)
    rw [laws_szQueueS.l0, if_pos (by omega), if_pos (by omega), rdLQueue xs i hi, laws_szQueue.f]
    obtain ⟨r, hr, hh⟩ := szStringS_f xs[i].f2 k left (by omega) hg.1 hg.2 a b
    rw [hr, Option.bind_some]
    rcases hh with hh | ⟨p, q, u, v⟩
    · exact .inl ⟨-1, by omega, by rw [if_pos hh, Option.bind_some, if_pos (by omega)]⟩
    · exact .inr ⟨r, p, q, ⟨u, v⟩, by rw [if_neg (by omega), Option.bind_some, if_neg (by omega), next64 i (by omega)]⟩
  unfold laws_szQueueS.f
  rw [less64 left xs.length a b h63]
  by_cases h : left - (xs.length : Int) < 0
  · rw [if_pos h]; exact ⟨-1, rfl, .inl (by omega)⟩
  · rw [if_neg h]
    obtain ⟨r, hr, hh⟩ := size_loop laws_szQueueS.l0 (fun x => (x.f2.length ≤ 2 ^ 63 - 1 ∧ ∀ y ∈ x.f2, y.size ≤ 2 ^ 63 - 1)) (fun x => (x.f2.length ≤ 1048576 ∧ ∀ y ∈ x.f2, y.size ≤ 1048576)) 1048578 hh0 hh1 xs (by omega) hG xs.length k 0 (left - (xs.length : Int)) (by omega) (by omega) (by omega) (by omega)
    refine ⟨r, hr, hh.imp id fun ⟨p, q, f⟩ => ⟨p, by omega, by omega, fun x hx => ?_⟩⟩
    obtain ⟨j, hj, rfl⟩ := List.getElem_of_mem hx
    exact f j hj (by omega)

theorem eqToldS_f (xs : List S168) (k m : Nat) (hk : xs.length + m < k) (hl : xs.length ≤ 1048576) : laws_eqToldS.f k xs xs = some true := by
  unfold laws_eqToldS.f
  rw [if_pos rfl]
  refine same_loop laws_eqToldS.l0 (fun k x => True) ?_ ?_ xs hl m (fun _ _ _ _ => trivial) xs.length k 0 (by omega) hk
  · intro k xs i h
    unfold laws_eqToldS.l0
    rw [if_neg (by omega)]
  · intro k xs i hi hl hok
    rw [laws_eqToldS.l0, if_pos (by omega), if_pos (by omega), if_pos (by omega), laws_eqTold.f, if_pos rfl, if_pos rfl, Option.bind_some, if_pos rfl, next64 i (by omega)]

theorem eqListenS_f (xs : List S74) (k m : Nat) (hk : xs.length + m < k) (hl : xs.length ≤ 1048576) : laws_eqListenS.f k xs xs = some true := by
  unfold laws_eqListenS.f
  rw [if_pos rfl]
  refine same_loop laws_eqListenS.l0 (fun k x => True) ?_ ?_ xs hl m (fun _ _ _ _ => trivial) xs.length k 0 (by omega) hk
  · intro k xs i h
    unfold laws_eqListenS.l0
    rw [if_neg (by omega)]
  · intro k xs i hi hl hok
    rw [laws_eqListenS.l0, if_pos (by omega), if_pos (by omega), if_pos (by omega), laws_eqListen.f, if_pos rfl, if_pos rfl, Option.bind_some, if_pos rfl, next64 i (by omega)]

theorem eqLeaseS_f (xs : List S108) (k m : Nat) (hk : xs.length + m < k) (hl : xs.length ≤ 1048576) : laws_eqLeaseS.f k xs xs = some true := by
  unfold laws_eqLeaseS.f
  rw [if_pos rfl]
  refine same_loop laws_eqLeaseS.l0 (fun k x => True) ?_ ?_ xs hl m (fun _ _ _ _ => trivial) xs.length k 0 (by omega) hk
  · intro k xs i h
    unfold laws_eqLeaseS.l0
    rw [if_neg (by omega)]
  · intro k xs i hi hl hok
    rw [laws_eqLeaseS.l0, if_pos (by omega), if_pos (by omega), if_pos (by omega), laws_eqLease.f, if_pos rfl, if_pos rfl, if_pos rfl, Option.bind_some, if_pos rfl, next64 i (by omega)]

theorem eqStringS_f (xs : List ByteArray) (k : Nat) (hk : xs.length < k) (hl : xs.length ≤ 1048576) : laws_eqStringS.f k xs xs = some true := by
  unfold laws_eqStringS.f
  rw [if_pos rfl]
  refine same_loop laws_eqStringS.l0 (fun _ _ => True) ?_ ?_ xs hl 0 (fun _ _ _ _ => trivial) xs.length k 0 (by omega) (by omega)
  · intro k xs i h
    unfold laws_eqStringS.l0
    rw [if_neg (by omega)]
  · intro k xs i hi hl hok
    rw [laws_eqStringS.l0, if_pos (by omega), if_pos (by omega), if_pos (by omega), if_pos rfl, next64 i (by omega)]

theorem eqSessionS_f (xs : List S145) (k m : Nat) (hk : xs.length + m < k) (hl : xs.length ≤ 1048576) (hok : ∀ k, m ≤ k → ∀ x ∈ xs, (x.f2.length + 1 < k ∧ x.f2.length ≤ 1048576)) : laws_eqSessionS.f k xs xs = some true := by
  unfold laws_eqSessionS.f
  rw [if_pos rfl]
  refine same_loop laws_eqSessionS.l0 (fun k x => (x.f2.length + 1 < k ∧ x.f2.length ≤ 1048576)) ?_ ?_ xs hl m (hok) xs.length k 0 (by omega) hk
  · intro k xs i h
    unfold laws_eqSessionS.l0
    rw [if_neg (by omega)]
  · intro k xs i hi hl hok
    rw [laws_eqSessionS.l0, if_pos (by omega), if_pos (by omega), if_pos (by omega), rdISession xs i hi, laws_eqSession.f, if_pos rfl, if_pos rfl, eqToldS_f xs[i].f2 k 0 (by omega) hok.2, Option.bind_some, if_pos rfl, Option.bind_some, if_pos rfl, next64 i (by omega)]

theorem eqQueueS_f (xs : List S149) (k m : Nat) (hk : xs.length + m < k) (hl : xs.length ≤ 1048576) (hok : ∀ k, m ≤ k → ∀ x ∈ xs, (x.f2.length + 1 < k ∧ x.f2.length ≤ 1048576)) : laws_eqQueueS.f k xs xs = some true := by
  unfold laws_eqQueueS.f
  rw [if_pos rfl]
  refine same_loop laws_eqQueueS.l0 (fun k x => (x.f2.length + 1 < k ∧ x.f2.length ≤ 1048576)) ?_ ?_ xs hl m (hok) xs.length k 0 (by omega) hk
  · intro k xs i h
    unfold laws_eqQueueS.l0
    rw [if_neg (by omega)]
  · intro k xs i hi hl hok
    rw [laws_eqQueueS.l0, if_pos (by omega), if_pos (by omega), if_pos (by omega), rdIQueue xs i hi, laws_eqQueue.f, if_pos rfl, if_pos rfl, eqStringS_f xs[i].f2 k (by omega) hok.2, Option.bind_some, if_pos rfl, Option.bind_some, if_pos rfl, next64 i (by omega)]

theorem eqHouse_f (ss : List S145) (li : List S74) (qu : List S149) (le : List S108) (h1 : ss.length ≤ 1048576) (h2 : li.length ≤ 1048576) (h3 : qu.length ≤ 1048576) (h4 : le.length ≤ 1048576)
    (h5 : ∀ x ∈ ss, x.f2.length ≤ 1048576) (h6 : ∀ x ∈ qu, x.f2.length ≤ 1048576) : laws_eqHouse.f 4194304 ss li qu le ss li qu le = some true := by
  unfold laws_eqHouse.f
  rw [eqSessionS_f ss 4194304 1048578 (by omega) h1 (fun k hk x hx => by have := h5 x hx; omega), eqListenS_f li 4194304 0 (by omega) h2, eqQueueS_f qu 4194304 1048578 (by omega) h3 (fun k hk x hx => by have := h6 x hx; omega), eqLeaseS_f le 4194304 0 (by omega) h4]
  rfl

end Go.Proofs.Ytlbikcelfheohaa.PFnExactLeaseOf
end

/-! ### YtlbikcelfheohaaFlow -/
section
namespace Go.Proofs.Ytlbikcelfheohaa
open Go.RowKit
set_option linter.unusedVariables false

/-! A REGION THAT DRAWS ITS ORDER: EVERY ORDER BY WHAT IS KNOWN OF THE VALUES. Each operation gets a predicate on the world and its value, kept by whatever lays blocks; each operation is shown in every frame in which the operations that it waits for have brought what their predicates say. So a value may be another in another order (a new slice's address). (own) -/
section
variable {P : Program}
abbrev VPred := World → Value → Prop
def VMono (R : VPred) : Prop := ∀ w w' v, R w v → Below w.heap.size w w' → R w' v
theorem vmono_eq (e : Value) : VMono (fun _ v => v = e) := fun _ _ _ h _ => h

def flowUpon (P : Program) (R : VPred) (w : World) : Result Next → Prop
  | .ok (.value u) w' => Below w.heap.size w w' ∧ R w' u
  | .ok .skip w' => Below w.heap.size w w' ∧ R w' undef
  | .ok (.enter f args) w' => Calls P f args w' (fun e w'' => ∃ v, e = .returned v ∧ Below w.heap.size w w'' ∧ R w'' v)
  | _ => False

abbrev FTab := List (Nat × Tmp × VPred)
def dep1 (A : Act) (w : World) (j : Nat) : FTab → Prop
  | [] => True
  | (i, d, R) :: r => if i = j then R w (A.eval (.tmp d)) else dep1 A w j r
def deps (T : FTab) (A : Act) (w : World) : List Edge → Prop
  | [] => True
  | e :: r => (if Region.binds .any e = true then dep1 A w e.on T else True) ∧ deps T A w r
def allT (x : Nat → Value) (w : World) : FTab → Prop
  | [] => True
  | (i, _, R) :: r => R w (x i) ∧ allT x w r
def baseF (A a : Act) : List Nat → Prop
  | [] => True
  | t :: r => A.eval (.tmp t) = a.eval (.tmp t) ∧ baseF A a r
def frameOf (x : Nat → Value) : List Oper → Nat → Act → Act
  | [], _, a => a
  | o :: r, k, a => frameOf x r (k + 1) (a.put o.dst (x k))
def addT (o : Oper) (i : Nat) (R : VPred) (T : FTab) : FTab := match o.dst with
  | some d => (i, d, R) :: T
  | none => T

def Flow (P : Program) (w : World) (a : Act) (bs : List Nat) (Q : Exit → Act → World → Prop) (l0 : List Oper) : List Oper → Nat → FTab → Prop
  | [], _, T => ∀ x w', Below w.heap.size w w' → allT x w' T → Q .normal (frameOf x l0 0 a) w'
  | o :: rest, i, T => ∃ R : VPred, VMono R ∧
      (∀ A w', Below w.heap.size w w' → baseF A a bs → deps T A w' o.after.toList → flowUpon P R w' ((execOp A.eval o).run P w')) ∧ Flow P w a bs Q l0 rest (i + 1) (addT o i R T)

theorem dep1_of {A : Act} {w : World} {j : Nat} : ∀ {T : FTab}, (∀ d R, (j, d, R) ∈ T → R w (A.eval (.tmp d))) → dep1 A w j T
  | [], _ => trivial
  | (i, d, R) :: r, h => by
    unfold dep1
    split
    · rename_i e; subst e; exact h d R (.head _)
    · exact dep1_of fun d R hm => h d R (.tail _ hm)
theorem deps_of {T : FTab} {A : Act} {w : World} : ∀ {es : List Edge}, (∀ e ∈ es, Region.binds .any e = true → ∀ d R, (e.on, d, R) ∈ T → R w (A.eval (.tmp d))) → deps T A w es
  | [], _ => trivial
  | e :: r, h => by
    refine ⟨?_, deps_of fun e he => h e (.tail _ he)⟩
    split
    · rename_i hb; exact dep1_of (h e (.head _) hb)
    · trivial
theorem allT_of {x : Nat → Value} {w : World} : ∀ {T : FTab}, (∀ i d R, (i, d, R) ∈ T → R w (x i)) → allT x w T
  | [], _ => trivial
  | (i, d, R) :: r, h => ⟨h i d R (.head _), allT_of fun i d R hm => h i d R (.tail _ hm)⟩
theorem baseF_of {A a : Act} : ∀ {bs : List Nat}, (∀ t ∈ bs, A.eval (.tmp t) = a.eval (.tmp t)) → baseF A a bs
  | [], _ => trivial
  | t :: r, h => ⟨h t (.head _), baseF_of fun t ht => h t (.tail _ ht)⟩

theorem flow_table {w : World} {a : Act} {bs : List Nat} {Q : Exit → Act → World → Prop} {l0 : List Oper} : ∀ (rest : List Oper) (i : Nat) (T : FTab), (∀ k d R, (k, d, R) ∈ T → k < i) → Flow P w a bs Q l0 rest i T →
    ∃ T' : FTab, (∀ x ∈ T, x ∈ T') ∧ (∀ k d R, (k, d, R) ∈ T' → k < i → (k, d, R) ∈ T) ∧ (∀ k d R, (k, d, R) ∈ T' → k < i + rest.length) ∧
      (∀ (j : Nat) (o : Oper), rest[j]? = some o → ∃ R, VMono R ∧ (∀ d' R', (i + j, d', R') ∈ T' → o.dst = some d' ∧ R' = R) ∧
        (∀ A w', Below w.heap.size w w' → baseF A a bs → (∀ e ∈ o.after.toList, Region.binds .any e = true → ∀ d R, (e.on, d, R) ∈ T' → R w' (A.eval (.tmp d))) → flowUpon P R w' ((execOp A.eval o).run P w'))) ∧
      (∀ x w', Below w.heap.size w w' → allT x w' T' → Q .normal (frameOf x l0 0 a) w')
  | [], i, T, hT, h => ⟨T, fun _ h => h, fun _ _ _ h _ => h, fun k d R hm => by simpa using hT k d R hm, fun j o hj => by simp at hj, h⟩
  | o :: rest, i, T, hT, h => by
    obtain ⟨R, hmono, hobl, hrest⟩ := h
    have hT1 : ∀ k d R', (k, d, R') ∈ addT o i R T → k < i + 1 := fun k d R' hm => by
      unfold addT at hm
      split at hm
      · rcases List.mem_cons.1 hm with hm | hm
        · simp only [Prod.mk.injEq] at hm; omega
        · have := hT k d R' hm; omega
      · have := hT k d R' hm; omega
    have hsub : ∀ y ∈ T, y ∈ addT o i R T := fun y hy => by
      unfold addT
      split
      · exact .tail _ hy
      · exact hy
    obtain ⟨T', h1, h2, h3, h4, h5⟩ := flow_table rest (i + 1) (addT o i R T) hT1 hrest
    refine ⟨T', fun y hy => h1 y (hsub y hy), fun k d R' hm hk => ?_, fun k d R' hm => ?_, fun j o' hj => ?_, h5⟩
    · have := h2 k d R' hm (by omega)
      unfold addT at this
      split at this
      · rcases List.mem_cons.1 this with hm | hm
        · simp only [Prod.mk.injEq] at hm; omega
        · exact hm
      · exact this
    · have := h3 k d R' hm
      simp only [List.length_cons]; omega
    · cases j with
      | zero =>
        simp only [List.getElem?_cons_zero, Option.some.injEq] at hj
        subst hj
        refine ⟨R, hmono, fun d' R' hm => ?_, fun A w' hb hbase hd => hobl A w' hb hbase (deps_of fun e he hbn d R' hm => hd e he hbn d R' (h1 _ (hsub _ hm)))⟩
        have := h2 _ d' R' hm (by omega)
        unfold addT at this
        split at this
        · rename_i dd hdd
          rcases List.mem_cons.1 this with hm | hm
          · simp only [Prod.mk.injEq] at hm
            exact ⟨by rw [hdd, hm.2.1], hm.2.2⟩
          · have := hT _ d' R' hm; omega
        · have := hT _ d' R' this; omega
      | succ j =>
        simp only [List.getElem?_cons_succ] at hj
        obtain ⟨R2, a1, a2, a3⟩ := h4 j o' hj
        exact ⟨R2, a1, fun d' R' hm => a2 d' R' (by rw [show i + 1 + j = i + (j + 1) from by omega]; exact hm), a3⟩

theorem wpAny_inv {ops : Array Oper} {Q : Exit → Act → World → Prop} {md : Region.Mode} (I : Array Bool → Act → World → Prop)
    (step : ∀ listed a w i, I listed a w → i ∈ Region.ready md ops listed → wpOp P ops Q i (fun a' w' => I (listed.setIfInBounds i true) a' w') a w)
    (fin : ∀ listed a w, I listed a w → (∀ i, i ∉ Region.ready md ops listed) → Q .normal a w) (rank : Array Bool → Nat)
    (hr : ∀ listed a w i, I listed a w → i ∈ Region.ready md ops listed → rank (listed.setIfInBounds i true) < rank listed) :
    ∀ (fuel : Nat) (listed : Array Bool) (a : Act) (w : World), rank listed ≤ fuel → I listed a w → wpAny P md ops Q fuel listed a w
  | 0, listed, a, w, hf, h => by
    have hn : ∀ i, i ∉ Region.ready md ops listed := fun i hi => by have := hr listed a w i h hi; omega
    exact ⟨List.eq_nil_iff_forall_not_mem.2 hn, fin _ _ _ h hn⟩
  | fuel + 1, listed, a, w, hf, h => ⟨fun h0 => fin _ _ _ h (by rw [h0]; simp), fun i hi => wpOp_mono (fun a' w' h' => wpAny_inv I step fin rank hr fuel _ a' w' (by have := hr listed a w i h hi; omega) h') (step _ _ _ _ h hi)⟩

theorem frame_eq (x : Nat → Value) (A : Act) : ∀ (l : List Oper) (k : Nat) (a : Act), A.defers = a.defers → A.tmps.size = a.tmps.size →
    (∀ (i : Nat) (o : Oper) d, l[i]? = some o → o.dst = some d → d < a.tmps.size → A.tmps[d]? = some (x (k + i))) → (∀ t, a.tmps[t]? ≠ A.tmps[t]? → ∃ (i : Nat) (o : Oper), l[i]? = some o ∧ o.dst = some t) → frameOf x l k a = A
  | [], k, a, hdef, hsz, _, h => by
    have ht : a.tmps = A.tmps := by
      apply Array.ext_getElem?
      intro t
      by_cases he : a.tmps[t]? = A.tmps[t]?
      · exact he
      · obtain ⟨i, o, hi, _⟩ := h t he
        simp at hi
    obtain ⟨t1, d1⟩ := a
    obtain ⟨t2, d2⟩ := A
    simp only at ht hdef
    subst ht hdef
    rfl
  | o :: r, k, a, hdef, hsz, h1, h2 => by
    have hps : (a.put o.dst (x k)).tmps.size = a.tmps.size := by unfold Act.put; split <;> simp
    have hpd : (a.put o.dst (x k)).defers = a.defers := by unfold Act.put; split <;> rfl
    refine frame_eq x A r (k + 1) (a.put o.dst (x k)) (hdef.trans hpd.symm) (hsz.trans hps.symm) (fun i o' d hi hd hlt => ?_) (fun t ht => ?_)
    · have := h1 (i + 1) o' d (by simpa using hi) hd (by rw [hps] at hlt; exact hlt)
      rw [this]; congr 2; omega
    · have hto : o.dst ≠ some t := fun ho => by
        rcases Nat.lt_or_ge t a.tmps.size with hlt | hge
        · have := h1 0 o t (by simp) ho hlt
          rw [this] at ht
          rw [ho] at ht
          simp [Act.put, hlt] at ht
        · rw [Array.getElem?_eq_none (by omega), Array.getElem?_eq_none (by omega)] at ht
          exact ht rfl
      have hsame : (a.put o.dst (x k)).tmps[t]? = a.tmps[t]? := by
        unfold Act.put
        split
        · rename_i d hd
          have : d ≠ t := fun e => hto (by rw [hd, e])
          simp [Array.getElem?_setIfInBounds_ne this]
        · rfl
      rw [hsame] at ht
      obtain ⟨i, o', hi, hd⟩ := h2 t ht
      cases i with
      | zero => simp at hi; subst hi; exact absurd hd hto
      | succ i => exact ⟨i, o', by simpa using hi, hd⟩

/-- The places written are not written twice, and lie in the frame; no operation is guarded. -/
def flowB (n : Nat) : List Oper → Bool
  | [] => true
  | o :: r => o.guard.isNone && (match o.dst with | some d => decide (d < n) && r.all (fun o' => o'.dst != some d) | none => true) && flowB n r
theorem flowB_spec {n : Nat} : ∀ {l : List Oper}, flowB n l = true → ∀ (i : Nat) (o : Oper), l[i]? = some o → o.guard = none ∧ ∀ d, o.dst = some d → d < n ∧ ∀ (j : Nat) (o' : Oper), l[j]? = some o' → i < j → o'.dst ≠ some d
  | [], _, i, o, hi => by simp at hi
  | o0 :: r, h, i, o, hi => by
    simp only [flowB, Bool.and_eq_true] at h
    obtain ⟨⟨hg, hd⟩, hr⟩ := h
    cases i with
    | zero =>
      simp only [List.getElem?_cons_zero, Option.some.injEq] at hi
      subst hi
      refine ⟨by simpa using hg, fun d hdd => ?_⟩
      rw [hdd] at hd
      simp only [Bool.and_eq_true, decide_eq_true_eq, List.all_eq_true, bne_iff_ne] at hd
      refine ⟨hd.1, fun j o' hj hlt => ?_⟩
      cases j with
      | zero => omega
      | succ j => exact hd.2 o' (List.mem_of_getElem? (by simpa using hj))
    | succ i =>
      obtain ⟨h1, h2⟩ := flowB_spec hr i o (by simpa using hi)
      refine ⟨h1, fun d hdd => ⟨(h2 d hdd).1, fun j o' hj hlt => ?_⟩⟩
      cases j with
      | zero => omega
      | succ j => exact (h2 d hdd).2 j o' (by simpa using hj) (by omega)

/-- What is waited for stands ahead. -/
def flowO : List Oper → Nat → Bool
  | [], _ => true
  | o :: r, k => o.after.toList.all (fun e => !Region.binds .any e || decide (e.on < k)) && flowO r (k + 1)
theorem flowO_spec : ∀ {l : List Oper} {k : Nat}, flowO l k = true → ∀ (i : Nat) (o : Oper), l[i]? = some o → ∀ e ∈ o.after.toList, Region.binds .any e = true → e.on < k + i
  | [], _, _, i, o, hi => by simp at hi
  | o0 :: r, k, h, i, o, hi => by
    simp only [flowO, Bool.and_eq_true] at h
    cases i with
    | zero =>
      simp only [List.getElem?_cons_zero, Option.some.injEq] at hi
      subst hi
      intro e he hb
      have := List.all_eq_true.1 h.1 e he
      simpa [hb] using this
    | succ i =>
      intro e he hb
      have := flowO_spec h.2 i o (by simpa using hi) e he hb
      omega

def unl : List Bool → Nat
  | [] => 0
  | true :: r => unl r
  | false :: r => unl r + 1
theorem unl_set : ∀ (l : List Bool) (i : Nat), l[i]? = some false → unl (l.set i true) < unl l
  | [], i, h => by simp at h
  | b :: r, 0, h => by simp at h; subst h; simp [unl]
  | b :: r, i + 1, h => by
    have := unl_set r i (by simpa using h)
    cases b <;> simp [unl] <;> omega
theorem unl_rep : ∀ n : Nat, unl (List.replicate n false) = n
  | 0 => rfl
  | n + 1 => by simp [List.replicate_succ, unl, unl_rep n]

theorem flow_upon {o : Oper} {A : Act} {w : World} {R : VPred} {K : Act → World → Prop} {Q : Exit → Act → World → Prop}
    (h : flowUpon P R w ((execOp A.eval o).run P w)) (hk : ∀ v w', Below w.heap.size w w' → (R w' v) → K (A.put o.dst v) w') : o.wp P A w K Q := by
  unfold Oper.wp
  generalize (execOp A.eval o).run P w = r at *
  cases r with
  | ok n w' =>
    cases n <;> simp only [flowUpon] at h <;> simp only [Oper.upon]
    case value u => exact hk _ _ h.1 h.2
    case skip => exact hk _ _ h.1 h.2
    case enter f args =>
      refine h.mono ?_
      rintro e w2 ⟨v, rfl, hb, hr⟩
      exact hk _ _ hb hr
  | halt x w' => simp only [flowUpon] at h

theorem eval_put_ne {A : Act} {o : Oper} {v : Value} {d : Tmp} (h : o.dst ≠ some d) : (A.put o.dst v).eval (.tmp d) = A.eval (.tmp d) := by
  unfold Act.put
  split
  · rename_i t ht
    have : t ≠ d := fun e => h (by rw [ht, e])
    simp only [Act.eval, Array.getD_eq_getD_getElem?]
    rw [Array.getElem?_setIfInBounds_ne this]
  · rfl
theorem eval_put_eq {A : Act} {o : Oper} {v : Value} {d : Tmp} (h : o.dst = some d) (hlt : d < A.tmps.size) : (A.put o.dst v).eval (.tmp d) = v := by
  rw [h]
  simp [Act.put, Act.eval, Array.getD_eq_getD_getElem?, hlt]

theorem wp_region_flow {id : Nat} {Q : Exit → Act → World → Prop} {a : Act} {w : World} {l : List Oper} (bs : List Nat) (n : Nat) (hm : P.follows .mixedOrders = true) (hn : a.tmps.size = n)
    (hB : flowB n l = true) (hO : flowO l 0 = true) (hbs : bs.all (fun t => l.all (fun o => o.dst != some t)) = true) (h : Flow P w a bs Q l l 0 []) : (Code.region id l.toArray true).wp P Q a w := by
  obtain ⟨T, -, -, hlen, hobl, hfin⟩ := flow_table l 0 [] (by simp) h
  subst hn
  refine wp_region_any hm ?_
  refine wpAny_inv (fun listed A w' => listed.size = l.length ∧ Below w.heap.size w w' ∧ A.defers = a.defers ∧ A.tmps.size = a.tmps.size ∧ (∀ t, a.tmps[t]? ≠ A.tmps[t]? → ∃ (i : Nat) (o : Oper), l[i]? = some o ∧ o.dst = some t) ∧
      (∀ i d R, (i, d, R) ∈ T → listed.getD i false = true → R w' (A.eval (.tmp d)))) ?_ ?_ (fun listed => unl listed.toList) ?_ _ _ _ _ ?_ ?_
  · rintro listed A w' i ⟨hsz, hbel, hdef, hts, hdiff, hall⟩ hi
    obtain ⟨hun, o, ho, haft⟩ := mem_ready.1 hi
    have ho' : l[i]? = some o := by simpa using ho
    obtain ⟨hg, hd⟩ := flowB_spec hB i o ho'
    obtain ⟨R, hmono, huniq, hob⟩ := hobl i o ho'
    simp only [Nat.zero_add] at huniq
    unfold wpOp
    rw [ho]
    simp only [Region.wanted, hg, if_true]
    refine .inl (flow_upon (hob A w' hbel (baseF_of fun t ht => ?_) fun e he hb d R hmem => hall _ d R hmem (haft e (by simpa using he) hb)) fun v w2 hb2 hR => ?_)
    · have h1 := List.all_eq_true.1 hbs t ht
      have h2 : ∀ o ∈ l, o.dst ≠ some t := fun o ho => by simpa using List.all_eq_true.1 h1 o ho
      have h3 : a.tmps[t]? = A.tmps[t]? := Classical.byContradiction fun hne => by
        obtain ⟨i, o, hi, hd⟩ := hdiff t hne
        exact h2 o (List.mem_of_getElem? hi) hd
      simp only [Act.eval, Array.getD_eq_getD_getElem?, h3]
    · refine ⟨by simpa using hsz, hbel.trans ⟨hb2.os, hb2.tape, hb2.output, hb2.size, fun k hk => hb2.block k (Nat.lt_of_lt_of_le hk hbel.size)⟩, ?_, ?_, ?_, ?_⟩
      · rw [← hdef]; unfold Act.put; split <;> rfl
      · rw [← hts]; unfold Act.put; split <;> simp
      · intro t ht
        by_cases hdt : o.dst = some t
        · exact ⟨i, o, ho', hdt⟩
        · refine hdiff t fun he => ht ?_
          rw [he]
          unfold Act.put
          split
          · rename_i t' ht'
            have : t' ≠ t := fun e => hdt (by rw [ht', e])
            rw [Array.getElem?_setIfInBounds_ne this]
          · rfl
      · intro k d R' hmem hk
        by_cases hki : i = k
        · subst hki
          obtain ⟨hod, rfl⟩ := huniq d R' hmem
          rw [eval_put_eq hod (by rw [hts]; exact (hd d hod).1)]
          exact hR
        · have hk' : listed.getD k false = true := by rw [getD_set_ne false hki] at hk; exact hk
          have hold := hall k d R' hmem hk'
          have hkl : k < l.length := by simpa using hlen k d R' hmem
          have hko : l[k]? = some l[k] := by simp [hkl]
          obtain ⟨R2, hmono2, huniq2, -⟩ := hobl k l[k] hko
          simp only [Nat.zero_add] at huniq2
          obtain ⟨hod, rfl⟩ := huniq2 d R' hmem
          have hne : o.dst ≠ some d := fun hd0 => by
            rcases Nat.lt_or_gt_of_ne hki with h | h
            · exact (hd d hd0).2 k l[k] hko h hod
            · exact ((flowB_spec hB k l[k] hko).2 d hod).2 i o ho' h hd0
          rw [eval_put_ne hne]
          exact hmono2 _ _ _ hold hb2
  · rintro listed A w' ⟨hsz, hbel, hdef, hts, hdiff, hall⟩ hno
    have hdone : ∀ k, k < l.length → listed.getD k false = true := by
      intro k
      induction k using Nat.strongRecOn with
      | _ k ih =>
        intro hk
        refine Classical.byContradiction fun hf => hno k (mem_ready.2 ⟨?_, l[k], by simp [hk], fun e he hb => ?_⟩)
        · have hks : k < listed.size := by omega
          simp only [Array.getD_eq_getD_getElem?, Array.getElem?_eq_getElem hks, Option.getD_some] at hf ⊢
          simpa using hf
        · have hlt := flowO_spec hO k l[k] (by simp [hk]) e (by simpa using he) hb
          exact ih e.on (by omega) (by omega)
    have hx : frameOf (fun i => match (l[i]?).bind (·.dst) with | some d => A.eval (.tmp d) | none => undef) l 0 a = A := by
      refine frame_eq _ A l 0 a hdef hts (fun i o d hi hd hlt => ?_) hdiff
      simp only [Nat.zero_add, hi, Option.bind_some, hd, Act.eval, Array.getD_eq_getD_getElem?]
      have : d < A.tmps.size := by rw [hts]; exact hlt
      simp [this]
    have := hfin (fun i => match (l[i]?).bind (·.dst) with | some d => A.eval (.tmp d) | none => undef) w' hbel (allT_of fun k d R hmem => by
      have hkl : k < l.length := by simpa using hlen k d R hmem
      have hko : l[k]? = some l[k] := by simp [hkl]
      obtain ⟨R2, -, huniq2, -⟩ := hobl k l[k] hko
      simp only [Nat.zero_add] at huniq2
      obtain ⟨hod, -⟩ := huniq2 d R hmem
      simp only [hko, Option.bind_some, hod]
      exact hall k d R hmem (hdone k hkl))
    rw [hx] at this
    exact this
  · rintro listed A w' i ⟨hsz, -⟩ hi
    obtain ⟨hun, o, ho, -⟩ := mem_ready.1 hi
    have hil : i < listed.size := by have := (Array.getElem?_eq_some_iff.1 ho).1; simp at this; omega
    simp only [Array.toList_setIfInBounds]
    refine unl_set _ _ ?_
    simp only [Array.getD_eq_getD_getElem?, Array.getElem?_eq_getElem hil, Option.getD_some] at hun
    simp [hil, hun]
  · simp [unl_rep]
  · exact ⟨by simp, ⟨rfl, rfl, rfl, Nat.le_refl _, fun _ _ => rfl⟩, rfl, rfl, fun t ht => absurd rfl ht, fun i d R _ hl => by simp [Array.getD_eq_getD_getElem?, Array.getElem?_replicate] at hl; split at hl <;> simp at hl⟩

theorem flow_val {w : World} {a : Act} {bs : List Nat} {Q : Exit → Act → World → Prop} {l0 rest : List Oper} {i : Nat} {T : FTab} {d : Tmp} {op : Op} {ty : TypeId} {pos : String} {es : Array Edge} {g : Option (Nat × Bool)} (e : Value)
    (h : ∀ A w', Below w.heap.size w w' → baseF A a bs → deps T A w' es.toList → flowUpon P (fun _ v => v = e) w' ((execOp A.eval ⟨some d, op, ty, pos, es, g⟩).run P w'))
    (k : Flow P w a bs Q l0 rest (i + 1) ((i, d, fun _ v => v = e) :: T)) : Flow P w a bs Q l0 (⟨some d, op, ty, pos, es, g⟩ :: rest) i T := ⟨_, vmono_eq e, h, k⟩
/-- A new block of these cells, told by a slice. -/
def NewSl (w0 : World) (cs : Array Value) (T : TypeId) (n : Nat) : VPred := fun w v => ∃ b, v = .slice (some ⟨b, 0, none⟩) n n ∧ w0.heap.size ≤ b ∧ w.heap[b]? = some (.cells cs T (0, 0))
theorem vmono_newSl (w0 : World) (cs : Array Value) (T : TypeId) (n : Nat) : VMono (NewSl w0 cs T n) := by
  rintro w w' v ⟨b, hv, hb, hc⟩ hB
  refine ⟨b, hv, hb, ?_⟩
  have hlt : b < w.heap.size := by
    rcases Nat.lt_or_ge b w.heap.size with h | h
    · exact h
    · rw [Array.getElem?_eq_none h] at hc; cases hc
  rw [hB.block b hlt]; exact hc
theorem flow_newSl {w : World} {a : Act} {bs : List Nat} {Q : Exit → Act → World → Prop} {l0 rest : List Oper} {i : Nat} {T : FTab} {d : Tmp} {op : Op} {ty : TypeId} {pos : String} {es : Array Edge} {g : Option (Nat × Bool)} (cs : Array Value) (et : TypeId) (n : Nat)
    (h : ∀ A w', Below w.heap.size w w' → baseF A a bs → deps T A w' es.toList → (execOp A.eval ⟨some d, op, ty, pos, es, g⟩).run P w' = .ok (.value (.slice (some ⟨w'.heap.size, 0, none⟩) n n)) (w'.alloc (.cells cs et)))
    (k : Flow P w a bs Q l0 rest (i + 1) ((i, d, NewSl w cs et n) :: T)) : Flow P w a bs Q l0 (⟨some d, op, ty, pos, es, g⟩ :: rest) i T :=
  ⟨_, vmono_newSl w cs et n, fun A w' hB hb hd => by
    rw [h A w' hB hb hd]
    exact ⟨bl_alloc (Below.refl _ _) _, w'.heap.size, rfl, hB.size, by simpa using heap_alloc_new w' _⟩, k⟩
theorem flow_valE {w : World} {a : Act} {bs : List Nat} {Q : Exit → Act → World → Prop} {l0 rest : List Oper} {i : Nat} {T : FTab} {d : Tmp} {op : Op} {ty : TypeId} {pos : String} {es : Array Edge} {g : Option (Nat × Bool)}
    (h : ∃ e, (∀ A w', Below w.heap.size w w' → baseF A a bs → deps T A w' es.toList → flowUpon P (fun _ v => v = e) w' ((execOp A.eval ⟨some d, op, ty, pos, es, g⟩).run P w')) ∧
      Flow P w a bs Q l0 rest (i + 1) ((i, d, fun _ v => v = e) :: T)) : Flow P w a bs Q l0 (⟨some d, op, ty, pos, es, g⟩ :: rest) i T :=
  let ⟨e, h, k⟩ := h
  flow_val e h k
theorem flow_newSlE {w : World} {a : Act} {bs : List Nat} {Q : Exit → Act → World → Prop} {l0 rest : List Oper} {i : Nat} {T : FTab} {d : Tmp} {op : Op} {ty : TypeId} {pos : String} {es : Array Edge} {g : Option (Nat × Bool)}
    (h : ∃ cs et n, (∀ A w', Below w.heap.size w w' → baseF A a bs → deps T A w' es.toList → (execOp A.eval ⟨some d, op, ty, pos, es, g⟩).run P w' = .ok (.value (.slice (some ⟨w'.heap.size, 0, none⟩) n n)) (w'.alloc (.cells cs et))) ∧
      Flow P w a bs Q l0 rest (i + 1) ((i, d, NewSl w cs et n) :: T)) : Flow P w a bs Q l0 (⟨some d, op, ty, pos, es, g⟩ :: rest) i T :=
  let ⟨cs, et, n, h, k⟩ := h
  flow_newSl cs et n h k
theorem flow_R {w : World} {a : Act} {bs : List Nat} {Q : Exit → Act → World → Prop} {l0 rest : List Oper} {i : Nat} {T : FTab} {d : Tmp} {op : Op} {ty : TypeId} {pos : String} {es : Array Edge} {g : Option (Nat × Bool)} (R : VPred) (hm : VMono R)
    (h : ∀ A w', Below w.heap.size w w' → baseF A a bs → deps T A w' es.toList → flowUpon P R w' ((execOp A.eval ⟨some d, op, ty, pos, es, g⟩).run P w'))
    (k : Flow P w a bs Q l0 rest (i + 1) ((i, d, R) :: T)) : Flow P w a bs Q l0 (⟨some d, op, ty, pos, es, g⟩ :: rest) i T := ⟨R, hm, h, k⟩
end
end Go.Proofs.Ytlbikcelfheohaa
end

/-! ### YtlbikcelfheohaaLease -/
section
namespace Go.Proofs.Ytlbikcelfheohaa
open Go.RowKit Go.Proofs.YtlbikcelfheohaaW.PrintWords PFnExactLeaseOf
set_option linter.unusedSimpArgs false
set_option linter.unusedVariables false

theorem lease_same (g : Nat) (dev a b c : Int) (w : World) (h : w.cell? ⟨g, 0, none⟩ = some (.int .i64 dev)) (hg : g < w.heap.size) :
    Calls Try.prog 76 #[.agg #[.int .i64 a, .int .i64 b, .int .i64 c], .pointer (some ⟨g, 0, none⟩)] w fun e w' => e = .returned (.bool (a == dev)) ∧ Below w.heap.size w w' := by
  go_enter Try.func76, Try.ntmps76
  go_wp2
  all_goals
    go_ret
    exact ⟨by first | rfl | (simp; done), (by repeat (first | exact Below.refl _ _ | apply bl_alloc | apply bl_drewN | apply bl_drew | refine bl_set ?_ (by simp) | refine bl_then ?_ (by assumption)))⟩

/-- The first lease of a device, or -1. -/
def leaseIx (xs : List S108) (dev : Int) : Nat → Nat → Int
  | _, 0 => -1
  | i, n + 1 => if (rd_T108 xs i).f0 = dev then i else leaseIx xs dev (i + 1) n

theorem lease_index (A : Option Addr) (c : Nat) (xs : List S108) (g : Nat) (dev : Int) (w : World) (hr : Kd.C k108 w A xs.length xs) (hc : xs.length ≤ c) (hl : xs.length ≤ 1048576) (h : w.cell? ⟨g, 0, none⟩ = some (.int .i64 dev)) (hg : g < w.heap.size) :
    Calls Try.prog 75 #[.slice A xs.length c, .func (.func 76) #[] #[.pointer (some ⟨g, 0, none⟩)]] w
      fun e w' => e = .returned (.int .i64 (leaseIx xs dev 0 xs.length)) ∧ Below w.heap.size w w' := by
  have HR := Lib.hid hr
  clear hr
  go_enter Try.func75, Try.ntmps75
  go_wp2
  go_loopg [8] xs.length (fun kq v8 w' => ∃ i : Nat, v8 = .int .i64 (i : Int) ∧ i + kq = xs.length ∧ Hid (leaseIx xs dev i kq = leaseIx xs dev 0 xs.length) ∧ Below w.heap.size w w')
  case atStart => exact ⟨0, rfl, by omega, Lib.hid rfl, Below.refl _ _⟩
  case round =>
    obtain ⟨i, rfl, hik, hix, hb⟩ := hrel
    obtain ⟨hc1, hf1⟩ := bcell hb
    cases gk with
    | zero =>
      have hlt : ¬ ((i : Int) < (xs.length : Int)) := by omega
      have hix' := hix.out
      simp only [leaseIx] at hix'
      have hix2 := Lib.hid hix'
      clear hix hix'
      go_wp2
      go_ret
      rw [← hix2.out]
      exact ⟨rfl, (by repeat (first | exact Below.refl _ _ | apply bl_alloc | apply bl_drewN | apply bl_drew | refine bl_set ?_ (by simp) | refine bl_then ?_ (by assumption)))⟩
    | succ n =>
      have hlt : (i : Int) < (xs.length : Int) := by omega
      obtain ⟨ad, rfl, x0, x1, x2⟩ := at_T108 (Kd.C_below HR.out hb) i (by omega) hlt
      simp only [Int.toNat_natCast] at x0 x1 x2
      have hcap : wr.cell? ⟨g, 0, none⟩ = some (.int .i64 dev) := by rw [hc1 g 0 hg]; exact h
      have hgw : g < wr.heap.size := Nat.lt_of_lt_of_le hg hb.size
      have e1 : wrap64 ((i : Int) + 1) = ((i + 1 : Nat) : Int) := by unfold wrap64; omega
      have E1 := Lib.hid e1
      clear e1
      by_cases hd : (rd_T108 xs i).f0 = dev
      · have hb0 : ((rd_T108 xs i).f0 == dev) = true := by simpa using hd
        have hix' := hix.out
        simp only [leaseIx, if_pos hd] at hix'
        have hix2 := Lib.hid hix'
        clear hix hix' hd
        go_wp2_with (first | (go_at_call 76; refine (lease_same g dev _ _ _ _ hcap hgw).mono ?_; rintro e w' ⟨rfl, hb1⟩; rw [hb0]))
        go_ret
        rw [← hix2.out]
        exact ⟨rfl, (by repeat (first | exact Below.refl _ _ | apply bl_alloc | apply bl_drewN | apply bl_drew | refine bl_set ?_ (by simp) | refine bl_then ?_ (by assumption)))⟩
      · have hb0 : ((rd_T108 xs i).f0 == dev) = false := by simpa using hd
        have hix' := hix.out
        simp only [leaseIx, if_neg hd] at hix'
        have hix2 := Lib.hid hix'
        clear hix hix' hd
        go_wp2_with (first | (go_at_call 76; refine (lease_same g dev _ _ _ _ hcap hgw).mono ?_; rintro e w' ⟨rfl, hb1⟩; rw [hb0]))
        go_roundg n
        case measure => omega
        case rel => exact ⟨i + 1, by first | rfl | (rw [E1.out]), by omega, hix2, (by repeat (first | exact Below.refl _ _ | apply bl_alloc | apply bl_drewN | apply bl_drew | refine bl_set ?_ (by simp) | refine bl_then ?_ (by assumption)))⟩

/-- The lease of a device: its edge and epoch, or noughts. -/
def leaseAt (xs : List S108) (dev : Int) : Int × Int := if leaseIx xs dev 0 xs.length < 0 then (0, 0) else ((rd_T108 xs (leaseIx xs dev 0 xs.length)).f1, (rd_T108 xs (leaseIx xs dev 0 xs.length)).f2)
theorem leaseIx_range (xs : List S108) (dev : Int) : ∀ n i, i + n = xs.length → leaseIx xs dev i n = -1 ∨ (0 ≤ leaseIx xs dev i n ∧ leaseIx xs dev i n < xs.length)
  | 0, i, _ => .inl rfl
  | n + 1, i, h => by
    unfold leaseIx
    split
    · right; omega
    · exact leaseIx_range xs dev n (i + 1) (by omega)

theorem lease_indexH (A : Option Addr) (c : Nat) (xs : List S108) (g : Nat) (dev ix : Int) (w : World) (hix : Hid (leaseIx xs dev 0 xs.length = ix)) (hr : Kd.C k108 w A xs.length xs) (hc : xs.length ≤ c) (hl : xs.length ≤ 1048576) (h : w.cell? ⟨g, 0, none⟩ = some (.int .i64 dev)) (hg : g < w.heap.size) :
    Calls Try.prog 75 #[.slice A xs.length c, .func (.func 76) #[] #[.pointer (some ⟨g, 0, none⟩)]] w
      fun e w' => e = .returned (.int .i64 ix) ∧ Below w.heap.size w w' := by
  have := lease_index A c xs g dev w hr hc hl h hg
  rw [hix.out] at this
  exact this

attribute [local go_sem] flowUpon
set_option maxHeartbeats 2000000 in
set_option maxRecDepth 100000 in
theorem impl_LeaseOf (B0 B1 B2 A : Option Addr) (n0 n1 n2 c0 c1 c2 c : Nat) (xs : List S108) (dev : Int) (w : World) (hr : Kd.C k108 w A xs.length xs) (hc : xs.length ≤ c) (hl : xs.length ≤ 1048576) :
    Calls Try.prog 31 #[.agg #[.slice B0 n0 c0, .slice B1 n1 c1, .slice B2 n2 c2, .slice A xs.length c], .int .i64 dev] w
      fun e w' => e = .returned (.tuple #[.int .i64 (leaseAt xs dev).1, .int .i64 (leaseAt xs dev).2]) ∧ Below w.heap.size w w' := by
  have HR := Lib.hid hr
  clear hr
  have hrange := leaseIx_range xs dev xs.length 0 (by omega)
  by_cases hneg : leaseIx xs dev 0 xs.length < 0
  · have ha := Lib.hid (show leaseAt xs dev = (0, 0) from by unfold leaseAt; rw [if_pos hneg])
    have hd1 : decide (leaseIx xs dev 0 xs.length < 0) = true := by simpa using hneg
    go_enter Try.func31, Try.ntmps31
    go_wp2_with (first | (go_at_call 75; refine (lease_index _ _ xs _ dev _ (Kd.C_below HR.out (by repeat (first | exact Below.refl _ _ | apply bl_alloc | apply bl_drewN | apply bl_drew | refine bl_set ?_ (by simp) | refine bl_then ?_ (by assumption)))) hc hl (by simp) (by simp)).mono ?_; rintro e w' ⟨rfl, hb⟩; obtain ⟨hc, hf⟩ := bcell hb; have hz : w.heap.size < w'.heap.size := (by have := hb.size; simp at this ⊢; omega)))
    go_ret2
    rw [ha.out]
    exact ⟨rfl, (by repeat (first | exact Below.refl _ _ | apply bl_alloc | apply bl_drewN | apply bl_drew | refine bl_set ?_ (by simp) | refine bl_then ?_ (by assumption)))⟩
  · have ha := Lib.hid (show leaseAt xs dev = ((rd_T108 xs (leaseIx xs dev 0 xs.length)).f1, (rd_T108 xs (leaseIx xs dev 0 xs.length)).f2) from by unfold leaseAt; rw [if_neg hneg])
    obtain ⟨ix, hix⟩ : ∃ ix, Hid (leaseIx xs dev 0 xs.length = ix) := ⟨_, Lib.hid rfl⟩
    rw [hix.out] at ha hneg hrange
    have h0 : 0 ≤ ix := by omega
    have h1 : ix < xs.length := by omega
    clear hrange
    obtain ⟨ad, rfl, x0, x1, x2⟩ := at_T108 HR.out ix h0 h1
    have hbl : (ad.add (ix.toNat * 3)).block < w.heap.size := World.block_lt_of_cell? w _ x0
    go_enter Try.func31, Try.ntmps31
    go_wp2_with (first | (go_at_call 75; refine (lease_indexH _ _ xs _ dev ix _ hix (Kd.C_below HR.out (by repeat (first | exact Below.refl _ _ | apply bl_alloc | apply bl_drewN | apply bl_drew | refine bl_set ?_ (by simp) | refine bl_then ?_ (by assumption)))) hc hl (by simp) (by simp)).mono ?_; rintro e w' ⟨rfl, hb⟩; obtain ⟨hc, hf⟩ := bcell hb; have hz : w.heap.size < w'.heap.size := (by have := hb.size; simp at this ⊢; omega)))
    have HBw : Below w.heap.size w w' := (by repeat (first | exact Below.refl _ _ | apply bl_alloc | apply bl_drewN | apply bl_drew | refine bl_set ?_ (by simp) | refine bl_then ?_ (by assumption)))
    have x1w := (HBw.cell (p := ⟨_, _, none⟩) hbl).trans x1
    have x2w := (HBw.cell (p := ⟨_, _, none⟩) hbl).trans x2
    have hblw : (ad.add (ix.toNat * 3)).block < w'.heap.size := by omega
    clear HBw x0 x1 x2 hbl
    refine wp_region_flow [2, 6] 25 (by kernel_rfl) (by rfl) (by kernel_rfl) (by kernel_rfl) (by kernel_rfl) ?_
    iterate 14 (refine flow_valE ?_; apply Exists.intro; refine ⟨fun A wq hBq hbq hdq => ?_, ?_⟩; focus (obtain ⟨hcq, hfq⟩ := bcell hBq; (try simp [go_sem, baseF, deps, dep1, Region.binds] at hbq); (try simp [go_sem, baseF, deps, dep1, Region.binds, NewSl] at hdq); go_simp; first | exact ⟨Below.refl _ _, rfl⟩ | (rw [if_neg]; (focus (exact ⟨Below.refl _ _, rfl⟩)); (focus ((try simp only [ByteArray.size_append]); omega))) | (trace_state; fail)))
    refine fun x wq hBq hall => ?_
    obtain ⟨hcq, hfq⟩ := bcell hBq
    simp only [allT] at hall
    simp [frameOf, Act.put, hall]
    clear hall
    go_wp2
    go_ret2
    rw [ha.out]
    exact ⟨rfl, (by repeat (first | exact Below.refl _ _ | apply bl_alloc | apply bl_drewN | apply bl_drew | refine bl_set ?_ (by simp) | refine bl_then ?_ (by assumption)))⟩
end Go.Proofs.Ytlbikcelfheohaa
end

/-! ### YtlbikcelfheohaaLeaseLaw -/
section
namespace Go.Proofs.Ytlbikcelfheohaa
open Go.RowKit Go.Proofs.YtlbikcelfheohaaW.PrintWords PFnExactLeaseOf
set_option linter.unusedSimpArgs false
set_option linter.unusedVariables false

/-- What the sizes' sum says. -/
def HouseSmall (ss : List S138) (li : List S148) (qu : List S142) (le : List S152) : Prop :=
  ss.length ≤ 1048576 ∧ li.length ≤ 1048576 ∧ qu.length ≤ 1048576 ∧ le.length ≤ 1048576 ∧ (∀ x ∈ ss, x.f2.length ≤ 1048576 ∧ ∀ y ∈ x.f2, y.f1.size ≤ 1048576) ∧ (∀ x ∈ qu, x.f2.length ≤ 1048576 ∧ ∀ y ∈ x.f2, y.size ≤ 1048576)
theorem szHouse_f (ss : List S138) (li : List S148) (qu : List S142) (le : List S152) (h1 : ss.length ≤ 2 ^ 63 - 1) (h2 : li.length ≤ 2 ^ 63 - 1) (h3 : qu.length ≤ 2 ^ 63 - 1) (h4 : le.length ≤ 2 ^ 63 - 1)
    (h5 : ∀ x ∈ ss, x.f2.length ≤ 2 ^ 63 - 1 ∧ ∀ y ∈ x.f2, y.f1.size ≤ 2 ^ 63 - 1) (h6 : ∀ x ∈ qu, x.f2.length ≤ 2 ^ 63 - 1 ∧ ∀ y ∈ x.f2, y.size ≤ 2 ^ 63 - 1) :
    ∃ r, laws_szHouse.f 4194304 ss li qu le 1048576 = some r ∧ (r < 0 ∨ HouseSmall ss li qu le) := by
  unfold laws_szHouse.f
  obtain ⟨r1, e1, k1⟩ := szSessionS_f ss 4194304 1048576 (by omega) h1 h5 (by omega) (by omega)
  rw [e1, Option.bind_some]
  rcases k1 with k1 | ⟨p1, q1, u1, v1⟩
  · rw [if_pos k1]; exact ⟨-1, rfl, .inl (by omega)⟩
  rw [if_neg (by omega)]
  unfold laws_szListenS.f
  rw [less64 r1 li.length p1 (by omega) h2]
  by_cases c2 : r1 - (li.length : Int) < 0
  · rw [if_pos c2, Option.bind_some, if_pos (by omega)]; exact ⟨-1, rfl, .inl (by omega)⟩
  rw [if_neg c2, Option.bind_some, if_neg c2]
  obtain ⟨r3, e3, k3⟩ := szQueueS_f qu 4194304 (r1 - (li.length : Int)) (by omega) h3 h6 (by omega) (by omega)
  rw [e3, Option.bind_some]
  rcases k3 with k3 | ⟨p3, q3, u3, v3⟩
  · rw [if_pos k3]; exact ⟨-1, rfl, .inl (by omega)⟩
  rw [if_neg (by omega)]
  unfold laws_szLeaseS.f
  rw [less64 r3 le.length p3 (by omega) h4]
  by_cases c4 : r3 - (le.length : Int) < 0
  · rw [if_pos c4, Option.bind_some, if_pos (by omega)]; exact ⟨-1, rfl, .inl (by omega)⟩
  rw [if_neg c4, Option.bind_some, if_neg c4]
  exact ⟨_, rfl, .inr ⟨u1, by omega, u3, by omega, v1, v3⟩⟩

theorem spec_lease_l0 (a : List S145) (b : List S74) (c : List S149) (xs : List S108) (dev : Int) (hl : xs.length ≤ 1048576) : ∀ (n k i : Nat), n + i = xs.length → n < k →
    spec_LeaseOf.l0 k dev i a b c xs = some (if leaseIx xs dev i n < 0 then (0, 0) else ((rd_T108 xs (leaseIx xs dev i n)).f1, (rd_T108 xs (leaseIx xs dev i n)).f2))
  | _, 0, _, _, hk => by omega
  | 0, k + 1, i, h, hk => by
    unfold spec_LeaseOf.l0
    rw [if_neg (by omega), leaseIx, if_pos (by omega)]
  | n + 1, k + 1, i, h, hk => by
    unfold spec_LeaseOf.l0
    rw [if_pos (by omega), if_pos (by omega), leaseIx]
    by_cases hd : (rd_T108 xs i).f0 = dev
    · rw [if_pos hd, if_pos hd, if_neg (by omega)]
    · rw [if_neg hd, if_neg hd, next64 i (by omega)]
      exact spec_lease_l0 a b c xs dev hl n k (i + 1) (by omega) (by omega)
theorem spec_lease_f (a : List S145) (b : List S74) (c : List S149) (xs : List S108) (dev : Int) (hl : xs.length ≤ 1048576) : spec_LeaseOf.f 4194304 a b c xs dev = some (leaseAt xs dev) := spec_lease_l0 a b c xs dev hl xs.length 4194304 0 (by omega) (by omega)
end Go.Proofs.Ytlbikcelfheohaa
end

/-! ### YtlbikcelfheohaaHouseArg -/
section
namespace Go.Proofs.Ytlbikcelfheohaa
open Go.RowKit Go.Proofs.YtlbikcelfheohaaW.PrintWords PFnExactLeaseOf
set_option linter.unusedSimpArgs false
set_option linter.unusedVariables false

theorem opens_told (W : World) : Opens Try.prog W 167 k167 (fun x => x.f1.size ≤ maxLen) :=
  Opens.imp (opens_iso (d := Kd.pair (Kd.int .i64) Kd.string) (p := fun x : S167 => (x.f0, x.f1)) (fun t => ⟨t.1, t.2⟩) (fun _ => rfl)
    (opens_struct Try.underlying167 (by kernel_rfl) (opensL_cons rfl (opens_int Try.underlying3) (by kernel_rfl) (opensL_last rfl (opens_string Try.underlying9) (by kernel_rfl))))) (fun _ h => h.2)
theorem opens_session (W : World) : Opens Try.prog W 138 k138 (fun x => x.f2.length ≤ maxLen ∧ ∀ y ∈ x.f2, y.f1.size ≤ maxLen) :=
  Opens.imp (opens_iso (d := Kd.pair (Kd.int .i64) (Kd.pair (Kd.int .i64) (Kd.slice 167 k167))) (p := fun x : S138 => (x.f0, x.f1, x.f2)) (fun t => ⟨t.1, t.2.1, t.2.2⟩) (fun _ => rfl)
    (opens_struct Try.underlying138 (by kernel_rfl) (opensL_cons rfl (opens_int Try.underlying3) (by kernel_rfl) (opensL_cons rfl (opens_int Try.underlying3) (by kernel_rfl)
      (opensL_last rfl (opens_slice Try.underlying136 (by kernel_rfl) (opens_told W)) (by kernel_rfl)))))) (fun _ h => h.2.2)
theorem opens_listen (W : World) : Opens Try.prog W 148 k148 (fun _ => True) :=
  Opens.imp (opens_iso (d := Kd.pair (Kd.int .i64) (Kd.int .i64)) (p := fun x : S148 => (x.f0, x.f1)) (fun t => ⟨t.1, t.2⟩) (fun _ => rfl)
    (opens_struct Try.underlying148 (by kernel_rfl) (opensL_cons rfl (opens_int Try.underlying3) (by kernel_rfl) (opensL_last rfl (opens_int Try.underlying3) (by kernel_rfl))))) (fun _ _ => trivial)
theorem opens_queue (W : World) : Opens Try.prog W 142 k142 (fun x => x.f2.length ≤ maxLen ∧ ∀ y ∈ x.f2, y.size ≤ maxLen) :=
  Opens.imp (opens_iso (d := Kd.pair (Kd.int .i64) (Kd.pair (Kd.int .i64) (Kd.slice 9 Kd.string))) (p := fun x : S142 => (x.f0, x.f1, x.f2)) (fun t => ⟨t.1, t.2.1, t.2.2⟩) (fun _ => rfl)
    (opens_struct Try.underlying142 (by kernel_rfl) (opensL_cons rfl (opens_int Try.underlying3) (by kernel_rfl) (opensL_cons rfl (opens_int Try.underlying3) (by kernel_rfl)
      (opensL_last rfl (opens_slice Try.underlying140 (by kernel_rfl) (opens_string Try.underlying9)) (by kernel_rfl)))))) (fun _ h => h.2.2)
theorem opens_lease (W : World) : Opens Try.prog W 152 k152 (fun _ => True) :=
  Opens.imp (opens_iso (d := Kd.pair (Kd.int .i64) (Kd.pair (Kd.int .i64) (Kd.int .i64))) (p := fun x : S152 => (x.f0, x.f1, x.f2)) (fun t => ⟨t.1, t.2.1, t.2.2⟩) (fun _ => rfl)
    (opens_struct Try.underlying152 (by kernel_rfl) (opensL_cons rfl (opens_int Try.underlying3) (by kernel_rfl) (opensL_cons rfl (opens_int Try.underlying3) (by kernel_rfl) (opensL_last rfl (opens_int Try.underlying3) (by kernel_rfl)))))) (fun _ _ => trivial)
theorem opens_house (W : World) : Opens Try.prog W 58 (Kd.pair (Kd.slice 138 k138) (Kd.pair (Kd.slice 148 k148) (Kd.pair (Kd.slice 142 k142) (Kd.slice 152 k152))))
    (fun x => (x.1.length ≤ maxLen ∧ ∀ y ∈ x.1, y.f2.length ≤ maxLen ∧ ∀ z ∈ y.f2, z.f1.size ≤ maxLen) ∧ x.2.1.length ≤ maxLen ∧ (x.2.2.1.length ≤ maxLen ∧ ∀ y ∈ x.2.2.1, y.f2.length ≤ maxLen ∧ ∀ z ∈ y.f2, z.size ≤ maxLen) ∧ x.2.2.2.length ≤ maxLen) :=
  Opens.imp (opens_struct Try.underlying58 (by kernel_rfl)
    (opensL_cons rfl (opens_slice Try.underlying53 (by kernel_rfl) (opens_session W)) (by kernel_rfl)
    (opensL_cons rfl (opens_slice Try.underlying54 (by kernel_rfl) (opens_listen W)) (by kernel_rfl)
    (opensL_cons rfl (opens_slice Try.underlying55 (by kernel_rfl) (opens_queue W)) (by kernel_rfl)
    (opensL_last rfl (opens_slice Try.underlying56 (by kernel_rfl) (opens_lease W)) (by kernel_rfl)))))) (fun _ h => ⟨h.1, h.2.1.1, h.2.2.1, h.2.2.2.1⟩)
theorem arg_house {W : World} {v : Value} (h : ArgOf Try.prog W 58 v) : ∃ (A0 A1 A2 A3 : Option Addr) (c0 c1 c2 c3 : Nat) (ss : List S138) (li : List S148) (qu : List S142) (le : List S152),
    v = .agg #[.slice A0 ss.length c0, .slice A1 li.length c1, .slice A2 qu.length c2, .slice A3 le.length c3] ∧ (ss.length ≤ c0 ∧ Kd.C k138 W A0 ss.length ss) ∧ (li.length ≤ c1 ∧ Kd.C k148 W A1 li.length li) ∧
    (qu.length ≤ c2 ∧ Kd.C k142 W A2 qu.length qu) ∧ (le.length ≤ c3 ∧ Kd.C k152 W A3 le.length le) ∧
    (ss.length ≤ maxLen ∧ ∀ y ∈ ss, y.f2.length ≤ maxLen ∧ ∀ z ∈ y.f2, z.f1.size ≤ maxLen) ∧ li.length ≤ maxLen ∧ (qu.length ≤ maxLen ∧ ∀ y ∈ qu, y.f2.length ≤ maxLen ∧ ∀ z ∈ y.f2, z.size ≤ maxLen) ∧ le.length ≤ maxLen := by
  obtain ⟨⟨ss, li, qu, le⟩, cs, rfl, hK, hG⟩ := arg_struct Try.underlying58 (opens_house W) h
  obtain ⟨_, _, e0, ⟨A0, c0, rfl, h0, hC0⟩, _, _, rfl, ⟨A1, c1, rfl, h1, hC1⟩, _, _, rfl, ⟨A2, c2, rfl, h2, hC2⟩, ⟨A3, c3, rfl, h3, hC3⟩⟩ := hK
  refine ⟨A0, A1, A2, A3, c0, c1, c2, c3, ss, li, qu, le, ?_, ⟨h0, hC0⟩, ⟨h1, hC1⟩, ⟨h2, hC2⟩, ⟨h3, hC3⟩, hG⟩
  cases cs
  simp_all
end Go.Proofs.Ytlbikcelfheohaa
end

/-! ### YtlbikcelfheohaaLeaseFin -/
section
namespace Go.Proofs.Ytlbikcelfheohaa
open Go.RowKit Go.Proofs.YtlbikcelfheohaaW.PrintWords PFnExactLeaseOf
set_option linter.unusedSimpArgs false
set_option linter.unusedVariables false

theorem laws_toH (ss : List S138) (li : List S148) (qu : List S142) (le : List S152) (sz : List S145) (lz : List S74) (qz : List S149) (ez : List S108) (hs : Hid (ss.map cSession = sz)) (hl : Hid (li.map cListen = lz)) (hq : Hid (qu.map cQueue = qz)) (he : Hid (le.map cLease = ez)) (hsm : HouseSmall ss li qu le) (A0 A1 A2 A3 : Option Addr) (c0 c1 c2 c3 : Nat) (w : World)
    (h0 : ss.length ≤ c0) (hC0 : Kd.C k138 w A0 ss.length ss) (h1 : li.length ≤ c1) (hC1 : Kd.C k148 w A1 li.length li) (h2 : qu.length ≤ c2) (hC2 : Kd.C k142 w A2 qu.length qu) (h3 : le.length ≤ c3) (hC3 : Kd.C k152 w A3 le.length le) :
    Calls Try.prog 30 #[.agg #[.slice A0 ss.length c0, .slice A1 li.length c1, .slice A2 qu.length c2, .slice A3 le.length c3]] w fun e w' => ∃ (B0 : Option Addr) (B1 : Option Addr) (B2 : Option Addr) (B3 : Option Addr) (dB0 : Nat) (dB1 : Nat) (dB2 : Nat) (dB3 : Nat), e = .returned (.agg #[.slice B0 sz.length dB0, .slice B1 lz.length dB1, .slice B2 qz.length dB2, .slice B3 ez.length dB3]) ∧ sz.length ≤ dB0 ∧ Hid (Kd.C k145 w' B0 sz.length sz) ∧ lz.length ≤ dB1 ∧ Hid (Kd.C k74 w' B1 lz.length lz) ∧ qz.length ≤ dB2 ∧ Hid (Kd.C k149 w' B2 qz.length qz) ∧ ez.length ≤ dB3 ∧ Hid (Kd.C k108 w' B3 ez.length ez) ∧ Below w.heap.size w w' := by
  obtain rfl := hs.out
  obtain rfl := hl.out
  obtain rfl := hq.out
  obtain rfl := he.out
  obtain ⟨b1, b2, b3, b4, b5, b6⟩ := hsm
  refine (PFnExactLeaseOf.laws_toHouse.calls 4194304 A0 c0 ss A1 c1 li A2 c2 qu A3 c3 le _ _ _ _ w hC0 h0 hC1 h1 hC2 h2 hC3 h3 (toHouse_f ss li qu le b1 b2 b3 b4 (fun x hx => (b5 x hx).1) (fun x hx => (b6 x hx).1))).mono ?_
  rintro e w' ⟨v0, v1, v2, v3, rfl, r0, r1, r2, r3, hb⟩
  obtain ⟨B0, d0, rfl, g0, D0⟩ := Kd.S_reads r0
  obtain ⟨B1, d1, rfl, g1, D1⟩ := Kd.R_reads r1
  obtain ⟨B2, d2, rfl, g2, D2⟩ := Kd.S_reads r2
  obtain ⟨B3, d3, rfl, g3, D3⟩ := Kd.R_reads r3
  exact ⟨B0, B1, B2, B3, d0, d1, d2, d3, rfl, g0, Lib.hid D0, g1, Lib.hid D1, g2, Lib.hid D2, g3, Lib.hid D3, hb⟩

/-- The copy's sizes. -/
def ImplSmall (sz : List S145) (lz : List S74) (qz : List S149) (ez : List S108) : Prop := sz.length ≤ 1048576 ∧ lz.length ≤ 1048576 ∧ qz.length ≤ 1048576 ∧ ez.length ≤ 1048576 ∧ (∀ x ∈ sz, x.f2.length ≤ 1048576) ∧ (∀ x ∈ qz, x.f2.length ≤ 1048576)
theorem implSmall_of (ss : List S138) (li : List S148) (qu : List S142) (le : List S152) (h : HouseSmall ss li qu le) : ImplSmall (ss.map cSession) (li.map cListen) (qu.map cQueue) (le.map cLease) := by
  obtain ⟨b1, b2, b3, b4, b5, b6⟩ := h
  refine ⟨by simpa using b1, by simpa using b2, by simpa using b3, by simpa using b4, fun x hx => ?_, fun x hx => ?_⟩
  · obtain ⟨y, hy, rfl⟩ := List.mem_map.1 hx
    simpa [cSession] using (b5 y hy).1
  · obtain ⟨y, hy, rfl⟩ := List.mem_map.1 hx
    simpa [cQueue] using (b6 y hy).1
theorem laws_eqHC (sz : List S145) (lz : List S74) (qz : List S149) (ez : List S108) (hs : Hid (ImplSmall sz lz qz ez)) (B0 B1 B2 B3 : Option Addr) (d0 d1 d2 d3 : Nat) (E0 E1 E2 E3 : Option Addr) (e0 e1 e2 e3 : Nat) (w : World) (h0 : sz.length ≤ d0) (hC0 : Kd.C k145 w B0 sz.length sz) (h1 : lz.length ≤ d1) (hC1 : Kd.C k74 w B1 lz.length lz) (h2 : qz.length ≤ d2) (hC2 : Kd.C k149 w B2 qz.length qz) (h3 : ez.length ≤ d3) (hC3 : Kd.C k108 w B3 ez.length ez) (g0 : sz.length ≤ e0) (gC0 : Kd.C k145 w E0 sz.length sz) (g1 : lz.length ≤ e1) (gC1 : Kd.C k74 w E1 lz.length lz) (g2 : qz.length ≤ e2) (gC2 : Kd.C k149 w E2 qz.length qz) (g3 : ez.length ≤ e3) (gC3 : Kd.C k108 w E3 ez.length ez) :
    Calls Try.prog 32 #[.agg #[.slice B0 sz.length d0, .slice B1 lz.length d1, .slice B2 qz.length d2, .slice B3 ez.length d3], .agg #[.slice E0 sz.length e0, .slice E1 lz.length e1, .slice E2 qz.length e2, .slice E3 ez.length e3]] w fun e w' => e = .returned (.bool true) ∧ Below w.heap.size w w' := by
  obtain ⟨b1, b2, b3, b4, b5, b6⟩ := hs.out
  exact PFnExactLeaseOf.laws_eqHouse.calls 4194304 B0 d0 sz B1 d1 lz B2 d2 qz B3 d3 ez E0 e0 sz E1 e1 lz E2 e2 qz E3 e3 ez _ w hC0 h0 hC1 h1 hC2 h2 hC3 h3 gC0 g0 gC1 g1 gC2 g2 gC3 g3 (eqHouse_f sz lz qz ez b1 b2 b3 b4 b5 b6)
theorem spec_leaseC (sz : List S145) (lz : List S74) (qz : List S149) (ez : List S108) (dev : Int) (r : Int × Int) (hr : Hid (leaseAt ez dev = r)) (hs : Hid (ImplSmall sz lz qz ez)) (B0 B1 B2 B3 : Option Addr) (d0 d1 d2 d3 : Nat) (w : World) (h0 : sz.length ≤ d0) (hC0 : Kd.C k145 w B0 sz.length sz) (h1 : lz.length ≤ d1) (hC1 : Kd.C k74 w B1 lz.length lz) (h2 : qz.length ≤ d2) (hC2 : Kd.C k149 w B2 qz.length qz) (h3 : ez.length ≤ d3) (hC3 : Kd.C k108 w B3 ez.length ez) :
    Calls Try.prog 29 #[.agg #[.slice B0 sz.length d0, .slice B1 lz.length d1, .slice B2 qz.length d2, .slice B3 ez.length d3], .int .i64 dev] w fun e w' => e = .returned (.tuple #[.int .i64 r.1, .int .i64 r.2]) ∧ Below w.heap.size w w' := by
  have hf := spec_lease_f sz lz qz ez dev hs.out.2.2.2.1
  rw [hr.out] at hf
  refine (PFnExactLeaseOf.spec_LeaseOf.calls 4194304 B0 d0 sz B1 d1 lz B2 d2 qz B3 d3 ez dev r.1 r.2 w hC0 h0 hC1 h1 hC2 h2 hC3 h3 hf).mono ?_
  rintro e w' h
  first | exact h | (obtain ⟨rfl, n, rfl⟩ := h; exact ⟨rfl, bl_drewN (Below.refl _ _) n⟩)
theorem impl_leaseC (sz : List S145) (lz : List S74) (qz : List S149) (ez : List S108) (dev : Int) (r : Int × Int) (hr : Hid (leaseAt ez dev = r)) (hs : Hid (ImplSmall sz lz qz ez)) (B0 B1 B2 B3 : Option Addr) (d0 d1 d2 d3 : Nat) (w : World) (h0 : sz.length ≤ d0) (hC0 : Kd.C k145 w B0 sz.length sz) (h1 : lz.length ≤ d1) (hC1 : Kd.C k74 w B1 lz.length lz) (h2 : qz.length ≤ d2) (hC2 : Kd.C k149 w B2 qz.length qz) (h3 : ez.length ≤ d3) (hC3 : Kd.C k108 w B3 ez.length ez) :
    Calls Try.prog 31 #[.agg #[.slice B0 sz.length d0, .slice B1 lz.length d1, .slice B2 qz.length d2, .slice B3 ez.length d3], .int .i64 dev] w fun e w' => e = .returned (.tuple #[.int .i64 r.1, .int .i64 r.2]) ∧ Below w.heap.size w w' := by
  have := impl_LeaseOf B0 B1 B2 B3 sz.length lz.length qz.length d0 d1 d2 d3 ez dev w hC3 h3 hs.out.2.2.2.1
  rw [hr.out] at this
  exact this
/-- A house that was copied. -/
def HouseR (sz : List S145) (lz : List S74) (qz : List S149) (ez : List S108) : VPred := fun w v => ∃ (B0 : Option Addr) (B1 : Option Addr) (B2 : Option Addr) (B3 : Option Addr) (d0 : Nat) (d1 : Nat) (d2 : Nat) (d3 : Nat), v = .agg #[.slice B0 sz.length d0, .slice B1 lz.length d1, .slice B2 qz.length d2, .slice B3 ez.length d3] ∧ sz.length ≤ d0 ∧ lz.length ≤ d1 ∧ qz.length ≤ d2 ∧ ez.length ≤ d3 ∧ Kd.C k145 w B0 sz.length sz ∧ Kd.C k74 w B1 lz.length lz ∧ Kd.C k149 w B2 qz.length qz ∧ Kd.C k108 w B3 ez.length ez
theorem vmono_houseR (sz : List S145) (lz : List S74) (qz : List S149) (ez : List S108) : VMono (HouseR sz lz qz ez) := by
  rintro w w' v ⟨B0, B1, B2, B3, d0, d1, d2, d3, hv, h0, h1, h2, h3, k0, k1, k2, k3⟩ hb
  exact ⟨B0, B1, B2, B3, d0, d1, d2, d3, hv, h0, h1, h2, h3, Kd.C_below k0 hb, Kd.C_below k1 hb, Kd.C_below k2 hb, Kd.C_below k3 hb⟩

attribute [local go_sem] flowUpon
set_option maxRecDepth 100000 in
set_option maxHeartbeats 4000000 in
theorem FnExactLeaseOf_walk (v u : Value) (W : World) (h : ArgOf Try.prog W 58 v) (hu : ArgOf Try.prog W 3 u) :
    Calls Try.prog 8 #[v, u] W fun e w' => e = .returned (.bool true) ∧ Below W.heap.size W w' := by
  obtain ⟨A0, A1, A2, A3, c0, c1, c2, c3, ss, li, qu, le, rfl, ⟨h0, hC0⟩, ⟨h1, hC1⟩, ⟨h2, hC2⟩, ⟨h3, hC3⟩, ⟨m0, n0⟩, m1, ⟨m2, n2⟩, m3⟩ := arg_house h
  obtain ⟨dev, rfl, hdev⟩ := arg_int Try.underlying3 hu
  clear h hu hdev
  unfold maxLen at m0 n0 m1 m2 n2 m3
  obtain ⟨r, hr, hrr⟩ := szHouse_f ss li qu le m0 m1 m2 m3 n0 n2
  have HC0 := Lib.hid hC0
  have HC1 := Lib.hid hC1
  have HC2 := Lib.hid hC2
  have HC3 := Lib.hid hC3
  have HR := Lib.hid hr
  clear hC0 hC1 hC2 hC3 hr m0 n0 m1 m2 n2 m3
  rcases hrr with hneg | hsmall
  · go_enter Try.func8, Try.ntmps8
    go_wp2_with (first | (go_at_call 28; refine (PFnExactLeaseOf.laws_szHouse.calls _ _ _ ss _ _ li _ _ qu _ _ le _ _ _ (Kd.C_below HC0.out (by repeat (first | exact Below.refl _ _ | apply bl_alloc | apply bl_drewN | apply bl_drew | refine bl_set ?_ (by simp) | refine bl_then ?_ (by assumption)))) h0 (Kd.C_below HC1.out (by repeat (first | exact Below.refl _ _ | apply bl_alloc | apply bl_drewN | apply bl_drew | refine bl_set ?_ (by simp) | refine bl_then ?_ (by assumption)))) h1 (Kd.C_below HC2.out (by repeat (first | exact Below.refl _ _ | apply bl_alloc | apply bl_drewN | apply bl_drew | refine bl_set ?_ (by simp) | refine bl_then ?_ (by assumption)))) h2 (Kd.C_below HC3.out (by repeat (first | exact Below.refl _ _ | apply bl_alloc | apply bl_drewN | apply bl_drew | refine bl_set ?_ (by simp) | refine bl_then ?_ (by assumption)))) h3 HR.out).mono ?_; rintro e w' ⟨rfl, hb⟩; obtain ⟨hc, hf⟩ := bcell hb; have hz : W.heap.size < w'.heap.size := (by have := hb.size; simp at this ⊢; omega)))
    all_goals
      go_ret
      exact ⟨rfl, (by repeat (first | exact Below.refl _ _ | apply bl_alloc | apply bl_drewN | apply bl_drew | refine bl_set ?_ (by simp) | refine bl_then ?_ (by assumption)))⟩
  · have hsm := Lib.hid hsmall
    clear hsmall
    obtain ⟨sz, hs⟩ : ∃ sz, Hid (ss.map cSession = sz) := ⟨_, Lib.hid rfl⟩
    obtain ⟨lz, hl⟩ : ∃ lz, Hid (li.map cListen = lz) := ⟨_, Lib.hid rfl⟩
    obtain ⟨qz, hq⟩ : ∃ qz, Hid (qu.map cQueue = qz) := ⟨_, Lib.hid rfl⟩
    obtain ⟨ez, he⟩ : ∃ ez, Hid (le.map cLease = ez) := ⟨_, Lib.hid rfl⟩
    have hism : Hid (ImplSmall sz lz qz ez) := by
      have := implSmall_of ss li qu le hsm.out
      rw [hs.out, hl.out, hq.out, he.out] at this
      exact Lib.hid this
    obtain ⟨ra, hra⟩ : ∃ ra, Hid (leaseAt ez dev = ra) := ⟨_, Lib.hid rfl⟩
    go_enter Try.func8, Try.ntmps8
    go_wp2_with (first
      | (go_at_call 28; refine (PFnExactLeaseOf.laws_szHouse.calls _ _ _ ss _ _ li _ _ qu _ _ le _ _ _ (Kd.C_below HC0.out (by repeat (first | exact Below.refl _ _ | apply bl_alloc | apply bl_drewN | apply bl_drew | refine bl_set ?_ (by simp) | refine bl_then ?_ (by assumption)))) h0 (Kd.C_below HC1.out (by repeat (first | exact Below.refl _ _ | apply bl_alloc | apply bl_drewN | apply bl_drew | refine bl_set ?_ (by simp) | refine bl_then ?_ (by assumption)))) h1 (Kd.C_below HC2.out (by repeat (first | exact Below.refl _ _ | apply bl_alloc | apply bl_drewN | apply bl_drew | refine bl_set ?_ (by simp) | refine bl_then ?_ (by assumption)))) h2 (Kd.C_below HC3.out (by repeat (first | exact Below.refl _ _ | apply bl_alloc | apply bl_drewN | apply bl_drew | refine bl_set ?_ (by simp) | refine bl_then ?_ (by assumption)))) h3 HR.out).mono ?_; rintro e w' ⟨rfl, hb⟩; obtain ⟨hc, hf⟩ := bcell hb; have hz : W.heap.size < w'.heap.size := (by have := hb.size; simp at this ⊢; omega))
      | (go_at_call 30; refine (laws_toH ss li qu le sz lz qz ez hs hl hq he hsm.out _ _ _ _ _ _ _ _ _ h0 (Kd.C_below HC0.out (by repeat (first | exact Below.refl _ _ | apply bl_alloc | apply bl_drewN | apply bl_drew | refine bl_set ?_ (by simp) | refine bl_then ?_ (by assumption)))) h1 (Kd.C_below HC1.out (by repeat (first | exact Below.refl _ _ | apply bl_alloc | apply bl_drewN | apply bl_drew | refine bl_set ?_ (by simp) | refine bl_then ?_ (by assumption)))) h2 (Kd.C_below HC2.out (by repeat (first | exact Below.refl _ _ | apply bl_alloc | apply bl_drewN | apply bl_drew | refine bl_set ?_ (by simp) | refine bl_then ?_ (by assumption)))) h3 (Kd.C_below HC3.out (by repeat (first | exact Below.refl _ _ | apply bl_alloc | apply bl_drewN | apply bl_drew | refine bl_set ?_ (by simp) | refine bl_then ?_ (by assumption))))).mono ?_; rintro e w' ⟨B0, B1, B2, B3, d0, d1, d2, d3, rfl, hb0, hD0, hb1, hD1, hb2, hD2, hb3, hD3, hb⟩; obtain ⟨hc, hf⟩ := bcell hb; have hz : W.heap.size < w'.heap.size := (by have := hb.size; simp at this ⊢; omega))
      | (go_at_call 29; refine (spec_leaseC sz lz qz ez dev ra hra hism _ _ _ _ _ _ _ _ _ (by assumption) (Kd.C_below (Hid.out (by assumption)) (by repeat (first | exact Below.refl _ _ | apply bl_alloc | apply bl_drewN | apply bl_drew | refine bl_set ?_ (by simp) | refine bl_then ?_ (by assumption)))) (by assumption) (Kd.C_below (Hid.out (by assumption)) (by repeat (first | exact Below.refl _ _ | apply bl_alloc | apply bl_drewN | apply bl_drew | refine bl_set ?_ (by simp) | refine bl_then ?_ (by assumption)))) (by assumption) (Kd.C_below (Hid.out (by assumption)) (by repeat (first | exact Below.refl _ _ | apply bl_alloc | apply bl_drewN | apply bl_drew | refine bl_set ?_ (by simp) | refine bl_then ?_ (by assumption)))) (by assumption) (Kd.C_below (Hid.out (by assumption)) (by repeat (first | exact Below.refl _ _ | apply bl_alloc | apply bl_drewN | apply bl_drew | refine bl_set ?_ (by simp) | refine bl_then ?_ (by assumption))))).mono ?_; rintro e w' ⟨rfl, hb⟩; obtain ⟨hc, hf⟩ := bcell hb; have hz : W.heap.size < w'.heap.size := (by have := hb.size; simp at this ⊢; omega))
      | (go_at_call 31; refine (impl_leaseC sz lz qz ez dev ra hra hism _ _ _ _ _ _ _ _ _ (by assumption) (Kd.C_below (Hid.out (by assumption)) (by repeat (first | exact Below.refl _ _ | apply bl_alloc | apply bl_drewN | apply bl_drew | refine bl_set ?_ (by simp) | refine bl_then ?_ (by assumption)))) (by assumption) (Kd.C_below (Hid.out (by assumption)) (by repeat (first | exact Below.refl _ _ | apply bl_alloc | apply bl_drewN | apply bl_drew | refine bl_set ?_ (by simp) | refine bl_then ?_ (by assumption)))) (by assumption) (Kd.C_below (Hid.out (by assumption)) (by repeat (first | exact Below.refl _ _ | apply bl_alloc | apply bl_drewN | apply bl_drew | refine bl_set ?_ (by simp) | refine bl_then ?_ (by assumption)))) (by assumption) (Kd.C_below (Hid.out (by assumption)) (by repeat (first | exact Below.refl _ _ | apply bl_alloc | apply bl_drewN | apply bl_drew | refine bl_set ?_ (by simp) | refine bl_then ?_ (by assumption))))).mono ?_; rintro e w' ⟨rfl, hb⟩; obtain ⟨hc, hf⟩ := bcell hb; have hz : W.heap.size < w'.heap.size := (by have := hb.size; simp at this ⊢; omega); have hy := hb.size; (try simp at hy); (try have hy2 := Nat.lt_of_lt_of_le (Nat.lt_succ_self _) hy)))
    rotate_left
    · refine wp_region_flow [2, 8] 44 (by kernel_rfl) (by rfl) (by kernel_rfl) (by kernel_rfl) (by kernel_rfl) ?_
      iterate 2 (refine flow_valE ?_; apply Exists.intro; refine ⟨fun A wq hBq hbq hdq => ?_, ?_⟩; focus (obtain ⟨hcq, hfq⟩ := bcell hBq; (try simp [go_sem, baseF, deps, dep1, Region.binds] at hbq); (try simp [go_sem, baseF, deps, dep1, Region.binds, NewSl] at hdq); go_simp; first | exact ⟨Below.refl _ _, rfl⟩ | (rw [if_neg]; (focus (exact ⟨Below.refl _ _, rfl⟩)); (focus ((try simp only [ByteArray.size_append]); omega))) | (fail)))
      refine flow_R (HouseR sz lz qz ez) (vmono_houseR _ _ _ _) (fun A wq hBq hbq hdq => ?_) ?_
      · obtain ⟨hcq, hfq⟩ := bcell hBq
        (try simp [go_sem, baseF, deps, dep1, Region.binds] at hbq)
        (try simp [go_sem, baseF, deps, dep1, Region.binds] at hdq)
        go_simp
        refine (laws_toH ss li qu le sz lz qz ez hs hl hq he hsm.out _ _ _ _ _ _ _ _ _ h0 (Kd.C_below HC0.out (by repeat (first | exact Below.refl _ _ | apply bl_alloc | apply bl_drewN | apply bl_drew | refine bl_set ?_ (by simp) | refine bl_then ?_ (by assumption)))) h1 (Kd.C_below HC1.out (by repeat (first | exact Below.refl _ _ | apply bl_alloc | apply bl_drewN | apply bl_drew | refine bl_set ?_ (by simp) | refine bl_then ?_ (by assumption)))) h2 (Kd.C_below HC2.out (by repeat (first | exact Below.refl _ _ | apply bl_alloc | apply bl_drewN | apply bl_drew | refine bl_set ?_ (by simp) | refine bl_then ?_ (by assumption)))) h3 (Kd.C_below HC3.out (by repeat (first | exact Below.refl _ _ | apply bl_alloc | apply bl_drewN | apply bl_drew | refine bl_set ?_ (by simp) | refine bl_then ?_ (by assumption))))).mono ?_
        rintro e w' ⟨B0, B1, B2, B3, d0, d1, d2, d3, rfl, hb0, hD0, hb1, hD1, hb2, hD2, hb3, hD3, hb⟩
        first | exact ⟨_, rfl, hb, B0, B1, B2, B3, d0, d1, d2, d3, rfl, hb0, hb1, hb2, hb3, hD0.out, hD1.out, hD2.out, hD3.out⟩ | exact ⟨hb, B0, B1, B2, B3, d0, d1, d2, d3, rfl, hb0, hb1, hb2, hb3, hD0.out, hD1.out, hD2.out, hD3.out⟩
      refine flow_valE ?_
      apply Exists.intro
      refine ⟨fun A wq hBq hbq hdq => ?_, ?_⟩
      · obtain ⟨hcq, hfq⟩ := bcell hBq
        (try simp [go_sem, baseF, deps, dep1, Region.binds] at hbq)
        (try simp [go_sem, baseF, deps, dep1, Region.binds, HouseR] at hdq)
        obtain ⟨h22, E0, E1, E2, E3, e0, e1, e2, e3, hv, g0, g1, g2, g3, gC0, gC1, gC2, gC3⟩ := hdq
        go_simp
        exact laws_eqHC sz lz qz ez hism _ _ _ _ _ _ _ _ _ _ _ _ _ _ _ _ _ (by assumption) (Kd.C_below (Hid.out (by assumption)) (by repeat (first | exact Below.refl _ _ | apply bl_alloc | apply bl_drewN | apply bl_drew | refine bl_set ?_ (by simp) | refine bl_then ?_ (by assumption)))) (by assumption) (Kd.C_below (Hid.out (by assumption)) (by repeat (first | exact Below.refl _ _ | apply bl_alloc | apply bl_drewN | apply bl_drew | refine bl_set ?_ (by simp) | refine bl_then ?_ (by assumption)))) (by assumption) (Kd.C_below (Hid.out (by assumption)) (by repeat (first | exact Below.refl _ _ | apply bl_alloc | apply bl_drewN | apply bl_drew | refine bl_set ?_ (by simp) | refine bl_then ?_ (by assumption)))) (by assumption) (Kd.C_below (Hid.out (by assumption)) (by repeat (first | exact Below.refl _ _ | apply bl_alloc | apply bl_drewN | apply bl_drew | refine bl_set ?_ (by simp) | refine bl_then ?_ (by assumption)))) g0 gC0 g1 gC1 g2 gC2 g3 gC3
      (refine flow_valE ?_; apply Exists.intro; refine ⟨fun A wq hBq hbq hdq => ?_, ?_⟩; focus (obtain ⟨hcq, hfq⟩ := bcell hBq; (try simp [go_sem, baseF, deps, dep1, Region.binds] at hbq); (try simp [go_sem, baseF, deps, dep1, Region.binds, NewSl] at hdq); go_simp; first | exact ⟨Below.refl _ _, rfl⟩ | (rw [if_neg]; (focus (exact ⟨Below.refl _ _, rfl⟩)); (focus ((try simp only [ByteArray.size_append]); omega))) | (fail)))
      refine fun x wq hBq hall => ?_
      obtain ⟨hcq, hfq⟩ := bcell hBq
      simp only [allT] at hall
      simp [frameOf, Act.put, hall]
      clear hall
      go_wp2
      all_goals
        go_ret
        exact ⟨rfl, (by repeat (first | exact Below.refl _ _ | apply bl_alloc | apply bl_drewN | apply bl_drew | refine bl_set ?_ (by simp) | refine bl_then ?_ (by assumption)))⟩
    · go_ret
      exact ⟨rfl, (by repeat (first | exact Below.refl _ _ | apply bl_alloc | apply bl_drewN | apply bl_drew | refine bl_set ?_ (by simp) | refine bl_then ?_ (by assumption)))⟩

end Go.Proofs.Ytlbikcelfheohaa
end

/-! ### YtlbikcelfheohaaRowFnExactLeaseOf -/
section
namespace Go.Proofs.Ytlbikcelfheohaa.fnExactLeaseOf
open Go.ChangeShapes Go.WideShapes Go.ChangeAt Go.RowKit
theorem own : ownKnob Try.prog.godebug = none := by kernel_rfl
theorem laidOut : laidOutB Try.prog = true := by kernel_rfl
set_option maxRecDepth 100000 in
theorem lifted (os : Os) (started : os.Started) (H : Type) (enc : TypeId × Value → H) :
    ReturnsInHanded {} Try.checked os 8 .any (Rows.fnExactLeaseOfSpec.pre6 enc Try.prog Try.f8 Rows.fnExactLeaseOfRow.domain false) (Rows.fnExactLeaseOfSpec.post enc Try.prog Try.f8 false true false false) := by
  refine returnsInHanded_of_change_sized (C := Try.checked) own started (by kernel_rfl) Try.func8
    (ChangeSpec.witness6 (enc := enc) (C := Try.checked) false ⟨#[], #[.agg #[.slice none 0 0, .slice none 0 0, .slice none 0 0, .slice none 0 0], .int .i64 0], []⟩ 20 (by kernel_rfl) (by kernel_rfl) (by kernel_rfl) (by kernel_rfl)) ?_
  intro W base args ds gs before hval0 hW hcnd hsz0 _
  have hval : ∀ (j : Nat) t v, Try.f8.params[j]? = some t → args[j]? = some v → Value.okWide Try.prog W .any base t v := hval0
  have hW' := hW
  obtain ⟨p, q, hA0, hV, rfl, hfz, hnd⟩ := hW
  have hA : DataW.TrodAll enc Try.prog W 0 (fun _ => true) true Try.f8.params.toList args.toList ds p := hA0
  rw [Try.params8] at hA hval
  obtain ⟨v0, vs0, d0, ds0, p0, q0, hargs, rfl, rfl, h0, r0⟩ := trodAll_cons hA
  obtain ⟨v1, vs1, d1, ds1, p1, q1, rfl, rfl, rfl, h1, r1⟩ := trodAll_cons r0
  obtain ⟨rfl, rfl, rfl⟩ := trodAll_nil r1
  obtain rfl : args = #[v0, v1] := by cases args; simp_all
  obtain ⟨rfl, rfl⟩ := trodVars_none hV
  have k0 := h0
  have lt0 : ∀ x ∈ p0, x.block < W.heap.size := by obtain ⟨m, hm⟩ := k0; exact DataW.trod_lt m _ _ _ hm
  have a0 : ArgOf Try.prog W 58 v0 := ⟨⟨base, hval 0 58 v0 rfl rfl⟩, by obtain ⟨m, hm⟩ := k0; exact ⟨H, enc, m, _, hm⟩⟩
  have k1 := h1
  have lt1 : ∀ x ∈ p1, x.block < W.heap.size := by obtain ⟨m, hm⟩ := k1; exact DataW.trod_lt m _ _ _ hm
  have a1 : ArgOf Try.prog W 3 v1 := ⟨⟨base, hval 1 3 v1 rfl rfl⟩, by obtain ⟨m, hm⟩ := k1; exact ⟨H, enc, m, _, hm⟩⟩
  clear hA0 hval0 hsz0
  refine (FnExactLeaseOf_walk v0 v1 W a0 a1).mono fun e W' ⟨he, bel⟩ => ?_
  subst he
  exact ⟨_, rfl, _, _, _, [], _, [], hW', trodAll_mk1 (shut_bool Try.underlying4 _), (trodAll_cons_mk (Below.trod laidOut (by kernel_rfl) (of_decide_eq_true (by kernel_rfl)) k0 bel lt0) (trodAll_cons_mk (Below.trod laidOut (by kernel_rfl) (of_decide_eq_true (by kernel_rfl)) k1 bel lt1) trodAll_mk0)), rfl, bel.frame _, fun h => by cases h⟩
theorem over : Rows.fnExactLeaseOfRow.holds Try.pinned (OpenSpec.ofChange Rows.fnExactLeaseOfSpec) :=
  OpenClaim.holds_of_wide 8 Try.f8 rfl rfl rfl rfl rfl rfl rfl ⟨rfl, rfl, rfl, rfl, rfl⟩ rfl rfl rfl rfl rfl (by kernel_rfl) Try.func8 (by kernel_rfl)
    (of_decide_eq_true (by kernel_rfl)) (by unfold Func.isWrapper; first | (rw [if_pos (by decide +kernel)]; kernel_rfl) | (rw [if_neg (by decide +kernel)]; exact ⟨rfl, rfl⟩))
    (fun os started H enc _ => lifted os started H enc)
theorem proved : Rows.FnExactLeaseOfSaid := over
#print axioms proved
end Go.Proofs.Ytlbikcelfheohaa.fnExactLeaseOf
namespace Go.Proofs.Ytlbikcelfheohaa
/-- The row, under a short name, for the claim. -/
theorem fnExactLeaseOf_holds : Rows.FnExactLeaseOfSaid := fnExactLeaseOf.proved
end Go.Proofs.Ytlbikcelfheohaa
end
