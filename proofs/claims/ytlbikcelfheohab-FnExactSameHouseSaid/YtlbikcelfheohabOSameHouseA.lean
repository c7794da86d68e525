import Derived.Test.YtlbikcelfheohabWWords
import Derived.WideShapes
import Derived.ChangeMaps5
import Derived.ChangeShapes
import Derived.ChangeArms
import Derived.DataElems
import Derived.RowKit
import Derived.Test.YtlbikcelfheohabProg
import Derived.Below
import Derived.WalkKit
import Derived.KernelRfl
import Derived.RowKit3
import Derived.Deep.QuietTactic
import Derived.BigQuiet
import Derived.WideLaws
import Derived.OwnWalk
import Derived.Outline
import Derived.Lib.Hide
import Derived.Deep.Draws
import Derived.Lib.QuietBelow
import Derived.Test.YtlbikcelfheohabPSameHouseA
import Derived.Test.YtlbikcelfheohabPSameHouseB
import Derived.Test.YtlbikcelfheohabPSameHouseC

/-! ### YtlbikcelfheohabOpen -/
section
namespace Go.Proofs.Ytlbikcelfheohab
open Go.RowKit Go.WideShapes Go.ChangeMaps Go.ChangeShapes Go.Proofs.YtlbikcelfheohabW.PrintWords

/-- A value of a type, as an argument that can be read holds it. -/
def ArgOf (P : Program) (W : World) (t : TypeId) (v : Value) : Prop :=
  (∃ base, Value.okWide P W .any base t v) ∧ ∃ (H : Type) (enc : TypeId × Value → H) (fuel : Nat) (x : DataW H × List MemPlace), DataW.trod enc P W 0 (fun _ => true) true fuel t v.cells.toList = some x

/-- Cells of a type that can be read are of a kind. -/
def Opens (P : Program) (W : World) (t : TypeId) {α : Type} (d : Kd α) (G : α → Prop) : Prop :=
  ∀ (H : Type) (enc : TypeId × Value → H) (fuel : Nat) (cs : List Value) (x : DataW H × List MemPlace), DataW.trod enc P W 0 (fun _ => true) true fuel t cs = some x → ∃ a, d.K W a cs ∧ G a

/-- The fields of a struct, from one on. -/
def OpensL (P : Program) (W : World) (fs : List Field) (o : Nat) {β : Type} (d : Kd β) (G : β → Prop) : Prop :=
  ∀ (H : Type) (enc : TypeId × Value → H) (fuel : Nat) (cs : List Value),
    (∀ f ∈ fs, ∃ y, DataW.trod enc P W 0 (fun _ => true) true fuel f.type ((cs.drop f.offset).take (P.cellsOf f.type)) = some y) → cs.length = o + d.sz → ∃ b, d.K W b (cs.drop o) ∧ G b

section
variable {P : Program} {W : World} {t e : TypeId} {α β : Type} {d : Kd α} {G : α → Prop}

theorem opens_int {k : IntKind} (ht : P.underlying t = some (.int k)) : Opens P W t (Kd.int k) (fun n => (Lit.int k n).wf = true) := by
  intro H enc fuel cs x h
  obtain ⟨n, rfl, _, hw⟩ := DataW.trod_int ht h
  exact ⟨n, rfl, hw⟩
theorem opens_bool (ht : P.underlying t = some .bool) : Opens P W t Kd.bool (fun _ => True) := by
  intro H enc fuel cs x h
  obtain ⟨b, rfl, _⟩ := DataW.trod_bool ht h
  exact ⟨b, rfl, trivial⟩
theorem opens_string (ht : P.underlying t = some .string) : Opens P W t Kd.string (fun s => s.size ≤ maxLen) := by
  intro H enc fuel cs x h
  obtain ⟨s, rfl, _, hs⟩ := DataW.trod_string ht h
  exact ⟨s, rfl, hs⟩
theorem opens_slice (ht : P.underlying t = some (.slice e)) (hsz : d.sz = P.cellsOf e) (he : Opens P W e d G) :
    Opens P W t (Kd.slice e d) (fun xs => xs.length ≤ maxLen ∧ ∀ x ∈ xs, G x) := by
  intro H enc fuel cs x h
  rcases DataW.trod_slice ht h with ⟨rfl, _⟩ | ⟨a, len, cap, elems, rest, n, _, rfl, _, _, hl, hc, hlen, hel, _⟩
  · exact ⟨[], ⟨none, 0, rfl, Nat.le_refl _, rfl, by simp, fun h => absurd h (by simp)⟩, by simp, by simp⟩
  · have step : ∀ i : Fin len, ∃ (a' : α) (c : List Value), d.K W a' c ∧ G a' ∧ ∀ j u, c[j]? = some u → W.cell? (a.add (i.1 * P.cellsOf e + j)) = some u := by
      intro i
      have h1 := hel i.1 i.2
      obtain ⟨y, hy⟩ : ∃ y, elems[i.1]? = some y := ⟨elems[i.1]'(by omega), List.getElem?_eq_getElem (by omega)⟩
      rw [hy] at h1
      obtain ⟨c, hcs, ht2⟩ := Option.bind_eq_some_iff.1 h1
      obtain ⟨a', hK, hG⟩ := he H enc n c y ht2
      refine ⟨a', c, hK, hG, fun j u hj => ?_⟩
      unfold World.cells? at hcs
      rw [if_pos (Nat.zero_le _)] at hcs
      have hlt : j < P.cellsOf e := by
        have h2 := mapM_some_length hcs
        have h3 : j < c.length := by
          rcases Nat.lt_or_ge j c.length with h | h
          · exact h
          · rw [List.getElem?_eq_none h] at hj; cases hj
        simpa [h2] using h3
      have h4 := mapM_some_get hcs j j (by simp [hlt])
      rw [Addr.add_add] at h4
      exact h4.trans hj
    let f : Fin len → α := fun i => Classical.choose (step i)
    let c : Fin len → List Value := fun i => Classical.choose (Classical.choose_spec (step i))
    have hK : ∀ i, d.K W (f i) (c i) := fun i => (Classical.choose_spec (Classical.choose_spec (step i))).1
    have hG : ∀ i, G (f i) := fun i => (Classical.choose_spec (Classical.choose_spec (step i))).2.1
    have hcell : ∀ (i : Fin len) j u, (c i)[j]? = some u → W.cell? (a.add (i.1 * P.cellsOf e + j)) = some u := fun i => (Classical.choose_spec (Classical.choose_spec (step i))).2.2
    refine ⟨List.ofFn f, ⟨some a, cap, by simp, by simpa using hl, by simp, by unfold maxLen at hc; simp; omega, fun _ => ⟨a, rfl, fun j p hj => ?_⟩⟩, by simp; omega, ?_⟩
    · obtain ⟨hjl, hjp⟩ := List.getElem?_eq_some_iff.1 hj
      have hjl' : j < len := by simpa using hjl
      refine ⟨c ⟨j, hjl'⟩, d.K_len (hK _), ?_, fun i u hu => ?_⟩
      · have : p = f ⟨j, hjl'⟩ := by rw [← hjp]; simp
        rw [this]
        exact hK _
      · rw [hsz]
        exact hcell ⟨j, hjl'⟩ i u hu
    · intro y hy
      obtain ⟨i, rfl⟩ := List.mem_ofFn.1 hy
      exact hG i
theorem opensL_last {f : Field} {o : Nat} (ho : f.offset = o) (hf : Opens P W f.type d G) (hs : d.sz = P.cellsOf f.type) : OpensL P W [f] o d G := by
  intro H enc fuel cs h hl
  obtain ⟨y, hy⟩ := h f (by simp)
  obtain ⟨a, hK, hG⟩ := hf H enc fuel _ y hy
  refine ⟨a, ?_, hG⟩
  rw [ho, List.take_of_length_le (by rw [List.length_drop, hl, hs]; omega)] at hK
  exact hK
theorem opensL_cons {f : Field} {fs : List Field} {o : Nat} {d2 : Kd β} {G2 : β → Prop} (ho : f.offset = o) (hf : Opens P W f.type d G) (hs : d.sz = P.cellsOf f.type) (hr : OpensL P W fs (o + d.sz) d2 G2) :
    OpensL P W (f :: fs) o (Kd.pair d d2) (fun x => G x.1 ∧ G2 x.2) := by
  intro H enc fuel cs h hl
  obtain ⟨y, hy⟩ := h f (by simp)
  obtain ⟨a, hK, hG⟩ := hf H enc fuel _ y hy
  have hl' : cs.length = o + (d.sz + d2.sz) := hl
  obtain ⟨b, hK2, hG2⟩ := hr H enc fuel cs (fun f' hf' => h f' (by simp [hf'])) (by omega)
  refine ⟨(a, b), ⟨_, _, ?_, hK, hK2⟩, hG, hG2⟩
  rw [ho, ← hs, ← List.drop_drop, List.take_append_drop]
theorem opens_struct {fs : Array Field} (ht : P.underlying t = some (.struct fs)) (hs : d.sz = P.cellsOf t) (hf : OpensL P W fs.toList 0 d G) : Opens P W t d G := by
  intro H enc fuel cs x h
  obtain ⟨xs, n, _, _, hl, hn, hget⟩ := DataW.trod_struct ht h
  have hall : ∀ f ∈ fs.toList, ∃ y, DataW.trod enc P W 0 (fun _ => true) true n f.type ((cs.drop f.offset).take (P.cellsOf f.type)) = some y := by
    intro f hfm
    obtain ⟨i, hi, hif⟩ := List.getElem_of_mem hfm
    have h1 := hget i f (by rw [← hif]; simp [Array.getElem?_eq_getElem (by simpa using hi)])
    have hi' : i < xs.length := by rw [hn]; simpa using hi
    exact ⟨xs[i], by rw [h1, List.getElem?_eq_getElem hi']⟩
  obtain ⟨b, hK, hG⟩ := hf H enc n cs hall (by omega)
  exact ⟨b, by simpa using hK, hG⟩
theorem opens_iso {p : β → α} (inv : α → β) (hi : ∀ x, p (inv x) = x) (h : Opens P W t d G) : Opens P W t (Kd.iso d p) (fun x => G (p x)) := by
  intro H enc fuel cs x hx
  obtain ⟨a, hK, hG⟩ := h H enc fuel cs x hx
  exact ⟨inv a, by show d.K W (p (inv a)) cs; rw [hi]; exact hK, by show G (p (inv a)); rw [hi]; exact hG⟩

theorem Opens.imp {G' : α → Prop} (h : Opens P W t d G) (hi : ∀ x, G x → G' x) : Opens P W t d G' := by
  intro H enc fuel cs x hx
  obtain ⟨a, hK, hG⟩ := h H enc fuel cs x hx
  exact ⟨a, hK, hi a hG⟩

theorem arg_int {k : IntKind} {v : Value} (ht : P.underlying t = some (.int k)) (h : ArgOf P W t v) : ∃ n, v = .int k n ∧ (Lit.int k n).wf = true := by
  obtain ⟨⟨base, ho⟩, H, enc, fuel, x, hx⟩ := h
  obtain ⟨n, hv, _, _, hw⟩ := open_int (P := P) (d := x.1) (ps := x.2) ht ho ⟨fuel, hx⟩
  exact ⟨n, hv, hw⟩
theorem arg_bool {v : Value} (ht : P.underlying t = some .bool) (h : ArgOf P W t v) : ∃ b, v = .bool b := by
  obtain ⟨⟨base, ho⟩, H, enc, fuel, x, hx⟩ := h
  obtain ⟨b, hv, _⟩ := open_bool (P := P) (d := x.1) (ps := x.2) ht ho ⟨fuel, hx⟩
  exact ⟨b, hv⟩
theorem arg_string {v : Value} (ht : P.underlying t = some .string) (h : ArgOf P W t v) : ∃ s : ByteArray, v = .string s ∧ s.size ≤ maxLen := by
  obtain ⟨⟨base, ho⟩, H, enc, fuel, x, hx⟩ := h
  obtain ⟨s, hv, _, _, hs⟩ := open_string (P := P) (d := x.1) (ps := x.2) ht ho ⟨fuel, hx⟩
  exact ⟨s, hv, hs⟩
theorem arg_struct {fs : Array Field} {v : Value} (ht : P.underlying t = some (.struct fs)) (hd : Opens P W t d G) (h : ArgOf P W t v) : ∃ a cs, v = .agg cs ∧ d.K W a cs.toList ∧ G a := by
  obtain ⟨⟨base, ho⟩, H, enc, fuel, x, hx⟩ := h
  obtain ⟨cs, rfl, _⟩ := okWide_struct ht ho
  obtain ⟨a, hK, hG⟩ := hd H enc fuel _ x hx
  exact ⟨a, cs, rfl, hK, hG⟩
theorem arg_slice {v : Value} (ht : P.underlying t = some (.slice e)) (hsz : d.sz = P.cellsOf e) (hd : Opens P W e d G) (h : ArgOf P W t v) :
    ∃ A xs c, v = .slice A xs.length c ∧ xs.length ≤ c ∧ Kd.C d W A xs.length xs ∧ xs.length ≤ maxLen ∧ ∀ x ∈ xs, G x := by
  obtain ⟨⟨base, ho⟩, H, enc, fuel, x, hx⟩ := h
  obtain ⟨A, len, cap, rfl⟩ := okWide_slice ht ho
  obtain ⟨xs, ⟨A', c, he, hc, hC⟩, hG⟩ := opens_slice ht hsz hd H enc fuel _ x hx
  simp [Value.cells] at he
  obtain ⟨rfl, rfl, rfl⟩ := he
  exact ⟨A, xs, cap, rfl, hc, hC, hG.1, hG.2⟩
end
end Go.Proofs.Ytlbikcelfheohab
end

/-! ### YtlbikcelfheohabBase -/
section
namespace Go.Proofs.Ytlbikcelfheohab
open Go.RowKit

theorem bcell {W w1 : World} (hb : Below W.heap.size W w1) : (∀ b o, b < W.heap.size → w1.cell? ⟨b, o, none⟩ = W.cell? ⟨b, o, none⟩) ∧ (∀ b o, b < W.heap.size → w1.frozen? ⟨b, o, none⟩ = W.frozen? ⟨b, o, none⟩) :=
  ⟨fun b o h => hb.cell (p := ⟨b, o, none⟩) h, fun b o h => hb.frozen (p := ⟨b, o, none⟩) h⟩
theorem bl_alloc {w W : World} (h : Below w.heap.size w W) (o : Obj) : Below w.heap.size w (W.alloc o) := h.alloc h.size o
theorem bl_drewN {w W : World} (h : Below w.heap.size w W) (n : Nat) : Below w.heap.size w (W.drewN n) := ⟨h.os, h.tape, h.output, h.size, h.block⟩
theorem bl_drew {w W : World} (h : Below w.heap.size w W) : Below w.heap.size w W.drew := h.drew
theorem bl_set {w W : World} {p : Addr} {v : Value} (h : Below w.heap.size w W) (hg : w.heap.size ≤ p.block) : Below w.heap.size w (W.setCell p v) := h.setCell hg _
theorem bl_then {w W w2 : World} (h : Below w.heap.size w W) (k : Below W.heap.size W w2) : Below w.heap.size w w2 :=
  h.trans ⟨k.os, k.tape, k.output, k.size, fun i hi => k.block i (Nat.lt_of_lt_of_le hi h.size)⟩
theorem cell_grow {w : World} {d : Nat} {os : Array Obj} {a : Addr} (h : a.block < w.heap.size) : (Go.Sort.grow (redrawn w d) os).cell? a = w.cell? a := (below_regrown w d os).cell h
theorem bl_regrown {w W : World} (h : ∃ p : Regrown, W = Go.Sort.grow (redrawn w p.d) p.os) : Below w.heap.size w W := by
  obtain ⟨p, rfl⟩ := h
  exact below_regrown w p.d p.os
theorem ret_int {k : IntKind} {a b : Int} (h : a = b) : Ending.returned (.int k a) = .returned (.int k b) := by rw [h]
theorem ret_str {a b : ByteArray} (h : a = b) : Ending.returned (.string a) = .returned (.string b) := by rw [h]

/-- Whether a number lies in a range. -/
def inB (n lo hi : Int) : Bool := decide (lo ≤ n) && decide (n ≤ hi)
theorem inB_iff {n lo hi : Int} : inB n lo hi = true ↔ lo ≤ n ∧ n ≤ hi := by simp [inB]

set_option maxHeartbeats 400000 in
theorem impl_in (n lo hi : Int) (w : World) :
    Calls Try.prog 93 #[.int .i64 n, .int .i64 lo, .int .i64 hi] w fun e w' => e = .returned (.bool (inB n lo hi)) ∧ w = w' := by
  go_enter Try.func93, Try.ntmps93
  go_wp2
  all_goals (go_ret; exact ⟨by first | (simp [inB, *]; done) | (simp [inB, *]; omega), rfl⟩)
set_option maxHeartbeats 400000 in
theorem spec_l01In (n lo hi : Int) (w : World) :
    Calls Try.prog 95 #[.int .i64 n, .int .i64 lo, .int .i64 hi] w fun e w' => e = .returned (.bool (inB n lo hi)) ∧ w = w' := by
  go_enter Try.func95, Try.ntmps95
  go_wp2
  all_goals (go_ret; exact ⟨by first | (simp [inB, *]; done) | (simp [inB, *]; omega), rfl⟩)
end Go.Proofs.Ytlbikcelfheohab
end

/-! ### YtlbikcelfheohabLoops -/
section
namespace Go.Proofs.Ytlbikcelfheohab
open Go.RowKit
set_option linter.unusedSimpArgs false
set_option linter.unusedVariables false

/-! The three loops of the laws' helpers, once for all: copying, summing up sizes, comparing with itself. (own) -/
theorem copy_loop {α β : Type} (L : Nat → List α → List β → Int → Option (List β)) (c : α → β) (z : β) (ok : Nat → α → Prop)
    (h0 : ∀ k xs acc (i : Nat), xs.length ≤ i → L (k + 1) xs acc i = some acc)
    (h1 : ∀ k xs acc (i : Nat) (hi : i < xs.length), xs.length ≤ 1048576 → acc.length = xs.length → ok k xs[i] → L (k + 1) xs acc i = L k xs (acc.set i (c xs[i])) ((i + 1 : Nat) : Int)) (xs : List α) (hl : xs.length ≤ 1048576) (m : Nat) (hok : ∀ k, m ≤ k → ∀ x ∈ xs, ok k x) :
    ∀ (n k i : Nat) (acc : List β), n + i = xs.length → acc = (xs.take i).map c ++ List.replicate n z → n + m < k → L k xs acc i = some (xs.map c)
  | _, 0, _, _, _, _, hk => by omega
  | 0, k + 1, i, acc, h, ha, hk => by
    rw [h0 k xs acc i (by omega), ha, List.take_of_length_le (by omega)]
    simp
  | n + 1, k + 1, i, acc, h, ha, hk => by
    have hi : i < xs.length := by omega
    rw [h1 k xs acc i hi hl (by rw [ha]; simp; omega) (hok k (by omega) _ (List.getElem_mem hi))]
    refine copy_loop L c z ok h0 h1 xs hl m hok n k (i + 1) _ (by omega) ?_ (by omega)
    rw [ha, List.replicate_succ, List.set_append_right _ _ (by simp; omega), List.take_succ_eq_append_getElem hi]
    have : i - (List.map c (List.take i xs)).length = 0 := by simp; omega
    rw [this]
    simp only [List.set_cons_zero, List.map_append, List.map_cons, List.map_nil, List.append_assoc, List.cons_append, List.nil_append]

theorem size_loop {α : Type} (L : Nat → List α → Int → Int → Option Int) (G P : α → Prop) (m : Nat)
    (h0 : ∀ k xs (left : Int) (i : Nat), xs.length ≤ i → L (k + 1) xs left i = some left)
    (h1 : ∀ k xs (left : Int) (i : Nat) (hi : i < xs.length), m ≤ k → xs.length ≤ 1048576 → 0 ≤ left → left ≤ 1048576 → G xs[i] →
      (∃ r : Int, r < 0 ∧ L (k + 1) xs left i = some r) ∨ ∃ r : Int, 0 ≤ r ∧ r ≤ left ∧ P xs[i] ∧ L (k + 1) xs left i = L k xs r ((i + 1 : Nat) : Int)) (xs : List α) (hl : xs.length ≤ 1048576) (hG : ∀ x ∈ xs, G x) :
    ∀ (n k i : Nat) (left : Int), n + i = xs.length → n + m < k → 0 ≤ left → left ≤ 1048576 → ∃ r, L k xs left i = some r ∧ (r < 0 ∨ (0 ≤ r ∧ r ≤ left ∧ ∀ j (hj : j < xs.length), i ≤ j → P xs[j]))
  | _, 0, _, _, _, hk, _, _ => by omega
  | 0, k + 1, i, left, h, hk, a, b => ⟨left, h0 k xs left i (by omega), .inr ⟨a, Int.le_refl _, fun j hj hij => by omega⟩⟩
  | n + 1, k + 1, i, left, h, hk, a, b => by
    have hi : i < xs.length := by omega
    rcases h1 k xs left i hi (by omega) hl a b (hG _ (List.getElem_mem hi)) with ⟨r, hr, he⟩ | ⟨r, r0, r1, hP, he⟩
    · exact ⟨r, he, .inl hr⟩
    · obtain ⟨q, hq, hh⟩ := size_loop L G P m h0 h1 xs hl hG n k (i + 1) r (by omega) (by omega) r0 (by omega)
      refine ⟨q, he.trans hq, hh.imp id fun ⟨x, y, f⟩ => ⟨x, by omega, fun j hj hij => ?_⟩⟩
      by_cases e : j = i
      · subst e; exact hP
      · exact f j hj (by omega)

theorem same_loop {α : Type} (L : Nat → List α → List α → Int → Option Bool) (ok : Nat → α → Prop)
    (h0 : ∀ k xs (i : Nat), xs.length ≤ i → L (k + 1) xs xs i = some true)
    (h1 : ∀ k xs (i : Nat) (hi : i < xs.length), xs.length ≤ 1048576 → ok k xs[i] → L (k + 1) xs xs i = L k xs xs ((i + 1 : Nat) : Int)) (xs : List α) (hl : xs.length ≤ 1048576) (m : Nat) (hok : ∀ k, m ≤ k → ∀ x ∈ xs, ok k x) :
    ∀ (n k i : Nat), n + i = xs.length → n + m < k → L k xs xs i = some true
  | _, 0, _, _, hk => by omega
  | 0, k + 1, i, h, hk => h0 k xs i (by omega)
  | n + 1, k + 1, i, h, hk => by
    have hi : i < xs.length := by omega
    rw [h1 k xs i hi hl (hok k (by omega) _ (List.getElem_mem hi))]
    exact same_loop L ok h0 h1 xs hl m hok n k (i + 1) (by omega) (by omega)
end Go.Proofs.Ytlbikcelfheohab
end

/-! ### YtlbikcelfheohabQFnExactSameHousex20 -/
section
namespace Go.Proofs.Ytlbikcelfheohab.PFnExactSameHouse
open Go.RowKit Go.Proofs.YtlbikcelfheohabW.PrintWords Go.Proofs.YtlbikcelfheohabW.PrintLast Go.Proofs.YtlbikcelfheohabW.PrintMore
attribute [local go_sem] max2_int min2_int max_two min_two max_three min_three max_four min_four   -- for this text's walks alone
set_option linter.unusedVariables false
set_option linter.unusedSimpArgs false

/-! ### laws_toSessionS: function 73 -/
def laws_toSessionS.l0 : Nat → List (S174) → List (S120) → Int → Option ((List (S120)))
  | 0, _, _, _ => none
  | k + 1, x0, x3, x4 => if x4 < (x0.length : Int) then (if 0 ≤ x4 then ((laws_toSession.f k ((rd_T174 x0 x4).f0) ((rd_T174 x0 x4).f1) ((rd_T174 x0 x4).f2)).bind fun bt162 => (if x4 < (x3.length : Int) then (laws_toSessionS.l0 k x0 (x3.set (x4 : Int).toNat (⟨bt162.1, bt162.2.1, bt162.2.2⟩ : S120)) (wrap64 (x4 + 1))) else (none))) else (none)) else (some x3)
def laws_toSessionS.f (k : Nat) (l0 : List (S174)) : Option ((List (S120))) := if 0 ≤ (l0.length : Int) then (if ((l0.length : Int) : Int).toNat ≤ 7036874417766 then (laws_toSessionS.l0 k l0 (List.replicate ((l0.length : Int) : Int).toNat z120) 0) else (none)) else (none)
theorem laws_toSessionS.mono_l : ∀ k, (∀ y0 y1 y2, LeO (laws_toSessionS.l0 k y0 y1 y2) (laws_toSessionS.l0 (k + 1) y0 y1 y2))
  | 0 => fun _ _ _ r h => by simp [laws_toSessionS.l0] at h
  | k + 1 => by
    have ih0 := laws_toSessionS.mono_l k
    · intro y0 y1 y2
      unfold laws_toSessionS.l0
      repeat' first
      | (with_reducible exact ih0 _ _ _)
      | (with_reducible exact laws_toSession.mono _ _ _ _)
      | (with_reducible exact LeO.refl _)
      | (with_reducible exact LeO.none _)
      | (with_reducible refine LeO.ite ?_ ?_)
      | (with_reducible refine LeO.bind ?_ (fun _ => ?_))
      | exact ih0 _ _ _
      | exact laws_toSession.mono _ _ _ _
      | exact LeO.none _
      | refine LeO.ite ?_ ?_
      | refine LeO.bind ?_ (fun _ => ?_)
theorem laws_toSessionS.mono : ∀ a0 k, LeO (laws_toSessionS.f k a0) (laws_toSessionS.f (k + 1) a0) := by
  intro a0 k
  have ih0 := laws_toSessionS.mono_l k
  unfold laws_toSessionS.f
  repeat' first
      | (with_reducible exact ih0 _ _ _)
      | (with_reducible exact laws_toSession.mono _ _ _ _)
      | (with_reducible exact LeO.refl _)
      | (with_reducible exact LeO.none _)
      | (with_reducible refine LeO.ite ?_ ?_)
      | (with_reducible refine LeO.bind ?_ (fun _ => ?_))
      | exact ih0 _ _ _
      | exact laws_toSession.mono _ _ _ _
      | exact LeO.none _
      | refine LeO.ite ?_ ?_
      | refine LeO.bind ?_ (fun _ => ?_)
set_option maxHeartbeats 8000000 in
set_option maxRecDepth 100000 in
theorem laws_toSessionS.calls (k : Nat) (A0 : Option Addr) (c0 : Nat) (l0 : List (S174)) (r : List (S120)) (w : World) (hr0 : Kd.C k174 w A0 l0.length l0) (hc0 : l0.length ≤ c0) (h : laws_toSessionS.f k l0 = some r) :
    Calls Try.prog 73 #[.slice A0 l0.length c0] w fun e w' => ∃ v0_ : Value, e = .returned (v0_) ∧ Kd.S k120 120 w' w.heap.size (fun _ => True) v0_ r ∧ Below w.heap.size w w' := by
  have hu174 := Try.underlying174
  have hu120 := Try.underlying120
  have HR0 := Aside0.mk hr0
  have HC0 := Aside0.mk hc0
  clear hr0 hc0
  have HB := Aside0.mk (Below.refl w.heap.size w)
  have H : (if 0 ≤ (l0.length : Int) then (if ((l0.length : Int) : Int).toNat ≤ 7036874417766 then (laws_toSessionS.l0 k l0 (List.replicate ((l0.length : Int) : Int).toNat z120) 0) else (none)) else (none)) = some r := h
  clear h
  by_cases c2 : 0 ≤ (l0.length : Int)
  · rw [if_pos c2] at H
    have c2b0 := eq_true c2
    have c2b1 : decide (0 ≤ (l0.length : Int)) = true := decide_eq_true c2
    clear c2
    by_cases c3 : ((l0.length : Int) : Int).toNat ≤ 7036874417766
    · rw [if_pos c3] at H
      have c3b0 := eq_true c3
      have c3b1 : decide (((l0.length : Int) : Int).toNat ≤ 7036874417766) = true := decide_eq_true c3
      clear c3
      obtain ⟨y158, hy158⟩ : ∃ y_ : List (S120), y_ = (List.replicate ((l0.length : Int) : Int).toNat z120) := ⟨_, rfl⟩
      replace H : (laws_toSessionS.l0 k l0 y158 0) = some r := by first | (rw [hy158]; with_reducible exact H) | (have H2_ := (Option.bind_some _ _).symm.trans H; rw [hy158]; with_reducible exact H2_) | (have H2_ := (Option.bind_some _ _).symm.trans H; with_reducible exact H2_) | with_reducible exact H | (rw [hy158]; exact H) | exact H
      have Ny158 := Aside0.mk hy158
      clear hy158
      have H' := Aside0.mk H
      clear H
      go_enter Try.func73, Try.ntmps73
      go_wp2_with (first | ((with_reducible refine gate_dst (N := 7) rfl ?_); refine Kd.S_make k120 _ 120 rfl (N := 7) rfl 43 _ _ rfl (l0.length : Int) rfl rfl Try.underlying43 (.agg #[(.int .i64 0), (.int .i64 0), (.slice none 0 0)]) 40 info120 rfl (by decide) (by omega) z120 (ok := fun _ => True) (okp := fun _ => True) (k120_mkM _ _ _ z120 (Kd.R_nil _ _ _ _ _)) (fun _ hk => hk) trivial (of_decide_eq_true (by first | (with_reducible assumption) | assumption)) (Nat.le_trans (Nat.mul_le_mul_right _ (of_decide_eq_true (by first | (with_reducible assumption) | assumption) : (l0.length : Int).toNat ≤ 7036874417766)) (by omega)) (Below.refl _ _) (Nat.le_refl _) ?_; intro v159 w4 ho5 hb hg_ hnew_; clear hg_ hnew_; (first | rw [← Ny158.out] at ho5 | (simp only [Int.reduceToNat] at ho5; rw [← Ny158.out] at ho5)); have n0_ := Aside0.mk (Kd.S_lower ho5 (below_size (by repeat (first | (with_reducible first | exact HB.out | apply below_alloc | apply pw_below_drewN | apply below_drew1) | exact HB.out)))); have n1_ := Aside0.mk (below_step (by repeat (first | (with_reducible first | exact HB.out | apply below_alloc | apply pw_below_drewN | apply below_drew1) | exact HB.out)) hb); clear HB; have HO160 := n0_; have HB := n1_; clear n0_ n1_; clear hb ho5))
      go_loopg [4] k (fun kq v4 w' => ∃ (x3_1 : List (S120)) (x4_1 : Int), v4 = .int .i64 x4_1 ∧ Aside0 (laws_toSessionS.l0 kq l0 x3_1 x4_1 = some r) ∧ Aside0 (kq ≤ k) ∧ Aside0 (Kd.S k120 120 w' w.heap.size (fun _ => True) v159 x3_1) ∧ Aside0 (Below w.heap.size w w'))
      case atStart => exact ⟨(y158), (0), (by first | rfl | (simp; done) | (simp [*]; done)), H', ⟨Nat.le_refl _⟩, ⟨by (with_reducible repeat (first | apply Kd.S_alloc | apply Kd.S_drewN | apply Kd.S_drew)); exact HO160.out⟩, ⟨by repeat (first | (with_reducible first | exact HB.out | apply below_alloc | apply pw_below_drewN | apply below_drew1) | exact HB.out)⟩⟩
      case round =>
        clear H'
        try clear c2
        try clear c2b0
        try clear c2b1
        try clear p2
        try clear c3
        try clear c3b0
        try clear c3b1
        obtain ⟨x3_1, x4_1, rfl, HA, HK1, HO_3, HB⟩ := hrel
        cases gk with
        | zero => exact absurd HA.out (by simp [laws_toSessionS.l0])
        | succ k1 =>
          have H := HA.out
          clear HA
          simp only [laws_toSessionS.l0] at H
          by_cases c6 : x4_1 < (l0.length : Int)
          · rw [if_pos c6] at H
            have c6b0 : decide (x4_1 < (l0.length : Int)) = true := decide_eq_true c6
            clear c6
            by_cases c7 : 0 ≤ x4_1
            · rw [if_pos c7] at H
              have c7b0 : decide (0 ≤ x4_1) = true := decide_eq_true c7
              clear c7
              replace H := Option.bind_eq_some_iff.mp H
              obtain ⟨⟨t162, t163, t164⟩, A80, H⟩ := H
              replace H : (if x4_1 < (x3_1.length : Int) then (laws_toSessionS.l0 k1 l0 (x3_1.set (x4_1 : Int).toNat (⟨t162, t163, t164⟩ : S120)) (wrap64 (x4_1 + 1))) else (none)) = some r := H
              have A8 := Aside0.mk A80
              clear A80
              by_cases c9 : x4_1 < (x3_1.length : Int)
              · rw [if_pos c9] at H
                have c9b0 : decide (x4_1 < (x3_1.length : Int)) = true := decide_eq_true c9
                clear c9
                obtain ⟨y167, hy167⟩ : ∃ y_ : List (S120), y_ = (x3_1.set (x4_1 : Int).toNat (⟨t162, t163, t164⟩ : S120)) := ⟨_, rfl⟩
                replace H : (laws_toSessionS.l0 k1 l0 y167 (wrap64 (x4_1 + 1))) = some r := by first | (rw [hy167]; with_reducible exact H) | (have H2_ := (Option.bind_some _ _).symm.trans H; rw [hy167]; with_reducible exact H2_) | (have H2_ := (Option.bind_some _ _).symm.trans H; with_reducible exact H2_) | with_reducible exact H | (rw [hy167]; exact H) | exact H
                have Ny167 := Aside0.mk hy167
                clear hy167
                have H' := Aside0.mk H
                clear H
                have p161 : 0 ≤ (x4_1 : Int) := of_decide_eq_true (by first | (with_reducible assumption) | assumption)
                have q161 : x4_1 < (l0.length : Int) := of_decide_eq_true (by first | (with_reducible assumption) | assumption)
                obtain ⟨ad161, A161_2, c161_2, e161, hx161_0, hx161_1, hx161_2, hl161_2, hi161_2⟩ := at_T174 HR0.out x4_1 p161 q161
                cases e161
                replace hx161_0 := (HB.out.cell (World.block_lt_of_cell? w _ hx161_0)).trans hx161_0
                replace hx161_1 := (HB.out.cell (World.block_lt_of_cell? w _ hx161_1)).trans hx161_1
                replace hx161_2 := (HB.out.cell (World.block_lt_of_cell? w _ hx161_2)).trans hx161_2
                have HR161_2 := Aside0.mk hi161_2
                have HC161_2 := Aside0.mk hl161_2
                clear hi161_2 hl161_2
                replace p161 := eq_true p161
                replace q161 := eq_true q161
                go_wp2_with (first | ((with_reducible refine gate_callee (f := 135) rfl ?_); refine goesL_ (some 20) rfl rfl Try.func135 (by kernel_rfl) rfl #[.agg #[.int .i64 ((rd_T174 l0 x4_1).f0), .int .i64 ((rd_T174 l0 x4_1).f1), .slice A161_2 ((rd_T174 l0 x4_1).f2).length c161_2]] rfl (by (try simp only [List.map_toArray, List.map_cons, List.map_nil]); first | done | rfl | (simp only [List.length_drop, List.length_take]; rfl)) ?_; (with_reducible refine (laws_toSession.calls k1 ((rd_T174 l0 x4_1).f0) ((rd_T174 l0 x4_1).f1) _ _ ((rd_T174 l0 x4_1).f2) t162 t163 t164 _ ?side1 ?side2 A8.out).mono ?_); (case side1 => repeat (first | exact (Kd.C_below HR161_2.out HB.out) | (with_reducible refine Kd.C_alloc ?_ _) | (with_reducible refine Kd.C_drewN ?_ _) | (with_reducible refine Kd.C_drew ?_))); (case side2 => exact HC161_2.out); rintro e w11 ⟨v165, rfl, ho0, hb⟩; obtain ⟨As_, cs_, hv_⟩ := Kd.R_slice ho0; refine ⟨_, rfl, ?_⟩; have n0_ := Aside0.mk (Kd.S_elder' (by (with_reducible repeat (first | apply Kd.S_alloc | apply Kd.S_drewN | apply Kd.S_drew)); exact HO_3.out) (Kd.R_base ho0) hb); have n1_ := Aside0.mk (Kd.R_lower ho0 (below_size (by repeat (first | (with_reducible first | exact HB.out | apply below_alloc | apply pw_below_drewN | apply below_drew1) | exact HB.out)))); have n2_ := Aside0.mk (below_step (by repeat (first | (with_reducible first | exact HB.out | apply below_alloc | apply pw_below_drewN | apply below_drew1) | exact HB.out)) hb); clear HO_3; clear HB; have HO_3 := n0_; have HO166 := n1_; have HB := n2_; clear n0_ n1_ n2_; (try clear hb); (try clear hb2); (try clear hk); (try clear hi); (try clear ho0); have p10 : 0 ≤ (x4_1 : Int) := of_decide_eq_true (by first | (with_reducible assumption) | assumption); have q10 : (x4_1 : Int) < ((x3_1.length : Int) : Int) := of_decide_eq_true (by first | (with_reducible assumption) | assumption); obtain ⟨go10, co10, eo10, gb10, gl10, cl10, HG10⟩ := Kd.S_form HO_3.out (by omega); (first | cases eo10 | (injection eo10 with ea_ en_ ec_; (first | subst ea_ | (injection ea_ with ea_; subst ea_)); subst ec_; clear en_)); have GB10 := Aside0.mk gb10; have GG10 := Aside0.mk HG10; clear gb10 gl10 HG10; obtain ⟨_, ce10, hcl10, hM10, hcc10, hfr10, _, _⟩ := Kd.S_elem HO_3.out z120 (x4_1 : Int) p10 q10; obtain ⟨ve10_2, rfl, ge10_2⟩ := k120_openM hM10; have hx10_0 : w11.cell? ⟨go10, (x4_1 : Int).toNat * 3, none⟩ = some (.int .i64 ((rd_T120 x3_1 x4_1).f0)) := hcc10 0 _ rfl; have hx10_1 : w11.cell? ⟨go10, (x4_1 : Int).toNat * 3 + 1, none⟩ = some (.int .i64 ((rd_T120 x3_1 x4_1).f1)) := hcc10 1 _ rfl; have hx10_2 : w11.cell? ⟨go10, (x4_1 : Int).toNat * 3 + 2, none⟩ = some (ve10_2) := hcc10 2 _ rfl; have hf10_0 : w11.frozen? ⟨go10, (x4_1 : Int).toNat * 3, none⟩ = false := hfr10 0; have hf10_1 : w11.frozen? ⟨go10, (x4_1 : Int).toNat * 3 + 1, none⟩ = false := hfr10 1; have hf10_2 : w11.frozen? ⟨go10, (x4_1 : Int).toNat * 3 + 2, none⟩ = false := hfr10 2; clear hcl10 hcc10 hfr10 hM10; replace p10 := eq_true p10; replace q10 := eq_true q10; have n_ := Aside0.mk (Kd.S_mono (ok' := (fun k_ => some k_ ≠ (v165 : Value).ownBlock)) HO_3.out (fun k_ hk => hk.2)); clear HO_3; have HO_3 := n_; clear n_; have HX12 := Aside0.mk (show Kd.S k120 120 w11 w.heap.size (fun k_ => ((fun _ => True)) k_ ∧ ¬ ((fun k_ => some k_ = (v165 : Value).ownBlock)) k_) (.slice (some ⟨go10, 0, none⟩) x3_1.length co10) x3_1 from (by (with_reducible repeat (first | apply Kd.S_alloc | apply Kd.S_drewN | apply Kd.S_drew)); exact Kd.S_mono HO_3.out (fun k_ hk => ⟨trivial, fun e_ => hk e_⟩))); obtain ⟨oki12, ce12, hcl12, hM12, hcc12, hfr12, hoki12, hH12⟩ := Kd.S_elem HX12.out z120 (x4_1 : Int) (of_decide_eq_true (by first | (with_reducible assumption) | assumption)) (by have h_ : (x4_1 : Int) < ((x3_1.length : Int) : Int) := of_decide_eq_true (by first | (with_reducible assumption) | assumption); first | exact h_ | (have e_ := (Kd.S_reads' HO_3.out).1; omega) | simpa using h_); obtain ⟨ve12_2, rfl, ge12_2⟩ := k120_openM hM12; have HP12 := Kd.S_seg hH12 (of_decide_eq_true (by first | (with_reducible assumption) | assumption)) (by have h_ : (x4_1 : Int) < ((x3_1.length : Int) : Int) := of_decide_eq_true (by first | (with_reducible assumption) | assumption); first | exact h_ | (have e_ := (Kd.S_reads' HO_3.out).1; omega) | simpa using h_) (seg := [.int .i64 t162, .int .i64 t163, v165]) (j := 0) (show 3 ≤ 3 from by decide) (x' := (⟨t162, t163, t164⟩ : S120)) (k120_mkM _ _ _ (⟨t162, t163, t164⟩ : S120) (Kd.R_mono (Kd.R_tight rfl (Kd.R_mono (ok' := fun k_ => ((fun _ => True)) k_ ∧ k_ ≠ go10) (Kd.R_apart' (HO166.out) (Kd.S_typed HO_3.out) (by decide)) (fun k_ hk => ⟨trivial, fun e_ => (hk.2) (by rw [e_]; rfl)⟩))) (fun _ h_ => Or.inr (h_)))) (fun _ hk => hk) (fun k_ hk_ => ((Kd.R_mono (ok' := fun k_ => ((fun _ => True)) k_ ∧ k_ ≠ go10) (Kd.R_apart' (HO166.out) (Kd.S_typed HO_3.out) (by decide)) (fun k_ hk => ⟨trivial, fun e_ => (hk.2) (by rw [e_]; rfl)⟩))).1 k_ hk_.symm); have hx12_0 := hcc12 0 _ rfl; (try simp only [show (k120).sz = 3 from rfl, Nat.mul_one, Nat.add_zero] at hx12_0); have hf12_0 := hfr12 0; (try simp only [show (k120).sz = 3 from rfl, Nat.mul_one, Nat.add_zero] at hf12_0); have hx12_1 := hcc12 1 _ rfl; (try simp only [show (k120).sz = 3 from rfl, Nat.mul_one, Nat.add_zero] at hx12_1); have hf12_1 := hfr12 1; (try simp only [show (k120).sz = 3 from rfl, Nat.mul_one, Nat.add_zero] at hf12_1); have hx12_2 := hcc12 2 _ rfl; (try simp only [show (k120).sz = 3 from rfl, Nat.mul_one, Nat.add_zero] at hx12_2); have hf12_2 := hfr12 2; (try simp only [show (k120).sz = 3 from rfl, Nat.mul_one, Nat.add_zero] at hf12_2); clear hcl12 hcc12 hfr12 hM12 hoki12 hH12) | ((with_reducible refine gate_store (t := 120) (p := 21) rfl ?_); refine store_event (t := 120) (p := 21) (v := ?vo_w13) (w1 := (((w11.setCell ⟨go10, (x4_1 : Int).toNat * 3, none⟩ (.int .i64 t162)).setCell ⟨go10, (x4_1 : Int).toNat * 3 + 1, none⟩ (.int .i64 t163)).setCell ⟨go10, (x4_1 : Int).toNat * 3 + 2, none⟩ (v165))) ?hg ?ho ?hn ?hr ?_; (case ho => rfl); (case hg => rfl); (case hn => rfl); (case hr => first | (go_simp; done) | (go_simp; rfl)); intro w13 hw; have hg : w11.grownBy w13 (some go10) := (by rw [hw]; exact HP12.2); have hp_ : Kd.S k120 120 w13 w.heap.size (fun _ => True) (.slice (some ⟨go10, 0, none⟩) x3_1.length co10) y167 := (by rw [hw, Ny167.out]; exact HP12.1); clear HP12; have n0_ := Aside0.mk (hp_); have n1_ := Aside0.mk ((by rw [hw]; exact below_set (below_set (below_set (HB.out) GB10.out) GB10.out) GB10.out : Below w.heap.size w w13)); clear HO_3; clear HB; clear HO166; have HO_3 := n0_; have HB := n1_; clear n0_ n1_; clear hg hw hp_))
                subst hv_
                go_roundg k1
                case measure => have := HK1.out; omega
                case rel => exact ⟨(y167), (wrap64 (x4_1 + 1)), (by first | rfl | (simp; done) | (simp [*]; done)), H', ⟨by have := HK1.out; omega⟩, ⟨by (with_reducible repeat (first | apply Kd.S_alloc | apply Kd.S_drewN | apply Kd.S_drew)); exact HO_3.out⟩, ⟨by repeat (first | (with_reducible first | exact HB.out | apply below_alloc | apply pw_below_drewN | apply below_drew1) | exact HB.out)⟩⟩
              · rw [if_neg c9] at H
                exact absurd H (by simp)
            · rw [if_neg c7] at H
              exact absurd H (by simp)
          · rw [if_neg c6] at H
            have c6b0 : decide (x4_1 < (l0.length : Int)) = false := decide_eq_false c6
            clear c6
            obtain rfl := Option.some.inj H
            go_wp2
            go_ret
            exact ⟨_, by first | rfl | (simp [errW_none, errW_some] <;> rfl) | (simp [*, errW_none, errW_some] <;> rfl), by (with_reducible repeat (first | apply Kd.S_alloc | apply Kd.S_drewN | apply Kd.S_drew)); exact HO_3.out, by repeat (first | (with_reducible first | exact HB.out | apply below_alloc | apply pw_below_drewN | apply below_drew1) | exact HB.out)⟩
    · rw [if_neg c3] at H
      exact absurd H (by simp)
  · rw [if_neg c2] at H
    exact absurd H (by simp)

end Go.Proofs.Ytlbikcelfheohab.PFnExactSameHouse
end

/-! ### YtlbikcelfheohabQFnExactSameHousex25 -/
section
namespace Go.Proofs.Ytlbikcelfheohab.PFnExactSameHouse
open Go.RowKit Go.Proofs.YtlbikcelfheohabW.PrintWords Go.Proofs.YtlbikcelfheohabW.PrintLast Go.Proofs.YtlbikcelfheohabW.PrintMore
attribute [local go_sem] max2_int min2_int max_two min_two max_three min_three max_four min_four   -- for this text's walks alone
set_option linter.unusedVariables false
set_option linter.unusedSimpArgs false

/-! ### laws_toQueueS: function 75 -/
def laws_toQueueS.l0 : Nat → List (S176) → List (S127) → Int → Option ((List (S127)))
  | 0, _, _, _ => none
  | k + 1, x0, x3, x4 => if x4 < (x0.length : Int) then (if 0 ≤ x4 then ((laws_toQueue.f k ((rd_T176 x0 x4).f0) ((rd_T176 x0 x4).f1) ((rd_T176 x0 x4).f2)).bind fun bt193 => (if x4 < (x3.length : Int) then (laws_toQueueS.l0 k x0 (x3.set (x4 : Int).toNat (⟨bt193.1, bt193.2.1, bt193.2.2⟩ : S127)) (wrap64 (x4 + 1))) else (none))) else (none)) else (some x3)
def laws_toQueueS.f (k : Nat) (l0 : List (S176)) : Option ((List (S127))) := if 0 ≤ (l0.length : Int) then (if ((l0.length : Int) : Int).toNat ≤ 7036874417766 then (laws_toQueueS.l0 k l0 (List.replicate ((l0.length : Int) : Int).toNat z127) 0) else (none)) else (none)
theorem laws_toQueueS.mono_l : ∀ k, (∀ y0 y1 y2, LeO (laws_toQueueS.l0 k y0 y1 y2) (laws_toQueueS.l0 (k + 1) y0 y1 y2))
  | 0 => fun _ _ _ r h => by simp [laws_toQueueS.l0] at h
  | k + 1 => by
    have ih0 := laws_toQueueS.mono_l k
    · intro y0 y1 y2
      unfold laws_toQueueS.l0
      repeat' first
      | (with_reducible exact ih0 _ _ _)
      | (with_reducible exact laws_toQueue.mono _ _ _ _)
      | (with_reducible exact LeO.refl _)
      | (with_reducible exact LeO.none _)
      | (with_reducible refine LeO.ite ?_ ?_)
      | (with_reducible refine LeO.bind ?_ (fun _ => ?_))
      | exact ih0 _ _ _
      | exact laws_toQueue.mono _ _ _ _
      | exact LeO.none _
      | refine LeO.ite ?_ ?_
      | refine LeO.bind ?_ (fun _ => ?_)
theorem laws_toQueueS.mono : ∀ a0 k, LeO (laws_toQueueS.f k a0) (laws_toQueueS.f (k + 1) a0) := by
  intro a0 k
  have ih0 := laws_toQueueS.mono_l k
  unfold laws_toQueueS.f
  repeat' first
      | (with_reducible exact ih0 _ _ _)
      | (with_reducible exact laws_toQueue.mono _ _ _ _)
      | (with_reducible exact LeO.refl _)
      | (with_reducible exact LeO.none _)
      | (with_reducible refine LeO.ite ?_ ?_)
      | (with_reducible refine LeO.bind ?_ (fun _ => ?_))
      | exact ih0 _ _ _
      | exact laws_toQueue.mono _ _ _ _
      | exact LeO.none _
      | refine LeO.ite ?_ ?_
      | refine LeO.bind ?_ (fun _ => ?_)
set_option maxHeartbeats 8000000 in
set_option maxRecDepth 100000 in
theorem laws_toQueueS.calls (k : Nat) (A0 : Option Addr) (c0 : Nat) (l0 : List (S176)) (r : List (S127)) (w : World) (hr0 : Kd.C k176 w A0 l0.length l0) (hc0 : l0.length ≤ c0) (h : laws_toQueueS.f k l0 = some r) :
    Calls Try.prog 75 #[.slice A0 l0.length c0] w fun e w' => ∃ v0_ : Value, e = .returned (v0_) ∧ Kd.S k127 127 w' w.heap.size (fun _ => True) v0_ r ∧ Below w.heap.size w w' := by
  have hu176 := Try.underlying176
  have hu127 := Try.underlying127
  have HR0 := Aside0.mk hr0
  have HC0 := Aside0.mk hc0
  clear hr0 hc0
  have HB := Aside0.mk (Below.refl w.heap.size w)
  have H : (if 0 ≤ (l0.length : Int) then (if ((l0.length : Int) : Int).toNat ≤ 7036874417766 then (laws_toQueueS.l0 k l0 (List.replicate ((l0.length : Int) : Int).toNat z127) 0) else (none)) else (none)) = some r := h
  clear h
  by_cases c2 : 0 ≤ (l0.length : Int)
  · rw [if_pos c2] at H
    have c2b0 := eq_true c2
    have c2b1 : decide (0 ≤ (l0.length : Int)) = true := decide_eq_true c2
    clear c2
    by_cases c3 : ((l0.length : Int) : Int).toNat ≤ 7036874417766
    · rw [if_pos c3] at H
      have c3b0 := eq_true c3
      have c3b1 : decide (((l0.length : Int) : Int).toNat ≤ 7036874417766) = true := decide_eq_true c3
      clear c3
      obtain ⟨y189, hy189⟩ : ∃ y_ : List (S127), y_ = (List.replicate ((l0.length : Int) : Int).toNat z127) := ⟨_, rfl⟩
      replace H : (laws_toQueueS.l0 k l0 y189 0) = some r := by first | (rw [hy189]; with_reducible exact H) | (have H2_ := (Option.bind_some _ _).symm.trans H; rw [hy189]; with_reducible exact H2_) | (have H2_ := (Option.bind_some _ _).symm.trans H; with_reducible exact H2_) | with_reducible exact H | (rw [hy189]; exact H) | exact H
      have Ny189 := Aside0.mk hy189
      clear hy189
      have H' := Aside0.mk H
      clear H
      go_enter Try.func75, Try.ntmps75
      go_wp2_with (first | ((with_reducible refine gate_dst (N := 7) rfl ?_); refine Kd.S_make k127 _ 127 rfl (N := 7) rfl 45 _ _ rfl (l0.length : Int) rfl rfl Try.underlying45 (.agg #[(.int .i64 0), (.int .i64 0), (.slice none 0 0)]) 40 info127 rfl (by decide) (by omega) z127 (ok := fun _ => True) (okp := fun _ => True) (k127_mkM _ _ _ z127 (Kd.R_nil _ _ _ _ _)) (fun _ hk => hk) trivial (of_decide_eq_true (by first | (with_reducible assumption) | assumption)) (Nat.le_trans (Nat.mul_le_mul_right _ (of_decide_eq_true (by first | (with_reducible assumption) | assumption) : (l0.length : Int).toNat ≤ 7036874417766)) (by omega)) (Below.refl _ _) (Nat.le_refl _) ?_; intro v190 w4 ho5 hb hg_ hnew_; clear hg_ hnew_; (first | rw [← Ny189.out] at ho5 | (simp only [Int.reduceToNat] at ho5; rw [← Ny189.out] at ho5)); have n0_ := Aside0.mk (Kd.S_lower ho5 (below_size (by repeat (first | (with_reducible first | exact HB.out | apply below_alloc | apply pw_below_drewN | apply below_drew1) | exact HB.out)))); have n1_ := Aside0.mk (below_step (by repeat (first | (with_reducible first | exact HB.out | apply below_alloc | apply pw_below_drewN | apply below_drew1) | exact HB.out)) hb); clear HB; have HO191 := n0_; have HB := n1_; clear n0_ n1_; clear hb ho5))
      go_loopg [4] k (fun kq v4 w' => ∃ (x3_1 : List (S127)) (x4_1 : Int), v4 = .int .i64 x4_1 ∧ Aside0 (laws_toQueueS.l0 kq l0 x3_1 x4_1 = some r) ∧ Aside0 (kq ≤ k) ∧ Aside0 (Kd.S k127 127 w' w.heap.size (fun _ => True) v190 x3_1) ∧ Aside0 (Below w.heap.size w w'))
      case atStart => exact ⟨(y189), (0), (by first | rfl | (simp; done) | (simp [*]; done)), H', ⟨Nat.le_refl _⟩, ⟨by (with_reducible repeat (first | apply Kd.S_alloc | apply Kd.S_drewN | apply Kd.S_drew)); exact HO191.out⟩, ⟨by repeat (first | (with_reducible first | exact HB.out | apply below_alloc | apply pw_below_drewN | apply below_drew1) | exact HB.out)⟩⟩
      case round =>
        clear H'
        try clear c2
        try clear c2b0
        try clear c2b1
        try clear p2
        try clear c3
        try clear c3b0
        try clear c3b1
        obtain ⟨x3_1, x4_1, rfl, HA, HK1, HO_3, HB⟩ := hrel
        cases gk with
        | zero => exact absurd HA.out (by simp [laws_toQueueS.l0])
        | succ k1 =>
          have H := HA.out
          clear HA
          simp only [laws_toQueueS.l0] at H
          by_cases c6 : x4_1 < (l0.length : Int)
          · rw [if_pos c6] at H
            have c6b0 : decide (x4_1 < (l0.length : Int)) = true := decide_eq_true c6
            clear c6
            by_cases c7 : 0 ≤ x4_1
            · rw [if_pos c7] at H
              have c7b0 : decide (0 ≤ x4_1) = true := decide_eq_true c7
              clear c7
              replace H := Option.bind_eq_some_iff.mp H
              obtain ⟨⟨t193, t194, t195⟩, A80, H⟩ := H
              replace H : (if x4_1 < (x3_1.length : Int) then (laws_toQueueS.l0 k1 l0 (x3_1.set (x4_1 : Int).toNat (⟨t193, t194, t195⟩ : S127)) (wrap64 (x4_1 + 1))) else (none)) = some r := H
              have A8 := Aside0.mk A80
              clear A80
              by_cases c9 : x4_1 < (x3_1.length : Int)
              · rw [if_pos c9] at H
                have c9b0 : decide (x4_1 < (x3_1.length : Int)) = true := decide_eq_true c9
                clear c9
                obtain ⟨y198, hy198⟩ : ∃ y_ : List (S127), y_ = (x3_1.set (x4_1 : Int).toNat (⟨t193, t194, t195⟩ : S127)) := ⟨_, rfl⟩
                replace H : (laws_toQueueS.l0 k1 l0 y198 (wrap64 (x4_1 + 1))) = some r := by first | (rw [hy198]; with_reducible exact H) | (have H2_ := (Option.bind_some _ _).symm.trans H; rw [hy198]; with_reducible exact H2_) | (have H2_ := (Option.bind_some _ _).symm.trans H; with_reducible exact H2_) | with_reducible exact H | (rw [hy198]; exact H) | exact H
                have Ny198 := Aside0.mk hy198
                clear hy198
                have H' := Aside0.mk H
                clear H
                have p192 : 0 ≤ (x4_1 : Int) := of_decide_eq_true (by first | (with_reducible assumption) | assumption)
                have q192 : x4_1 < (l0.length : Int) := of_decide_eq_true (by first | (with_reducible assumption) | assumption)
                obtain ⟨ad192, A192_2, c192_2, e192, hx192_0, hx192_1, hx192_2, hl192_2, hi192_2⟩ := at_T176 HR0.out x4_1 p192 q192
                cases e192
                replace hx192_0 := (HB.out.cell (World.block_lt_of_cell? w _ hx192_0)).trans hx192_0
                replace hx192_1 := (HB.out.cell (World.block_lt_of_cell? w _ hx192_1)).trans hx192_1
                replace hx192_2 := (HB.out.cell (World.block_lt_of_cell? w _ hx192_2)).trans hx192_2
                have HR192_2 := Aside0.mk hi192_2
                have HC192_2 := Aside0.mk hl192_2
                clear hi192_2 hl192_2
                replace p192 := eq_true p192
                replace q192 := eq_true q192
                go_wp2_with (first | ((with_reducible refine gate_callee (f := 137) rfl ?_); refine goesL_ (some 20) rfl rfl Try.func137 (by kernel_rfl) rfl #[.agg #[.int .i64 ((rd_T176 l0 x4_1).f0), .int .i64 ((rd_T176 l0 x4_1).f1), .slice A192_2 ((rd_T176 l0 x4_1).f2).length c192_2]] rfl (by (try simp only [List.map_toArray, List.map_cons, List.map_nil]); first | done | rfl | (simp only [List.length_drop, List.length_take]; rfl)) ?_; (with_reducible refine (laws_toQueue.calls k1 ((rd_T176 l0 x4_1).f0) ((rd_T176 l0 x4_1).f1) _ _ ((rd_T176 l0 x4_1).f2) t193 t194 t195 _ ?side1 ?side2 A8.out).mono ?_); (case side1 => repeat (first | exact (Kd.C_below HR192_2.out HB.out) | (with_reducible refine Kd.C_alloc ?_ _) | (with_reducible refine Kd.C_drewN ?_ _) | (with_reducible refine Kd.C_drew ?_))); (case side2 => exact HC192_2.out); rintro e w11 ⟨v196, rfl, ho0, hb⟩; obtain ⟨As_, cs_, hv_⟩ := Kd.R_slice ho0; refine ⟨_, rfl, ?_⟩; have n0_ := Aside0.mk (Kd.S_elder' (by (with_reducible repeat (first | apply Kd.S_alloc | apply Kd.S_drewN | apply Kd.S_drew)); exact HO_3.out) (Kd.R_base ho0) hb); have n1_ := Aside0.mk (Kd.R_lower ho0 (below_size (by repeat (first | (with_reducible first | exact HB.out | apply below_alloc | apply pw_below_drewN | apply below_drew1) | exact HB.out)))); have n2_ := Aside0.mk (below_step (by repeat (first | (with_reducible first | exact HB.out | apply below_alloc | apply pw_below_drewN | apply below_drew1) | exact HB.out)) hb); clear HO_3; clear HB; have HO_3 := n0_; have HO197 := n1_; have HB := n2_; clear n0_ n1_ n2_; (try clear hb); (try clear hb2); (try clear hk); (try clear hi); (try clear ho0); have p10 : 0 ≤ (x4_1 : Int) := of_decide_eq_true (by first | (with_reducible assumption) | assumption); have q10 : (x4_1 : Int) < ((x3_1.length : Int) : Int) := of_decide_eq_true (by first | (with_reducible assumption) | assumption); obtain ⟨go10, co10, eo10, gb10, gl10, cl10, HG10⟩ := Kd.S_form HO_3.out (by omega); (first | cases eo10 | (injection eo10 with ea_ en_ ec_; (first | subst ea_ | (injection ea_ with ea_; subst ea_)); subst ec_; clear en_)); have GB10 := Aside0.mk gb10; have GG10 := Aside0.mk HG10; clear gb10 gl10 HG10; obtain ⟨_, ce10, hcl10, hM10, hcc10, hfr10, _, _⟩ := Kd.S_elem HO_3.out z127 (x4_1 : Int) p10 q10; obtain ⟨ve10_2, rfl, ge10_2⟩ := k127_openM hM10; have hx10_0 : w11.cell? ⟨go10, (x4_1 : Int).toNat * 3, none⟩ = some (.int .i64 ((rd_T127 x3_1 x4_1).f0)) := hcc10 0 _ rfl; have hx10_1 : w11.cell? ⟨go10, (x4_1 : Int).toNat * 3 + 1, none⟩ = some (.int .i64 ((rd_T127 x3_1 x4_1).f1)) := hcc10 1 _ rfl; have hx10_2 : w11.cell? ⟨go10, (x4_1 : Int).toNat * 3 + 2, none⟩ = some (ve10_2) := hcc10 2 _ rfl; have hf10_0 : w11.frozen? ⟨go10, (x4_1 : Int).toNat * 3, none⟩ = false := hfr10 0; have hf10_1 : w11.frozen? ⟨go10, (x4_1 : Int).toNat * 3 + 1, none⟩ = false := hfr10 1; have hf10_2 : w11.frozen? ⟨go10, (x4_1 : Int).toNat * 3 + 2, none⟩ = false := hfr10 2; clear hcl10 hcc10 hfr10 hM10; replace p10 := eq_true p10; replace q10 := eq_true q10; have n_ := Aside0.mk (Kd.S_mono (ok' := (fun k_ => some k_ ≠ (v196 : Value).ownBlock)) HO_3.out (fun k_ hk => hk.2)); clear HO_3; have HO_3 := n_; clear n_; have HX12 := Aside0.mk (show Kd.S k127 127 w11 w.heap.size (fun k_ => ((fun _ => True)) k_ ∧ ¬ ((fun k_ => some k_ = (v196 : Value).ownBlock)) k_) (.slice (some ⟨go10, 0, none⟩) x3_1.length co10) x3_1 from (by (with_reducible repeat (first | apply Kd.S_alloc | apply Kd.S_drewN | apply Kd.S_drew)); exact Kd.S_mono HO_3.out (fun k_ hk => ⟨trivial, fun e_ => hk e_⟩))); obtain ⟨oki12, ce12, hcl12, hM12, hcc12, hfr12, hoki12, hH12⟩ := Kd.S_elem HX12.out z127 (x4_1 : Int) (of_decide_eq_true (by first | (with_reducible assumption) | assumption)) (by have h_ : (x4_1 : Int) < ((x3_1.length : Int) : Int) := of_decide_eq_true (by first | (with_reducible assumption) | assumption); first | exact h_ | (have e_ := (Kd.S_reads' HO_3.out).1; omega) | simpa using h_); obtain ⟨ve12_2, rfl, ge12_2⟩ := k127_openM hM12; have HP12 := Kd.S_seg hH12 (of_decide_eq_true (by first | (with_reducible assumption) | assumption)) (by have h_ : (x4_1 : Int) < ((x3_1.length : Int) : Int) := of_decide_eq_true (by first | (with_reducible assumption) | assumption); first | exact h_ | (have e_ := (Kd.S_reads' HO_3.out).1; omega) | simpa using h_) (seg := [.int .i64 t193, .int .i64 t194, v196]) (j := 0) (show 3 ≤ 3 from by decide) (x' := (⟨t193, t194, t195⟩ : S127)) (k127_mkM _ _ _ (⟨t193, t194, t195⟩ : S127) (Kd.R_mono (Kd.R_tight rfl (Kd.R_mono (ok' := fun k_ => ((fun _ => True)) k_ ∧ k_ ≠ go10) (Kd.R_apart' (HO197.out) (Kd.S_typed HO_3.out) (by decide)) (fun k_ hk => ⟨trivial, fun e_ => (hk.2) (by rw [e_]; rfl)⟩))) (fun _ h_ => Or.inr (h_)))) (fun _ hk => hk) (fun k_ hk_ => ((Kd.R_mono (ok' := fun k_ => ((fun _ => True)) k_ ∧ k_ ≠ go10) (Kd.R_apart' (HO197.out) (Kd.S_typed HO_3.out) (by decide)) (fun k_ hk => ⟨trivial, fun e_ => (hk.2) (by rw [e_]; rfl)⟩))).1 k_ hk_.symm); have hx12_0 := hcc12 0 _ rfl; (try simp only [show (k127).sz = 3 from rfl, Nat.mul_one, Nat.add_zero] at hx12_0); have hf12_0 := hfr12 0; (try simp only [show (k127).sz = 3 from rfl, Nat.mul_one, Nat.add_zero] at hf12_0); have hx12_1 := hcc12 1 _ rfl; (try simp only [show (k127).sz = 3 from rfl, Nat.mul_one, Nat.add_zero] at hx12_1); have hf12_1 := hfr12 1; (try simp only [show (k127).sz = 3 from rfl, Nat.mul_one, Nat.add_zero] at hf12_1); have hx12_2 := hcc12 2 _ rfl; (try simp only [show (k127).sz = 3 from rfl, Nat.mul_one, Nat.add_zero] at hx12_2); have hf12_2 := hfr12 2; (try simp only [show (k127).sz = 3 from rfl, Nat.mul_one, Nat.add_zero] at hf12_2); clear hcl12 hcc12 hfr12 hM12 hoki12 hH12) | ((with_reducible refine gate_store (t := 127) (p := 21) rfl ?_); refine store_event (t := 127) (p := 21) (v := ?vo_w13) (w1 := (((w11.setCell ⟨go10, (x4_1 : Int).toNat * 3, none⟩ (.int .i64 t193)).setCell ⟨go10, (x4_1 : Int).toNat * 3 + 1, none⟩ (.int .i64 t194)).setCell ⟨go10, (x4_1 : Int).toNat * 3 + 2, none⟩ (v196))) ?hg ?ho ?hn ?hr ?_; (case ho => rfl); (case hg => rfl); (case hn => rfl); (case hr => first | (go_simp; done) | (go_simp; rfl)); intro w13 hw; have hg : w11.grownBy w13 (some go10) := (by rw [hw]; exact HP12.2); have hp_ : Kd.S k127 127 w13 w.heap.size (fun _ => True) (.slice (some ⟨go10, 0, none⟩) x3_1.length co10) y198 := (by rw [hw, Ny198.out]; exact HP12.1); clear HP12; have n0_ := Aside0.mk (hp_); have n1_ := Aside0.mk ((by rw [hw]; exact below_set (below_set (below_set (HB.out) GB10.out) GB10.out) GB10.out : Below w.heap.size w w13)); clear HO_3; clear HB; clear HO197; have HO_3 := n0_; have HB := n1_; clear n0_ n1_; clear hg hw hp_))
                subst hv_
                go_roundg k1
                case measure => have := HK1.out; omega
                case rel => exact ⟨(y198), (wrap64 (x4_1 + 1)), (by first | rfl | (simp; done) | (simp [*]; done)), H', ⟨by have := HK1.out; omega⟩, ⟨by (with_reducible repeat (first | apply Kd.S_alloc | apply Kd.S_drewN | apply Kd.S_drew)); exact HO_3.out⟩, ⟨by repeat (first | (with_reducible first | exact HB.out | apply below_alloc | apply pw_below_drewN | apply below_drew1) | exact HB.out)⟩⟩
              · rw [if_neg c9] at H
                exact absurd H (by simp)
            · rw [if_neg c7] at H
              exact absurd H (by simp)
          · rw [if_neg c6] at H
            have c6b0 : decide (x4_1 < (l0.length : Int)) = false := decide_eq_false c6
            clear c6
            obtain rfl := Option.some.inj H
            go_wp2
            go_ret
            exact ⟨_, by first | rfl | (simp [errW_none, errW_some] <;> rfl) | (simp [*, errW_none, errW_some] <;> rfl), by (with_reducible repeat (first | apply Kd.S_alloc | apply Kd.S_drewN | apply Kd.S_drew)); exact HO_3.out, by repeat (first | (with_reducible first | exact HB.out | apply below_alloc | apply pw_below_drewN | apply below_drew1) | exact HB.out)⟩
    · rw [if_neg c3] at H
      exact absurd H (by simp)
  · rw [if_neg c2] at H
    exact absurd H (by simp)

end Go.Proofs.Ytlbikcelfheohab.PFnExactSameHouse
end

/-! ### YtlbikcelfheohabQFnExactSameHousex28 -/
section
namespace Go.Proofs.Ytlbikcelfheohab.PFnExactSameHouse
open Go.RowKit Go.Proofs.YtlbikcelfheohabW.PrintWords Go.Proofs.YtlbikcelfheohabW.PrintLast Go.Proofs.YtlbikcelfheohabW.PrintMore
attribute [local go_sem] max2_int min2_int max_two min_two max_three min_three max_four min_four   -- for this text's walks alone
set_option linter.unusedVariables false
set_option linter.unusedSimpArgs false

/-! ### laws_toHouse: function 16 -/
def laws_toHouse.f (k : Nat) (l0_0 : List (S174)) (l0_1 : List (S179)) (l0_2 : List (S176)) (l0_3 : List (S182)) : Option ((List (S120)) × (List (S111)) × (List (S127)) × (List (S113))) := (laws_toSessionS.f k l0_0).bind fun t213 => ((laws_toListenS.f k l0_1).bind fun t216 => ((laws_toQueueS.f k l0_2).bind fun t219 => ((laws_toLeaseS.f k l0_3).bind fun t222 => (some (t213, t216, t219, t222)))))
theorem laws_toHouse.mono : ∀ a0 a1 a2 a3 k, LeO (laws_toHouse.f k a0 a1 a2 a3) (laws_toHouse.f (k + 1) a0 a1 a2 a3) := by
  intro a0 a1 a2 a3 k
  unfold laws_toHouse.f
  repeat' first
      | (with_reducible exact laws_toLeaseS.mono _ _)
      | (with_reducible exact laws_toListenS.mono _ _)
      | (with_reducible exact laws_toQueueS.mono _ _)
      | (with_reducible exact laws_toSessionS.mono _ _)
      | (with_reducible exact LeO.refl _)
      | (with_reducible exact LeO.none _)
      | (with_reducible refine LeO.ite ?_ ?_)
      | (with_reducible refine LeO.bind ?_ (fun _ => ?_))
      | exact laws_toLeaseS.mono _ _
      | exact laws_toListenS.mono _ _
      | exact laws_toQueueS.mono _ _
      | exact laws_toSessionS.mono _ _
      | exact LeO.none _
      | refine LeO.ite ?_ ?_
      | refine LeO.bind ?_ (fun _ => ?_)
set_option maxHeartbeats 8000000 in
set_option maxRecDepth 100000 in
theorem laws_toHouse.calls (k : Nat) (A0_0 : Option Addr) (c0_0 : Nat) (l0_0 : List (S174)) (A0_1 : Option Addr) (c0_1 : Nat) (l0_1 : List (S179)) (A0_2 : Option Addr) (c0_2 : Nat) (l0_2 : List (S176)) (A0_3 : Option Addr) (c0_3 : Nat) (l0_3 : List (S182)) (r1 : List (S120)) (r2 : List (S111)) (r3 : List (S127)) (r4 : List (S113)) (w : World) (hr0_0 : Kd.C k174 w A0_0 l0_0.length l0_0) (hc0_0 : l0_0.length ≤ c0_0) (hr0_1 : Kd.C k179 w A0_1 l0_1.length l0_1) (hc0_1 : l0_1.length ≤ c0_1) (hr0_2 : Kd.C k176 w A0_2 l0_2.length l0_2) (hc0_2 : l0_2.length ≤ c0_2) (hr0_3 : Kd.C k182 w A0_3 l0_3.length l0_3) (hc0_3 : l0_3.length ≤ c0_3) (h : laws_toHouse.f k l0_0 l0_1 l0_2 l0_3 = some (r1, r2, r3, r4)) :
    Calls Try.prog 16 #[.agg #[.slice A0_0 l0_0.length c0_0, .slice A0_1 l0_1.length c0_1, .slice A0_2 l0_2.length c0_2, .slice A0_3 l0_3.length c0_3]] w fun e w' => ∃ v0_ v1_ v2_ v3_ : Value, e = .returned (.agg #[v0_, v1_, v2_, v3_]) ∧ Kd.S k120 120 w' w.heap.size (fun _ => True) v0_ r1 ∧ Kd.R k111 111 w' w.heap.size (fun _ => True) v1_ r2 ∧ Kd.S k127 127 w' w.heap.size (fun _ => True) v2_ r3 ∧ Kd.R k113 113 w' w.heap.size (fun _ => True) v3_ r4 ∧ Below w.heap.size w w' := by
  have hu40 := Try.underlying40
  have hu48 := Try.underlying48
  have HR0_0 := Aside0.mk hr0_0
  have HC0_0 := Aside0.mk hc0_0
  clear hr0_0 hc0_0
  have HR0_1 := Aside0.mk hr0_1
  have HC0_1 := Aside0.mk hc0_1
  clear hr0_1 hc0_1
  have HR0_2 := Aside0.mk hr0_2
  have HC0_2 := Aside0.mk hc0_2
  clear hr0_2 hc0_2
  have HR0_3 := Aside0.mk hr0_3
  have HC0_3 := Aside0.mk hc0_3
  clear hr0_3 hc0_3
  have HB := Aside0.mk (Below.refl w.heap.size w)
  have H : ((laws_toSessionS.f k l0_0).bind fun t213 => ((laws_toListenS.f k l0_1).bind fun t216 => ((laws_toQueueS.f k l0_2).bind fun t219 => ((laws_toLeaseS.f k l0_3).bind fun t222 => (some (t213, t216, t219, t222)))))) = some (r1, r2, r3, r4) := h
  clear h
  replace H := Option.bind_eq_some_iff.mp H
  obtain ⟨t213, A20, H⟩ := H
  replace H : ((laws_toListenS.f k l0_1).bind fun t216 => ((laws_toQueueS.f k l0_2).bind fun t219 => ((laws_toLeaseS.f k l0_3).bind fun t222 => (some (t213, t216, t219, t222))))) = some (r1, r2, r3, r4) := H
  have A2 := Aside0.mk A20
  clear A20
  replace H := Option.bind_eq_some_iff.mp H
  obtain ⟨t216, A30, H⟩ := H
  replace H : ((laws_toQueueS.f k l0_2).bind fun t219 => ((laws_toLeaseS.f k l0_3).bind fun t222 => (some (t213, t216, t219, t222)))) = some (r1, r2, r3, r4) := H
  have A3 := Aside0.mk A30
  clear A30
  replace H := Option.bind_eq_some_iff.mp H
  obtain ⟨t219, A40, H⟩ := H
  replace H : ((laws_toLeaseS.f k l0_3).bind fun t222 => (some (t213, t216, t219, t222))) = some (r1, r2, r3, r4) := H
  have A4 := Aside0.mk A40
  clear A40
  replace H := Option.bind_eq_some_iff.mp H
  obtain ⟨t222, A50, H⟩ := H
  replace H : (some (t213, t216, t219, t222)) = some (r1, r2, r3, r4) := H
  have A5 := Aside0.mk A50
  clear A50
  simp only [Option.some.injEq, Prod.mk.injEq] at H
  obtain ⟨rfl, rfl, rfl, rfl⟩ := H
  go_enter Try.func16, Try.ntmps16
  go_wp2_with (first | ((with_reducible refine gate_dst (N := 1) rfl ?_); refine box_event ?hg (N := 1) ?hd (cs := #[.slice A0_0 l0_0.length c0_0, .slice A0_1 l0_1.length c0_1, .slice A0_2 l0_2.length c0_2, .slice A0_3 l0_3.length c0_3]) (t := 40) ?hr ?_; (case hd => rfl); (case hg => rfl); (case hr => first | (go_simp; done) | (go_simp; rfl)); intro gb210 hg w6 hbox hb; have n0_ := Aside0.mk (below_step (by repeat (first | (with_reducible first | exact HB.out | apply below_alloc | apply pw_below_drewN | apply below_drew1) | exact HB.out)) hb); have n1_ := Aside0.mk (hbox); have n2_ := Aside0.mk ((by rw [hg]; exact (below_size (by repeat (first | (with_reducible first | exact HB.out | apply below_alloc | apply pw_below_drewN | apply below_drew1) | exact HB.out))) : w.heap.size ≤ gb210)); have n3_ := Aside0.mk ((by rw [hg]; exact (below_size (by repeat (first | (with_reducible first | exact HB.out | apply below_alloc | apply pw_below_drewN | apply below_drew1) | exact HB.out))) : w.heap.size ≤ gb210)); clear HB; have HB := n0_; have BK210 := n1_; have GW210 := n2_; have GE210 := n3_; clear n0_ n1_ n2_ n3_; clear hb hbox hg) | ((with_reducible refine gate_dst (N := 2) rfl ?_); refine box_event ?hg (N := 2) ?hd (cs := #[.slice none 0 0, .slice none 0 0, .slice none 0 0, .slice none 0 0]) (t := 48) ?hr ?_; (case hd => rfl); (case hg => rfl); (case hr => first | (go_simp; done) | (go_simp; rfl)); intro gb211 hg w7 hbox hb; have n0_ := Aside0.mk (blk_below (g := gb210) (o := .cells #[.slice A0_0 l0_0.length c0_0, .slice A0_1 l0_1.length c0_1, .slice A0_2 l0_2.length c0_2, .slice A0_3 l0_3.length c0_3] 40 (0, 0)) (by (with_reducible repeat (first | refine blk_drewN ?_ _ | refine blk_drew ?_ | refine blk_alloc ?_ _)); exact BK210.out) hb); have n1_ := Aside0.mk (below_step (by repeat (first | (with_reducible first | exact HB.out | apply below_alloc | apply pw_below_drewN | apply below_drew1 | refine below_set ?_ GE210.out) | exact HB.out)) hb); have n2_ := Aside0.mk (hbox); have n3_ := Aside0.mk ((by rw [hg]; exact (below_size (by repeat (first | (with_reducible first | exact HB.out | apply below_alloc | apply pw_below_drewN | apply below_drew1 | refine below_set ?_ GE210.out) | exact HB.out))) : w.heap.size ≤ gb211)); have n4_ := Aside0.mk ((by rw [hg]; exact (below_size (by repeat (first | (with_reducible first | exact HB.out | apply below_alloc | apply pw_below_drewN | apply below_drew1 | refine below_set ?_ GE210.out) | exact HB.out))) : w.heap.size ≤ gb211)); have n5_ := Aside0.mk ((by rw [hg]; exact Nat.ne_of_lt (blk_lt (g := gb210) (o := .cells #[.slice A0_0 l0_0.length c0_0, .slice A0_1 l0_1.length c0_1, .slice A0_2 l0_2.length c0_2, .slice A0_3 l0_3.length c0_3] 40 (0, 0)) (by (with_reducible repeat (first | refine blk_drewN ?_ _ | refine blk_drew ?_ | refine blk_alloc ?_ _)); exact BK210.out)) : gb210 ≠ gb211)); have n6_ := Aside0.mk ((by rw [hg]; exact Nat.ne_of_gt (blk_lt (g := gb210) (o := .cells #[.slice A0_0 l0_0.length c0_0, .slice A0_1 l0_1.length c0_1, .slice A0_2 l0_2.length c0_2, .slice A0_3 l0_3.length c0_3] 40 (0, 0)) (by (with_reducible repeat (first | refine blk_drewN ?_ _ | refine blk_drew ?_ | refine blk_alloc ?_ _)); exact BK210.out)) : gb211 ≠ gb210)); clear BK210; clear HB; have BK210 := n0_; have HB := n1_; have BK211 := n2_; have GW211 := n3_; have GE211 := n4_; have NB210_211 := n5_; have NB211_210 := n6_; clear n0_ n1_ n2_ n3_ n4_ n5_ n6_; clear hb hbox hg) | ((with_reducible refine gate_dst (N := 3) rfl ?_); refine box_event ?hg (N := 3) ?hd (cs := #[.slice none 0 0, .slice none 0 0, .slice none 0 0, .slice none 0 0]) (t := 48) ?hr ?_; (case hd => rfl); (case hg => rfl); (case hr => first | (go_simp; done) | (go_simp; rfl)); intro gb212 hg w8 hbox hb; have n0_ := Aside0.mk (blk_below (g := gb210) (o := .cells #[.slice A0_0 l0_0.length c0_0, .slice A0_1 l0_1.length c0_1, .slice A0_2 l0_2.length c0_2, .slice A0_3 l0_3.length c0_3] 40 (0, 0)) (by (with_reducible repeat (first | refine blk_drewN ?_ _ | refine blk_drew ?_ | refine blk_alloc ?_ _)); exact BK210.out) hb); have n1_ := Aside0.mk (blk_below (g := gb211) (o := .cells #[.slice none 0 0, .slice none 0 0, .slice none 0 0, .slice none 0 0] 48 (0, 0)) (by (with_reducible repeat (first | refine blk_drewN ?_ _ | refine blk_drew ?_ | refine blk_alloc ?_ _)); exact BK211.out) hb); have n2_ := Aside0.mk (below_step (by repeat (first | (with_reducible first | exact HB.out | apply below_alloc | apply pw_below_drewN | apply below_drew1 | refine below_set ?_ GE210.out | refine below_set ?_ GE211.out) | exact HB.out)) hb); have n3_ := Aside0.mk (hbox); have n4_ := Aside0.mk ((by rw [hg]; exact (below_size (by repeat (first | (with_reducible first | exact HB.out | apply below_alloc | apply pw_below_drewN | apply below_drew1 | refine below_set ?_ GE210.out | refine below_set ?_ GE211.out) | exact HB.out))) : w.heap.size ≤ gb212)); have n5_ := Aside0.mk ((by rw [hg]; exact (below_size (by repeat (first | (with_reducible first | exact HB.out | apply below_alloc | apply pw_below_drewN | apply below_drew1 | refine below_set ?_ GE210.out | refine below_set ?_ GE211.out) | exact HB.out))) : w.heap.size ≤ gb212)); have n6_ := Aside0.mk ((by rw [hg]; exact Nat.ne_of_lt (blk_lt (g := gb210) (o := .cells #[.slice A0_0 l0_0.length c0_0, .slice A0_1 l0_1.length c0_1, .slice A0_2 l0_2.length c0_2, .slice A0_3 l0_3.length c0_3] 40 (0, 0)) (by (with_reducible repeat (first | refine blk_drewN ?_ _ | refine blk_drew ?_ | refine blk_alloc ?_ _)); exact BK210.out)) : gb210 ≠ gb212)); have n7_ := Aside0.mk ((by rw [hg]; exact Nat.ne_of_gt (blk_lt (g := gb210) (o := .cells #[.slice A0_0 l0_0.length c0_0, .slice A0_1 l0_1.length c0_1, .slice A0_2 l0_2.length c0_2, .slice A0_3 l0_3.length c0_3] 40 (0, 0)) (by (with_reducible repeat (first | refine blk_drewN ?_ _ | refine blk_drew ?_ | refine blk_alloc ?_ _)); exact BK210.out)) : gb212 ≠ gb210)); have n8_ := Aside0.mk ((by rw [hg]; exact Nat.ne_of_lt (blk_lt (g := gb211) (o := .cells #[.slice none 0 0, .slice none 0 0, .slice none 0 0, .slice none 0 0] 48 (0, 0)) (by (with_reducible repeat (first | refine blk_drewN ?_ _ | refine blk_drew ?_ | refine blk_alloc ?_ _)); exact BK211.out)) : gb211 ≠ gb212)); have n9_ := Aside0.mk ((by rw [hg]; exact Nat.ne_of_gt (blk_lt (g := gb211) (o := .cells #[.slice none 0 0, .slice none 0 0, .slice none 0 0, .slice none 0 0] 48 (0, 0)) (by (with_reducible repeat (first | refine blk_drewN ?_ _ | refine blk_drew ?_ | refine blk_alloc ?_ _)); exact BK211.out)) : gb212 ≠ gb211)); clear BK210; clear BK211; clear HB; have BK210 := n0_; have BK211 := n1_; have HB := n2_; have BK212 := n3_; have GW212 := n4_; have GE212 := n5_; have NB210_212 := n6_; have NB212_210 := n7_; have NB211_212 := n8_; have NB212_211 := n9_; clear n0_ n1_ n2_ n3_ n4_ n5_ n6_ n7_ n8_ n9_; clear hb hbox hg; have hnb9 := NB210_211.out; have hnc9 := NB211_210.out; have hnb10 := NB210_212.out; have hnc10 := NB212_210.out; have hcz11_0 : w8.cell? ⟨gb210, 0, none⟩ = some (.slice A0_0 l0_0.length c0_0) := (blk_cell BK210.out 0).trans rfl; have hcz11_1 : w8.cell? ⟨gb210, 1, none⟩ = some (.slice A0_1 l0_1.length c0_1) := (blk_cell BK210.out 1).trans rfl; have hcz11_2 : w8.cell? ⟨gb210, 2, none⟩ = some (.slice A0_2 l0_2.length c0_2) := (blk_cell BK210.out 2).trans rfl; have hcz11_3 : w8.cell? ⟨gb210, 3, none⟩ = some (.slice A0_3 l0_3.length c0_3) := (blk_cell BK210.out 3).trans rfl; have hfz11_0 := blk_frozen BK210.out 0; have hfz11_1 := blk_frozen BK210.out 1; have hfz11_2 := blk_frozen BK210.out 2; have hfz11_3 := blk_frozen BK210.out 3) | ((with_reducible refine gate_callee (f := 73) rfl ?_); refine goesL_ (some 6) rfl rfl Try.func73 (by kernel_rfl) rfl #[.slice A0_0 l0_0.length c0_0] rfl (by (try simp only [List.map_toArray, List.map_cons, List.map_nil]); first | done | rfl | (simp only [List.length_drop, List.length_take]; rfl)) ?_; (with_reducible refine (laws_toSessionS.calls k _ _ l0_0 t213 _ ?side1 ?side2 A2.out).mono ?_); (case side1 => repeat (first | exact (Kd.C_below HR0_0.out HB.out) | (with_reducible refine Kd.C_alloc ?_ _) | (with_reducible refine Kd.C_drewN ?_ _) | (with_reducible refine Kd.C_drew ?_))); (case side2 => exact HC0_0.out); rintro e w12 ⟨v214, rfl, ho0, hb⟩; refine ⟨_, rfl, ?_⟩; have n0_ := Aside0.mk (Kd.S_lower ho0 (below_size (by repeat (first | (with_reducible first | exact HB.out | apply below_alloc | apply pw_below_drewN | apply below_drew1 | refine below_set ?_ GE210.out | refine below_set ?_ GE211.out | refine below_set ?_ GE212.out) | exact HB.out)))); have n1_ := Aside0.mk (blk_below (g := gb210) (o := .cells #[.slice A0_0 l0_0.length c0_0, .slice A0_1 l0_1.length c0_1, .slice A0_2 l0_2.length c0_2, .slice A0_3 l0_3.length c0_3] 40 (0, 0)) (by (with_reducible repeat (first | refine blk_drewN ?_ _ | refine blk_drew ?_ | refine blk_alloc ?_ _)); exact BK210.out) hb); have n2_ := Aside0.mk (blk_below (g := gb211) (o := .cells #[.slice none 0 0, .slice none 0 0, .slice none 0 0, .slice none 0 0] 48 (0, 0)) (by (with_reducible repeat (first | refine blk_drewN ?_ _ | refine blk_drew ?_ | refine blk_alloc ?_ _)); exact BK211.out) hb); have n3_ := Aside0.mk (blk_below (g := gb212) (o := .cells #[.slice none 0 0, .slice none 0 0, .slice none 0 0, .slice none 0 0] 48 (0, 0)) (by (with_reducible repeat (first | refine blk_drewN ?_ _ | refine blk_drew ?_ | refine blk_alloc ?_ _)); exact BK212.out) hb); have n4_ := Aside0.mk (below_step (by repeat (first | (with_reducible first | exact HB.out | apply below_alloc | apply pw_below_drewN | apply below_drew1 | refine below_set ?_ GE210.out | refine below_set ?_ GE211.out | refine below_set ?_ GE212.out) | exact HB.out)) hb); clear BK210; clear BK211; clear BK212; clear HB; have HO215 := n0_; have BK210 := n1_; have BK211 := n2_; have BK212 := n3_; have HB := n4_; clear n0_ n1_ n2_ n3_ n4_; (try clear hb); (try clear hb2); (try clear hk); (try clear hi); (try clear ho0); obtain ⟨Ao13, co13, eo13⟩ := Kd.S_slice HO215.out; subst eo13; have hnb14 := NB212_211.out; have hnc14 := NB211_212.out; have hcz15_0 : w12.cell? ⟨gb212, 0, none⟩ = some (.slice none 0 0) := (blk_cell BK212.out 0).trans rfl; have hcz15_1 : w12.cell? ⟨gb212, 1, none⟩ = some (.slice none 0 0) := (blk_cell BK212.out 1).trans rfl; have hcz15_2 : w12.cell? ⟨gb212, 2, none⟩ = some (.slice none 0 0) := (blk_cell BK212.out 2).trans rfl; have hcz15_3 : w12.cell? ⟨gb212, 3, none⟩ = some (.slice none 0 0) := (blk_cell BK212.out 3).trans rfl; have hfz15_0 := blk_frozen BK212.out 0; have hfz15_1 := blk_frozen BK212.out 1; have hfz15_2 := blk_frozen BK212.out 2; have hfz15_3 := blk_frozen BK212.out 3; have hcz16_0 : w12.cell? ⟨gb210, 0, none⟩ = some (.slice A0_0 l0_0.length c0_0) := (blk_cell BK210.out 0).trans rfl; have hcz16_1 : w12.cell? ⟨gb210, 1, none⟩ = some (.slice A0_1 l0_1.length c0_1) := (blk_cell BK210.out 1).trans rfl; have hcz16_2 : w12.cell? ⟨gb210, 2, none⟩ = some (.slice A0_2 l0_2.length c0_2) := (blk_cell BK210.out 2).trans rfl; have hcz16_3 : w12.cell? ⟨gb210, 3, none⟩ = some (.slice A0_3 l0_3.length c0_3) := (blk_cell BK210.out 3).trans rfl; have hfz16_0 := blk_frozen BK210.out 0; have hfz16_1 := blk_frozen BK210.out 1; have hfz16_2 := blk_frozen BK210.out 2; have hfz16_3 := blk_frozen BK210.out 3) | ((with_reducible refine gate_callee (f := 74) rfl ?_); refine goesL_ (some 10) rfl rfl Try.func74 (by kernel_rfl) rfl #[.slice A0_1 l0_1.length c0_1] rfl (by (try simp only [List.map_toArray, List.map_cons, List.map_nil]); first | done | rfl | (simp only [List.length_drop, List.length_take]; rfl)) ?_; (with_reducible refine (laws_toListenS.calls k _ _ l0_1 t216 _ ?side1 ?side2 A3.out).mono ?_); (case side1 => exact Kd.C_below HR0_1.out (by repeat (first | (with_reducible first | exact HB.out | apply below_alloc | apply pw_below_drewN | apply below_drew1 | refine below_set ?_ GE210.out | refine below_set ?_ GE211.out | refine below_set ?_ GE212.out) | exact HB.out))); (case side2 => exact HC0_1.out); rintro e w17 ⟨v217, rfl, ho0, hb⟩; refine ⟨_, rfl, ?_⟩; have n0_ := Aside0.mk (Kd.S_below (by (with_reducible repeat (first | apply Kd.S_alloc | apply Kd.S_drewN | apply Kd.S_drew)); exact (Kd.S_mono (Kd.S_far (p := ⟨gb212, 0, none⟩) (Kd.S_types HO215.out BK212.out (by decide)) (fun _ hk => hk.2) (.slice Ao13 t213.length co13)) (fun _ h_ => h_.1))) hb); have n1_ := Aside0.mk (Kd.R_lower ho0 (below_size (by repeat (first | (with_reducible first | exact HB.out | apply below_alloc | apply pw_below_drewN | apply below_drew1 | refine below_set ?_ GE210.out | refine below_set ?_ GE211.out | refine below_set ?_ GE212.out) | exact HB.out)))); have n2_ := Aside0.mk (blk_below (g := gb210) (o := .cells #[.slice A0_0 l0_0.length c0_0, .slice A0_1 l0_1.length c0_1, .slice A0_2 l0_2.length c0_2, .slice A0_3 l0_3.length c0_3] 40 (0, 0)) (by (with_reducible repeat (first | refine blk_drewN ?_ _ | refine blk_drew ?_ | refine blk_alloc ?_ _)); refine blk_far ?_ NB210_212.out _; (with_reducible repeat (first | refine blk_drewN ?_ _ | refine blk_drew ?_ | refine blk_alloc ?_ _)); exact BK210.out) hb); have n3_ := Aside0.mk (blk_below (g := gb211) (o := .cells #[.slice none 0 0, .slice none 0 0, .slice none 0 0, .slice none 0 0] 48 (0, 0)) (by (with_reducible repeat (first | refine blk_drewN ?_ _ | refine blk_drew ?_ | refine blk_alloc ?_ _)); refine blk_far ?_ NB211_212.out _; (with_reducible repeat (first | refine blk_drewN ?_ _ | refine blk_drew ?_ | refine blk_alloc ?_ _)); exact BK211.out) hb); have n4_ := Aside0.mk (blk_below (g := gb212) (o := .cells #[.slice Ao13 t213.length co13, .slice none 0 0, .slice none 0 0, .slice none 0 0] 48 (0, 0)) (by (with_reducible repeat (first | refine blk_drewN ?_ _ | refine blk_drew ?_ | refine blk_alloc ?_ _)); refine blk_put (cs := #[.slice none 0 0, .slice none 0 0, .slice none 0 0, .slice none 0 0]) ?_ 0 _ rfl; (with_reducible repeat (first | refine blk_drewN ?_ _ | refine blk_drew ?_ | refine blk_alloc ?_ _)); exact BK212.out) hb); have n5_ := Aside0.mk (below_step (by repeat (first | (with_reducible first | exact HB.out | apply below_alloc | apply pw_below_drewN | apply below_drew1 | refine below_set ?_ GE210.out | refine below_set ?_ GE211.out | refine below_set ?_ GE212.out) | exact HB.out)) hb); clear HO215; clear BK210; clear BK211; clear BK212; clear HB; have HO215 := n0_; have HO218 := n1_; have BK210 := n2_; have BK211 := n3_; have BK212 := n4_; have HB := n5_; clear n0_ n1_ n2_ n3_ n4_ n5_; (try clear hb); (try clear hb2); (try clear hk); (try clear hi); (try clear ho0); obtain ⟨Ao18, co18, eo18⟩ := Kd.R_slice HO218.out; subst eo18; have hcz19_0 : w17.cell? ⟨gb212, 0, none⟩ = some (.slice Ao13 t213.length co13) := (blk_cell BK212.out 0).trans rfl; have hcz19_1 : w17.cell? ⟨gb212, 1, none⟩ = some (.slice none 0 0) := (blk_cell BK212.out 1).trans rfl; have hcz19_2 : w17.cell? ⟨gb212, 2, none⟩ = some (.slice none 0 0) := (blk_cell BK212.out 2).trans rfl; have hcz19_3 : w17.cell? ⟨gb212, 3, none⟩ = some (.slice none 0 0) := (blk_cell BK212.out 3).trans rfl; have hfz19_0 := blk_frozen BK212.out 0; have hfz19_1 := blk_frozen BK212.out 1; have hfz19_2 := blk_frozen BK212.out 2; have hfz19_3 := blk_frozen BK212.out 3; have hcz20_0 : w17.cell? ⟨gb210, 0, none⟩ = some (.slice A0_0 l0_0.length c0_0) := (blk_cell BK210.out 0).trans rfl; have hcz20_1 : w17.cell? ⟨gb210, 1, none⟩ = some (.slice A0_1 l0_1.length c0_1) := (blk_cell BK210.out 1).trans rfl; have hcz20_2 : w17.cell? ⟨gb210, 2, none⟩ = some (.slice A0_2 l0_2.length c0_2) := (blk_cell BK210.out 2).trans rfl; have hcz20_3 : w17.cell? ⟨gb210, 3, none⟩ = some (.slice A0_3 l0_3.length c0_3) := (blk_cell BK210.out 3).trans rfl; have hfz20_0 := blk_frozen BK210.out 0; have hfz20_1 := blk_frozen BK210.out 1; have hfz20_2 := blk_frozen BK210.out 2; have hfz20_3 := blk_frozen BK210.out 3) | ((with_reducible refine gate_callee (f := 75) rfl ?_); refine goesL_ (some 14) rfl rfl Try.func75 (by kernel_rfl) rfl #[.slice A0_2 l0_2.length c0_2] rfl (by (try simp only [List.map_toArray, List.map_cons, List.map_nil]); first | done | rfl | (simp only [List.length_drop, List.length_take]; rfl)) ?_; (with_reducible refine (laws_toQueueS.calls k _ _ l0_2 t219 _ ?side1 ?side2 A4.out).mono ?_); (case side1 => exact Kd.C_below HR0_2.out (by repeat (first | (with_reducible first | exact HB.out | apply below_alloc | apply pw_below_drewN | apply below_drew1 | refine below_set ?_ GE210.out | refine below_set ?_ GE211.out | refine below_set ?_ GE212.out) | exact HB.out))); (case side2 => exact HC0_2.out); rintro e w21 ⟨v220, rfl, ho0, hb⟩; refine ⟨_, rfl, ?_⟩; have n0_ := Aside0.mk (Kd.S_below (by (with_reducible repeat (first | apply Kd.S_alloc | apply Kd.S_drewN | apply Kd.S_drew)); exact (Kd.S_mono (Kd.S_far (p := ⟨gb212, 1, none⟩) (Kd.S_types HO215.out BK212.out (by decide)) (fun _ hk => hk.2) (.slice Ao18 t216.length co18)) (fun _ h_ => h_.1))) hb); have n1_ := Aside0.mk (Kd.R_below (by (with_reducible repeat (first | apply Kd.R_alloc | apply Kd.R_drewN | apply Kd.R_drew)); exact (Kd.R_mono (Kd.R_far (p := ⟨gb212, 1, none⟩) (Kd.R_types HO218.out BK212.out (by decide)) (fun _ hk => hk.2) (.slice Ao18 t216.length co18)) (fun _ h_ => h_.1))) hb); have n2_ := Aside0.mk (Kd.S_lower ho0 (below_size (by repeat (first | (with_reducible first | exact HB.out | apply below_alloc | apply pw_below_drewN | apply below_drew1 | refine below_set ?_ GE210.out | refine below_set ?_ GE211.out | refine below_set ?_ GE212.out) | exact HB.out)))); have n3_ := Aside0.mk (blk_below (g := gb210) (o := .cells #[.slice A0_0 l0_0.length c0_0, .slice A0_1 l0_1.length c0_1, .slice A0_2 l0_2.length c0_2, .slice A0_3 l0_3.length c0_3] 40 (0, 0)) (by (with_reducible repeat (first | refine blk_drewN ?_ _ | refine blk_drew ?_ | refine blk_alloc ?_ _)); refine blk_far ?_ NB210_212.out _; (with_reducible repeat (first | refine blk_drewN ?_ _ | refine blk_drew ?_ | refine blk_alloc ?_ _)); exact BK210.out) hb); have n4_ := Aside0.mk (blk_below (g := gb211) (o := .cells #[.slice none 0 0, .slice none 0 0, .slice none 0 0, .slice none 0 0] 48 (0, 0)) (by (with_reducible repeat (first | refine blk_drewN ?_ _ | refine blk_drew ?_ | refine blk_alloc ?_ _)); refine blk_far ?_ NB211_212.out _; (with_reducible repeat (first | refine blk_drewN ?_ _ | refine blk_drew ?_ | refine blk_alloc ?_ _)); exact BK211.out) hb); have n5_ := Aside0.mk (blk_below (g := gb212) (o := .cells #[.slice Ao13 t213.length co13, .slice Ao18 t216.length co18, .slice none 0 0, .slice none 0 0] 48 (0, 0)) (by (with_reducible repeat (first | refine blk_drewN ?_ _ | refine blk_drew ?_ | refine blk_alloc ?_ _)); refine blk_put (cs := #[.slice Ao13 t213.length co13, .slice none 0 0, .slice none 0 0, .slice none 0 0]) ?_ 1 _ rfl; (with_reducible repeat (first | refine blk_drewN ?_ _ | refine blk_drew ?_ | refine blk_alloc ?_ _)); exact BK212.out) hb); have n6_ := Aside0.mk (below_step (by repeat (first | (with_reducible first | exact HB.out | apply below_alloc | apply pw_below_drewN | apply below_drew1 | refine below_set ?_ GE210.out | refine below_set ?_ GE211.out | refine below_set ?_ GE212.out) | exact HB.out)) hb); clear HO215; clear HO218; clear BK210; clear BK211; clear BK212; clear HB; have HO215 := n0_; have HO218 := n1_; have HO221 := n2_; have BK210 := n3_; have BK211 := n4_; have BK212 := n5_; have HB := n6_; clear n0_ n1_ n2_ n3_ n4_ n5_ n6_; (try clear hb); (try clear hb2); (try clear hk); (try clear hi); (try clear ho0); obtain ⟨Ao22, co22, eo22⟩ := Kd.S_slice HO221.out; subst eo22; have hcz23_0 : w21.cell? ⟨gb212, 0, none⟩ = some (.slice Ao13 t213.length co13) := (blk_cell BK212.out 0).trans rfl; have hcz23_1 : w21.cell? ⟨gb212, 1, none⟩ = some (.slice Ao18 t216.length co18) := (blk_cell BK212.out 1).trans rfl; have hcz23_2 : w21.cell? ⟨gb212, 2, none⟩ = some (.slice none 0 0) := (blk_cell BK212.out 2).trans rfl; have hcz23_3 : w21.cell? ⟨gb212, 3, none⟩ = some (.slice none 0 0) := (blk_cell BK212.out 3).trans rfl; have hfz23_0 := blk_frozen BK212.out 0; have hfz23_1 := blk_frozen BK212.out 1; have hfz23_2 := blk_frozen BK212.out 2; have hfz23_3 := blk_frozen BK212.out 3; have hcz24_0 : w21.cell? ⟨gb210, 0, none⟩ = some (.slice A0_0 l0_0.length c0_0) := (blk_cell BK210.out 0).trans rfl; have hcz24_1 : w21.cell? ⟨gb210, 1, none⟩ = some (.slice A0_1 l0_1.length c0_1) := (blk_cell BK210.out 1).trans rfl; have hcz24_2 : w21.cell? ⟨gb210, 2, none⟩ = some (.slice A0_2 l0_2.length c0_2) := (blk_cell BK210.out 2).trans rfl; have hcz24_3 : w21.cell? ⟨gb210, 3, none⟩ = some (.slice A0_3 l0_3.length c0_3) := (blk_cell BK210.out 3).trans rfl; have hfz24_0 := blk_frozen BK210.out 0; have hfz24_1 := blk_frozen BK210.out 1; have hfz24_2 := blk_frozen BK210.out 2; have hfz24_3 := blk_frozen BK210.out 3) | ((with_reducible refine gate_callee (f := 76) rfl ?_); refine goesL_ (some 18) rfl rfl Try.func76 (by kernel_rfl) rfl #[.slice A0_3 l0_3.length c0_3] rfl (by (try simp only [List.map_toArray, List.map_cons, List.map_nil]); first | done | rfl | (simp only [List.length_drop, List.length_take]; rfl)) ?_; (with_reducible refine (laws_toLeaseS.calls k _ _ l0_3 t222 _ ?side1 ?side2 A5.out).mono ?_); (case side1 => exact Kd.C_below HR0_3.out (by repeat (first | (with_reducible first | exact HB.out | apply below_alloc | apply pw_below_drewN | apply below_drew1 | refine below_set ?_ GE210.out | refine below_set ?_ GE211.out | refine below_set ?_ GE212.out) | exact HB.out))); (case side2 => exact HC0_3.out); rintro e w25 ⟨v223, rfl, ho0, hb⟩; refine ⟨_, rfl, ?_⟩; have n0_ := Aside0.mk (Kd.S_below (by (with_reducible repeat (first | apply Kd.S_alloc | apply Kd.S_drewN | apply Kd.S_drew)); exact (Kd.S_mono (Kd.S_far (p := ⟨gb212, 2, none⟩) (Kd.S_types HO215.out BK212.out (by decide)) (fun _ hk => hk.2) (.slice Ao22 t219.length co22)) (fun _ h_ => h_.1))) hb); have n1_ := Aside0.mk (Kd.R_below (by (with_reducible repeat (first | apply Kd.R_alloc | apply Kd.R_drewN | apply Kd.R_drew)); exact (Kd.R_mono (Kd.R_far (p := ⟨gb212, 2, none⟩) (Kd.R_types HO218.out BK212.out (by decide)) (fun _ hk => hk.2) (.slice Ao22 t219.length co22)) (fun _ h_ => h_.1))) hb); have n2_ := Aside0.mk (Kd.S_below (by (with_reducible repeat (first | apply Kd.S_alloc | apply Kd.S_drewN | apply Kd.S_drew)); exact (Kd.S_mono (Kd.S_far (p := ⟨gb212, 2, none⟩) (Kd.S_types HO221.out BK212.out (by decide)) (fun _ hk => hk.2) (.slice Ao22 t219.length co22)) (fun _ h_ => h_.1))) hb); have n3_ := Aside0.mk (Kd.R_lower ho0 (below_size (by repeat (first | (with_reducible first | exact HB.out | apply below_alloc | apply pw_below_drewN | apply below_drew1 | refine below_set ?_ GE210.out | refine below_set ?_ GE211.out | refine below_set ?_ GE212.out) | exact HB.out)))); have n4_ := Aside0.mk (blk_below (g := gb210) (o := .cells #[.slice A0_0 l0_0.length c0_0, .slice A0_1 l0_1.length c0_1, .slice A0_2 l0_2.length c0_2, .slice A0_3 l0_3.length c0_3] 40 (0, 0)) (by (with_reducible repeat (first | refine blk_drewN ?_ _ | refine blk_drew ?_ | refine blk_alloc ?_ _)); refine blk_far ?_ NB210_212.out _; (with_reducible repeat (first | refine blk_drewN ?_ _ | refine blk_drew ?_ | refine blk_alloc ?_ _)); exact BK210.out) hb); have n5_ := Aside0.mk (blk_below (g := gb211) (o := .cells #[.slice none 0 0, .slice none 0 0, .slice none 0 0, .slice none 0 0] 48 (0, 0)) (by (with_reducible repeat (first | refine blk_drewN ?_ _ | refine blk_drew ?_ | refine blk_alloc ?_ _)); refine blk_far ?_ NB211_212.out _; (with_reducible repeat (first | refine blk_drewN ?_ _ | refine blk_drew ?_ | refine blk_alloc ?_ _)); exact BK211.out) hb); have n6_ := Aside0.mk (blk_below (g := gb212) (o := .cells #[.slice Ao13 t213.length co13, .slice Ao18 t216.length co18, .slice Ao22 t219.length co22, .slice none 0 0] 48 (0, 0)) (by (with_reducible repeat (first | refine blk_drewN ?_ _ | refine blk_drew ?_ | refine blk_alloc ?_ _)); refine blk_put (cs := #[.slice Ao13 t213.length co13, .slice Ao18 t216.length co18, .slice none 0 0, .slice none 0 0]) ?_ 2 _ rfl; (with_reducible repeat (first | refine blk_drewN ?_ _ | refine blk_drew ?_ | refine blk_alloc ?_ _)); exact BK212.out) hb); have n7_ := Aside0.mk (below_step (by repeat (first | (with_reducible first | exact HB.out | apply below_alloc | apply pw_below_drewN | apply below_drew1 | refine below_set ?_ GE210.out | refine below_set ?_ GE211.out | refine below_set ?_ GE212.out) | exact HB.out)) hb); clear HO215; clear HO218; clear HO221; clear BK210; clear BK211; clear BK212; clear HB; have HO215 := n0_; have HO218 := n1_; have HO221 := n2_; have HO224 := n3_; have BK210 := n4_; have BK211 := n5_; have BK212 := n6_; have HB := n7_; clear n0_ n1_ n2_ n3_ n4_ n5_ n6_ n7_; (try clear hb); (try clear hb2); (try clear hk); (try clear hi); (try clear ho0); obtain ⟨Ao26, co26, eo26⟩ := Kd.R_slice HO224.out; subst eo26; have hcz27_0 : w25.cell? ⟨gb212, 0, none⟩ = some (.slice Ao13 t213.length co13) := (blk_cell BK212.out 0).trans rfl; have hcz27_1 : w25.cell? ⟨gb212, 1, none⟩ = some (.slice Ao18 t216.length co18) := (blk_cell BK212.out 1).trans rfl; have hcz27_2 : w25.cell? ⟨gb212, 2, none⟩ = some (.slice Ao22 t219.length co22) := (blk_cell BK212.out 2).trans rfl; have hcz27_3 : w25.cell? ⟨gb212, 3, none⟩ = some (.slice none 0 0) := (blk_cell BK212.out 3).trans rfl; have hfz27_0 := blk_frozen BK212.out 0; have hfz27_1 := blk_frozen BK212.out 1; have hfz27_2 := blk_frozen BK212.out 2; have hfz27_3 := blk_frozen BK212.out 3; have hcz28_0 : w25.cell? ⟨gb211, 0, none⟩ = some (.slice none 0 0) := (blk_cell BK211.out 0).trans rfl; have hcz28_1 : w25.cell? ⟨gb211, 1, none⟩ = some (.slice none 0 0) := (blk_cell BK211.out 1).trans rfl; have hcz28_2 : w25.cell? ⟨gb211, 2, none⟩ = some (.slice none 0 0) := (blk_cell BK211.out 2).trans rfl; have hcz28_3 : w25.cell? ⟨gb211, 3, none⟩ = some (.slice none 0 0) := (blk_cell BK211.out 3).trans rfl; have hfz28_0 := blk_frozen BK211.out 0; have hfz28_1 := blk_frozen BK211.out 1; have hfz28_2 := blk_frozen BK211.out 2; have hfz28_3 := blk_frozen BK211.out 3))
  refine bodyPost_ret (results_cell_row rfl _ _ gb211 48 #[.slice Ao13 t213.length co13, .slice Ao18 t216.length co18, .slice Ao22 t219.length co22, .slice Ao26 t222.length co26] (0, 0) _ rfl (by (with_reducible repeat (first | refine blk_drewN ?_ _ | refine blk_drew ?_ | refine blk_alloc ?_ _)); refine blk_put (cs := #[.slice Ao13 t213.length co13, .slice Ao18 t216.length co18, .slice Ao22 t219.length co22, .slice none 0 0]) ?_ 3 _ rfl; (with_reducible repeat (first | refine blk_drewN ?_ _ | refine blk_drew ?_ | refine blk_alloc ?_ _)); refine blk_put (cs := #[.slice Ao13 t213.length co13, .slice Ao18 t216.length co18, .slice none 0 0, .slice none 0 0]) ?_ 2 _ rfl; (with_reducible repeat (first | refine blk_drewN ?_ _ | refine blk_drew ?_ | refine blk_alloc ?_ _)); refine blk_put (cs := #[.slice Ao13 t213.length co13, .slice none 0 0, .slice none 0 0, .slice none 0 0]) ?_ 1 _ rfl; (with_reducible repeat (first | refine blk_drewN ?_ _ | refine blk_drew ?_ | refine blk_alloc ?_ _)); refine blk_put (cs := #[.slice none 0 0, .slice none 0 0, .slice none 0 0, .slice none 0 0]) ?_ 0 _ rfl; (with_reducible repeat (first | refine blk_drewN ?_ _ | refine blk_drew ?_ | refine blk_alloc ?_ _)); refine blk_far ?_ NB211_212.out _; (with_reducible repeat (first | refine blk_drewN ?_ _ | refine blk_drew ?_ | refine blk_alloc ?_ _)); exact BK211.out) Try.underlying48 rfl (by kernel_rfl)) rfl ?_
  exact ⟨_, _, _, _, by first | rfl | (simp [errW_none, errW_some] <;> rfl) | (simp [*, errW_none, errW_some] <;> rfl), by (with_reducible repeat (first | apply Kd.S_alloc | apply Kd.S_drewN | apply Kd.S_drew)); exact Kd.S_mono (Kd.S_far (p := ⟨gb211, 3, none⟩) (Kd.S_far (p := ⟨gb211, 2, none⟩) (Kd.S_far (p := ⟨gb211, 1, none⟩) (Kd.S_far (p := ⟨gb211, 0, none⟩) (Kd.S_far (p := ⟨gb212, 3, none⟩) (Kd.S_types (Kd.S_types HO215.out BK212.out (by decide)) BK211.out (by decide)) (fun _ hk => hk.1.2) (.slice Ao26 t222.length co26)) (fun _ hk => hk.2) (.slice Ao13 t213.length co13)) (fun _ hk => hk.2) (.slice Ao18 t216.length co18)) (fun _ hk => hk.2) (.slice Ao22 t219.length co22)) (fun _ hk => hk.2) (.slice Ao26 t222.length co26)) (fun _ hk => trivial), by (with_reducible repeat (first | apply Kd.R_alloc | apply Kd.R_drewN | apply Kd.R_drew)); exact Kd.R_mono (Kd.R_far (p := ⟨gb211, 3, none⟩) (Kd.R_far (p := ⟨gb211, 2, none⟩) (Kd.R_far (p := ⟨gb211, 1, none⟩) (Kd.R_far (p := ⟨gb211, 0, none⟩) (Kd.R_far (p := ⟨gb212, 3, none⟩) (Kd.R_types (Kd.R_types HO218.out BK212.out (by decide)) BK211.out (by decide)) (fun _ hk => hk.1.2) (.slice Ao26 t222.length co26)) (fun _ hk => hk.2) (.slice Ao13 t213.length co13)) (fun _ hk => hk.2) (.slice Ao18 t216.length co18)) (fun _ hk => hk.2) (.slice Ao22 t219.length co22)) (fun _ hk => hk.2) (.slice Ao26 t222.length co26)) (fun _ hk => trivial), by (with_reducible repeat (first | apply Kd.S_alloc | apply Kd.S_drewN | apply Kd.S_drew)); exact Kd.S_mono (Kd.S_far (p := ⟨gb211, 3, none⟩) (Kd.S_far (p := ⟨gb211, 2, none⟩) (Kd.S_far (p := ⟨gb211, 1, none⟩) (Kd.S_far (p := ⟨gb211, 0, none⟩) (Kd.S_far (p := ⟨gb212, 3, none⟩) (Kd.S_types (Kd.S_types HO221.out BK212.out (by decide)) BK211.out (by decide)) (fun _ hk => hk.1.2) (.slice Ao26 t222.length co26)) (fun _ hk => hk.2) (.slice Ao13 t213.length co13)) (fun _ hk => hk.2) (.slice Ao18 t216.length co18)) (fun _ hk => hk.2) (.slice Ao22 t219.length co22)) (fun _ hk => hk.2) (.slice Ao26 t222.length co26)) (fun _ hk => trivial), by (with_reducible repeat (first | apply Kd.R_alloc | apply Kd.R_drewN | apply Kd.R_drew)); exact Kd.R_mono (Kd.R_far (p := ⟨gb211, 3, none⟩) (Kd.R_far (p := ⟨gb211, 2, none⟩) (Kd.R_far (p := ⟨gb211, 1, none⟩) (Kd.R_far (p := ⟨gb211, 0, none⟩) (Kd.R_far (p := ⟨gb212, 3, none⟩) (Kd.R_types (Kd.R_types HO224.out BK212.out (by decide)) BK211.out (by decide)) (fun _ hk => hk.1.2) (.slice Ao26 t222.length co26)) (fun _ hk => hk.2) (.slice Ao13 t213.length co13)) (fun _ hk => hk.2) (.slice Ao18 t216.length co18)) (fun _ hk => hk.2) (.slice Ao22 t219.length co22)) (fun _ hk => hk.2) (.slice Ao26 t222.length co26)) (fun _ hk => trivial), by repeat (first | (with_reducible first | exact HB.out | apply below_alloc | apply pw_below_drewN | apply below_drew1 | refine below_set ?_ GE210.out | refine below_set ?_ GE211.out | refine below_set ?_ GE212.out) | exact HB.out)⟩

end Go.Proofs.Ytlbikcelfheohab.PFnExactSameHouse
end

/-! ### YtlbikcelfheohabHousePure -/
section
namespace Go.Proofs.Ytlbikcelfheohab.PFnExactSameHouse
open Go.RowKit Go.Proofs.YtlbikcelfheohabW.PrintWords
set_option linter.unusedSimpArgs false
set_option linter.unusedVariables false

theorem next64 (i : Nat) (h : i < 4611686018427387904) : wrap64 ((i : Int) + 1) = ((i + 1 : Nat) : Int) := by unfold wrap64; omega
theorem less64 (a : Int) (n : Nat) (h0 : 0 ≤ a) (h1 : a ≤ 1048576) (hn : n ≤ 2 ^ 63 - 1) : wrap64 (a - (n : Int)) = a - (n : Int) := by unfold wrap64; omega
theorem rdStr (xs : List ByteArray) (i : Nat) (h : i < xs.length) : rdOf ByteArray.empty xs i = xs[i] := by simp [rdOf, h]

theorem rdLTold (xs : List S219) (i : Nat) (h : i < xs.length) : rd_T219 xs i = xs[i] := by simp [rd_T219, h]
theorem rdITold (xs : List S123) (i : Nat) (h : i < xs.length) : rd_T123 xs i = xs[i] := by simp [rd_T123, h]
theorem rdLSession (xs : List S174) (i : Nat) (h : i < xs.length) : rd_T174 xs i = xs[i] := by simp [rd_T174, h]
theorem rdISession (xs : List S120) (i : Nat) (h : i < xs.length) : rd_T120 xs i = xs[i] := by simp [rd_T120, h]
theorem rdLListen (xs : List S179) (i : Nat) (h : i < xs.length) : rd_T179 xs i = xs[i] := by simp [rd_T179, h]
theorem rdIListen (xs : List S111) (i : Nat) (h : i < xs.length) : rd_T111 xs i = xs[i] := by simp [rd_T111, h]
theorem rdLQueue (xs : List S176) (i : Nat) (h : i < xs.length) : rd_T176 xs i = xs[i] := by simp [rd_T176, h]
theorem rdIQueue (xs : List S127) (i : Nat) (h : i < xs.length) : rd_T127 xs i = xs[i] := by simp [rd_T127, h]
theorem rdLLease (xs : List S182) (i : Nat) (h : i < xs.length) : rd_T182 xs i = xs[i] := by simp [rd_T182, h]
theorem rdILease (xs : List S113) (i : Nat) (h : i < xs.length) : rd_T113 xs i = xs[i] := by simp [rd_T113, h]
def cTold (x : S219) : S123 := ⟨x.f0, x.f1⟩
def cSession (x : S174) : S120 := ⟨x.f0, x.f1, x.f2.map cTold⟩
def cListen (x : S179) : S111 := ⟨x.f0, x.f1⟩
def cQueue (x : S176) : S127 := ⟨x.f0, x.f1, x.f2⟩
def cLease (x : S182) : S113 := ⟨x.f0, x.f1, x.f2⟩

theorem toToldS_f (xs : List S219) (k m : Nat) (hk : xs.length + m < k) (hl : xs.length ≤ 1048576) : laws_toToldS.f k xs = some (xs.map cTold) := by
  unfold laws_toToldS.f
  rw [if_pos (by omega), if_pos (by omega), Int.toNat_natCast]
  refine copy_loop laws_toToldS.l0 cTold z123 (fun k x => True) ?_ ?_ xs hl m (fun _ _ _ _ => trivial) xs.length k 0 _ (by omega) (by simp) hk
  · intro k xs acc i h
    unfold laws_toToldS.l0
    rw [if_neg (by omega)]
  · intro k xs acc i hi hl ha hok
    rw [laws_toToldS.l0, if_pos (by omega), if_pos (by omega), rdLTold xs i hi, laws_toTold.f, Option.bind_some, if_pos (by omega), next64 i (by omega), Int.toNat_natCast]
    rfl

theorem toListenS_f (xs : List S179) (k m : Nat) (hk : xs.length + m < k) (hl : xs.length ≤ 1048576) : laws_toListenS.f k xs = some (xs.map cListen) := by
  unfold laws_toListenS.f
  rw [if_pos (by omega), if_pos (by omega), Int.toNat_natCast]
  refine copy_loop laws_toListenS.l0 cListen z111 (fun k x => True) ?_ ?_ xs hl m (fun _ _ _ _ => trivial) xs.length k 0 _ (by omega) (by simp) hk
  · intro k xs acc i h
    unfold laws_toListenS.l0
    rw [if_neg (by omega)]
  · intro k xs acc i hi hl ha hok
    rw [laws_toListenS.l0, if_pos (by omega), if_pos (by omega), rdLListen xs i hi, laws_toListen.f, Option.bind_some, if_pos (by omega), next64 i (by omega), Int.toNat_natCast]
    rfl

theorem toLeaseS_f (xs : List S182) (k m : Nat) (hk : xs.length + m < k) (hl : xs.length ≤ 1048576) : laws_toLeaseS.f k xs = some (xs.map cLease) := by
  unfold laws_toLeaseS.f
  rw [if_pos (by omega), if_pos (by omega), Int.toNat_natCast]
  refine copy_loop laws_toLeaseS.l0 cLease z113 (fun k x => True) ?_ ?_ xs hl m (fun _ _ _ _ => trivial) xs.length k 0 _ (by omega) (by simp) hk
  · intro k xs acc i h
    unfold laws_toLeaseS.l0
    rw [if_neg (by omega)]
  · intro k xs acc i hi hl ha hok
    rw [laws_toLeaseS.l0, if_pos (by omega), if_pos (by omega), rdLLease xs i hi, laws_toLease.f, Option.bind_some, if_pos (by omega), next64 i (by omega), Int.toNat_natCast]
    rfl

theorem toStringS_f (xs : List ByteArray) (k : Nat) (hk : xs.length < k) (hl : xs.length ≤ 1048576) : laws_toStringS.f k xs = some xs := by
  unfold laws_toStringS.f
  rw [if_pos (by omega), if_pos (by omega), Int.toNat_natCast]
  have := copy_loop laws_toStringS.l0 (fun x => x) (⟨#[]⟩ : ByteArray) (fun _ _ => True) ?_ ?_ xs hl 0 (fun _ _ _ _ => trivial) xs.length k 0 _ (by omega) (by simp; rfl) (by omega)
  · simpa using this
  · intro k xs acc i h
    unfold laws_toStringS.l0
    rw [if_neg (by omega)]
  · intro k xs acc i hi hl ha hok
    rw [laws_toStringS.l0, if_pos (by omega), if_pos (by omega), if_pos (by omega), rdStr xs i hi, next64 i (by omega), Int.toNat_natCast]

theorem toSessionS_f (xs : List S174) (k m : Nat) (hk : xs.length + m < k) (hl : xs.length ≤ 1048576) (hok : ∀ k, m ≤ k → ∀ x ∈ xs, (x.f2.length + 1 < k ∧ x.f2.length ≤ 1048576)) : laws_toSessionS.f k xs = some (xs.map cSession) := by
  unfold laws_toSessionS.f
  rw [if_pos (by omega), if_pos (by omega), Int.toNat_natCast]
  refine copy_loop laws_toSessionS.l0 cSession z120 (fun k x => (x.f2.length + 1 < k ∧ x.f2.length ≤ 1048576)) ?_ ?_ xs hl m (hok) xs.length k 0 _ (by omega) (by simp) hk
  · intro k xs acc i h
    unfold laws_toSessionS.l0
    rw [if_neg (by omega)]
  · intro k xs acc i hi hl ha hok
    rw [laws_toSessionS.l0, if_pos (by omega), if_pos (by omega), rdLSession xs i hi, laws_toSession.f, toToldS_f xs[i].f2 k 0 (by omega) hok.2, Option.bind_some, Option.bind_some, if_pos (by omega), next64 i (by omega), Int.toNat_natCast]
    rfl

theorem toQueueS_f (xs : List S176) (k m : Nat) (hk : xs.length + m < k) (hl : xs.length ≤ 1048576) (hok : ∀ k, m ≤ k → ∀ x ∈ xs, (x.f2.length + 1 < k ∧ x.f2.length ≤ 1048576)) : laws_toQueueS.f k xs = some (xs.map cQueue) := by
  unfold laws_toQueueS.f
  rw [if_pos (by omega), if_pos (by omega), Int.toNat_natCast]
  refine copy_loop laws_toQueueS.l0 cQueue z127 (fun k x => (x.f2.length + 1 < k ∧ x.f2.length ≤ 1048576)) ?_ ?_ xs hl m (hok) xs.length k 0 _ (by omega) (by simp) hk
  · intro k xs acc i h
    unfold laws_toQueueS.l0
    rw [if_neg (by omega)]
  · intro k xs acc i hi hl ha hok
    rw [laws_toQueueS.l0, if_pos (by omega), if_pos (by omega), rdLQueue xs i hi, laws_toQueue.f, toStringS_f xs[i].f2 k (by omega) hok.2, Option.bind_some, Option.bind_some, if_pos (by omega), next64 i (by omega), Int.toNat_natCast]
    rfl

theorem toHouse_f (ss : List S174) (li : List S179) (qu : List S176) (le : List S182) (h1 : ss.length ≤ 1048576) (h2 : li.length ≤ 1048576) (h3 : qu.length ≤ 1048576) (h4 : le.length ≤ 1048576)
    (h5 : ∀ x ∈ ss, x.f2.length ≤ 1048576) (h6 : ∀ x ∈ qu, x.f2.length ≤ 1048576) : laws_toHouse.f 4194304 ss li qu le = some (ss.map cSession, li.map cListen, qu.map cQueue, le.map cLease) := by
  unfold laws_toHouse.f
  rw [toSessionS_f ss 4194304 1048578 (by omega) h1 (fun k hk x hx => by have := h5 x hx; omega), toListenS_f li 4194304 0 (by omega) h2, toQueueS_f qu 4194304 1048578 (by omega) h3 (fun k hk x hx => by have := h6 x hx; omega), toLeaseS_f le 4194304 0 (by omega) h4]
  rfl

theorem szToldS_f (xs : List S219) (k : Nat) (left : Int) (hk : 1048576 + 0 < k) (h63 : xs.length ≤ 2 ^ 63 - 1) (hG : ∀ x ∈ xs, x.f1.size ≤ 2 ^ 63 - 1) (a : 0 ≤ left) (b : left ≤ 1048576) :
    ∃ r, laws_szToldS.f k xs left = some r ∧ (r < 0 ∨ (0 ≤ r ∧ r ≤ left ∧ xs.length ≤ 1048576 ∧ ∀ x ∈ xs, x.f1.size ≤ 1048576)) := by
  have hh0 : ∀ k (xs : List S219) (left : Int) (i : Nat), xs.length ≤ i → laws_szToldS.l0 (k + 1) xs left i = some left := by
    intro k xs left i h
    unfold laws_szToldS.l0
    rw [if_neg (by omega)]
  have hh1 : ∀ k (xs : List S219) (left : Int) (i : Nat) (hi : i < xs.length), 0 ≤ k → xs.length ≤ 1048576 → 0 ≤ left → left ≤ 1048576 → (fun x => x.f1.size ≤ 2 ^ 63 - 1) xs[i] →
      (∃ r : Int, r < 0 ∧ laws_szToldS.l0 (k + 1) xs left i = some r) ∨ ∃ r : Int, 0 ≤ r ∧ r ≤ left ∧ (fun x => x.f1.size ≤ 1048576) xs[i] ∧ laws_szToldS.l0 (k + 1) xs left i = laws_szToldS.l0 k xs r ((i + 1 : Nat) : Int) := by
    intro k xs left i hi hm hl a b hg
    (try simp only at hg)
    rw [laws_szToldS.l0, if_pos (by omega), if_pos (by omega), rdLTold xs i hi, laws_szTold.f, less64 left _ a b hg]
    by_cases hlt : left - (xs[i].f1.size : Int) < 0
    · exact .inl ⟨-1, by omega, by rw [if_pos hlt, Option.bind_some, if_pos (by omega)]⟩
    · exact .inr ⟨left - (xs[i].f1.size : Int), by omega, by omega, by simp only; omega, by rw [if_neg hlt, Option.bind_some, if_neg hlt, next64 i (by omega)]⟩
  unfold laws_szToldS.f
  rw [less64 left xs.length a b h63]
  by_cases h : left - (xs.length : Int) < 0
  · rw [if_pos h]; exact ⟨-1, rfl, .inl (by omega)⟩
  · rw [if_neg h]
    obtain ⟨r, hr, hh⟩ := size_loop laws_szToldS.l0 (fun x => x.f1.size ≤ 2 ^ 63 - 1) (fun x => x.f1.size ≤ 1048576) 0 hh0 hh1 xs (by omega) hG xs.length k 0 (left - (xs.length : Int)) (by omega) (by omega) (by omega) (by omega)
    refine ⟨r, hr, hh.imp id fun ⟨p, q, f⟩ => ⟨p, by omega, by omega, fun x hx => ?_⟩⟩
    obtain ⟨j, hj, rfl⟩ := List.getElem_of_mem hx
    exact f j hj (by omega)

theorem szStringS_f (xs : List ByteArray) (k : Nat) (left : Int) (hk : 1048576 + 0 < k) (h63 : xs.length ≤ 2 ^ 63 - 1) (hG : ∀ x ∈ xs, x.size ≤ 2 ^ 63 - 1) (a : 0 ≤ left) (b : left ≤ 1048576) :
    ∃ r, laws_szStringS.f k xs left = some r ∧ (r < 0 ∨ (0 ≤ r ∧ r ≤ left ∧ xs.length ≤ 1048576 ∧ ∀ x ∈ xs, x.size ≤ 1048576)) := by
  have hh0 : ∀ k (xs : List ByteArray) (left : Int) (i : Nat), xs.length ≤ i → laws_szStringS.l0 (k + 1) xs left i = some left := by
    intro k xs left i h
    unfold laws_szStringS.l0
    rw [if_neg (by omega)]
  have hh1 : ∀ k (xs : List ByteArray) (left : Int) (i : Nat) (hi : i < xs.length), 0 ≤ k → xs.length ≤ 1048576 → 0 ≤ left → left ≤ 1048576 → (fun x => x.size ≤ 2 ^ 63 - 1) xs[i] →
      (∃ r : Int, r < 0 ∧ laws_szStringS.l0 (k + 1) xs left i = some r) ∨ ∃ r : Int, 0 ≤ r ∧ r ≤ left ∧ (fun x => x.size ≤ 1048576) xs[i] ∧ laws_szStringS.l0 (k + 1) xs left i = laws_szStringS.l0 k xs r ((i + 1 : Nat) : Int) := by
    intro k xs left i hi hm hl a b hg
    (try simp only at hg)
    rw [laws_szStringS.l0, if_pos (by omega), if_pos (by omega), rdStr xs i hi, less64 left _ a b hg]
    by_cases hlt : left - (xs[i].size : Int) < 0
    · exact .inl ⟨-1, by omega, by rw [if_pos hlt]⟩
    · exact .inr ⟨left - (xs[i].size : Int), by omega, by omega, by simp only; omega, by rw [if_neg hlt, next64 i (by omega)]⟩
  unfold laws_szStringS.f
  rw [less64 left xs.length a b h63]
  by_cases h : left - (xs.length : Int) < 0
  · rw [if_pos h]; exact ⟨-1, rfl, .inl (by omega)⟩
  · rw [if_neg h]
    obtain ⟨r, hr, hh⟩ := size_loop laws_szStringS.l0 (fun x => x.size ≤ 2 ^ 63 - 1) (fun x => x.size ≤ 1048576) 0 hh0 hh1 xs (by omega) hG xs.length k 0 (left - (xs.length : Int)) (by omega) (by omega) (by omega) (by omega)
    refine ⟨r, hr, hh.imp id fun ⟨p, q, f⟩ => ⟨p, by omega, by omega, fun x hx => ?_⟩⟩
    obtain ⟨j, hj, rfl⟩ := List.getElem_of_mem hx
    exact f j hj (by omega)

theorem szSessionS_f (xs : List S174) (k : Nat) (left : Int) (hk : 1048576 + 1048578 < k) (h63 : xs.length ≤ 2 ^ 63 - 1) (hG : ∀ x ∈ xs, (x.f2.length ≤ 2 ^ 63 - 1 ∧ ∀ y ∈ x.f2, y.f1.size ≤ 2 ^ 63 - 1)) (a : 0 ≤ left) (b : left ≤ 1048576) :
    ∃ r, laws_szSessionS.f k xs left = some r ∧ (r < 0 ∨ (0 ≤ r ∧ r ≤ left ∧ xs.length ≤ 1048576 ∧ ∀ x ∈ xs, (x.f2.length ≤ 1048576 ∧ ∀ y ∈ x.f2, y.f1.size ≤ 1048576))) := by
  have hh0 : ∀ k (xs : List S174) (left : Int) (i : Nat), xs.length ≤ i → laws_szSessionS.l0 (k + 1) xs left i = some left := by
    intro k xs left i h
    unfold laws_szSessionS.l0
    rw [if_neg (by omega)]
  have hh1 : ∀ k (xs : List S174) (left : Int) (i : Nat) (hi : i < xs.length), 1048578 ≤ k → xs.length ≤ 1048576 → 0 ≤ left → left ≤ 1048576 → (fun x => (x.f2.length ≤ 2 ^ 63 - 1 ∧ ∀ y ∈ x.f2, y.f1.size ≤ 2 ^ 63 - 1)) xs[i] →
      (∃ r : Int, r < 0 ∧ laws_szSessionS.l0 (k + 1) xs left i = some r) ∨ ∃ r : Int, 0 ≤ r ∧ r ≤ left ∧ (fun x => (x.f2.length ≤ 1048576 ∧ ∀ y ∈ x.f2, y.f1.size ≤ 1048576)) xs[i] ∧ laws_szSessionS.l0 (k + 1) xs left i = laws_szSessionS.l0 k xs r ((i + 1 : Nat) : Int) := by
    intro k xs left i hi hm hl a b hg
    (try simp only at hg)
    rw [laws_szSessionS.l0, if_pos (by omega), if_pos (by omega), rdLSession xs i hi, laws_szSession.f]
    obtain ⟨r, hr, hh⟩ := szToldS_f xs[i].f2 k left (by omega) hg.1 hg.2 a b
    rw [hr, Option.bind_some]
    rcases hh with hh | ⟨p, q, u, v⟩
    · exact .inl ⟨-1, by omega, by rw [if_pos hh, Option.bind_some, if_pos (by omega)]⟩
    · exact .inr ⟨r, p, q, ⟨u, v⟩, by rw [if_neg (by omega), Option.bind_some, if_neg (by omega), next64 i (by omega)]⟩
  unfold laws_szSessionS.f
  rw [less64 left xs.length a b h63]
  by_cases h : left - (xs.length : Int) < 0
  · rw [if_pos h]; exact ⟨-1, rfl, .inl (by omega)⟩
  · rw [if_neg h]
    obtain ⟨r, hr, hh⟩ := size_loop laws_szSessionS.l0 (fun x => (x.f2.length ≤ 2 ^ 63 - 1 ∧ ∀ y ∈ x.f2, y.f1.size ≤ 2 ^ 63 - 1)) (fun x => (x.f2.length ≤ 1048576 ∧ ∀ y ∈ x.f2, y.f1.size ≤ 1048576)) 1048578 hh0 hh1 xs (by omega) hG xs.length k 0 (left - (xs.length : Int)) (by omega) (by omega) (by omega) (by omega)
    refine ⟨r, hr, hh.imp id fun ⟨p, q, f⟩ => ⟨p, by omega, by omega, fun x hx => ?_⟩⟩
    obtain ⟨j, hj, rfl⟩ := List.getElem_of_mem hx
    exact f j hj (by omega)

theorem szQueueS_f (xs : List S176) (k : Nat) (left : Int) (hk : 1048576 + 1048578 < k) (h63 : xs.length ≤ 2 ^ 63 - 1) (hG : ∀ x ∈ xs, (x.f2.length ≤ 2 ^ 63 - 1 ∧ ∀ y ∈ x.f2, y.size ≤ 2 ^ 63 - 1)) (a : 0 ≤ left) (b : left ≤ 1048576) :
    ∃ r, laws_szQueueS.f k xs left = some r ∧ (r < 0 ∨ (0 ≤ r ∧ r ≤ left ∧ xs.length ≤ 1048576 ∧ ∀ x ∈ xs, (x.f2.length ≤ 1048576 ∧ ∀ y ∈ x.f2, y.size ≤ 1048576))) := by
  have hh0 : ∀ k (xs : List S176) (left : Int) (i : Nat), xs.length ≤ i → laws_szQueueS.l0 (k + 1) xs left i = some left := by
    intro k xs left i h
    unfold laws_szQueueS.l0
    rw [if_neg (by omega)]
  have hh1 : ∀ k (xs : List S176) (left : Int) (i : Nat) (hi : i < xs.length), 1048578 ≤ k → xs.length ≤ 1048576 → 0 ≤ left → left ≤ 1048576 → (fun x => (x.f2.length ≤ 2 ^ 63 - 1 ∧ ∀ y ∈ x.f2, y.size ≤ 2 ^ 63 - 1)) xs[i] →
      (∃ r : Int, r < 0 ∧ laws_szQueueS.l0 (k + 1) xs left i = some r) ∨ ∃ r : Int, 0 ≤ r ∧ r ≤ left ∧ (fun x => (x.f2.length ≤ 1048576 ∧ ∀ y ∈ x.f2, y.size ≤ 1048576)) xs[i] ∧ laws_szQueueS.l0 (k + 1) xs left i = laws_szQueueS.l0 k xs r ((i + 1 : Nat) : Int) := by
    intro k xs left i hi hm hl a b hg
    (try simp only at hg)
    rw [laws_szQueueS.l0, if_pos (by omega), if_pos (by omega), rdLQueue xs i hi, laws_szQueue.f]
    obtain ⟨r, hr, hh⟩ := szStringS_f xs[i].f2 k left (by omega) hg.1 hg.2 a b
    rw [hr, Option.bind_some]
    rcases hh with hh | ⟨p, q, u, v⟩
    · exact .inl ⟨-1, by omega, by rw [if_pos hh, Option.bind_some, if_pos (by omega)]⟩
    · exact .inr ⟨r, p, q, ⟨u, v⟩, by rw [if_neg (by omega), Option.bind_some, if_neg (by omega), next64 i (by omega)]⟩
  unfold laws_szQueueS.f
  rw [less64 left xs.length a b h63]
  by_cases h : left - (xs.length : Int) < 0
  · rw [if_pos h]; exact ⟨-1, rfl, .inl (by omega)⟩
  · rw [if_neg h]
    obtain ⟨r, hr, hh⟩ := size_loop laws_szQueueS.l0 (fun x => (x.f2.length ≤ 2 ^ 63 - 1 ∧ ∀ y ∈ x.f2, y.size ≤ 2 ^ 63 - 1)) (fun x => (x.f2.length ≤ 1048576 ∧ ∀ y ∈ x.f2, y.size ≤ 1048576)) 1048578 hh0 hh1 xs (by omega) hG xs.length k 0 (left - (xs.length : Int)) (by omega) (by omega) (by omega) (by omega)
    refine ⟨r, hr, hh.imp id fun ⟨p, q, f⟩ => ⟨p, by omega, by omega, fun x hx => ?_⟩⟩
    obtain ⟨j, hj, rfl⟩ := List.getElem_of_mem hx
    exact f j hj (by omega)

theorem eqToldS_f (xs : List S123) (k m : Nat) (hk : xs.length + m < k) (hl : xs.length ≤ 1048576) : laws_eqToldS.f k xs xs = some true := by
  unfold laws_eqToldS.f
  rw [if_pos rfl]
  refine same_loop laws_eqToldS.l0 (fun k x => True) ?_ ?_ xs hl m (fun _ _ _ _ => trivial) xs.length k 0 (by omega) hk
  · intro k xs i h
    unfold laws_eqToldS.l0
    rw [if_neg (by omega)]
  · intro k xs i hi hl hok
    rw [laws_eqToldS.l0, if_pos (by omega), if_pos (by omega), if_pos (by omega), laws_eqTold.f, if_pos rfl, if_pos rfl, Option.bind_some, if_pos rfl, next64 i (by omega)]

theorem eqListenS_f (xs : List S111) (k m : Nat) (hk : xs.length + m < k) (hl : xs.length ≤ 1048576) : laws_eqListenS.f k xs xs = some true := by
  unfold laws_eqListenS.f
  rw [if_pos rfl]
  refine same_loop laws_eqListenS.l0 (fun k x => True) ?_ ?_ xs hl m (fun _ _ _ _ => trivial) xs.length k 0 (by omega) hk
  · intro k xs i h
    unfold laws_eqListenS.l0
    rw [if_neg (by omega)]
  · intro k xs i hi hl hok
    rw [laws_eqListenS.l0, if_pos (by omega), if_pos (by omega), if_pos (by omega), laws_eqListen.f, if_pos rfl, if_pos rfl, Option.bind_some, if_pos rfl, next64 i (by omega)]

theorem eqLeaseS_f (xs : List S113) (k m : Nat) (hk : xs.length + m < k) (hl : xs.length ≤ 1048576) : laws_eqLeaseS.f k xs xs = some true := by
  unfold laws_eqLeaseS.f
  rw [if_pos rfl]
  refine same_loop laws_eqLeaseS.l0 (fun k x => True) ?_ ?_ xs hl m (fun _ _ _ _ => trivial) xs.length k 0 (by omega) hk
  · intro k xs i h
    unfold laws_eqLeaseS.l0
    rw [if_neg (by omega)]
  · intro k xs i hi hl hok
    rw [laws_eqLeaseS.l0, if_pos (by omega), if_pos (by omega), if_pos (by omega), laws_eqLease.f, if_pos rfl, if_pos rfl, if_pos rfl, Option.bind_some, if_pos rfl, next64 i (by omega)]

theorem eqStringS_f (xs : List ByteArray) (k : Nat) (hk : xs.length < k) (hl : xs.length ≤ 1048576) : laws_eqStringS.f k xs xs = some true := by
  unfold laws_eqStringS.f
  rw [if_pos rfl]
  refine same_loop laws_eqStringS.l0 (fun _ _ => True) ?_ ?_ xs hl 0 (fun _ _ _ _ => trivial) xs.length k 0 (by omega) (by omega)
  · intro k xs i h
    unfold laws_eqStringS.l0
    rw [if_neg (by omega)]
  · intro k xs i hi hl hok
    rw [laws_eqStringS.l0, if_pos (by omega), if_pos (by omega), if_pos (by omega), if_pos rfl, next64 i (by omega)]

theorem eqSessionS_f (xs : List S120) (k m : Nat) (hk : xs.length + m < k) (hl : xs.length ≤ 1048576) (hok : ∀ k, m ≤ k → ∀ x ∈ xs, (x.f2.length + 1 < k ∧ x.f2.length ≤ 1048576)) : laws_eqSessionS.f k xs xs = some true := by
  unfold laws_eqSessionS.f
  rw [if_pos rfl]
  refine same_loop laws_eqSessionS.l0 (fun k x => (x.f2.length + 1 < k ∧ x.f2.length ≤ 1048576)) ?_ ?_ xs hl m (hok) xs.length k 0 (by omega) hk
  · intro k xs i h
    unfold laws_eqSessionS.l0
    rw [if_neg (by omega)]
  · intro k xs i hi hl hok
    rw [laws_eqSessionS.l0, if_pos (by omega), if_pos (by omega), if_pos (by omega), rdISession xs i hi, laws_eqSession.f, if_pos rfl, if_pos rfl, eqToldS_f xs[i].f2 k 0 (by omega) hok.2, Option.bind_some, if_pos rfl, Option.bind_some, if_pos rfl, next64 i (by omega)]

theorem eqQueueS_f (xs : List S127) (k m : Nat) (hk : xs.length + m < k) (hl : xs.length ≤ 1048576) (hok : ∀ k, m ≤ k → ∀ x ∈ xs, (x.f2.length + 1 < k ∧ x.f2.length ≤ 1048576)) : laws_eqQueueS.f k xs xs = some true := by
  unfold laws_eqQueueS.f
  rw [if_pos rfl]
  refine same_loop laws_eqQueueS.l0 (fun k x => (x.f2.length + 1 < k ∧ x.f2.length ≤ 1048576)) ?_ ?_ xs hl m (hok) xs.length k 0 (by omega) hk
  · intro k xs i h
    unfold laws_eqQueueS.l0
    rw [if_neg (by omega)]
  · intro k xs i hi hl hok
    rw [laws_eqQueueS.l0, if_pos (by omega), if_pos (by omega), if_pos (by omega), rdIQueue xs i hi, laws_eqQueue.f, if_pos rfl, if_pos rfl, eqStringS_f xs[i].f2 k (by omega) hok.2, Option.bind_some, if_pos rfl, Option.bind_some, if_pos rfl, next64 i (by omega)]

theorem eqHouse_f (ss : List S120) (li : List S111) (qu : List S127) (le : List S113) (h1 : ss.length ≤ 1048576) (h2 : li.length ≤ 1048576) (h3 : qu.length ≤ 1048576) (h4 : le.length ≤ 1048576)
    (h5 : ∀ x ∈ ss, x.f2.length ≤ 1048576) (h6 : ∀ x ∈ qu, x.f2.length ≤ 1048576) : laws_eqHouse.f 4194304 ss li qu le ss li qu le = some true := by
  unfold laws_eqHouse.f
  rw [eqSessionS_f ss 4194304 1048578 (by omega) h1 (fun k hk x hx => by have := h5 x hx; omega), eqListenS_f li 4194304 0 (by omega) h2, eqQueueS_f qu 4194304 1048578 (by omega) h3 (fun k hk x hx => by have := h6 x hx; omega), eqLeaseS_f le 4194304 0 (by omega) h4]
  rfl

end Go.Proofs.Ytlbikcelfheohab.PFnExactSameHouse
end

/-! ### YtlbikcelfheohabHouseSz -/
section
namespace Go.Proofs.Ytlbikcelfheohab
open Go.RowKit Go.Proofs.YtlbikcelfheohabW.PrintWords PFnExactSameHouse
set_option linter.unusedSimpArgs false
set_option linter.unusedVariables false

/-- What the sizes' sum says. -/
def HouseSmall (ss : List S174) (li : List S179) (qu : List S176) (le : List S182) : Prop :=
  ss.length ≤ 1048576 ∧ li.length ≤ 1048576 ∧ qu.length ≤ 1048576 ∧ le.length ≤ 1048576 ∧ (∀ x ∈ ss, x.f2.length ≤ 1048576 ∧ ∀ y ∈ x.f2, y.f1.size ≤ 1048576) ∧ (∀ x ∈ qu, x.f2.length ≤ 1048576 ∧ ∀ y ∈ x.f2, y.size ≤ 1048576)
theorem szHouse_fL (left : Int) (hl0 : 0 ≤ left) (hl1 : left ≤ 1048576) (ss : List S174) (li : List S179) (qu : List S176) (le : List S182) (h1 : ss.length ≤ 2 ^ 63 - 1) (h2 : li.length ≤ 2 ^ 63 - 1) (h3 : qu.length ≤ 2 ^ 63 - 1) (h4 : le.length ≤ 2 ^ 63 - 1)
    (h5 : ∀ x ∈ ss, x.f2.length ≤ 2 ^ 63 - 1 ∧ ∀ y ∈ x.f2, y.f1.size ≤ 2 ^ 63 - 1) (h6 : ∀ x ∈ qu, x.f2.length ≤ 2 ^ 63 - 1 ∧ ∀ y ∈ x.f2, y.size ≤ 2 ^ 63 - 1) :
    ∃ r, laws_szHouse.f 4194304 ss li qu le left = some r ∧ (r < 0 ∨ (0 ≤ r ∧ r ≤ left ∧ HouseSmall ss li qu le)) := by
  unfold laws_szHouse.f
  obtain ⟨r1, e1, k1⟩ := szSessionS_f ss 4194304 left (by omega) h1 h5 hl0 hl1
  rw [e1, Option.bind_some]
  rcases k1 with k1 | ⟨p1, q1, u1, v1⟩
  · rw [if_pos k1]; exact ⟨-1, rfl, .inl (by omega)⟩
  rw [if_neg (by omega)]
  unfold laws_szListenS.f
  rw [less64 r1 li.length p1 (by omega) h2]
  by_cases c2 : r1 - (li.length : Int) < 0
  · rw [if_pos c2, Option.bind_some, if_pos (by omega)]; exact ⟨-1, rfl, .inl (by omega)⟩
  rw [if_neg c2, Option.bind_some, if_neg c2]
  obtain ⟨r3, e3, k3⟩ := szQueueS_f qu 4194304 (r1 - (li.length : Int)) (by omega) h3 h6 (by omega) (by omega)
  rw [e3, Option.bind_some]
  rcases k3 with k3 | ⟨p3, q3, u3, v3⟩
  · rw [if_pos k3]; exact ⟨-1, rfl, .inl (by omega)⟩
  rw [if_neg (by omega)]
  unfold laws_szLeaseS.f
  rw [less64 r3 le.length p3 (by omega) h4]
  by_cases c4 : r3 - (le.length : Int) < 0
  · rw [if_pos c4, Option.bind_some, if_pos (by omega)]; exact ⟨-1, rfl, .inl (by omega)⟩
  rw [if_neg c4, Option.bind_some, if_neg c4]
  exact ⟨_, rfl, .inr ⟨by omega, by omega, u1, by omega, u3, by omega, v1, v3⟩⟩
theorem szHouse_f (ss : List S174) (li : List S179) (qu : List S176) (le : List S182) (h1 : ss.length ≤ 2 ^ 63 - 1) (h2 : li.length ≤ 2 ^ 63 - 1) (h3 : qu.length ≤ 2 ^ 63 - 1) (h4 : le.length ≤ 2 ^ 63 - 1)
    (h5 : ∀ x ∈ ss, x.f2.length ≤ 2 ^ 63 - 1 ∧ ∀ y ∈ x.f2, y.f1.size ≤ 2 ^ 63 - 1) (h6 : ∀ x ∈ qu, x.f2.length ≤ 2 ^ 63 - 1 ∧ ∀ y ∈ x.f2, y.size ≤ 2 ^ 63 - 1) :
    ∃ r, laws_szHouse.f 4194304 ss li qu le 1048576 = some r ∧ (r < 0 ∨ HouseSmall ss li qu le) := by
  obtain ⟨r, hr, h⟩ := szHouse_fL 1048576 (by omega) (by omega) ss li qu le h1 h2 h3 h4 h5 h6
  exact ⟨r, hr, h.imp id fun x => x.2.2⟩
end Go.Proofs.Ytlbikcelfheohab
end
