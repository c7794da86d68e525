import Derived.Test.YtlbikcelfheohaaWWords
import Derived.WideShapes
import Derived.ChangeMaps5
import Derived.ChangeShapes
import Derived.ChangeArms
import Derived.DataElems
import Derived.RowKit
import Derived.Test.YtlbikcelfheohaaProg
import Derived.Below
import Derived.WalkKit
import Derived.KernelRfl
import Derived.RowKit3
import Derived.Deep.QuietTactic
import Derived.BigQuiet
import Derived.WideLaws
import Derived.OwnWalk
import Derived.Outline
import Derived.Lib.Hide
import Derived.Deep.Draws
import Derived.Lib.QuietBelow
import Derived.Test.YtlbikcelfheohaaPReadSnapA
import Derived.Laws.BitsLemmas
import Derived.Test.YtlbikcelfheohaaPReadSnapB

/-! ### YtlbikcelfheohaaOpen -/
section
namespace Go.Proofs.Ytlbikcelfheohaa
open Go.RowKit Go.WideShapes Go.ChangeMaps Go.ChangeShapes Go.Proofs.YtlbikcelfheohaaW.PrintWords

/-- A value of a type, as an argument that can be read holds it. -/
def ArgOf (P : Program) (W : World) (t : TypeId) (v : Value) : Prop :=
  (∃ base, Value.okWide P W .any base t v) ∧ ∃ (H : Type) (enc : TypeId × Value → H) (fuel : Nat) (x : DataW H × List MemPlace), DataW.trod enc P W 0 (fun _ => true) true fuel t v.cells.toList = some x

/-- Cells of a type that can be read are of a kind. -/
def Opens (P : Program) (W : World) (t : TypeId) {α : Type} (d : Kd α) (G : α → Prop) : Prop :=
  ∀ (H : Type) (enc : TypeId × Value → H) (fuel : Nat) (cs : List Value) (x : DataW H × List MemPlace), DataW.trod enc P W 0 (fun _ => true) true fuel t cs = some x → ∃ a, d.K W a cs ∧ G a

/-- The fields of a struct, from one on. -/
def OpensL (P : Program) (W : World) (fs : List Field) (o : Nat) {β : Type} (d : Kd β) (G : β → Prop) : Prop :=
  ∀ (H : Type) (enc : TypeId × Value → H) (fuel : Nat) (cs : List Value),
    (∀ f ∈ fs, ∃ y, DataW.trod enc P W 0 (fun _ => true) true fuel f.type ((cs.drop f.offset).take (P.cellsOf f.type)) = some y) → cs.length = o + d.sz → ∃ b, d.K W b (cs.drop o) ∧ G b

section
variable {P : Program} {W : World} {t e : TypeId} {α β : Type} {d : Kd α} {G : α → Prop}

theorem opens_int {k : IntKind} (ht : P.underlying t = some (.int k)) : Opens P W t (Kd.int k) (fun n => (Lit.int k n).wf = true) := by
  intro H enc fuel cs x h
  obtain ⟨n, rfl, _, hw⟩ := DataW.trod_int ht h
  exact ⟨n, rfl, hw⟩
theorem opens_bool (ht : P.underlying t = some .bool) : Opens P W t Kd.bool (fun _ => True) := by
  intro H enc fuel cs x h
  obtain ⟨b, rfl, _⟩ := DataW.trod_bool ht h
  exact ⟨b, rfl, trivial⟩
theorem opens_string (ht : P.underlying t = some .string) : Opens P W t Kd.string (fun s => s.size ≤ maxLen) := by
  intro H enc fuel cs x h
  obtain ⟨s, rfl, _, hs⟩ := DataW.trod_string ht h
  exact ⟨s, rfl, hs⟩
theorem opens_slice (ht : P.underlying t = some (.slice e)) (hsz : d.sz = P.cellsOf e) (he : Opens P W e d G) :
    Opens P W t (Kd.slice e d) (fun xs => xs.length ≤ maxLen ∧ ∀ x ∈ xs, G x) := by
  intro H enc fuel cs x h
  rcases DataW.trod_slice ht h with ⟨rfl, _⟩ | ⟨a, len, cap, elems, rest, n, _, rfl, _, _, hl, hc, hlen, hel, _⟩
  · exact ⟨[], ⟨none, 0, rfl, Nat.le_refl _, rfl, by simp, fun h => absurd h (by simp)⟩, by simp, by simp⟩
  · have step : ∀ i : Fin len, ∃ (a' : α) (c : List Value), d.K W a' c ∧ G a' ∧ ∀ j u, c[j]? = some u → W.cell? (a.add (i.1 * P.cellsOf e + j)) = some u := by
      intro i
      have h1 := hel i.1 i.2
      obtain ⟨y, hy⟩ : ∃ y, elems[i.1]? = some y := ⟨elems[i.1]'(by omega), List.getElem?_eq_getElem (by omega)⟩
      rw [hy] at h1
      obtain ⟨c, hcs, ht2⟩ := Option.bind_eq_some_iff.1 h1
      obtain ⟨a', hK, hG⟩ := he H enc n c y ht2
      refine ⟨a', c, hK, hG, fun j u hj => ?_⟩
      unfold World.cells? at hcs
      rw [if_pos (Nat.zero_le _)] at hcs
      have hlt : j < P.cellsOf e := by
        have h2 := mapM_some_length hcs
        have h3 : j < c.length := by
          rcases Nat.lt_or_ge j c.length with h | h
          · exact h
          · rw [List.getElem?_eq_none h] at hj; cases hj
        simpa [h2] using h3
      have h4 := mapM_some_get hcs j j (by simp [hlt])
      rw [Addr.add_add] at h4
      exact h4.trans hj
    let f : Fin len → α := fun i => Classical.choose (step i)
    let c : Fin len → List Value := fun i => Classical.choose (Classical.choose_spec (step i))
    have hK : ∀ i, d.K W (f i) (c i) := fun i => (Classical.choose_spec (Classical.choose_spec (step i))).1
    have hG : ∀ i, G (f i) := fun i => (Classical.choose_spec (Classical.choose_spec (step i))).2.1
    have hcell : ∀ (i : Fin len) j u, (c i)[j]? = some u → W.cell? (a.add (i.1 * P.cellsOf e + j)) = some u := fun i => (Classical.choose_spec (Classical.choose_spec (step i))).2.2
    refine ⟨List.ofFn f, ⟨some a, cap, by simp, by simpa using hl, by simp, by unfold maxLen at hc; simp; omega, fun _ => ⟨a, rfl, fun j p hj => ?_⟩⟩, by simp; omega, ?_⟩
    · obtain ⟨hjl, hjp⟩ := List.getElem?_eq_some_iff.1 hj
      have hjl' : j < len := by simpa using hjl
      refine ⟨c ⟨j, hjl'⟩, d.K_len (hK _), ?_, fun i u hu => ?_⟩
      · have : p = f ⟨j, hjl'⟩ := by rw [← hjp]; simp
        rw [this]
        exact hK _
      · rw [hsz]
        exact hcell ⟨j, hjl'⟩ i u hu
    · intro y hy
      obtain ⟨i, rfl⟩ := List.mem_ofFn.1 hy
      exact hG i
theorem opensL_last {f : Field} {o : Nat} (ho : f.offset = o) (hf : Opens P W f.type d G) (hs : d.sz = P.cellsOf f.type) : OpensL P W [f] o d G := by
  intro H enc fuel cs h hl
  obtain ⟨y, hy⟩ := h f (by simp)
  obtain ⟨a, hK, hG⟩ := hf H enc fuel _ y hy
  refine ⟨a, ?_, hG⟩
  rw [ho, List.take_of_length_le (by rw [List.length_drop, hl, hs]; omega)] at hK
  exact hK
theorem opensL_cons {f : Field} {fs : List Field} {o : Nat} {d2 : Kd β} {G2 : β → Prop} (ho : f.offset = o) (hf : Opens P W f.type d G) (hs : d.sz = P.cellsOf f.type) (hr : OpensL P W fs (o + d.sz) d2 G2) :
    OpensL P W (f :: fs) o (Kd.pair d d2) (fun x => G x.1 ∧ G2 x.2) := by
  intro H enc fuel cs h hl
  obtain ⟨y, hy⟩ := h f (by simp)
  obtain ⟨a, hK, hG⟩ := hf H enc fuel _ y hy
  have hl' : cs.length = o + (d.sz + d2.sz) := hl
  obtain ⟨b, hK2, hG2⟩ := hr H enc fuel cs (fun f' hf' => h f' (by simp [hf'])) (by omega)
  refine ⟨(a, b), ⟨_, _, ?_, hK, hK2⟩, hG, hG2⟩
  rw [ho, ← hs, ← List.drop_drop, List.take_append_drop]
theorem opens_struct {fs : Array Field} (ht : P.underlying t = some (.struct fs)) (hs : d.sz = P.cellsOf t) (hf : OpensL P W fs.toList 0 d G) : Opens P W t d G := by
  intro H enc fuel cs x h
  obtain ⟨xs, n, _, _, hl, hn, hget⟩ := DataW.trod_struct ht h
  have hall : ∀ f ∈ fs.toList, ∃ y, DataW.trod enc P W 0 (fun _ => true) true n f.type ((cs.drop f.offset).take (P.cellsOf f.type)) = some y := by
    intro f hfm
    obtain ⟨i, hi, hif⟩ := List.getElem_of_mem hfm
    have h1 := hget i f (by rw [← hif]; simp [Array.getElem?_eq_getElem (by simpa using hi)])
    have hi' : i < xs.length := by rw [hn]; simpa using hi
    exact ⟨xs[i], by rw [h1, List.getElem?_eq_getElem hi']⟩
  obtain ⟨b, hK, hG⟩ := hf H enc n cs hall (by omega)
  exact ⟨b, by simpa using hK, hG⟩
theorem opens_iso {p : β → α} (inv : α → β) (hi : ∀ x, p (inv x) = x) (h : Opens P W t d G) : Opens P W t (Kd.iso d p) (fun x => G (p x)) := by
  intro H enc fuel cs x hx
  obtain ⟨a, hK, hG⟩ := h H enc fuel cs x hx
  exact ⟨inv a, by show d.K W (p (inv a)) cs; rw [hi]; exact hK, by show G (p (inv a)); rw [hi]; exact hG⟩

theorem Opens.imp {G' : α → Prop} (h : Opens P W t d G) (hi : ∀ x, G x → G' x) : Opens P W t d G' := by
  intro H enc fuel cs x hx
  obtain ⟨a, hK, hG⟩ := h H enc fuel cs x hx
  exact ⟨a, hK, hi a hG⟩

theorem arg_int {k : IntKind} {v : Value} (ht : P.underlying t = some (.int k)) (h : ArgOf P W t v) : ∃ n, v = .int k n ∧ (Lit.int k n).wf = true := by
  obtain ⟨⟨base, ho⟩, H, enc, fuel, x, hx⟩ := h
  obtain ⟨n, hv, _, _, hw⟩ := open_int (P := P) (d := x.1) (ps := x.2) ht ho ⟨fuel, hx⟩
  exact ⟨n, hv, hw⟩
theorem arg_bool {v : Value} (ht : P.underlying t = some .bool) (h : ArgOf P W t v) : ∃ b, v = .bool b := by
  obtain ⟨⟨base, ho⟩, H, enc, fuel, x, hx⟩ := h
  obtain ⟨b, hv, _⟩ := open_bool (P := P) (d := x.1) (ps := x.2) ht ho ⟨fuel, hx⟩
  exact ⟨b, hv⟩
theorem arg_string {v : Value} (ht : P.underlying t = some .string) (h : ArgOf P W t v) : ∃ s : ByteArray, v = .string s ∧ s.size ≤ maxLen := by
  obtain ⟨⟨base, ho⟩, H, enc, fuel, x, hx⟩ := h
  obtain ⟨s, hv, _, _, hs⟩ := open_string (P := P) (d := x.1) (ps := x.2) ht ho ⟨fuel, hx⟩
  exact ⟨s, hv, hs⟩
theorem arg_struct {fs : Array Field} {v : Value} (ht : P.underlying t = some (.struct fs)) (hd : Opens P W t d G) (h : ArgOf P W t v) : ∃ a cs, v = .agg cs ∧ d.K W a cs.toList ∧ G a := by
  obtain ⟨⟨base, ho⟩, H, enc, fuel, x, hx⟩ := h
  obtain ⟨cs, rfl, _⟩ := okWide_struct ht ho
  obtain ⟨a, hK, hG⟩ := hd H enc fuel _ x hx
  exact ⟨a, cs, rfl, hK, hG⟩
theorem arg_slice {v : Value} (ht : P.underlying t = some (.slice e)) (hsz : d.sz = P.cellsOf e) (hd : Opens P W e d G) (h : ArgOf P W t v) :
    ∃ A xs c, v = .slice A xs.length c ∧ xs.length ≤ c ∧ Kd.C d W A xs.length xs ∧ xs.length ≤ maxLen ∧ ∀ x ∈ xs, G x := by
  obtain ⟨⟨base, ho⟩, H, enc, fuel, x, hx⟩ := h
  obtain ⟨A, len, cap, rfl⟩ := okWide_slice ht ho
  obtain ⟨xs, ⟨A', c, he, hc, hC⟩, hG⟩ := opens_slice ht hsz hd H enc fuel _ x hx
  simp [Value.cells] at he
  obtain ⟨rfl, rfl, rfl⟩ := he
  exact ⟨A, xs, cap, rfl, hc, hC, hG.1, hG.2⟩
end
end Go.Proofs.Ytlbikcelfheohaa
end

/-! ### YtlbikcelfheohaaBase -/
section
namespace Go.Proofs.Ytlbikcelfheohaa
open Go.RowKit

theorem bcell {W w1 : World} (hb : Below W.heap.size W w1) : (∀ b o, b < W.heap.size → w1.cell? ⟨b, o, none⟩ = W.cell? ⟨b, o, none⟩) ∧ (∀ b o, b < W.heap.size → w1.frozen? ⟨b, o, none⟩ = W.frozen? ⟨b, o, none⟩) :=
  ⟨fun b o h => hb.cell (p := ⟨b, o, none⟩) h, fun b o h => hb.frozen (p := ⟨b, o, none⟩) h⟩
theorem bl_alloc {w W : World} (h : Below w.heap.size w W) (o : Obj) : Below w.heap.size w (W.alloc o) := h.alloc h.size o
theorem bl_drewN {w W : World} (h : Below w.heap.size w W) (n : Nat) : Below w.heap.size w (W.drewN n) := ⟨h.os, h.tape, h.output, h.size, h.block⟩
theorem bl_drew {w W : World} (h : Below w.heap.size w W) : Below w.heap.size w W.drew := h.drew
theorem bl_set {w W : World} {p : Addr} {v : Value} (h : Below w.heap.size w W) (hg : w.heap.size ≤ p.block) : Below w.heap.size w (W.setCell p v) := h.setCell hg _
theorem bl_then {w W w2 : World} (h : Below w.heap.size w W) (k : Below W.heap.size W w2) : Below w.heap.size w w2 :=
  h.trans ⟨k.os, k.tape, k.output, k.size, fun i hi => k.block i (Nat.lt_of_lt_of_le hi h.size)⟩
theorem cell_grow {w : World} {d : Nat} {os : Array Obj} {a : Addr} (h : a.block < w.heap.size) : (Go.Sort.grow (redrawn w d) os).cell? a = w.cell? a := (below_regrown w d os).cell h
theorem bl_regrown {w W : World} (h : ∃ p : Regrown, W = Go.Sort.grow (redrawn w p.d) p.os) : Below w.heap.size w W := by
  obtain ⟨p, rfl⟩ := h
  exact below_regrown w p.d p.os
theorem ret_int {k : IntKind} {a b : Int} (h : a = b) : Ending.returned (.int k a) = .returned (.int k b) := by rw [h]
theorem ret_str {a b : ByteArray} (h : a = b) : Ending.returned (.string a) = .returned (.string b) := by rw [h]

/-- Whether a number lies in a range. -/
def inB (n lo hi : Int) : Bool := decide (lo ≤ n) && decide (n ≤ hi)
theorem inB_iff {n lo hi : Int} : inB n lo hi = true ↔ lo ≤ n ∧ n ≤ hi := by simp [inB]

set_option maxHeartbeats 400000 in
theorem impl_in (n lo hi : Int) (w : World) :
    Calls Try.prog 34 #[.int .i64 n, .int .i64 lo, .int .i64 hi] w fun e w' => e = .returned (.bool (inB n lo hi)) ∧ w = w' := by
  go_enter Try.func34, Try.ntmps34
  go_wp2
  all_goals (go_ret; exact ⟨by first | (simp [inB, *]; done) | (simp [inB, *]; omega), rfl⟩)
set_option maxHeartbeats 400000 in
theorem spec_l01In (n lo hi : Int) (w : World) :
    Calls Try.prog 33 #[.int .i64 n, .int .i64 lo, .int .i64 hi] w fun e w' => e = .returned (.bool (inB n lo hi)) ∧ w = w' := by
  go_enter Try.func33, Try.ntmps33
  go_wp2
  all_goals (go_ret; exact ⟨by first | (simp [inB, *]; done) | (simp [inB, *]; omega), rfl⟩)
end Go.Proofs.Ytlbikcelfheohaa
end

/-! ### YtlbikcelfheohaaBytes -/
section
namespace Go.Proofs.Ytlbikcelfheohaa
open Go.RowKit Go.Proofs.YtlbikcelfheohaaW.PrintWords

/-- The bytes of a number, seven bits a byte. -/
def varN (n : Nat) : List Int := if h : n ≤ 127 then [(n : Int)] else ((n % 128 + 128 : Nat) : Int) :: varN (n / 128)
termination_by n
decreasing_by omega
/-- The text of a number. -/
def varS (n : Int) : ByteArray := strOfNums (varN n.toNat)

theorem strOfNums_append (a b : List Int) : strOfNums (a ++ b) = strOfNums a ++ strOfNums b := by
  apply ByteArray.ext
  simp [strOfNums, ByteArray.data_append]

theorem l01Var_l0 : ∀ (k : Nat) (n : Nat) (out : List Int), 1 ≤ k → n < 128 ^ k → n ≤ 9223372036854775807 → out.length + k < 140737488355328 →
    PFnExactReadCommand.spec_l01Var.l0 k (n : Int) out = some (strOfNums (out ++ varN n))
  | 0, _, _, h, _, _, _ => by omega
  | k + 1, n, out, _, hn, hm, ho => by
    simp only [PFnExactReadCommand.spec_l01Var.l0]
    rw [varN]
    by_cases h : n ≤ 127
    · rw [if_neg (by omega), if_pos (by omega), dif_pos h]
      have : ((n : Int) % 256) = (n : Int) := by omega
      rw [this]
    · have hk : 1 ≤ k := by
        rcases Nat.eq_zero_or_pos k with rfl | hk
        · simp at hn; omega
        · exact hk
      have hlt : n / 128 < 128 ^ k := by rw [Nat.pow_succ] at hn; omega
      have ih := l01Var_l0 k (n / 128) (out ++ [((n % 128 + 128 : Nat) : Int)]) hk hlt (by omega) (by rw [List.length_append]; simp; omega)
      rw [if_pos (by omega), if_pos (by omega), dif_neg h]
      have e1 : wrap64 (Int.tdiv (n : Int) 128) = ((n / 128 : Nat) : Int) := by
        rw [Int.tdiv_eq_ediv_of_nonneg (by omega)]; unfold wrap64; omega
      have e2 : (wrap64 ((Int.tmod (n : Int) 128) + 128)) % 256 = ((n % 128 + 128 : Nat) : Int) := by
        rw [Int.tmod_eq_emod_of_nonneg (by omega)]; unfold wrap64; omega
      rw [e1, e2, ih, List.append_assoc]
      rfl

theorem and127 (n : Nat) (h : n < 9223372036854775808) : bits .and .i64 (n : Int) 127 = ((n % 128 : Nat) : Int) := by
  have := bits_mask .i64 63 (by decide) (by intro m h0 h1; rw [IntKind.wrap_i64]; omega) 7 (by decide) (n : Int) (by omega) (by omega)
  simpa using this
theorem or128 (n : Nat) (h : n < 128) : bits .or .i64 (n : Int) 128 = ((n + 128 : Nat) : Int) := by
  have hx : ∀ m : Fin 128, bits .or .i64 ((m.1 : Nat) : Int) 128 = ((m.1 + 128 : Nat) : Int) := by decide +kernel
  exact hx ⟨n, h⟩

theorem VarText_l0 : ∀ (k : Nat) (n : Nat) (out : List Int), 1 ≤ k → n < 128 ^ k → n ≤ 9223372036854775807 → out.length + k < 140737488355328 →
    PFnExactCommandText.impl_VarText.l0 k (n : Int) out = some (strOfNums (out ++ varN n), true)
  | 0, _, _, h, _, _, _ => by omega
  | k + 1, n, out, _, hn, hm, ho => by
    simp only [PFnExactCommandText.impl_VarText.l0]
    rw [varN]
    by_cases h : n ≤ 127
    · rw [if_neg (by omega), if_pos (by omega), dif_pos h]
      have : ((n : Int) % 256) = (n : Int) := by omega
      rw [this]
    · have hk : 1 ≤ k := by
        rcases Nat.eq_zero_or_pos k with rfl | hk
        · simp at hn; omega
        · exact hk
      have hlt : n / 128 < 128 ^ k := by rw [Nat.pow_succ] at hn; omega
      have ih := VarText_l0 k (n / 128) (out ++ [((n % 128 + 128 : Nat) : Int)]) hk hlt (by omega) (by rw [List.length_append]; simp; omega)
      rw [if_pos (by omega), if_pos (by omega), dif_neg h]
      have e1 : (n : Int) / 128 = ((n / 128 : Nat) : Int) := by omega
      have e2 : (bits .or .i64 (bits .and .i64 (n : Int) 127) 128) % 256 = ((n % 128 + 128 : Nat) : Int) := by
        rw [and127 n (by omega), or128 _ (by omega)]; omega
      rw [e1, e2, ih, List.append_assoc]
      rfl

theorem spec_l01Var (n : Int) (w : World) (h0 : 0 ≤ n) (h1 : n ≤ 1000000000) :
    Calls Try.prog 37 #[.int .i64 n] w fun e w' => e = .returned (.string (varS n)) ∧ Below w.heap.size w w' := by
  refine PFnExactReadCommand.spec_l01Var.calls 6 n (varS n) w ?_
  obtain ⟨m, rfl⟩ := Int.eq_ofNat_of_zero_le h0
  have := l01Var_l0 6 m [] (by omega) (by omega) (by omega) (by simp)
  simpa [PFnExactReadCommand.spec_l01Var.f, varS] using this

theorem impl_VarText (n : Int) (w : World) (h0 : 0 ≤ n) (h1 : n ≤ 1000000000) :
    Calls Try.prog 81 #[.int .i64 n] w fun e w' => e = .returned (.tuple #[.string (varS n), .bool true]) ∧ Below w.heap.size w w' := by
  refine PFnExactCommandText.impl_VarText.calls 6 n (varS n) true w ?_
  obtain ⟨m, rfl⟩ := Int.eq_ofNat_of_zero_le h0
  have := VarText_l0 6 m [] (by omega) (by omega) (by omega) (by simp)
  have hi : PFnExactCommandText.impl_in.f (m : Int) 0 1000000000 = some true := by
    unfold PFnExactCommandText.impl_in.f
    rw [if_pos (by omega)]
    simp; omega
  unfold PFnExactCommandText.impl_VarText.f
  rw [hi]
  simpa [varS] using this

set_option maxHeartbeats 400000 in
theorem impl_varOf (n : Int) (w : World) (h0 : 0 ≤ n) (h1 : n ≤ 1000000000) :
    Calls Try.prog 40 #[.int .i64 n] w fun e w' => e = .returned (.string (varS n)) ∧ Below w.heap.size w w' := by
  go_enter Try.func40, Try.ntmps40
  go_wp2_with (first | (go_at_call 81; refine (impl_VarText _ _ h0 h1).mono ?_; rintro e w' ⟨rfl, hb⟩))
  go_ret
  exact ⟨rfl, hb⟩

theorem varN_length : ∀ (n : Nat), n ≤ 1000000000 → (varN n).length ≤ 5 := by
  have step : ∀ (k n : Nat), n < 128 ^ (k + 1) → (varN n).length ≤ k + 1 := by
    intro k
    induction k with
    | zero => intro n h; rw [varN, dif_pos (by omega)]; simp
    | succ k ih =>
      intro n h
      rw [varN]
      split
      · simp
      · have := ih (n / 128) (by rw [Nat.pow_succ] at h; omega)
        simp; omega
  intro n h
  exact step 4 n (by omega)
theorem varS_size (n : Int) (h0 : 0 ≤ n) (h1 : n ≤ 1000000000) : (varS n).size ≤ 5 := by
  unfold varS
  rw [strOfNums_size]
  exact varN_length _ (by omega)

/-- A text with its length ahead. -/
def shortS (s : ByteArray) : ByteArray := varS s.size ++ s

set_option maxHeartbeats 400000 in
theorem spec_l05Short (s : ByteArray) (w : World) (h1 : s.size ≤ 1000000000) :
    Calls Try.prog 38 #[.string s] w fun e w' => e = .returned (.string (shortS s)) ∧ Below w.heap.size w w' := by
  have hz := varS_size s.size (by omega) (by omega)
  go_enter Try.func38, Try.ntmps38
  go_wp2_with (first | (go_at_call 37; refine (spec_l01Var _ _ (by omega) (by omega)).mono ?_; rintro e w' ⟨rfl, hb⟩))
  go_ret
  exact ⟨rfl, hb⟩

set_option maxHeartbeats 400000 in
theorem impl_shortOf (s : ByteArray) (w : World) (h1 : s.size ≤ 1000000000) :
    Calls Try.prog 41 #[.string s] w fun e w' => e = .returned (.string (shortS s)) ∧ Below w.heap.size w w' := by
  have hz := varS_size s.size (by omega) (by omega)
  go_enter Try.func41, Try.ntmps41
  go_wp2_with (first | (go_at_call 40; refine (impl_varOf _ _ (by omega) (by omega)).mono ?_; rintro e w' ⟨rfl, hb⟩))
  go_ret
  exact ⟨rfl, hb⟩

theorem oneByte_l0 : ∀ (d k : Nat) (out xs : List Int) (i : Nat), i ≤ xs.length → xs.length - i = d → d < k → out.length + d < 140737488355328 → xs.length ≤ 140737488355328 →
    PFnExactCommandText.impl_oneByte.l0 k out xs (xs.length : Int) (i : Int) = some (strOfNums (out ++ (xs.drop i).map (· % 256))) := by
  intro d
  induction d with
  | zero =>
    intro k out xs i h0 hd hk _ _
    obtain ⟨k, rfl⟩ : ∃ m, k = m + 1 := ⟨k - 1, by omega⟩
    simp only [PFnExactCommandText.impl_oneByte.l0]
    rw [if_neg (by omega), List.drop_of_length_le (by omega)]
    simp
  | succ d ih =>
    intro k out xs i h0 hd hk ho hl
    obtain ⟨k, rfl⟩ : ∃ m, k = m + 1 := ⟨k - 1, by omega⟩
    simp only [PFnExactCommandText.impl_oneByte.l0]
    have hi : i < xs.length := by omega
    have e1 : rd xs (i : Int) = xs[i] := by simp [rd, hi]
    have e2 : wrap64 ((i : Int) + 1) = ((i + 1 : Nat) : Int) := by unfold wrap64; omega
    rw [if_pos (by omega), if_pos (by omega), if_pos (by omega), if_pos (by omega), e1, e2, ih k (out ++ [xs[i] % 256]) xs (i + 1) (by omega) (by omega) (by omega) (by
      rw [List.length_append, List.length_singleton]
      omega) hl]
    rw [List.drop_eq_getElem_cons hi, List.map_cons, List.append_assoc]
    rfl

theorem impl_oneByte (A : Option Addr) (c : Nat) (xs : List Int) (w : World) (hr : Kd.C (Kd.int .i64) w A xs.length xs) (hc : xs.length ≤ c) (hl : xs.length < 1000000000) :
    Calls Try.prog 39 #[.slice A xs.length c] w fun e w' => e = .returned (.string (strOfNums (xs.map (· % 256)))) ∧ Below w.heap.size w w' := by
  refine PFnExactCommandText.impl_oneByte.calls (xs.length + 1) A c xs _ w hr hc ?_
  have := oneByte_l0 xs.length (xs.length + 1) [] xs 0 (by omega) (by omega) (by omega) (by simp; omega) (by omega)
  simpa [PFnExactCommandText.impl_oneByte.f] using this
theorem row_one {W : World} {g : Nat} {x : Int} (h : W.cell? ⟨g, 0, none⟩ = some (.int .i64 x)) : Kd.C (Kd.int .i64) W (some ⟨g, 0, none⟩) 1 [x] := by
  refine ⟨rfl, by omega, fun _ => ⟨_, rfl, fun j p hj => ?_⟩⟩
  rcases j with _ | j
  · obtain rfl : x = p := by simpa using hj
    refine ⟨[.int .i64 x], rfl, rfl, fun i u hu => ?_⟩
    rcases i with _ | i
    · obtain rfl : Value.int .i64 x = u := by simpa using hu
      exact h
    · simp at hu
  · simp at hj
theorem row_three {W : World} {g : Nat} {x y z : Int} (h0 : W.cell? ⟨g, 0, none⟩ = some (.int .i64 x)) (h1 : W.cell? ⟨g, 1, none⟩ = some (.int .i64 y)) (h2 : W.cell? ⟨g, 2, none⟩ = some (.int .i64 z)) :
    Kd.C (Kd.int .i64) W (some ⟨g, 0, none⟩) 3 [x, y, z] := by
  refine ⟨rfl, by omega, fun _ => ⟨_, rfl, fun j p hj => ?_⟩⟩
  have step : ∀ (v : Int), W.cell? ⟨g, j, none⟩ = some (.int .i64 v) → p = v → ∃ c : List Value, c.length = (Kd.int .i64).sz ∧ (Kd.int .i64).K W p c ∧ ∀ i u, c[i]? = some u → W.cell? (Addr.add ⟨g, 0, none⟩ (j * (Kd.int .i64).sz + i)) = some u := by
    rintro v hv rfl
    refine ⟨[.int .i64 p], rfl, rfl, fun i u hu => ?_⟩
    rcases i with _ | i
    · obtain rfl : Value.int .i64 p = u := by simpa using hu
      have : Addr.add ⟨g, 0, none⟩ (j * (Kd.int .i64).sz + 0) = ⟨g, j, none⟩ := by
        show Addr.add ⟨g, 0, none⟩ (j * 1 + 0) = ⟨g, j, none⟩
        unfold Addr.add
        rcases j with _ | j <;> simp
      rw [this]
      exact hv
    · simp at hu
  rcases j with _ | _ | _ | j
  · exact step x h0 (by simpa using hj.symm)
  · exact step y h1 (by simpa using hj.symm)
  · exact step z h2 (by simpa using hj.symm)
  · simp at hj
theorem impl_oneByte1 (g : Nat) (x : Int) (w : World) (h : w.cell? ⟨g, 0, none⟩ = some (.int .i64 x)) :
    Calls Try.prog 39 #[.slice (some ⟨g, 0, none⟩) 1 1] w fun e w' => e = .returned (.string (strOfNums [x % 256])) ∧ Below w.heap.size w w' :=
  impl_oneByte _ 1 [x] w (row_one h) (by simp) (by simp)
theorem impl_oneByte3 (g : Nat) (x y z : Int) (w : World) (h0 : w.cell? ⟨g, 0, none⟩ = some (.int .i64 x)) (h1 : w.cell? ⟨g, 1, none⟩ = some (.int .i64 y)) (h2 : w.cell? ⟨g, 2, none⟩ = some (.int .i64 z)) :
    Calls Try.prog 39 #[.slice (some ⟨g, 0, none⟩) 3 3] w fun e w' => e = .returned (.string (strOfNums [x % 256, y % 256, z % 256])) ∧ Below w.heap.size w w' :=
  impl_oneByte _ 3 [x, y, z] w (row_three h0 h1 h2) (by simp) (by simp)
end Go.Proofs.Ytlbikcelfheohaa
end

/-! ### YtlbikcelfheohaaRead -/
section
namespace Go.Proofs.Ytlbikcelfheohaa
set_option linter.unusedSimpArgs false
set_option linter.unusedVariables false
open Go.RowKit Go.Proofs.YtlbikcelfheohaaW.PrintWords Go.Proofs.YtlbikcelfheohaaW.PrintMore

/-- A byte of a text. -/
def byN (s : ByteArray) (p : Nat) : Nat := (bt s (p : Int)).toNat
theorem byN_lt (s : ByteArray) (p : Nat) : byN s p < 256 := by have := bt_range s (p : Int); unfold byN; omega
theorem bt_byN (s : ByteArray) (p : Nat) : bt s (p : Int) = (byN s p : Int) := by have := bt_range s (p : Int); unfold byN; omega

/-- A number that stands in a text from a place on: itself and the place behind it. -/
def rvGo : Nat → ByteArray → Nat → Nat → Nat → Option (Nat × Nat)
  | 0, _, _, _, _ => none
  | f + 1, s, p, acc, k =>
    if p < s.size then
      if byN s p < 128 then
        if (byN s p = 0 ∧ 0 < k) ∨ 1000000000 < acc + byN s p * 128 ^ k then none else some (acc + byN s p * 128 ^ k, p + 1)
      else rvGo f s (p + 1) (acc + (byN s p - 128) * 128 ^ k) (k + 1)
    else none
def rv (s : ByteArray) (p : Int) : Option (Nat × Nat) := if 0 ≤ p ∧ p ≤ s.size then rvGo 5 s p.toNat 0 0 else none
/-- What the two programs' ReadVar hand back. -/
def rv3 : Option (Nat × Nat) → Int × Int × Bool
  | some (n, e) => (n, e, true)
  | none => (0, 0, false)

theorem wid (n : Nat) (h : n ≤ 4000000000000) : wrap64 (n : Int) = (n : Int) := by unfold wrap64; omega

theorem or_low (a h i : Nat) (ha : a < 2 ^ i) (hd : h % 2 ^ i = 0) (hi : i ≤ 63) (hh : h < 2 ^ 63) : bits .or .i64 (a : Int) (h : Int) = ((a + h : Nat) : Int) := by
  have hw : ∀ n : Int, 0 ≤ n → n < 2 ^ 63 → IntKind.i64.wrap n = n := by intro m h0 h1; rw [IntKind.wrap_i64]; omega
  have ha' : a < 2 ^ 63 := Nat.lt_of_lt_of_le ha (Nat.pow_le_pow_right (by decide) hi)
  have e1 := (bits_nat .i64 63 (by decide) hw a h ha' hh).2
  have e2 := (bits_nat .i64 63 (by decide) hw h a hh ha').2
  have e3 := bits_join .i64 63 (by decide) hw i (h : Int) (a : Int) (by omega) (by exact_mod_cast hd) (by exact_mod_cast hh) (by omega) (by exact_mod_cast ha) (by exact_mod_cast ha')
  rw [e1, Nat.or_comm, ← e2, e3]
  omega

theorem step_or (acc v k : Nat) (hk : k < 5) (ha : acc < 128 ^ k) (hv : v < 256) :
    bits .or .i64 (acc : Int) (shl .i64 (bits .and .i64 (v : Int) 127) (wrap64 (7 * (k : Int)))) = ((acc + v % 128 * 128 ^ k : Nat) : Int) := by
  rw [and127 v (by omega)]
  have hm : v % 128 < 128 := Nat.mod_lt _ (by omega)
  have key : ∀ i P : Nat, i ≤ 28 → P = 2 ^ i → shl .i64 ((v % 128 : Nat) : Int) (i : Int) = ((v % 128 * P : Nat) : Int) := by
    intro i P hi hP
    have hPle : P ≤ 2 ^ 28 := by rw [hP]; exact Nat.pow_le_pow_right (by decide) hi
    have hmul : v % 128 * P ≤ 127 * 2 ^ 28 := Nat.mul_le_mul (by omega) hPle
    unfold shl
    rw [Int.toNat_natCast, Nat.min_eq_left (by show i ≤ 64; omega), IntKind.wrap_i64]
    have : (((v % 128 : Nat) : Int) * 2 ^ i) = ((v % 128 * P : Nat) : Int) := by rw [hP]; simp
    rw [this]
    generalize v % 128 * P = q at *
    have : (2 : Nat) ^ 28 = 268435456 := by decide
    omega
  have fin : ∀ i P : Nat, i ≤ 28 → P = 2 ^ i → acc < P → bits .or .i64 (acc : Int) ((v % 128 * P : Nat) : Int) = ((acc + v % 128 * P : Nat) : Int) := by
    intro i P hi hP hac
    have hPle : P ≤ 2 ^ 28 := by rw [hP]; exact Nat.pow_le_pow_right (by decide) hi
    have hmul : v % 128 * P ≤ 127 * 2 ^ 28 := Nat.mul_le_mul (by omega) hPle
    refine or_low acc _ i (by rw [← hP]; exact hac) (by rw [hP]; exact Nat.mul_mod_left _ _) (by omega) ?_
    have : (2 : Nat) ^ 28 = 268435456 := by decide
    have : (2 : Nat) ^ 63 = 9223372036854775808 := by decide
    omega
  have e7 : wrap64 (7 * (k : Int)) = ((7 * k : Nat) : Int) := by rw [show (7 * (k : Int)) = ((7 * k : Nat) : Int) from by omega]; exact wid _ (by omega)
  rw [e7]
  have hp : 128 ^ k = 2 ^ (7 * k) := by rw [show (128 : Nat) = 2 ^ 7 from rfl, ← Nat.pow_mul]
  rw [key (7 * k) (128 ^ k) (by omega) hp, fin (7 * k) (128 ^ k) (by omega) hp ha]

theorem impl_rv_l0 (s : ByteArray) (at_ : Nat) (hs : s.size ≤ 1099511627776) (hat : at_ ≤ s.size) : ∀ (f k acc K : Nat), k + f = 5 → acc < 128 ^ k → 2 * f + 2 ≤ K →
    PFnExactReadCommand.impl_ReadVar.l0 K s (at_ : Int) (acc : Int) (k : Int) = some (rv3 (rvGo f s (at_ + k) acc k)) := by
  intro f
  induction f with
  | zero =>
    intro k acc K hk ha hK
    obtain ⟨K, rfl⟩ : ∃ m, K = m + 2 := ⟨K - 2, by omega⟩
    simp only [PFnExactReadCommand.impl_ReadVar.l0, PFnExactReadCommand.impl_ReadVar.j1]
    rw [if_neg (by omega)]
    simp [rvGo, rv3]
  | succ f ih =>
    intro k acc K hk ha hK
    obtain ⟨K, rfl⟩ : ∃ m, K = m + 2 := ⟨K - 2, by omega⟩
    simp only [PFnExactReadCommand.impl_ReadVar.l0, PFnExactReadCommand.impl_ReadVar.j1]
    have hb := byN_lt s (at_ + k)
    rw [if_pos (by omega), show ((at_ : Int) + (k : Int)) = ((at_ + k : Nat) : Int) from by omega, wid (at_ + k) (by omega), bt_byN, wid (byN s (at_ + k)) (by omega),
      show ((k : Int) + 1) = ((k + 1 : Nat) : Int) from by omega, wid (k + 1) (by omega), show (((at_ + k : Nat) : Int) + 1) = ((at_ + k + 1 : Nat) : Int) from by omega, wid (at_ + k + 1) (by omega),
      step_or acc (byN s (at_ + k)) k (by omega) ha hb, show (7 * (k : Int)) = ((7 * k : Nat) : Int) from by omega, wid (7 * k) (by omega)]
    simp only [rvGo]
    by_cases hp : at_ + k < s.size
    · rw [if_pos (decide_eq_true (by omega)), if_pos (by omega), if_pos (by exact_mod_cast hp), if_pos (by omega), if_pos hp]
      by_cases hv : byN s (at_ + k) < 128
      · have hmod : byN s (at_ + k) % 128 = byN s (at_ + k) := Nat.mod_eq_of_lt hv
        rw [if_neg (by omega), if_pos hv, hmod]
        by_cases hz : byN s (at_ + k) = 0
        · by_cases hk0 : 0 < k
          · rw [if_pos (by omega), if_pos (by omega), if_pos (.inl ⟨hz, hk0⟩)]; rfl
          · rw [if_pos (by omega), if_neg (by omega)]
            by_cases hM : 1000000000 < acc + byN s (at_ + k) * 128 ^ k
            · rw [if_pos (by omega), if_pos (.inr hM)]; rfl
            · rw [if_neg (by omega), if_neg (by rintro (⟨_, h⟩ | h) <;> omega)]; rfl
        · rw [if_neg (by omega)]
          by_cases hM : 1000000000 < acc + byN s (at_ + k) * 128 ^ k
          · rw [if_pos (by omega), if_pos (.inr hM)]; rfl
          · rw [if_neg (by omega), if_neg (by rintro (⟨h, _⟩ | h) <;> omega)]; rfl
      · have hmod : byN s (at_ + k) % 128 = byN s (at_ + k) - 128 := by omega
        rw [if_pos (by omega), if_neg hv, hmod]
        have hlt : acc + (byN s (at_ + k) - 128) * 128 ^ k < 128 ^ (k + 1) := by
          rw [Nat.pow_succ]
          have : (byN s (at_ + k) - 128) * 128 ^ k ≤ 127 * 128 ^ k := Nat.mul_le_mul_right _ (by omega)
          omega
        exact ih (k + 1) _ K (by omega) hlt (by omega)
    · rw [if_neg hp]
      have : decide (((at_ + k : Nat) : Int) < (s.size : Int)) = false := decide_eq_false (by omega)
      rw [this]
      rfl

theorem impl_rv_f (s : ByteArray) (p : Int) (hs : s.size ≤ 1099511627776) : PFnExactReadCommand.impl_ReadVar.f 12 s p = some (rv3 (rv s p)) := by
  unfold PFnExactReadCommand.impl_ReadVar.f PFnExactReadCommand.impl_in.f rv
  by_cases h : 0 ≤ p ∧ p ≤ s.size
  · obtain ⟨m, rfl⟩ := Int.eq_ofNat_of_zero_le h.1
    rw [if_pos (by omega), if_pos h]
    have := impl_rv_l0 s m hs (by omega) 5 0 0 12 (by omega) (by omega) (by omega)
    simp only [Option.bind_some]
    rw [if_pos (by simpa using h.2)]
    simpa using this
  · rw [if_neg h]
    by_cases h0 : p ≥ 0
    · rw [if_pos h0]
      simp only [Option.bind_some]
      rw [if_neg (by simp; omega)]
      rfl
    · rw [if_neg h0]
      rfl

/-! the reference's ReadVar: the same -/
def val : List Nat → Nat
  | [] => 0
  | b :: r => b % 128 + 128 * val r
theorem val_snoc : ∀ (L : List Nat) (v : Nat), val (L ++ [v]) = val L + v % 128 * 128 ^ L.length
  | [], v => by simp [val]
  | b :: r, v => by
    simp only [List.cons_append, val, val_snoc r v, List.length_cons, Nat.pow_succ]
    rw [Nat.mul_add, ← Nat.mul_assoc, Nat.mul_comm 128 (v % 128), Nat.mul_assoc, Nat.mul_comm 128 (128 ^ r.length)]
    omega
theorem val_lt : ∀ (L : List Nat), val L < 128 ^ L.length
  | [] => by simp [val]
  | b :: r => by
    have := val_lt r
    have hb : b % 128 < 128 := Nat.mod_lt _ (by omega)
    simp only [val, List.length_cons, Nat.pow_succ]
    omega
theorem varN_ne (n : Nat) : varN n ≠ [] := by rw [varN]; split <;> simp
theorem varN_zero {n : Nat} (h : varN n = [0]) : n = 0 := by
  rw [varN] at h
  split at h
  · simpa using h
  · simp at h
    exact absurd h.2 (varN_ne _)
theorem varN_end : ∀ (L : List Int) (n : Nat), varN n = L ++ [0] → L = []
  | [], _, _ => rfl
  | y :: r, n, h => by
    rw [varN] at h
    split at h
    · simp at h
    · rename_i hn
      simp at h
      have hr := varN_end r (n / 128) h.2
      subst hr
      have := varN_zero h.2
      omega
theorem varN_canon : ∀ (L : List Nat) (v : Nat), (∀ b ∈ L, 128 ≤ b ∧ b < 256) → v < 128 → (varN (val (L ++ [v])) = (L ++ [v]).map (fun b : Nat => (b : Int)) ↔ (L = [] ∨ v ≠ 0))
  | [], v, _, hv => by
    simp only [List.nil_append, val, List.map_cons, List.map_nil]
    rw [varN, dif_pos (by omega), Nat.mod_eq_of_lt hv]
    simp
  | b :: r, v, hb, hv => by
    by_cases hz : v = 0
    · subst hz
      constructor
      · intro h
        have : varN (val (b :: r ++ [0])) = ((b :: r).map (fun b : Nat => (b : Int))) ++ [0] := by rw [h]; simp
        have := varN_end _ _ this
        simp at this
      · rintro (h | h)
        · cases h
        · exact absurd rfl h
    · have hpos : 1 ≤ val (r ++ [v]) := by
        rw [val_snoc, Nat.mod_eq_of_lt hv]
        have : 1 ≤ v * 128 ^ r.length := Nat.mul_pos (by omega) (Nat.pow_pos (by omega))
        omega
      have hb0 := hb b (by simp)
      have ih := (varN_canon r v (fun x hx => hb x (by simp [hx])) hv).2 (.inr hz)
      simp only [List.cons_append, val, List.map_cons]
      rw [varN, dif_neg (by omega)]
      have e1 : (b % 128 + 128 * val (r ++ [v])) / 128 = val (r ++ [v]) := by omega
      have e2 : (b % 128 + 128 * val (r ++ [v])) % 128 + 128 = b := by omega
      rw [e1, e2, ih]
      simp [hz]

theorem varN_range : ∀ (n : Nat), ∀ x ∈ varN n, 0 ≤ x ∧ x < 256 := by
  intro n
  induction n using Nat.strongRecOn with
  | _ n ih =>
    intro x hx
    rw [varN] at hx
    split at hx
    · simp at hx; omega
    · rcases List.mem_cons.1 hx with h | h
      · omega
      · exact ih (n / 128) (by omega) x h

/-- The bytes of a text, as numbers. -/
def nums8 (s : ByteArray) : List Nat := s.data.toList.map (fun b => b.toNat)
theorem nums8_length (s : ByteArray) : (nums8 s).length = s.size := by simp [nums8]
theorem byN_nums (s : ByteArray) (p : Nat) (h : p < s.size) : (nums8 s)[p]? = some (byN s p) := by
  have hp : p < s.data.toList.length := by simpa using h
  unfold nums8 byN bt
  rw [List.getElem?_map, List.getElem?_eq_getElem hp]
  have h' : ((p : Int).toNat) < s.size := by simpa using h
  rw [dif_pos h']
  simp
  rfl
theorem same_bytes (n : Nat) (s : ByteArray) (a b : Nat) (hb : b ≤ s.size) :
    ((strOfNums (varN n)).toList = (s.extract a b).toList ↔ varN n = (((nums8 s).take b).drop a).map (fun x : Nat => (x : Int))) := by
  rw [ByteArray.toList_eq, ByteArray.toList_eq, strOfNums_data]
  have he : (s.extract a b).data.toList = (s.data.toList.take b).drop a := by
    simp [ByteArray.data_extract, List.drop_take]
  rw [he]
  have hr := varN_range n
  unfold nums8
  rw [← List.map_take, ← List.map_drop, List.map_map]
  generalize varN n = xs at *
  generalize List.drop a (List.take b s.data.toList) = bs
  constructor
  · intro h
    rw [← h, List.map_map]
    conv => lhs; rw [← List.map_id xs]
    apply List.map_congr_left
    intro x hx
    have := hr x hx
    simp only [Function.comp, id]
    rw [UInt8.toNat_ofNat']
    omega
  · intro h
    rw [h, List.map_map]
    conv => rhs; rw [← List.map_id bs]
    apply List.map_congr_left
    intro x hx
    simp

/-- The bytes of a text from a place on, so many of them. -/
def part (s : ByteArray) (a k : Nat) : List Nat := ((nums8 s).take (a + k)).drop a
theorem part_zero (s : ByteArray) (a : Nat) : part s a 0 = [] := by simp [part]
theorem part_length (s : ByteArray) (a k : Nat) (h : a + k ≤ s.size) : (part s a k).length = k := by simp [part, nums8_length]; omega
theorem part_succ (s : ByteArray) (a k : Nat) (h : a + k < s.size) : part s a (k + 1) = part s a k ++ [byN s (a + k)] := by
  have hl : a + k < (nums8 s).length := by rw [nums8_length]; exact h
  have hg : (nums8 s)[a + k] = byN s (a + k) := by
    have h1 := byN_nums s (a + k) h
    rw [List.getElem?_eq_getElem hl] at h1
    exact Option.some.inj h1
  unfold part
  rw [← Nat.add_assoc, List.take_succ_eq_append_getElem hl, hg, List.drop_append_of_le_length (by simp; omega)]

theorem spec_l01Var_f (n K : Nat) (h : n ≤ 1000000000) (hK : 6 ≤ K) (hK2 : K ≤ 100) : PFnExactReadCommand.spec_l01Var.f K (n : Int) = some (strOfNums (varN n)) := by
  have hp : 128 ^ 6 ≤ 128 ^ K := Nat.pow_le_pow_right (by omega) hK
  have := l01Var_l0 K n [] (by omega) (by omega) (by omega) (by simp; omega)
  simpa [PFnExactReadCommand.spec_l01Var.f] using this

theorem spec_rv_l0 (s : ByteArray) (at_ : Nat) (hs : s.size ≤ 1099511627776) (hat : at_ ≤ s.size) : ∀ (f k K : Nat), k + f = 5 → at_ + k ≤ s.size → (∀ b ∈ part s at_ k, 128 ≤ b ∧ b < 256) → 2 * f + 10 ≤ K → K ≤ 100 →
    PFnExactReadCommand.spec_ReadVar.l0 K s (at_ : Int) (val (part s at_ k) : Int) ((128 ^ k : Nat) : Int) ((at_ + k : Nat) : Int) = some (rv3 (rvGo f s (at_ + k) (val (part s at_ k)) k)) := by
  intro f
  induction f with
  | zero =>
    intro k K hk hle hb hK hK2
    obtain ⟨K, rfl⟩ : ∃ m, K = m + 2 := ⟨K - 2, by omega⟩
    have h5 : k = 5 := by omega
    subst h5
    simp only [PFnExactReadCommand.spec_ReadVar.l0, PFnExactReadCommand.spec_ReadVar.j1]
    rw [show ((at_ : Int) + 5) = ((at_ + 5 : Nat) : Int) from by omega, wid (at_ + 5) (by omega)]
    rw [show decide (((at_ + 5 : Nat) : Int) < ((at_ + 5 : Nat) : Int)) = false from decide_eq_false (by omega)]
    split <;> simp [rvGo, rv3]
  | succ f ih =>
    intro k K hk hle hb hK hK2
    obtain ⟨K, rfl⟩ : ∃ m, K = m + 2 := ⟨K - 2, by omega⟩
    simp only [PFnExactReadCommand.spec_ReadVar.l0, PFnExactReadCommand.spec_ReadVar.j1, rvGo]
    by_cases hp : at_ + k < s.size
    · have hv := byN_lt s (at_ + k)
      have hps := part_succ s at_ k hp
      have hpl := part_length s at_ k hle
      have hval : val (part s at_ (k + 1)) = val (part s at_ k) + byN s (at_ + k) % 128 * 128 ^ k := by rw [hps, val_snoc, hpl]
      have hvl := val_lt (part s at_ (k + 1))
      rw [part_length s at_ (k + 1) (by omega)] at hvl
      have hpow : 128 ^ (k + 1) ≤ 128 ^ 5 := Nat.pow_le_pow_right (by omega) (by omega)
      have h128 : (128 : Nat) ^ 5 = 34359738368 := by decide
      have hmm : byN s (at_ + k) % 128 * 128 ^ k ≤ val (part s at_ (k + 1)) := by omega
      rw [if_pos (by omega), if_pos hp, show ((at_ : Int) + 5) = ((at_ + 5 : Nat) : Int) from by omega, wid (at_ + 5) (by omega)]
      rw [show decide (((at_ + k : Nat) : Int) < ((at_ + 5 : Nat) : Int)) = true from decide_eq_true (by omega)]
      rw [if_pos rfl, if_pos (by omega), if_pos (by omega), bt_byN, wid (byN s (at_ + k)) (by omega), Int.tmod_eq_emod_of_nonneg (by omega)]
      rw [show ((byN s (at_ + k) : Int) % 128 * ((128 ^ k : Nat) : Int)) = ((byN s (at_ + k) % 128 * 128 ^ k : Nat) : Int) from by push_cast; rfl, wid (byN s (at_ + k) % 128 * 128 ^ k) (by omega)]
      rw [show ((val (part s at_ k) : Int) + ((byN s (at_ + k) % 128 * 128 ^ k : Nat) : Int)) = ((val (part s at_ (k + 1)) : Nat) : Int) from by rw [hval]; push_cast; rfl, wid (val (part s at_ (k + 1))) (by omega)]
      rw [show (((at_ + k : Nat) : Int) + 1) = ((at_ + k + 1 : Nat) : Int) from by omega, wid (at_ + k + 1) (by omega)]
      by_cases hlt : byN s (at_ + k) < 128
      · rw [if_pos (by omega), if_pos hlt]
        have hmod : byN s (at_ + k) % 128 = byN s (at_ + k) := Nat.mod_eq_of_lt hlt
        rw [hmod] at hval
        rw [← hval]
        by_cases hM : 1000000000 < val (part s at_ (k + 1))
        · rw [if_pos (by omega), if_pos (.inr hM)]; rfl
        · rw [if_neg (by omega), spec_l01Var_f _ K (by omega) (by omega) (by omega)]
          simp only [Option.bind_some]
          rw [if_pos (by omega), if_pos (by omega), if_pos (by omega), Int.toNat_natCast, Int.toNat_natCast]
          have hcan := varN_canon (part s at_ k) (byN s (at_ + k)) hb hlt
          rw [← hps] at hcan
          have hsb := same_bytes (val (part s at_ (k + 1))) s at_ (at_ + k + 1) (by omega)
          have hpart : ((nums8 s).take (at_ + k + 1)).drop at_ = part s at_ (k + 1) := rfl
          rw [hpart] at hsb
          by_cases hc : byN s (at_ + k) = 0 ∧ 0 < k
          · have hne : ¬ ((strOfNums (varN (val (part s at_ (k + 1))))).toList = (s.extract at_ (at_ + k + 1)).toList) := by
              rw [hsb, hcan]
              rintro (h | h)
              · rw [h] at hpl; simp at hpl; omega
              · exact h hc.1
            rw [if_neg hne, if_pos (.inl hc)]; rfl
          · have heq : (strOfNums (varN (val (part s at_ (k + 1))))).toList = (s.extract at_ (at_ + k + 1)).toList := by
              rw [hsb, hcan]
              by_cases h0 : byN s (at_ + k) = 0
              · left
                have hk0 : k = 0 := by
                  rcases Nat.eq_zero_or_pos k with h | h
                  · exact h
                  · exact absurd ⟨h0, h⟩ hc
                subst hk0
                exact part_zero s at_
              · exact .inr h0
            have hno : ¬ ((byN s (at_ + k) = 0 ∧ 0 < k) ∨ 1000000000 < val (part s at_ (k + 1))) := fun h => h.elim hc hM
            rw [if_pos heq, if_neg hno]; rfl
      · rw [if_neg (by omega), if_neg hlt]
        have hmod : byN s (at_ + k) % 128 = byN s (at_ + k) - 128 := by omega
        have hb' : ∀ b ∈ part s at_ (k + 1), 128 ≤ b ∧ b < 256 := by
          intro b hbm
          rw [hps] at hbm
          rcases List.mem_append.1 hbm with h | h
          · exact hb b h
          · simp at h; omega
        have := ih (k + 1) K (by omega) (by omega) hb' (by omega) (by omega)
        rw [hmod] at hval
        rw [← hval]
        rw [show (((128 ^ k : Nat) : Int) * 128) = ((128 ^ (k + 1) : Nat) : Int) from by rw [Nat.pow_succ]; push_cast; rfl, wid (128 ^ (k + 1)) (by omega)]
        exact this
    · rw [if_neg (by omega), if_neg hp]
      rfl

theorem spec_rv_f (s : ByteArray) (p : Int) (hs : s.size ≤ 1099511627776) : PFnExactReadCommand.spec_ReadVar.f 20 s p = some (rv3 (rv s p)) := by
  unfold PFnExactReadCommand.spec_ReadVar.f PFnExactReadCommand.spec_l01In.f rv
  by_cases h : 0 ≤ p ∧ p ≤ s.size
  · obtain ⟨m, rfl⟩ := Int.eq_ofNat_of_zero_le h.1
    rw [if_pos (by omega), if_pos h]
    have := spec_rv_l0 s m hs (by omega) 5 0 20 (by omega) (by omega) (by rw [part_zero]; simp) (by omega) (by omega)
    simp only [Option.bind_some]
    rw [if_pos (by simpa using h.2)]
    rw [part_zero] at this
    simpa [val] using this
  · rw [if_neg h]
    by_cases h0 : p ≥ 0
    · rw [if_pos h0]
      simp only [Option.bind_some]
      rw [if_neg (by simp; omega)]
      rfl
    · rw [if_neg h0]
      rfl
end Go.Proofs.Ytlbikcelfheohaa
end

/-! ### YtlbikcelfheohaaState -/
section
namespace Go.Proofs.Ytlbikcelfheohaa
open Go.RowKit Go.Proofs.YtlbikcelfheohaaW.PrintWords
set_option linter.unusedSimpArgs false
set_option linter.unusedVariables false

/-- Only one block may have turned. -/
structure Upd (g : Nat) (w w' : World) : Prop where
  os : w'.os = w.os
  tape : w'.tape = w.tape
  output : w'.output = w.output
  size : w.heap.size ≤ w'.heap.size
  block : ∀ k, k < w.heap.size → k ≠ g → w'.heap[k]? = w.heap[k]?
theorem Upd.of_below {g : Nat} {w w' : World} (h : Below w.heap.size w w') : Upd g w w' := ⟨h.os, h.tape, h.output, h.size, fun k hk _ => h.block k hk⟩
theorem Upd.refl (g : Nat) (w : World) : Upd g w w := ⟨rfl, rfl, rfl, Nat.le_refl _, fun _ _ _ => rfl⟩
theorem Upd.trans {g : Nat} {a b c : World} (h : Upd g a b) (k : Upd g b c) : Upd g a c :=
  ⟨k.os.trans h.os, k.tape.trans h.tape, k.output.trans h.output, Nat.le_trans h.size k.size, fun i hi hg => (k.block i (Nat.lt_of_lt_of_le hi h.size) hg).trans (h.block i hi hg)⟩
theorem Upd.set {g : Nat} {w w' : World} (h : Upd g w w') (o : Nat) (v : Value) : Upd g w (w'.setCell ⟨g, o, none⟩ v) :=
  ⟨h.os, h.tape, h.output, by simpa using h.size, fun k hk hg => (Below.heap_setCell w' ⟨g, o, none⟩ v k hg).trans (h.block k hk hg)⟩
theorem Upd.alloc {g : Nat} {w w' : World} (h : Upd g w w') (o : Obj) : Upd g w (w'.alloc o) :=
  h.trans (Upd.of_below (bl_alloc (Below.refl _ _) o))
theorem Upd.drewN {g : Nat} {w w' : World} (h : Upd g w w') (n : Nat) : Upd g w (w'.drewN n) := h.trans (Upd.of_below (bl_drewN (Below.refl _ _) n))
theorem Upd.then {g : Nat} {w w' w2 : World} (h : Upd g w w') (k : Below w'.heap.size w' w2) : Upd g w w2 := h.trans (Upd.of_below k)
theorem Upd.below {g : Nat} {w w' w0 : World} (h : Upd g w w') (hb : Below w0.heap.size w0 w) (hg : w0.heap.size ≤ g) : Below w0.heap.size w0 w' :=
  hb.trans ⟨h.os, h.tape, h.output, h.size, fun k hk => h.block k (Nat.lt_of_lt_of_le hk hb.size) (by omega)⟩
theorem ucell {g : Nat} {W w1 : World} (h : Upd g W w1) : (∀ b o, b < W.heap.size → b ≠ g → w1.cell? ⟨b, o, none⟩ = W.cell? ⟨b, o, none⟩) ∧ (∀ b o, b < W.heap.size → b ≠ g → w1.frozen? ⟨b, o, none⟩ = W.frozen? ⟨b, o, none⟩) :=
  ⟨fun b o hb hg => World.cell?_of_block (w := W) (h.block b hb hg), fun b o hb hg => World.frozen?_of_block (w := W) (h.block b hb hg)⟩

/-- A reader's block: the text, the place, whether it was bad. -/
def Rd (T g : Nat) (s : ByteArray) (p : Int) (bad : Bool) (W : World) : Prop := W.heap[g]? = some (.cells #[.string s, .int .i64 p, .bool bad] T (0, 0))
theorem Rd.lt {T g : Nat} {s : ByteArray} {p : Int} {bad : Bool} {W : World} (h : Rd T g s p bad W) : g < W.heap.size := by
  unfold Rd at h
  rcases Nat.lt_or_ge g W.heap.size with h1 | h1
  · exact h1
  · rw [Array.getElem?_eq_none h1] at h; cases h
theorem Rd.cells {T g : Nat} {s : ByteArray} {p : Int} {bad : Bool} {W : World} (h : Rd T g s p bad W) :
    W.cell? ⟨g, 0, none⟩ = some (.string s) ∧ W.cell? ⟨g, 1, none⟩ = some (.int .i64 p) ∧ W.cell? ⟨g, 2, none⟩ = some (.bool bad) ∧ ∀ o, W.frozen? ⟨g, o, none⟩ = false := by
  unfold Rd at h
  refine ⟨?_, ?_, ?_, fun o => ?_⟩ <;> simp [World.cell?, World.frozen?, h]
theorem Rd.upd {T g g' : Nat} {s : ByteArray} {p : Int} {bad : Bool} {W W1 : World} (h : Rd T g s p bad W) (hu : Upd g' W W1) (hg : g ≠ g') : Rd T g s p bad W1 := (hu.block g h.lt hg).trans h
theorem Rd.below {T g : Nat} {s : ByteArray} {p : Int} {bad : Bool} {W W1 : World} (h : Rd T g s p bad W) (hb : Below W.heap.size W W1) : Rd T g s p bad W1 := (hb.block g h.lt).trans h
theorem Rd.far {T g : Nat} {s : ByteArray} {p : Int} {bad : Bool} {W : World} (h : Rd T g s p bad W) {a : Addr} (hg : g ≠ a.block) (v : Value) : Rd T g s p bad (W.setCell a v) := (Below.heap_setCell W a v g hg).trans h
theorem Rd.set1 {T g : Nat} {s : ByteArray} {p : Int} {bad : Bool} {W : World} (h : Rd T g s p bad W) (q : Int) : Rd T g s q bad (W.setCell ⟨g, 1, none⟩ (.int .i64 q)) := by
  unfold Rd at *
  simp [World.setCell, Array.getElem?_modify, h]
theorem Rd.set2 {T g : Nat} {s : ByteArray} {p : Int} {bad : Bool} {W : World} (h : Rd T g s p bad W) (q : Bool) : Rd T g s p q (W.setCell ⟨g, 2, none⟩ (.bool q)) := by
  unfold Rd at *
  simp [World.setCell, Array.getElem?_modify, h]
theorem Rd.new (T : Nat) (s : ByteArray) (p : Int) (bad : Bool) (W : World) : Rd T W.heap.size s p bad (W.alloc (.cells #[.string s, .int .i64 p, .bool bad] T)) := by
  unfold Rd
  simpa using heap_alloc_new W _

/-- What taking a number, a byte, a text does. -/
def rdNum (s : ByteArray) (p : Int) (bad : Bool) : Int × Int × Bool := if bad then (0, p, true) else match rv s p with
  | some (n, e) => (n, e, false)
  | none => (0, p, true)
def rdByte (s : ByteArray) (p : Int) (bad : Bool) : Int × Int × Bool := if bad = true ∨ p ≥ s.size then (0, p, true) else (bt s p, p + 1, false)

theorem impl_ReadVar (s : ByteArray) (p : Int) (w : World) (hs : s.size ≤ 1099511627776) :
    Calls Try.prog 84 #[.string s, .int .i64 p] w fun e w' => e = .returned (.tuple #[.int .i64 (rv3 (rv s p)).1, .int .i64 (rv3 (rv s p)).2.1, .bool (rv3 (rv s p)).2.2]) ∧ Below w.heap.size w w' := by
  refine (PFnExactReadCommand.impl_ReadVar.calls 12 s p _ _ _ w (impl_rv_f s p hs)).mono ?_
  rintro e w' ⟨rfl, nd, rfl⟩
  exact ⟨rfl, bl_drewN (Below.refl _ _) nd⟩
theorem spec_ReadVar (s : ByteArray) (p : Int) (w : World) (hs : s.size ≤ 1099511627776) :
    Calls Try.prog 83 #[.string s, .int .i64 p] w fun e w' => e = .returned (.tuple #[.int .i64 (rv3 (rv s p)).1, .int .i64 (rv3 (rv s p)).2.1, .bool (rv3 (rv s p)).2.2]) ∧ Below w.heap.size w w' := by
  refine (PFnExactReadCommand.spec_ReadVar.calls 20 s p _ _ _ w (spec_rv_f s p hs)).mono ?_
  rintro e w' ⟨rfl, hb⟩
  exact ⟨rfl, hb⟩

attribute [local go_sem] cell_grow

theorem impl_ReadVarH (s : ByteArray) (p : Int) (r : Int × Int × Bool) (w : World) (h : Hid (rv3 (rv s p) = r)) (hs : s.size ≤ 1099511627776) :
    Calls Try.prog 84 #[.string s, .int .i64 p] w fun e w' => e = .returned (.tuple #[.int .i64 r.1, .int .i64 r.2.1, .bool r.2.2]) ∧ Below w.heap.size w w' := by
  have := impl_ReadVar s p w hs
  rw [h.out] at this
  exact this
theorem spec_ReadVarH (s : ByteArray) (p : Int) (r : Int × Int × Bool) (w : World) (h : Hid (rv3 (rv s p) = r)) (hs : s.size ≤ 1099511627776) :
    Calls Try.prog 83 #[.string s, .int .i64 p] w fun e w' => e = .returned (.tuple #[.int .i64 r.1, .int .i64 r.2.1, .bool r.2.2]) ∧ Below w.heap.size w w' := by
  have := spec_ReadVar s p w hs
  rw [h.out] at this
  exact this

set_option maxHeartbeats 1000000 in
theorem impl_number (g : Nat) (s : ByteArray) (p : Int) (bad : Bool) (w : World) (hs : s.size ≤ 1099511627776) (hR : Rd 85 g s p bad w) :
    Calls Try.prog 46 #[.pointer (some ⟨g, 0, none⟩)] w fun e w' =>
      e = .returned (.int .i64 (rdNum s p bad).1) ∧ Rd 85 g s (rdNum s p bad).2.1 (rdNum s p bad).2.2 w' ∧ Upd g w w' := by
  have hlt := hR.lt
  obtain ⟨c0, c1, c2, hf⟩ := hR.cells
  cases bad with
  | true =>
    have Hq := Lib.hid (show rdNum s p true = (0, p, true) from by simp [rdNum])
    go_enter Try.func46, Try.ntmps46
    go_wp2_with fail
    refine wp_region_quiet_below (by kernel_rfl) (by kernel_rfl) ?_
    repeat (first | quiet_step (first | (go_at_call 84; exact Calls.regrown_of (impl_ReadVar _ _ _ hs))) | go_big_quiet_step (fail))
    refine wpQuiet_nil ?_
    intro W2 hw'
    have hbq := bl_regrown hw'
    clear hw'
    obtain ⟨hcq, hfq⟩ := bcell hbq
    go_wp2
    go_ret
    rw [Hq.out]
    exact ⟨rfl, (hR.below hbq).set2 true, ((Upd.refl g w).then hbq).set 2 _⟩
  | false =>
    rcases hq : rv s p with _ | ⟨n, e⟩
    · have Hq := Lib.hid (show rdNum s p false = (0, p, true) from by simp [rdNum, hq])
      have H3 := Lib.hid (show rv3 (rv s p) = (0, 0, false) from by rw [hq]; rfl)
      clear hq
      go_enter Try.func46, Try.ntmps46
      go_wp2_with fail
      refine wp_region_quiet_below (by kernel_rfl) (by kernel_rfl) ?_
      repeat (first | quiet_step (first | (go_at_call 84; exact Calls.regrown_of (impl_ReadVarH _ _ _ _ H3 hs))) | go_big_quiet_step (fail))
      refine wpQuiet_nil ?_
      intro W2 hw'
      have hbq := bl_regrown hw'
      clear hw'
      obtain ⟨hcq, hfq⟩ := bcell hbq
      go_wp2
      go_ret
      rw [Hq.out]
      exact ⟨rfl, (hR.below hbq).set2 true, ((Upd.refl g w).then hbq).set 2 _⟩
    · have Hq := Lib.hid (show rdNum s p false = ((n : Int), (e : Int), false) from by simp [rdNum, hq])
      have H3 := Lib.hid (show rv3 (rv s p) = ((n : Int), (e : Int), true) from by rw [hq]; rfl)
      clear hq
      go_enter Try.func46, Try.ntmps46
      go_wp2_with fail
      refine wp_region_quiet_below (by kernel_rfl) (by kernel_rfl) ?_
      repeat (first | quiet_step (first | (go_at_call 84; exact Calls.regrown_of (impl_ReadVarH _ _ _ _ H3 hs))) | go_big_quiet_step (fail))
      refine wpQuiet_nil ?_
      intro W2 hw'
      have hbq := bl_regrown hw'
      clear hw'
      obtain ⟨hcq, hfq⟩ := bcell hbq
      go_wp2
      go_ret
      rw [Hq.out]
      exact ⟨rfl, (hR.below hbq).set1 e, ((Upd.refl g w).then hbq).set 1 _⟩

set_option maxHeartbeats 1000000 in
theorem spec_l05Var (g : Nat) (s : ByteArray) (p : Int) (bad : Bool) (w : World) (hs : s.size ≤ 1099511627776) (hR : Rd 80 g s p bad w) :
    Calls Try.prog 43 #[.pointer (some ⟨g, 0, none⟩)] w fun e w' =>
      e = .returned (.int .i64 (rdNum s p bad).1) ∧ Rd 80 g s (rdNum s p bad).2.1 (rdNum s p bad).2.2 w' ∧ Upd g w w' := by
  have hlt := hR.lt
  obtain ⟨c0, c1, c2, hf⟩ := hR.cells
  cases bad with
  | true =>
    have Hq := Lib.hid (show rdNum s p true = (0, p, true) from by simp [rdNum])
    go_enter Try.func43, Try.ntmps43
    go_wp2_with fail
    refine wp_region_quiet_below (by kernel_rfl) (by kernel_rfl) ?_
    repeat (first | quiet_step (first | (go_at_call 83; exact Calls.regrown_of (spec_ReadVar _ _ _ hs))) | go_big_quiet_step (fail))
    refine wpQuiet_nil ?_
    intro W2 hw'
    have hbq := bl_regrown hw'
    clear hw'
    obtain ⟨hcq, hfq⟩ := bcell hbq
    go_wp2
    go_ret
    rw [Hq.out]
    exact ⟨rfl, (hR.below hbq).set2 true, ((Upd.refl g w).then hbq).set 2 _⟩
  | false =>
    rcases hq : rv s p with _ | ⟨n, e⟩
    · have Hq := Lib.hid (show rdNum s p false = (0, p, true) from by simp [rdNum, hq])
      have H3 := Lib.hid (show rv3 (rv s p) = (0, 0, false) from by rw [hq]; rfl)
      clear hq
      go_enter Try.func43, Try.ntmps43
      go_wp2_with fail
      refine wp_region_quiet_below (by kernel_rfl) (by kernel_rfl) ?_
      repeat (first | quiet_step (first | (go_at_call 83; exact Calls.regrown_of (spec_ReadVarH _ _ _ _ H3 hs))) | go_big_quiet_step (fail))
      refine wpQuiet_nil ?_
      intro W2 hw'
      have hbq := bl_regrown hw'
      clear hw'
      obtain ⟨hcq, hfq⟩ := bcell hbq
      go_wp2
      go_ret
      rw [Hq.out]
      exact ⟨rfl, (hR.below hbq).set2 true, ((Upd.refl g w).then hbq).set 2 _⟩
    · have Hq := Lib.hid (show rdNum s p false = ((n : Int), (e : Int), false) from by simp [rdNum, hq])
      have H3 := Lib.hid (show rv3 (rv s p) = ((n : Int), (e : Int), true) from by rw [hq]; rfl)
      clear hq
      go_enter Try.func43, Try.ntmps43
      go_wp2_with fail
      refine wp_region_quiet_below (by kernel_rfl) (by kernel_rfl) ?_
      repeat (first | quiet_step (first | (go_at_call 83; exact Calls.regrown_of (spec_ReadVarH _ _ _ _ H3 hs))) | go_big_quiet_step (fail))
      refine wpQuiet_nil ?_
      intro W2 hw'
      have hbq := bl_regrown hw'
      clear hw'
      obtain ⟨hcq, hfq⟩ := bcell hbq
      go_wp2
      go_ret
      rw [Hq.out]
      exact ⟨rfl, (hR.below hbq).set1 e, ((Upd.refl g w).then hbq).set 1 _⟩

/-! what the numbers read are -/
theorem rvGo_range (s : ByteArray) : ∀ (f p acc k n e : Nat), rvGo f s p acc k = some (n, e) → p < e ∧ e ≤ s.size ∧ n ≤ 1000000000
  | 0, _, _, _, _, _, h => by simp [rvGo] at h
  | f + 1, p, acc, k, n, e, h => by
    simp only [rvGo] at h
    split at h
    · split at h
      · split at h
        · cases h
        · rename_i h1 h2 h3
          have hn : ¬ (1000000000 < acc + byN s p * 128 ^ k) := fun x => h3 (.inr x)
          simp only [Option.some.injEq, Prod.mk.injEq] at h
          omega
      · have := rvGo_range s f (p + 1) _ _ n e h
        omega
    · cases h
theorem rv_range {s : ByteArray} {p : Int} {n e : Nat} (h : rv s p = some (n, e)) : 0 ≤ p ∧ p < (e : Int) ∧ e ≤ s.size ∧ n ≤ 1000000000 := by
  unfold rv at h
  split at h
  · rename_i hp
    have := rvGo_range s 5 _ 0 0 n e h
    omega
  · cases h

def rdTake (s : ByteArray) (p : Int) (bad : Bool) (n : Int) : ByteArray × Int × Bool := if bad = true ∨ n > s.size - p then (⟨#[]⟩, p, true) else (s.extract p.toNat (p + n).toNat, p + n, false)


/-- A world's first blocks. -/
def trunc (w : World) (g : Nat) : World := { w with heap := w.heap.extract 0 g }
theorem trunc_size {w : World} {g : Nat} (h : g ≤ w.heap.size) : (trunc w g).heap.size = g := by simp [trunc]; omega
theorem trunc_below {w : World} {g : Nat} (h : g ≤ w.heap.size) : Below (trunc w g).heap.size (trunc w g) w := by
  rw [trunc_size h]
  refine ⟨rfl, rfl, rfl, by rw [trunc_size h]; exact h, fun k hk => ?_⟩
  show w.heap[k]? = (w.heap.extract 0 g)[k]?
  rw [Array.getElem?_extract, if_pos (by omega)]
  simp
theorem upd_of {g : Nat} {w w' w0 : World} (h0 : Below w0.heap.size w0 w) (h1 : Below w0.heap.size w0 w') (hk : KeepBut w w' g none) : Upd g w w' :=
  ⟨h1.os.trans h0.os.symm, h1.tape.trans h0.tape.symm, h1.output.trans h0.output.symm, hk.1, fun k hk' hg => hk.2 k hk' hg (by simp)⟩

theorem take_f (s : ByteArray) (p : Int) (bad : Bool) (n : Int) (hs : s.size ≤ 1099511627776) (hp0 : 0 ≤ p) (hp1 : p ≤ s.size) (hn : 0 ≤ n) (hn1 : n ≤ 1000000000) :
    PFnExactReadCommand.spec_l05Take.f s p bad n = some ((rdTake s p bad n).1, s, (rdTake s p bad n).2.1, (rdTake s p bad n).2.2) := by
  unfold PFnExactReadCommand.spec_l05Take.f rdTake
  have e1 : wrap64 ((s.size : Int) - p) = (s.size : Int) - p := by unfold wrap64; omega
  have e2 : wrap64 (p + n) = p + n := by unfold wrap64; omega
  have e3 : wrap64 (p + n - n) = p := by unfold wrap64; omega
  rw [e1, e2, e3]
  clear e1 e2 e3
  cases bad with
  | true => simp
  | false =>
    by_cases h : n > s.size - p
    · rw [if_neg (by simp), if_pos h, if_pos (.inr h)]
    · rw [if_neg (by simp), if_neg h, if_pos hp0, if_pos (by omega), if_pos (by omega), if_neg (by simpa using h)]
theorem byte_f (s : ByteArray) (p : Int) (bad : Bool) (hs : s.size ≤ 1099511627776) (hp0 : 0 ≤ p) (hp1 : p ≤ s.size) :
    PFnExactReadCommand.impl_reader_byte.f s p bad = some ((rdByte s p bad).1, s, (rdByte s p bad).2.1, (rdByte s p bad).2.2) := by
  unfold PFnExactReadCommand.impl_reader_byte.f rdByte
  have hb := bt_range s p
  have e2 : wrap64 (p + 1) = p + 1 := by unfold wrap64; omega
  have e3 : wrap64 (p + 1 - 1) = p := by unfold wrap64; omega
  have e4 : wrap64 (bt s p) = bt s p := by unfold wrap64; omega
  rw [e2, e3, e4]
  clear e2 e3 e4
  cases bad with
  | true => simp
  | false =>
    by_cases h : p ≥ s.size
    · rw [if_neg (by simp), if_pos h, if_pos (.inr h)]
    · rw [if_neg (by simp), if_neg h, if_pos hp0, if_pos (by omega), if_neg (by simpa using h)]
theorem done_f (s : ByteArray) (p : Int) (bad : Bool) : PFnExactReadCommand.impl_reader_done.f s p bad = some (!bad && p == s.size, s, p, bad) := by
  unfold PFnExactReadCommand.impl_reader_done.f
  cases bad <;> simp

theorem spec_l05Take (g : Nat) (s : ByteArray) (p : Int) (bad : Bool) (n : Int) (w : World) (hs : s.size ≤ 1099511627776) (hp0 : 0 ≤ p) (hp1 : p ≤ s.size) (hn : 0 ≤ n) (hn1 : n ≤ 1000000000) (hR : Rd 80 g s p bad w) :
    Calls Try.prog 82 #[.pointer (some ⟨g, 0, none⟩), .int .i64 n] w fun e w' =>
      e = .returned (.string (rdTake s p bad n).1) ∧ Rd 80 g s (rdTake s p bad n).2.1 (rdTake s p bad n).2.2 w' ∧ Upd g w w' := by
  have hlt := Nat.le_of_lt hR.lt
  refine (PFnExactReadCommand.spec_l05Take.calls g s p bad n _ _ _ _ (trunc w g) w ⟨hR, Nat.le_of_eq (trunc_size hlt)⟩ (trunc_below hlt) (take_f s p bad n hs hp0 hp1 hn hn1)).mono ?_
  rintro e w' ⟨rfl, hI, hB, hK⟩
  exact ⟨rfl, hI.1, upd_of (trunc_below hlt) hB hK⟩
theorem impl_byte (g : Nat) (s : ByteArray) (p : Int) (bad : Bool) (w : World) (hs : s.size ≤ 1099511627776) (hp0 : 0 ≤ p) (hp1 : p ≤ s.size) (hR : Rd 85 g s p bad w) :
    Calls Try.prog 45 #[.pointer (some ⟨g, 0, none⟩)] w fun e w' =>
      e = .returned (.int .i64 (rdByte s p bad).1) ∧ Rd 85 g s (rdByte s p bad).2.1 (rdByte s p bad).2.2 w' ∧ Upd g w w' := by
  have hlt := Nat.le_of_lt hR.lt
  refine (PFnExactReadCommand.impl_reader_byte.calls g s p bad _ _ _ _ (trunc w g) w ⟨hR, Nat.le_of_eq (trunc_size hlt)⟩ (trunc_below hlt) (byte_f s p bad hs hp0 hp1)).mono ?_
  rintro e w' ⟨rfl, hI, hB, hK⟩
  exact ⟨rfl, hI.1, upd_of (trunc_below hlt) hB hK⟩
theorem impl_done (g : Nat) (s : ByteArray) (p : Int) (bad : Bool) (w : World) (hR : Rd 85 g s p bad w) :
    Calls Try.prog 48 #[.pointer (some ⟨g, 0, none⟩)] w fun e w' =>
      e = .returned (.bool (!bad && p == s.size)) ∧ Rd 85 g s p bad w' ∧ Upd g w w' := by
  have hlt := Nat.le_of_lt hR.lt
  refine (PFnExactReadCommand.impl_reader_done.calls g s p bad _ _ _ _ (trunc w g) w ⟨hR, Nat.le_of_eq (trunc_size hlt)⟩ (trunc_below hlt) (done_f s p bad)).mono ?_
  rintro e w' ⟨rfl, hI, hB, hK⟩
  exact ⟨rfl, hI.1, upd_of (trunc_below hlt) hB hK⟩

def rs (s : ByteArray) (p : Int) : Option (ByteArray × Int) := match rv s p with
  | some (n, e) => if n > 20000 ∨ (n : Int) > s.size - e then none else some (s.extract e (e + n), ((e + n : Nat) : Int))
  | none => none
def rs3 : Option (ByteArray × Int) → ByteArray × Int × Bool
  | some (t, e) => (t, e, true)
  | none => (⟨#[]⟩, 0, false)
def rdText (s : ByteArray) (p : Int) (bad : Bool) : ByteArray × Int × Bool := if bad then (⟨#[]⟩, p, true) else match rs s p with
  | some (t, e) => (t, e, false)
  | none => (⟨#[]⟩, p, true)
theorem rs_f (s : ByteArray) (p : Int) (hs : s.size ≤ 1099511627776) : PFnExactReadCommand.impl_ReadShort.f 12 s p = some (rs3 (rs s p)) := by
  unfold PFnExactReadCommand.impl_ReadShort.f rs
  rw [impl_rv_f s p hs]
  rcases hq : rv s p with _ | ⟨n, e⟩
  · rfl
  · obtain ⟨h0, h1, h2, h3⟩ := rv_range hq
    simp only [rv3, Option.bind_some]
    rw [if_pos trivial]
    by_cases c1 : n > 20000
    · rw [if_pos (by omega), if_pos (.inl c1)]; rfl
    · have e1 : wrap64 ((s.size : Int) - (e : Int)) = (s.size : Int) - (e : Int) := by unfold wrap64; omega
      have e2 : wrap64 ((e : Int) + (n : Int)) = ((e + n : Nat) : Int) := by unfold wrap64; omega
      rw [if_neg (by omega), e1, e2]
      clear e1 e2
      by_cases c2 : (n : Int) > s.size - e
      · rw [if_pos c2, if_pos (.inr c2)]; rfl
      · have c3 : ¬ (n > 20000 ∨ (n : Int) > s.size - e) := fun h => h.elim c1 c2
        rw [if_neg c2, if_pos (by omega), if_pos (by omega), if_pos (by omega), if_neg c3, Int.toNat_natCast, Int.toNat_natCast]; rfl
theorem text_f (s : ByteArray) (p : Int) (bad : Bool) (hs : s.size ≤ 1099511627776) :
    PFnExactReadCommand.impl_reader_text.f 12 s p bad = some ((rdText s p bad).1, s, (rdText s p bad).2.1, (rdText s p bad).2.2) := by
  unfold PFnExactReadCommand.impl_reader_text.f rdText
  rw [rs_f s p hs]
  cases bad with
  | true => simp
  | false => rcases rs s p with _ | ⟨t, e⟩ <;> simp [rs3]
theorem bt_extract (s : ByteArray) (a b : Nat) (hab : a < b) (hb : b ≤ s.size) : bt (s.extract a b) 0 = bt s (a : Int) := by
  unfold bt
  have h1 : (0 : Int).toNat < (s.extract a b).size := by simp; omega
  have h2 : (a : Int).toNat < s.size := by simp; omega
  rw [dif_pos h1, dif_pos h2]
  congr 2
  simp [ByteArray.getElem_extract]
theorem one_f (s : ByteArray) (p : Int) (bad : Bool) (hs : s.size ≤ 1099511627776) (hp0 : 0 ≤ p) (hp1 : p ≤ s.size) :
    PFnExactReadCommand.spec_l10One.f s p bad = some ((rdByte s p bad).1, s, (rdByte s p bad).2.1, (rdByte s p bad).2.2) := by
  unfold PFnExactReadCommand.spec_l10One.f
  rw [take_f s p bad 1 hs hp0 hp1 (by omega) (by omega)]
  unfold rdTake rdByte
  simp only [Option.bind_some]
  by_cases h : bad = true ∨ p ≥ s.size
  · have h3 : bad = true ∨ (1 : Int) > s.size - p := by
      rcases h with h | h
      · exact .inl h
      · exact .inr (by omega)
    rw [if_pos h3, if_pos h]
    simp
  · have h2 : ¬ (bad = true ∨ (1 : Int) > s.size - p) := by rintro (x | x); exact h (.inl x); exact h (.inr (by omega))
    rw [if_neg h2, if_neg h]
    obtain ⟨m, rfl⟩ := Int.eq_ofNat_of_zero_le hp0
    have hm : m < s.size := by
      rcases Nat.lt_or_ge m s.size with x | x
      · exact x
      · exact absurd (.inr (by omega)) h
    have e1 : ((m : Int) + 1).toNat = m + 1 := by omega
    have hb := bt_range s (m : Int)
    simp only [Int.toNat_natCast, e1]
    have hsz : (0 : Int) < ((s.extract m (m + 1)).size : Int) := by simp; omega
    rw [if_neg (by simp), if_pos hsz, bt_extract s m (m + 1) (by omega) (by omega)]
    have e4 : wrap64 (bt s (m : Int)) = bt s (m : Int) := by unfold wrap64; omega
    rw [e4]

theorem impl_text (g : Nat) (s : ByteArray) (p : Int) (bad : Bool) (w : World) (hs : s.size ≤ 1099511627776) (hR : Rd 85 g s p bad w) :
    Calls Try.prog 47 #[.pointer (some ⟨g, 0, none⟩)] w fun e w' =>
      e = .returned (.string (rdText s p bad).1) ∧ Rd 85 g s (rdText s p bad).2.1 (rdText s p bad).2.2 w' ∧ Upd g w w' := by
  have hlt := Nat.le_of_lt hR.lt
  refine (PFnExactReadCommand.impl_reader_text.calls 12 g s p bad _ _ _ _ (trunc w g) w ⟨hR, Nat.le_of_eq (trunc_size hlt)⟩ (trunc_below hlt) (text_f s p bad hs)).mono ?_
  rintro e w' ⟨rfl, hI, hB, hK⟩
  exact ⟨rfl, hI.1, upd_of (trunc_below hlt) hB hK⟩
theorem spec_l10One (g : Nat) (s : ByteArray) (p : Int) (bad : Bool) (w : World) (hs : s.size ≤ 1099511627776) (hp0 : 0 ≤ p) (hp1 : p ≤ s.size) (hR : Rd 80 g s p bad w) :
    Calls Try.prog 42 #[.pointer (some ⟨g, 0, none⟩)] w fun e w' =>
      e = .returned (.int .i64 (rdByte s p bad).1) ∧ Rd 80 g s (rdByte s p bad).2.1 (rdByte s p bad).2.2 w' ∧ Upd g w w' := by
  have hlt := Nat.le_of_lt hR.lt
  refine (PFnExactReadCommand.spec_l10One.calls g s p bad _ _ _ _ (trunc w g) w ⟨hR, Nat.le_of_eq (trunc_size hlt)⟩ (trunc_below hlt) (one_f s p bad hs hp0 hp1)).mono ?_
  rintro e w' ⟨rfl, hI, hB, hK⟩
  exact ⟨rfl, hI.1, upd_of (trunc_below hlt) hB hK⟩

theorem rdNum_range (s : ByteArray) (p : Int) (bad : Bool) (hp0 : 0 ≤ p) (hp1 : p ≤ s.size) : 0 ≤ (rdNum s p bad).1 ∧ (rdNum s p bad).1 ≤ 1000000000 ∧ 0 ≤ (rdNum s p bad).2.1 ∧ (rdNum s p bad).2.1 ≤ s.size := by
  unfold rdNum
  cases bad with
  | true => simp; omega
  | false =>
    rcases hq : rv s p with _ | ⟨n, e⟩
    · simp; omega
    · have := rv_range hq
      simp; omega
theorem rdByte_range (s : ByteArray) (p : Int) (bad : Bool) (hp0 : 0 ≤ p) (hp1 : p ≤ s.size) : 0 ≤ (rdByte s p bad).1 ∧ (rdByte s p bad).1 ≤ 255 ∧ 0 ≤ (rdByte s p bad).2.1 ∧ (rdByte s p bad).2.1 ≤ s.size := by
  unfold rdByte
  have := bt_range s p
  split
  · simp; omega
  · rename_i h
    have : ¬ p ≥ s.size := fun x => h (.inr x)
    simp; omega

/-- The reference's short text. -/
def rdShort (s : ByteArray) (p : Int) (bad : Bool) : ByteArray × Int × Bool := rdTake s (rdNum s p bad).2.1 (rdNum s p bad).2.2 (rdNum s p bad).1
set_option maxHeartbeats 1000000 in
theorem spec_l05ReadShort (g : Nat) (s : ByteArray) (p : Int) (bad : Bool) (w : World) (hs : s.size ≤ 1099511627776) (hp0 : 0 ≤ p) (hp1 : p ≤ s.size) (hR : Rd 80 g s p bad w) :
    Calls Try.prog 44 #[.pointer (some ⟨g, 0, none⟩)] w fun e w' =>
      e = .returned (.string (rdShort s p bad).1) ∧ Rd 80 g s (rdShort s p bad).2.1 (rdShort s p bad).2.2 w' ∧ Upd g w w' := by
  have hr := rdNum_range s p bad hp0 hp1
  unfold rdShort
  go_enter Try.func44, Try.ntmps44
  go_wp2_with fail
  refine (spec_l05Var _ _ _ _ _ hs hR).mono ?_
  rintro e w1 ⟨rfl, hR1, hU1⟩
  go_wp2_with fail
  refine (spec_l05Take _ _ _ _ _ _ hs hr.2.2.1 hr.2.2.2 hr.1 hr.2.1 hR1).mono ?_
  rintro e w2 ⟨rfl, hR2, hU2⟩
  go_wp2
  go_ret
  exact ⟨rfl, hR2, hU1.trans hU2⟩
end Go.Proofs.Ytlbikcelfheohaa
end

/-! ### YtlbikcelfheohaaReadH -/
section
namespace Go.Proofs.Ytlbikcelfheohaa
open Go.RowKit Go.Proofs.YtlbikcelfheohaaW.PrintWords
set_option linter.unusedSimpArgs false
set_option linter.unusedVariables false

/-! The readers' contracts, what is read behind a hidden equation. (own) -/
theorem impl_byteH (g : Nat) (s : ByteArray) (p : Int) (bad : Bool) (n : Int) (p' : Int) (bad' : Bool) (w : World) (h : Hid (rdByte s p bad = (n, p', bad'))) (hs : s.size ≤ 1099511627776) (hp0 : 0 ≤ p) (hp1 : p ≤ s.size) (hR : Rd 85 g s p bad w) :
    Calls Try.prog 45 #[.pointer (some ⟨g, 0, none⟩)] w fun e w' => e = .returned (.int .i64 n) ∧ Rd 85 g s p' bad' w' ∧ Upd g w w' := by
  have := impl_byte g s p bad w hs hp0 hp1 hR
  rw [h.out] at this
  exact this

theorem impl_numberH (g : Nat) (s : ByteArray) (p : Int) (bad : Bool) (n : Int) (p' : Int) (bad' : Bool) (w : World) (h : Hid (rdNum s p bad = (n, p', bad'))) (hs : s.size ≤ 1099511627776) (hR : Rd 85 g s p bad w) :
    Calls Try.prog 46 #[.pointer (some ⟨g, 0, none⟩)] w fun e w' => e = .returned (.int .i64 n) ∧ Rd 85 g s p' bad' w' ∧ Upd g w w' := by
  have := impl_number g s p bad w hs hR
  rw [h.out] at this
  exact this

theorem impl_textH (g : Nat) (s : ByteArray) (p : Int) (bad : Bool) (n : ByteArray) (p' : Int) (bad' : Bool) (w : World) (h : Hid (rdText s p bad = (n, p', bad'))) (hs : s.size ≤ 1099511627776) (hR : Rd 85 g s p bad w) :
    Calls Try.prog 47 #[.pointer (some ⟨g, 0, none⟩)] w fun e w' => e = .returned (.string n) ∧ Rd 85 g s p' bad' w' ∧ Upd g w w' := by
  have := impl_text g s p bad w hs hR
  rw [h.out] at this
  exact this

theorem spec_l10OneH (g : Nat) (s : ByteArray) (p : Int) (bad : Bool) (n : Int) (p' : Int) (bad' : Bool) (w : World) (h : Hid (rdByte s p bad = (n, p', bad'))) (hs : s.size ≤ 1099511627776) (hp0 : 0 ≤ p) (hp1 : p ≤ s.size) (hR : Rd 80 g s p bad w) :
    Calls Try.prog 42 #[.pointer (some ⟨g, 0, none⟩)] w fun e w' => e = .returned (.int .i64 n) ∧ Rd 80 g s p' bad' w' ∧ Upd g w w' := by
  have := spec_l10One g s p bad w hs hp0 hp1 hR
  rw [h.out] at this
  exact this

theorem spec_l05VarH (g : Nat) (s : ByteArray) (p : Int) (bad : Bool) (n : Int) (p' : Int) (bad' : Bool) (w : World) (h : Hid (rdNum s p bad = (n, p', bad'))) (hs : s.size ≤ 1099511627776) (hR : Rd 80 g s p bad w) :
    Calls Try.prog 43 #[.pointer (some ⟨g, 0, none⟩)] w fun e w' => e = .returned (.int .i64 n) ∧ Rd 80 g s p' bad' w' ∧ Upd g w w' := by
  have := spec_l05Var g s p bad w hs hR
  rw [h.out] at this
  exact this

theorem spec_l05ReadShortH (g : Nat) (s : ByteArray) (p : Int) (bad : Bool) (n : ByteArray) (p' : Int) (bad' : Bool) (w : World) (h : Hid (rdShort s p bad = (n, p', bad'))) (hs : s.size ≤ 1099511627776) (hp0 : 0 ≤ p) (hp1 : p ≤ s.size) (hR : Rd 80 g s p bad w) :
    Calls Try.prog 44 #[.pointer (some ⟨g, 0, none⟩)] w fun e w' => e = .returned (.string n) ∧ Rd 80 g s p' bad' w' ∧ Upd g w w' := by
  have := spec_l05ReadShort g s p bad w hs hp0 hp1 hR
  rw [h.out] at this
  exact this

theorem bl_upd2 {w W w2 : World} {g : Nat} (k : Upd g W w2) (h : Below w.heap.size w W) (hg : w.heap.size ≤ g) : Below w.heap.size w w2 := k.below h hg
theorem bl_upd {w W w2 : World} {g : Nat} (h : Below w.heap.size w W) (hg : w.heap.size ≤ g) (k : Upd g W w2) : Below w.heap.size w w2 := k.below h hg
theorem rd_new {T g : Nat} {s : ByteArray} {p : Int} {bad : Bool} {W : World} (h : g = W.heap.size) : Rd T g s p bad (W.alloc (.cells #[.string s, .int .i64 p, .bool bad] T)) := by
  subst h
  exact Rd.new T s p bad W
theorem numH_range {s : ByteArray} {p : Int} {bad : Bool} {n p' : Int} {bad' : Bool} (h : Hid (rdNum s p bad = (n, p', bad'))) (hp : 0 ≤ p ∧ p ≤ s.size) : 0 ≤ p' ∧ p' ≤ s.size := by
  have := rdNum_range s p bad hp.1 hp.2
  rw [h.out] at this
  exact this.2.2
theorem byteH_range {s : ByteArray} {p : Int} {bad : Bool} {n p' : Int} {bad' : Bool} (h : Hid (rdByte s p bad = (n, p', bad'))) (hp : 0 ≤ p ∧ p ≤ s.size) : 0 ≤ p' ∧ p' ≤ s.size := by
  have := rdByte_range s p bad hp.1 hp.2
  rw [h.out] at this
  exact this.2.2

/-- One value or another. -/
def pickC (b : Bool) (x y : Value) : Value := cond b x y
theorem impl_doneH (g : Nat) (s : ByteArray) (p : Int) (bad dn : Bool) (w : World) (h : Hid ((!bad && p == s.size) = dn)) (hR : Rd 85 g s p bad w) :
    Calls Try.prog 48 #[.pointer (some ⟨g, 0, none⟩)] w fun e w' => e = .returned (.bool dn) ∧ Rd 85 g s p bad w' ∧ Upd g w w' := by
  have := impl_done g s p bad w hR
  rw [h.out] at this
  exact this
theorem textH_range {s : ByteArray} {p : Int} {bad : Bool} {t : ByteArray} {p' : Int} {bad' : Bool} (h : Hid (rdText s p bad = (t, p', bad'))) (hp : 0 ≤ p ∧ p ≤ s.size) : 0 ≤ p' ∧ p' ≤ s.size ∧ t.size ≤ 20000 := by
  have h := h.out
  unfold rdText at h
  cases bad with
  | true => simp at h; obtain ⟨rfl, rfl, _⟩ := h; exact ⟨hp.1, hp.2, by show (0 : Nat) ≤ 20000; omega⟩
  | false =>
    rcases hq : rs s p with _ | ⟨t', e⟩
    · rw [hq] at h; simp at h; obtain ⟨rfl, rfl, _⟩ := h; exact ⟨hp.1, hp.2, by show (0 : Nat) ≤ 20000; omega⟩
    · rw [hq] at h
      simp at h
      obtain ⟨rfl, rfl, _⟩ := h
      unfold rs at hq
      rcases hv : rv s p with _ | ⟨n, e'⟩
      · rw [hv] at hq; simp at hq
      · rw [hv] at hq
        have hr := rv_range hv
        simp only at hq
        split at hq
        · simp at hq
        · rename_i hc
          simp at hq
          obtain ⟨rfl, rfl⟩ := hq
          have h2 : ¬ (n > 20000) := fun x => hc (.inl x)
          have h3 : ¬ ((n : Int) > s.size - e') := fun x => hc (.inr x)
          refine ⟨by omega, by omega, ?_⟩
          simp; omega
theorem shortH_range {s : ByteArray} {p : Int} {bad : Bool} {t : ByteArray} {p' : Int} {bad' : Bool} (h : Hid (rdShort s p bad = (t, p', bad'))) (hp : 0 ≤ p ∧ p ≤ s.size) : 0 ≤ p' ∧ p' ≤ s.size ∧ t.size ≤ s.size := by
  have h := h.out
  unfold rdShort at h
  rcases hn : rdNum s p bad with ⟨n, pn, qn⟩
  have hr := rdNum_range s p bad hp.1 hp.2
  rw [hn] at h hr
  simp only at h hr
  unfold rdTake at h
  split at h
  · simp at h; obtain ⟨rfl, rfl, _⟩ := h; exact ⟨hr.2.2.1, hr.2.2.2, by show (0 : Nat) ≤ s.size; omega⟩
  · rename_i hno
    have h3 : ¬ (n > s.size - pn) := fun x => hno (.inr x)
    simp at h
    obtain ⟨rfl, rfl, _⟩ := h
    refine ⟨by omega, by omega, ?_⟩
    simp; omega
end Go.Proofs.Ytlbikcelfheohaa
end

/-! ### YtlbikcelfheohaaBlk -/
section
namespace Go.Proofs.Ytlbikcelfheohaa
open Go.RowKit Go.Proofs.YtlbikcelfheohaaW.PrintWords
set_option linter.unusedSimpArgs false
set_option linter.unusedVariables false

/-! A block whose cells are known, carried from world to world. (own) -/
def Blk (T g : Nat) (cs : Array Value) (W : World) : Prop := W.heap[g]? = some (.cells cs T (0, 0))
section
variable {T g : Nat} {cs : Array Value} {W W1 : World}
theorem Blk.lt (h : Blk T g cs W) : g < W.heap.size := by
  unfold Blk at h
  rcases Nat.lt_or_ge g W.heap.size with h1 | h1
  · exact h1
  · rw [Array.getElem?_eq_none h1] at h; cases h
theorem Blk.cell (h : Blk T g cs W) (o : Nat) {v : Value} (hv : cs[o]? = some v) : W.cell? ⟨g, o, none⟩ = some v := by
  unfold Blk at h
  simp [World.cell?, h, hv]
theorem Blk.free (h : Blk T g cs W) (o : Nat) : W.frozen? ⟨g, o, none⟩ = false := by
  unfold Blk at h
  simp [World.frozen?, h]
theorem Blk.below (h : Blk T g cs W) (hb : Below W.heap.size W W1) : Blk T g cs W1 := (hb.block g h.lt).trans h
theorem Blk.upd {g' : Nat} (h : Blk T g cs W) (hu : Upd g' W W1) (hg : g ≠ g') : Blk T g cs W1 := (hu.block g h.lt hg).trans h
theorem Blk.alloc (h : Blk T g cs W) (o : Obj) : Blk T g cs (W.alloc o) := (Below.heap_alloc W o g h.lt).trans h
theorem Blk.far (h : Blk T g cs W) {a : Addr} (hg : g ≠ a.block) (v : Value) : Blk T g cs (W.setCell a v) := (Below.heap_setCell W a v g hg).trans h
theorem Blk.drewN (h : Blk T g cs W) (n : Nat) : Blk T g cs (W.drewN n) := h
theorem Blk.new (T : Nat) (cs : Array Value) (W : World) : Blk T W.heap.size cs (W.alloc (.cells cs T)) := by
  unfold Blk
  simpa using heap_alloc_new W _
theorem Blk.newE {g : Nat} (T : Nat) (cs : Array Value) (W : World) (h : g = W.heap.size) : Blk T g cs (W.alloc (.cells cs T)) := by
  subst h; exact Blk.new T cs W
theorem Blk.set (h : Blk T g cs W) (o : Nat) (v : Value) {cs' : Array Value} (hc : cs.setIfInBounds o v = cs') : Blk T g cs' (W.setCell ⟨g, o, none⟩ v) := by
  unfold Blk at *
  subst hc
  simp [World.setCell, Array.getElem?_modify, h, Array.setIfInBounds]
end
theorem blk_of_rd {T g : Nat} {s : ByteArray} {p : Int} {bad : Bool} {W : World} (h : Rd T g s p bad W) : Blk T g #[.string s, .int .i64 p, .bool bad] W := h
end Go.Proofs.Ytlbikcelfheohaa
end

/-! ### YtlbikcelfheohaaSum -/
section
namespace Go.Proofs.Ytlbikcelfheohaa
open Go.RowKit Go.Proofs.YtlbikcelfheohaaW.PrintWords
set_option linter.unusedSimpArgs false
set_option linter.unusedVariables false

/-! Sums: both programs' sums are one function. (own) -/
def bitStep (x : Int) : Int := if x % 2 = 1 then Go.bits .xor .u32 (x / 2) 3558460437 else x / 2
def bitSteps : Nat → Int → Int
  | 0, x => x
  | n + 1, x => bitSteps n (bitStep x)
/-- The sum from one place on, over so many bytes. -/
def sumFrom (s : ByteArray) : Nat → Nat → Int → Int
  | _, 0, x => x
  | i, n + 1, x => sumFrom s (i + 1) n (bitSteps 8 (Go.bits .xor .u32 x (bt s i)))
def sumS (s : ByteArray) : Int := sumFrom s 0 s.size 4294967295

theorem xor_range (a b : Int) : 0 ≤ Go.bits .xor .u32 a b ∧ Go.bits .xor .u32 a b < 4294967296 := by
  unfold Go.bits
  rw [IntKind.wrap_u32]
  omega
theorem bitStep_range (x : Int) (h0 : 0 ≤ x) (h1 : x < 4294967296) : 0 ≤ bitStep x ∧ bitStep x < 4294967296 := by
  unfold bitStep
  split
  · exact xor_range _ _
  · omega
theorem and1_u32 (x : Int) (h0 : 0 ≤ x) (h1 : x < 4294967296) : Go.bits .and .u32 x 1 = x % 2 := by
  have := bits_mask .u32 32 (by decide) (by intro n h0 h1; rw [IntKind.wrap_u32]; omega) 1 (by decide) x h0 (by simpa using h1)
  simpa using this

theorem spec_sum_l1 (s : ByteArray) (i : Nat) (hs : s.size < 1099511627776) : ∀ (n k j : Nat) (x : Int), n + j = 8 → 0 ≤ x → x < 4294967296 →
    PFnExactReadSnap.spec_SumMore.l1 (k + n + 1) x s i j = PFnExactReadSnap.spec_SumMore.l0 k (bitSteps n x) s (wrap64 ((i : Int) + 1))
  | 0, k, j, x, h, _, _ => by
    show PFnExactReadSnap.spec_SumMore.l1 (k + 1) x s i j = _
    simp only [PFnExactReadSnap.spec_SumMore.l1]
    rw [if_neg (by omega)]
    rfl
  | n + 1, k, j, x, h, h0, h1 => by
    have e1 : wrap64 ((j : Int) + 1) = ((j + 1 : Nat) : Int) := by unfold wrap64; omega
    have hr := bitStep_range x h0 h1
    have ih := spec_sum_l1 s i hs n k (j + 1) (bitStep x) (by omega) hr.1 hr.2
    show PFnExactReadSnap.spec_SumMore.l1 (k + n + 1 + 1) x s i j = _
    simp only [PFnExactReadSnap.spec_SumMore.l1]
    have e2 : Int.tdiv x 2 % 4294967296 = x / 2 := by rw [Int.tdiv_eq_ediv_of_nonneg h0]; omega
    rw [if_pos (by omega), Int.tmod_eq_emod_of_nonneg h0, e1, e2]
    clear e1 e2
    show _ = PFnExactReadSnap.spec_SumMore.l0 k (bitSteps n (bitStep x)) s (wrap64 ((i : Int) + 1))
    refine Eq.trans ?_ ih
    unfold bitStep
    by_cases hx : x % 2 = 1
    · rw [if_pos hx, if_pos hx]; simp only [PFnExactReadSnap.spec_SumMore.l1]
    · rw [if_neg hx, if_neg hx]; simp only [PFnExactReadSnap.spec_SumMore.l1]
theorem spec_sum_l0 (s : ByteArray) (hs : s.size < 1099511627776) : ∀ (n k i : Nat) (x : Int), n + i = s.size → 0 ≤ x → x < 4294967296 → 10 * n < k →
    PFnExactReadSnap.spec_SumMore.l0 k x s i = some (sumFrom s i n x)
  | 0, k, i, x, h, _, _, hk => by
    obtain ⟨k, rfl⟩ : ∃ m, k = m + 1 := ⟨k - 1, by omega⟩
    simp only [PFnExactReadSnap.spec_SumMore.l0]
    rw [if_neg (by omega)]
    rfl
  | n + 1, k, i, x, h, h0, h1, hk => by
    obtain ⟨k, rfl⟩ : ∃ m, k = m + 8 + 1 + 1 := ⟨k - 10, by omega⟩
    have e1 : wrap64 ((i : Int) + 1) = ((i + 1 : Nat) : Int) := by unfold wrap64; omega
    have hb := bt_range s (i : Int)
    have e2 : bt s (i : Int) % 4294967296 = bt s (i : Int) := by omega
    have hx := xor_range x (bt s (i : Int))
    simp only [PFnExactReadSnap.spec_SumMore.l0]
    rw [if_pos (by omega), if_pos (by omega), e2]
    have h8 := spec_sum_l1 s i hs 8 k 0 _ (by omega) hx.1 hx.2
    rw [e1] at h8
    clear e1 e2
    refine h8.trans ?_
    have hsteps : ∀ (m : Nat) (y : Int), 0 ≤ y → y < 4294967296 → 0 ≤ bitSteps m y ∧ bitSteps m y < 4294967296 := by
      intro m
      induction m with
      | zero => intro y a b; exact ⟨a, b⟩
      | succ m ih => intro y a b; have := bitStep_range y a b; exact ih _ this.1 this.2
    have hr := hsteps 8 _ hx.1 hx.2
    exact spec_sum_l0 s hs n k (i + 1) _ (by omega) hr.1 hr.2 (by omega)
theorem spec_sum_f (s : ByteArray) (hs : s.size < 1099511627776) (k : Nat) (hk : 10 * s.size < k) : PFnExactReadSnap.spec_SumOf.f k s = some (sumS s) := by
  unfold PFnExactReadSnap.spec_SumOf.f PFnExactReadSnap.spec_SumMore.f
  rw [show (0 : Int) = ((0 : Nat) : Int) from rfl, spec_sum_l0 s hs s.size k 0 4294967295 (by omega) (by omega) (by omega) hk]
  rfl

theorem impl_sum_l1 (s : ByteArray) (i : Nat) (hs : s.size < 1099511627776) : ∀ (n k j : Nat) (x : Int), n + j = 8 → 0 ≤ x → x < 4294967296 →
    PFnExactReadSnap.impl_SumMore.l1 (k + n + 1) x s s.size i j = PFnExactReadSnap.impl_SumMore.l0 k (bitSteps n x) s s.size (wrap64 ((i : Int) + 1))
  | 0, k, j, x, h, _, _ => by
    show PFnExactReadSnap.impl_SumMore.l1 (k + 1) x s s.size i j = _
    simp only [PFnExactReadSnap.impl_SumMore.l1]
    rw [if_neg (by omega)]
    rfl
  | n + 1, k, j, x, h, h0, h1 => by
    have e1 : wrap64 ((j : Int) + 1) = ((j + 1 : Nat) : Int) := by unfold wrap64; omega
    have hr := bitStep_range x h0 h1
    have ih := impl_sum_l1 s i hs n k (j + 1) (bitStep x) (by omega) hr.1 hr.2
    show PFnExactReadSnap.impl_SumMore.l1 (k + n + 1 + 1) x s s.size i j = _
    simp only [PFnExactReadSnap.impl_SumMore.l1]
    rw [if_pos (by omega), and1_u32 x h0 h1, e1]
    clear e1
    show _ = PFnExactReadSnap.impl_SumMore.l0 k (bitSteps n (bitStep x)) s s.size (wrap64 ((i : Int) + 1))
    refine Eq.trans ?_ ih
    unfold bitStep
    by_cases hx : x % 2 = 1
    · rw [if_pos hx, if_pos hx]; simp only [PFnExactReadSnap.impl_SumMore.l1]
    · rw [if_neg hx, if_neg hx]; simp only [PFnExactReadSnap.impl_SumMore.l1]
theorem impl_sum_l0 (s : ByteArray) (hs : s.size < 1099511627776) : ∀ (n k i : Nat) (x : Int), n + i = s.size → 0 ≤ x → x < 4294967296 → 10 * n < k →
    PFnExactReadSnap.impl_SumMore.l0 k x s s.size i = some (sumFrom s i n x)
  | 0, k, i, x, h, _, _, hk => by
    obtain ⟨k, rfl⟩ : ∃ m, k = m + 1 := ⟨k - 1, by omega⟩
    simp only [PFnExactReadSnap.impl_SumMore.l0]
    rw [if_neg (by omega)]
    rfl
  | n + 1, k, i, x, h, h0, h1, hk => by
    obtain ⟨k, rfl⟩ : ∃ m, k = m + 8 + 1 + 1 := ⟨k - 10, by omega⟩
    have e1 : wrap64 ((i : Int) + 1) = ((i + 1 : Nat) : Int) := by unfold wrap64; omega
    have hb := bt_range s (i : Int)
    have e2 : bt s (i : Int) % 4294967296 = bt s (i : Int) := by omega
    have hx := xor_range x (bt s (i : Int))
    simp only [PFnExactReadSnap.impl_SumMore.l0]
    rw [if_pos (by omega), if_pos (by omega), if_pos (by omega), e2]
    have h8 := impl_sum_l1 s i hs 8 k 0 _ (by omega) hx.1 hx.2
    rw [e1] at h8
    clear e1 e2
    refine h8.trans ?_
    have hsteps : ∀ (m : Nat) (y : Int), 0 ≤ y → y < 4294967296 → 0 ≤ bitSteps m y ∧ bitSteps m y < 4294967296 := by
      intro m
      induction m with
      | zero => intro y a b; exact ⟨a, b⟩
      | succ m ih => intro y a b; have := bitStep_range y a b; exact ih _ this.1 this.2
    have hr := hsteps 8 _ hx.1 hx.2
    exact impl_sum_l0 s hs n k (i + 1) _ (by omega) hr.1 hr.2 (by omega)
theorem impl_sum_f (s : ByteArray) (hs : s.size < 1099511627776) (k : Nat) (hk : 10 * s.size < k) : PFnExactReadSnap.impl_SumOf.f k s = some (sumS s) := by
  unfold PFnExactReadSnap.impl_SumOf.f PFnExactReadSnap.impl_SumMore.f
  rw [show (0 : Int) = ((0 : Nat) : Int) from rfl, impl_sum_l0 s hs s.size k 0 4294967295 (by omega) (by omega) (by omega) hk]
  rfl

/-- A sum in four bytes. -/
def fourS (x : Int) : ByteArray := strOfNums [(x / 16777216) % 256, (x / 65536) % 256, (x / 256) % 256, x % 256]
theorem fourS_size (x : Int) : (fourS x).size = 4 := by simp [fourS, strOfNums_size]
/-- A text and its sum. -/
def sealS (s : ByteArray) : ByteArray := s ++ fourS (sumS s)
theorem sealS_size (s : ByteArray) : (sealS s).size = s.size + 4 := by simp [sealS, ByteArray.size_append, fourS_size]
theorem spec_seal_f (s : ByteArray) (hs : s.size ≤ 20000) (k : Nat) (hk : 10 * s.size < k) : PFnExactReadSnap.spec_Sealed.f k s = some (sealS s, true) := by
  unfold PFnExactReadSnap.spec_Sealed.f PFnExactReadSnap.spec_l02Four.f
  rw [if_neg (by omega), spec_sum_f s (by omega) k hk]
  simp only [Option.bind_some]
  have := fourS_size (sumS s)
  unfold fourS at this
  rw [if_pos (by omega)]
  rfl
theorem spec_seal_no (s : ByteArray) (hs : 20000 < s.size) (k : Nat) : PFnExactReadSnap.spec_Sealed.f k s = some (⟨#[]⟩, false) := by
  unfold PFnExactReadSnap.spec_Sealed.f
  rw [if_pos (by omega)]
theorem impl_seal_f (s : ByteArray) (hs : s.size ≤ 20000) (k : Nat) (hk : 10 * s.size < k) : PFnExactReadSnap.impl_Sealed.f k s = some (sealS s, true) := by
  unfold PFnExactReadSnap.impl_Sealed.f PFnExactReadSnap.impl_fourBytes.f
  rw [if_neg (by omega), impl_sum_f s (by omega) k hk]
  simp only [Option.bind_some]
  have := fourS_size (sumS s)
  unfold fourS at this
  rw [if_pos (by omega)]
  rfl
theorem impl_seal_no (s : ByteArray) (hs : 20000 < s.size) (k : Nat) : PFnExactReadSnap.impl_Sealed.f k s = some (⟨#[]⟩, false) := by
  unfold PFnExactReadSnap.impl_Sealed.f
  rw [if_pos (by omega)]

theorem toList_inj {a b : ByteArray} : a.toList = b.toList ↔ a = b := by
  constructor
  · intro h
    rw [ByteArray.toList_eq, ByteArray.toList_eq] at h
    exact ByteArray.ext (Array.toList_inj.1 h)
  · rintro rfl; rfl
theorem append_inj_left {a b c : ByteArray} (h : a ++ b = a ++ c) : b = c := by
  have h1 := congrArg (fun x : ByteArray => x.data.toList) h
  simp only [ByteArray.data_append, Array.toList_append] at h1
  exact ByteArray.ext (Array.toList_inj.1 (List.append_cancel_left h1))
theorem split_at (s : ByteArray) (n : Nat) (h : n ≤ s.size) : s.extract 0 n ++ s.extract n s.size = s := by
  apply ByteArray.ext
  have hs : s.data.size = s.size := rfl
  simp [ByteArray.data_append, ByteArray.data_extract, hs]
  try (rw [Nat.min_eq_right (by omega), Nat.max_eq_right (by omega)])
  try (rw [Array.extract_eq_self_of_le (by simp)])

/-- What was sealed as this text. -/
def unS (s : ByteArray) : ByteArray × Bool :=
  if 4 ≤ s.size ∧ s.size ≤ 20004 ∧ sealS (s.extract 0 (s.size - 4)) = s then (s.extract 0 (s.size - 4), true) else (⟨#[]⟩, false)
theorem unS_true {s t : ByteArray} (h : unS s = (t, true)) : sealS t = s ∧ t.size ≤ 20000 := by
  unfold unS at h
  split at h
  · rename_i hc
    simp at h
    obtain ⟨h1, h2, h3⟩ := hc
    subst h
    exact ⟨h3, by simp; omega⟩
  · simp at h
theorem unS_small (s : ByteArray) : (unS s).1.size ≤ 20000 := by
  unfold unS
  split
  · simp; omega
  · show (0 : Nat) ≤ 20000; omega
theorem unS_false {s t : ByteArray} (h : unS s = (t, false)) : t = ⟨#[]⟩ ∧ ∀ u : ByteArray, u.size ≤ 20000 → sealS u ≠ s := by
  unfold unS at h
  split at h
  · simp at h
  · rename_i hc
    simp at h
    refine ⟨h.symm, fun u hu he => hc ?_⟩
    have hz := sealS_size u
    rw [he] at hz
    refine ⟨by omega, by omega, ?_⟩
    have e : s.extract 0 (s.size - 4) = u := by
      rw [← he, sealS_size]
      unfold sealS
      apply ByteArray.ext
      simp [ByteArray.data_append, ByteArray.data_extract]
    rw [e]; exact he
theorem spec_uns_f (s : ByteArray) (hs : s.size < 1099511627776) (k : Nat) (hk : 200000 < k) : PFnExactReadSnap.spec_Unsealed.f k s = some (unS s) := by
  unfold PFnExactReadSnap.spec_Unsealed.f unS
  have e1 : wrap64 ((s.size : Int) - 4) = (s.size : Int) - 4 := by unfold wrap64; omega
  rw [e1]
  clear e1
  by_cases h4 : 4 ≤ s.size
  · by_cases h2 : s.size ≤ 20004
    · have e2 : ((s.size : Int) - 4).toNat = s.size - 4 := by omega
      have hz : (s.extract 0 (s.size - 4)).size = s.size - 4 := by simp
      rw [if_neg (by omega), if_neg (by omega), if_pos (by omega), if_pos (by omega), e2, spec_sum_f _ (by omega) k (by omega)]
      simp only [Option.bind_some, PFnExactReadSnap.spec_l02Four.f]
      have hfold : strOfNums [sumS (s.extract 0 (s.size - 4)) / 16777216 % 256, sumS (s.extract 0 (s.size - 4)) / 65536 % 256, sumS (s.extract 0 (s.size - 4)) / 256 % 256, sumS (s.extract 0 (s.size - 4)) % 256] = fourS (sumS (s.extract 0 (s.size - 4))) := rfl
      rw [hfold]
      have hiff : (s.extract (s.size - 4) s.size).toList = (fourS (sumS (s.extract 0 (s.size - 4)))).toList ↔ (4 ≤ s.size ∧ s.size ≤ 20004 ∧ sealS (s.extract 0 (s.size - 4)) = s) := by
        rw [toList_inj]
        constructor
        · intro h
          refine ⟨h4, h2, ?_⟩
          unfold sealS
          rw [← h]
          exact split_at s _ (by omega)
        · rintro ⟨_, _, h⟩
          refine append_inj_left (a := s.extract 0 (s.size - 4)) ?_
          rw [split_at s _ (by omega)]
          exact h.symm
      by_cases hc : (s.extract (s.size - 4) s.size).toList = (fourS (sumS (s.extract 0 (s.size - 4)))).toList
      · rw [if_pos hc, if_pos (hiff.1 hc)]
      · rw [if_neg hc, if_neg (fun x => hc (hiff.2 x))]
    · rw [if_neg (by omega), if_pos (by omega), if_neg (by omega)]
  · rw [if_pos (by omega), if_neg (by omega)]
theorem impl_uns_f (s : ByteArray) (hs : s.size < 1099511627776) (k : Nat) (hk : 200000 < k) : PFnExactReadSnap.impl_Unsealed.f k s = some (unS s) := by
  unfold PFnExactReadSnap.impl_Unsealed.f unS
  have e1 : wrap64 ((s.size : Int) - 4) = (s.size : Int) - 4 := by unfold wrap64; omega
  rw [e1]
  clear e1
  by_cases h4 : 4 ≤ s.size
  · have e2 : ((s.size : Int) - 4).toNat = s.size - 4 := by omega
    have hz : (s.extract 0 (s.size - 4)).size = s.size - 4 := by simp
    rw [if_neg (by omega), if_pos (by omega), if_pos (by omega), e2]
    by_cases h2 : s.size ≤ 20004
    · rw [impl_seal_f _ (by omega) k (by omega)]
      simp only [Option.bind_some]
      rw [if_pos trivial]
      by_cases hc : (sealS (s.extract 0 (s.size - 4))).toList = s.toList
      · rw [if_pos hc, if_pos ⟨h4, h2, toList_inj.1 hc⟩]
      · rw [if_neg hc, if_neg (fun x => hc (toList_inj.2 x.2.2))]
    · rw [impl_seal_no _ (by omega) k]
      simp only [Option.bind_some]
      rw [if_neg (by simp), if_neg (by omega)]
  · rw [if_pos (by omega), if_neg (by omega)]
end Go.Proofs.Ytlbikcelfheohaa
end

/-! ### YtlbikcelfheohaaFlow -/
section
namespace Go.Proofs.Ytlbikcelfheohaa
open Go.RowKit
set_option linter.unusedVariables false

/-! A REGION THAT DRAWS ITS ORDER: EVERY ORDER BY WHAT IS KNOWN OF THE VALUES. Each operation gets a predicate on the world and its value, kept by whatever lays blocks; each operation is shown in every frame in which the operations that it waits for have brought what their predicates say. So a value may be another in another order (a new slice's address). (own) -/
section
variable {P : Program}
abbrev VPred := World → Value → Prop
def VMono (R : VPred) : Prop := ∀ w w' v, R w v → Below w.heap.size w w' → R w' v
theorem vmono_eq (e : Value) : VMono (fun _ v => v = e) := fun _ _ _ h _ => h

def flowUpon (P : Program) (R : VPred) (w : World) : Result Next → Prop
  | .ok (.value u) w' => Below w.heap.size w w' ∧ R w' u
  | .ok .skip w' => Below w.heap.size w w' ∧ R w' undef
  | .ok (.enter f args) w' => Calls P f args w' (fun e w'' => ∃ v, e = .returned v ∧ Below w.heap.size w w'' ∧ R w'' v)
  | _ => False

abbrev FTab := List (Nat × Tmp × VPred)
def dep1 (A : Act) (w : World) (j : Nat) : FTab → Prop
  | [] => True
  | (i, d, R) :: r => if i = j then R w (A.eval (.tmp d)) else dep1 A w j r
def deps (T : FTab) (A : Act) (w : World) : List Edge → Prop
  | [] => True
  | e :: r => (if Region.binds .any e = true then dep1 A w e.on T else True) ∧ deps T A w r
def allT (x : Nat → Value) (w : World) : FTab → Prop
  | [] => True
  | (i, _, R) :: r => R w (x i) ∧ allT x w r
def baseF (A a : Act) : List Nat → Prop
  | [] => True
  | t :: r => A.eval (.tmp t) = a.eval (.tmp t) ∧ baseF A a r
def frameOf (x : Nat → Value) : List Oper → Nat → Act → Act
  | [], _, a => a
  | o :: r, k, a => frameOf x r (k + 1) (a.put o.dst (x k))
def addT (o : Oper) (i : Nat) (R : VPred) (T : FTab) : FTab := match o.dst with
  | some d => (i, d, R) :: T
  | none => T

def Flow (P : Program) (w : World) (a : Act) (bs : List Nat) (Q : Exit → Act → World → Prop) (l0 : List Oper) : List Oper → Nat → FTab → Prop
  | [], _, T => ∀ x w', Below w.heap.size w w' → allT x w' T → Q .normal (frameOf x l0 0 a) w'
  | o :: rest, i, T => ∃ R : VPred, VMono R ∧
      (∀ A w', Below w.heap.size w w' → baseF A a bs → deps T A w' o.after.toList → flowUpon P R w' ((execOp A.eval o).run P w')) ∧ Flow P w a bs Q l0 rest (i + 1) (addT o i R T)

theorem dep1_of {A : Act} {w : World} {j : Nat} : ∀ {T : FTab}, (∀ d R, (j, d, R) ∈ T → R w (A.eval (.tmp d))) → dep1 A w j T
  | [], _ => trivial
  | (i, d, R) :: r, h => by
    unfold dep1
    split
    · rename_i e; subst e; exact h d R (.head _)
    · exact dep1_of fun d R hm => h d R (.tail _ hm)
theorem deps_of {T : FTab} {A : Act} {w : World} : ∀ {es : List Edge}, (∀ e ∈ es, Region.binds .any e = true → ∀ d R, (e.on, d, R) ∈ T → R w (A.eval (.tmp d))) → deps T A w es
  | [], _ => trivial
  | e :: r, h => by
    refine ⟨?_, deps_of fun e he => h e (.tail _ he)⟩
    split
    · rename_i hb; exact dep1_of (h e (.head _) hb)
    · trivial
theorem allT_of {x : Nat → Value} {w : World} : ∀ {T : FTab}, (∀ i d R, (i, d, R) ∈ T → R w (x i)) → allT x w T
  | [], _ => trivial
  | (i, d, R) :: r, h => ⟨h i d R (.head _), allT_of fun i d R hm => h i d R (.tail _ hm)⟩
theorem baseF_of {A a : Act} : ∀ {bs : List Nat}, (∀ t ∈ bs, A.eval (.tmp t) = a.eval (.tmp t)) → baseF A a bs
  | [], _ => trivial
  | t :: r, h => ⟨h t (.head _), baseF_of fun t ht => h t (.tail _ ht)⟩

theorem flow_table {w : World} {a : Act} {bs : List Nat} {Q : Exit → Act → World → Prop} {l0 : List Oper} : ∀ (rest : List Oper) (i : Nat) (T : FTab), (∀ k d R, (k, d, R) ∈ T → k < i) → Flow P w a bs Q l0 rest i T →
    ∃ T' : FTab, (∀ x ∈ T, x ∈ T') ∧ (∀ k d R, (k, d, R) ∈ T' → k < i → (k, d, R) ∈ T) ∧ (∀ k d R, (k, d, R) ∈ T' → k < i + rest.length) ∧
      (∀ (j : Nat) (o : Oper), rest[j]? = some o → ∃ R, VMono R ∧ (∀ d' R', (i + j, d', R') ∈ T' → o.dst = some d' ∧ R' = R) ∧
        (∀ A w', Below w.heap.size w w' → baseF A a bs → (∀ e ∈ o.after.toList, Region.binds .any e = true → ∀ d R, (e.on, d, R) ∈ T' → R w' (A.eval (.tmp d))) → flowUpon P R w' ((execOp A.eval o).run P w'))) ∧
      (∀ x w', Below w.heap.size w w' → allT x w' T' → Q .normal (frameOf x l0 0 a) w')
  | [], i, T, hT, h => ⟨T, fun _ h => h, fun _ _ _ h _ => h, fun k d R hm => by simpa using hT k d R hm, fun j o hj => by simp at hj, h⟩
  | o :: rest, i, T, hT, h => by
    obtain ⟨R, hmono, hobl, hrest⟩ := h
    have hT1 : ∀ k d R', (k, d, R') ∈ addT o i R T → k < i + 1 := fun k d R' hm => by
      unfold addT at hm
      split at hm
      · rcases List.mem_cons.1 hm with hm | hm
        · simp only [Prod.mk.injEq] at hm; omega
        · have := hT k d R' hm; omega
      · have := hT k d R' hm; omega
    have hsub : ∀ y ∈ T, y ∈ addT o i R T := fun y hy => by
      unfold addT
      split
      · exact .tail _ hy
      · exact hy
    obtain ⟨T', h1, h2, h3, h4, h5⟩ := flow_table rest (i + 1) (addT o i R T) hT1 hrest
    refine ⟨T', fun y hy => h1 y (hsub y hy), fun k d R' hm hk => ?_, fun k d R' hm => ?_, fun j o' hj => ?_, h5⟩
    · have := h2 k d R' hm (by omega)
      unfold addT at this
      split at this
      · rcases List.mem_cons.1 this with hm | hm
        · simp only [Prod.mk.injEq] at hm; omega
        · exact hm
      · exact this
    · have := h3 k d R' hm
      simp only [List.length_cons]; omega
    · cases j with
      | zero =>
        simp only [List.getElem?_cons_zero, Option.some.injEq] at hj
        subst hj
        refine ⟨R, hmono, fun d' R' hm => ?_, fun A w' hb hbase hd => hobl A w' hb hbase (deps_of fun e he hbn d R' hm => hd e he hbn d R' (h1 _ (hsub _ hm)))⟩
        have := h2 _ d' R' hm (by omega)
        unfold addT at this
        split at this
        · rename_i dd hdd
          rcases List.mem_cons.1 this with hm | hm
          · simp only [Prod.mk.injEq] at hm
            exact ⟨by rw [hdd, hm.2.1], hm.2.2⟩
          · have := hT _ d' R' hm; omega
        · have := hT _ d' R' this; omega
      | succ j =>
        simp only [List.getElem?_cons_succ] at hj
        obtain ⟨R2, a1, a2, a3⟩ := h4 j o' hj
        exact ⟨R2, a1, fun d' R' hm => a2 d' R' (by rw [show i + 1 + j = i + (j + 1) from by omega]; exact hm), a3⟩

theorem wpAny_inv {ops : Array Oper} {Q : Exit → Act → World → Prop} {md : Region.Mode} (I : Array Bool → Act → World → Prop)
    (step : ∀ listed a w i, I listed a w → i ∈ Region.ready md ops listed → wpOp P ops Q i (fun a' w' => I (listed.setIfInBounds i true) a' w') a w)
    (fin : ∀ listed a w, I listed a w → (∀ i, i ∉ Region.ready md ops listed) → Q .normal a w) (rank : Array Bool → Nat)
    (hr : ∀ listed a w i, I listed a w → i ∈ Region.ready md ops listed → rank (listed.setIfInBounds i true) < rank listed) :
    ∀ (fuel : Nat) (listed : Array Bool) (a : Act) (w : World), rank listed ≤ fuel → I listed a w → wpAny P md ops Q fuel listed a w
  | 0, listed, a, w, hf, h => by
    have hn : ∀ i, i ∉ Region.ready md ops listed := fun i hi => by have := hr listed a w i h hi; omega
    exact ⟨List.eq_nil_iff_forall_not_mem.2 hn, fin _ _ _ h hn⟩
  | fuel + 1, listed, a, w, hf, h => ⟨fun h0 => fin _ _ _ h (by rw [h0]; simp), fun i hi => wpOp_mono (fun a' w' h' => wpAny_inv I step fin rank hr fuel _ a' w' (by have := hr listed a w i h hi; omega) h') (step _ _ _ _ h hi)⟩

theorem frame_eq (x : Nat → Value) (A : Act) : ∀ (l : List Oper) (k : Nat) (a : Act), A.defers = a.defers → A.tmps.size = a.tmps.size →
    (∀ (i : Nat) (o : Oper) d, l[i]? = some o → o.dst = some d → d < a.tmps.size → A.tmps[d]? = some (x (k + i))) → (∀ t, a.tmps[t]? ≠ A.tmps[t]? → ∃ (i : Nat) (o : Oper), l[i]? = some o ∧ o.dst = some t) → frameOf x l k a = A
  | [], k, a, hdef, hsz, _, h => by
    have ht : a.tmps = A.tmps := by
      apply Array.ext_getElem?
      intro t
      by_cases he : a.tmps[t]? = A.tmps[t]?
      · exact he
      · obtain ⟨i, o, hi, _⟩ := h t he
        simp at hi
    obtain ⟨t1, d1⟩ := a
    obtain ⟨t2, d2⟩ := A
    simp only at ht hdef
    subst ht hdef
    rfl
  | o :: r, k, a, hdef, hsz, h1, h2 => by
    have hps : (a.put o.dst (x k)).tmps.size = a.tmps.size := by unfold Act.put; split <;> simp
    have hpd : (a.put o.dst (x k)).defers = a.defers := by unfold Act.put; split <;> rfl
    refine frame_eq x A r (k + 1) (a.put o.dst (x k)) (hdef.trans hpd.symm) (hsz.trans hps.symm) (fun i o' d hi hd hlt => ?_) (fun t ht => ?_)
    · have := h1 (i + 1) o' d (by simpa using hi) hd (by rw [hps] at hlt; exact hlt)
      rw [this]; congr 2; omega
    · have hto : o.dst ≠ some t := fun ho => by
        rcases Nat.lt_or_ge t a.tmps.size with hlt | hge
        · have := h1 0 o t (by simp) ho hlt
          rw [this] at ht
          rw [ho] at ht
          simp [Act.put, hlt] at ht
        · rw [Array.getElem?_eq_none (by omega), Array.getElem?_eq_none (by omega)] at ht
          exact ht rfl
      have hsame : (a.put o.dst (x k)).tmps[t]? = a.tmps[t]? := by
        unfold Act.put
        split
        · rename_i d hd
          have : d ≠ t := fun e => hto (by rw [hd, e])
          simp [Array.getElem?_setIfInBounds_ne this]
        · rfl
      rw [hsame] at ht
      obtain ⟨i, o', hi, hd⟩ := h2 t ht
      cases i with
      | zero => simp at hi; subst hi; exact absurd hd hto
      | succ i => exact ⟨i, o', by simpa using hi, hd⟩

/-- The places written are not written twice, and lie in the frame; no operation is guarded. -/
def flowB (n : Nat) : List Oper → Bool
  | [] => true
  | o :: r => o.guard.isNone && (match o.dst with | some d => decide (d < n) && r.all (fun o' => o'.dst != some d) | none => true) && flowB n r
theorem flowB_spec {n : Nat} : ∀ {l : List Oper}, flowB n l = true → ∀ (i : Nat) (o : Oper), l[i]? = some o → o.guard = none ∧ ∀ d, o.dst = some d → d < n ∧ ∀ (j : Nat) (o' : Oper), l[j]? = some o' → i < j → o'.dst ≠ some d
  | [], _, i, o, hi => by simp at hi
  | o0 :: r, h, i, o, hi => by
    simp only [flowB, Bool.and_eq_true] at h
    obtain ⟨⟨hg, hd⟩, hr⟩ := h
    cases i with
    | zero =>
      simp only [List.getElem?_cons_zero, Option.some.injEq] at hi
      subst hi
      refine ⟨by simpa using hg, fun d hdd => ?_⟩
      rw [hdd] at hd
      simp only [Bool.and_eq_true, decide_eq_true_eq, List.all_eq_true, bne_iff_ne] at hd
      refine ⟨hd.1, fun j o' hj hlt => ?_⟩
      cases j with
      | zero => omega
      | succ j => exact hd.2 o' (List.mem_of_getElem? (by simpa using hj))
    | succ i =>
      obtain ⟨h1, h2⟩ := flowB_spec hr i o (by simpa using hi)
      refine ⟨h1, fun d hdd => ⟨(h2 d hdd).1, fun j o' hj hlt => ?_⟩⟩
      cases j with
      | zero => omega
      | succ j => exact (h2 d hdd).2 j o' (by simpa using hj) (by omega)

/-- What is waited for stands ahead. -/
def flowO : List Oper → Nat → Bool
  | [], _ => true
  | o :: r, k => o.after.toList.all (fun e => !Region.binds .any e || decide (e.on < k)) && flowO r (k + 1)
theorem flowO_spec : ∀ {l : List Oper} {k : Nat}, flowO l k = true → ∀ (i : Nat) (o : Oper), l[i]? = some o → ∀ e ∈ o.after.toList, Region.binds .any e = true → e.on < k + i
  | [], _, _, i, o, hi => by simp at hi
  | o0 :: r, k, h, i, o, hi => by
    simp only [flowO, Bool.and_eq_true] at h
    cases i with
    | zero =>
      simp only [List.getElem?_cons_zero, Option.some.injEq] at hi
      subst hi
      intro e he hb
      have := List.all_eq_true.1 h.1 e he
      simpa [hb] using this
    | succ i =>
      intro e he hb
      have := flowO_spec h.2 i o (by simpa using hi) e he hb
      omega

def unl : List Bool → Nat
  | [] => 0
  | true :: r => unl r
  | false :: r => unl r + 1
theorem unl_set : ∀ (l : List Bool) (i : Nat), l[i]? = some false → unl (l.set i true) < unl l
  | [], i, h => by simp at h
  | b :: r, 0, h => by simp at h; subst h; simp [unl]
  | b :: r, i + 1, h => by
    have := unl_set r i (by simpa using h)
    cases b <;> simp [unl] <;> omega
theorem unl_rep : ∀ n : Nat, unl (List.replicate n false) = n
  | 0 => rfl
  | n + 1 => by simp [List.replicate_succ, unl, unl_rep n]

theorem flow_upon {o : Oper} {A : Act} {w : World} {R : VPred} {K : Act → World → Prop} {Q : Exit → Act → World → Prop}
    (h : flowUpon P R w ((execOp A.eval o).run P w)) (hk : ∀ v w', Below w.heap.size w w' → (R w' v) → K (A.put o.dst v) w') : o.wp P A w K Q := by
  unfold Oper.wp
  generalize (execOp A.eval o).run P w = r at *
  cases r with
  | ok n w' =>
    cases n <;> simp only [flowUpon] at h <;> simp only [Oper.upon]
    case value u => exact hk _ _ h.1 h.2
    case skip => exact hk _ _ h.1 h.2
    case enter f args =>
      refine h.mono ?_
      rintro e w2 ⟨v, rfl, hb, hr⟩
      exact hk _ _ hb hr
  | halt x w' => simp only [flowUpon] at h

theorem eval_put_ne {A : Act} {o : Oper} {v : Value} {d : Tmp} (h : o.dst ≠ some d) : (A.put o.dst v).eval (.tmp d) = A.eval (.tmp d) := by
  unfold Act.put
  split
  · rename_i t ht
    have : t ≠ d := fun e => h (by rw [ht, e])
    simp only [Act.eval, Array.getD_eq_getD_getElem?]
    rw [Array.getElem?_setIfInBounds_ne this]
  · rfl
theorem eval_put_eq {A : Act} {o : Oper} {v : Value} {d : Tmp} (h : o.dst = some d) (hlt : d < A.tmps.size) : (A.put o.dst v).eval (.tmp d) = v := by
  rw [h]
  simp [Act.put, Act.eval, Array.getD_eq_getD_getElem?, hlt]

theorem wp_region_flow {id : Nat} {Q : Exit → Act → World → Prop} {a : Act} {w : World} {l : List Oper} (bs : List Nat) (n : Nat) (hm : P.follows .mixedOrders = true) (hn : a.tmps.size = n)
    (hB : flowB n l = true) (hO : flowO l 0 = true) (hbs : bs.all (fun t => l.all (fun o => o.dst != some t)) = true) (h : Flow P w a bs Q l l 0 []) : (Code.region id l.toArray true).wp P Q a w := by
  obtain ⟨T, -, -, hlen, hobl, hfin⟩ := flow_table l 0 [] (by simp) h
  subst hn
  refine wp_region_any hm ?_
  refine wpAny_inv (fun listed A w' => listed.size = l.length ∧ Below w.heap.size w w' ∧ A.defers = a.defers ∧ A.tmps.size = a.tmps.size ∧ (∀ t, a.tmps[t]? ≠ A.tmps[t]? → ∃ (i : Nat) (o : Oper), l[i]? = some o ∧ o.dst = some t) ∧
      (∀ i d R, (i, d, R) ∈ T → listed.getD i false = true → R w' (A.eval (.tmp d)))) ?_ ?_ (fun listed => unl listed.toList) ?_ _ _ _ _ ?_ ?_
  · rintro listed A w' i ⟨hsz, hbel, hdef, hts, hdiff, hall⟩ hi
    obtain ⟨hun, o, ho, haft⟩ := mem_ready.1 hi
    have ho' : l[i]? = some o := by simpa using ho
    obtain ⟨hg, hd⟩ := flowB_spec hB i o ho'
    obtain ⟨R, hmono, huniq, hob⟩ := hobl i o ho'
    simp only [Nat.zero_add] at huniq
    unfold wpOp
    rw [ho]
    simp only [Region.wanted, hg, if_true]
    refine .inl (flow_upon (hob A w' hbel (baseF_of fun t ht => ?_) fun e he hb d R hmem => hall _ d R hmem (haft e (by simpa using he) hb)) fun v w2 hb2 hR => ?_)
    · have h1 := List.all_eq_true.1 hbs t ht
      have h2 : ∀ o ∈ l, o.dst ≠ some t := fun o ho => by simpa using List.all_eq_true.1 h1 o ho
      have h3 : a.tmps[t]? = A.tmps[t]? := Classical.byContradiction fun hne => by
        obtain ⟨i, o, hi, hd⟩ := hdiff t hne
        exact h2 o (List.mem_of_getElem? hi) hd
      simp only [Act.eval, Array.getD_eq_getD_getElem?, h3]
    · refine ⟨by simpa using hsz, hbel.trans ⟨hb2.os, hb2.tape, hb2.output, hb2.size, fun k hk => hb2.block k (Nat.lt_of_lt_of_le hk hbel.size)⟩, ?_, ?_, ?_, ?_⟩
      · rw [← hdef]; unfold Act.put; split <;> rfl
      · rw [← hts]; unfold Act.put; split <;> simp
      · intro t ht
        by_cases hdt : o.dst = some t
        · exact ⟨i, o, ho', hdt⟩
        · refine hdiff t fun he => ht ?_
          rw [he]
          unfold Act.put
          split
          · rename_i t' ht'
            have : t' ≠ t := fun e => hdt (by rw [ht', e])
            rw [Array.getElem?_setIfInBounds_ne this]
          · rfl
      · intro k d R' hmem hk
        by_cases hki : i = k
        · subst hki
          obtain ⟨hod, rfl⟩ := huniq d R' hmem
          rw [eval_put_eq hod (by rw [hts]; exact (hd d hod).1)]
          exact hR
        · have hk' : listed.getD k false = true := by rw [getD_set_ne false hki] at hk; exact hk
          have hold := hall k d R' hmem hk'
          have hkl : k < l.length := by simpa using hlen k d R' hmem
          have hko : l[k]? = some l[k] := by simp [hkl]
          obtain ⟨R2, hmono2, huniq2, -⟩ := hobl k l[k] hko
          simp only [Nat.zero_add] at huniq2
          obtain ⟨hod, rfl⟩ := huniq2 d R' hmem
          have hne : o.dst ≠ some d := fun hd0 => by
            rcases Nat.lt_or_gt_of_ne hki with h | h
            · exact (hd d hd0).2 k l[k] hko h hod
            · exact ((flowB_spec hB k l[k] hko).2 d hod).2 i o ho' h hd0
          rw [eval_put_ne hne]
          exact hmono2 _ _ _ hold hb2
  · rintro listed A w' ⟨hsz, hbel, hdef, hts, hdiff, hall⟩ hno
    have hdone : ∀ k, k < l.length → listed.getD k false = true := by
      intro k
      induction k using Nat.strongRecOn with
      | _ k ih =>
        intro hk
        refine Classical.byContradiction fun hf => hno k (mem_ready.2 ⟨?_, l[k], by simp [hk], fun e he hb => ?_⟩)
        · have hks : k < listed.size := by omega
          simp only [Array.getD_eq_getD_getElem?, Array.getElem?_eq_getElem hks, Option.getD_some] at hf ⊢
          simpa using hf
        · have hlt := flowO_spec hO k l[k] (by simp [hk]) e (by simpa using he) hb
          exact ih e.on (by omega) (by omega)
    have hx : frameOf (fun i => match (l[i]?).bind (·.dst) with | some d => A.eval (.tmp d) | none => undef) l 0 a = A := by
      refine frame_eq _ A l 0 a hdef hts (fun i o d hi hd hlt => ?_) hdiff
      simp only [Nat.zero_add, hi, Option.bind_some, hd, Act.eval, Array.getD_eq_getD_getElem?]
      have : d < A.tmps.size := by rw [hts]; exact hlt
      simp [this]
    have := hfin (fun i => match (l[i]?).bind (·.dst) with | some d => A.eval (.tmp d) | none => undef) w' hbel (allT_of fun k d R hmem => by
      have hkl : k < l.length := by simpa using hlen k d R hmem
      have hko : l[k]? = some l[k] := by simp [hkl]
      obtain ⟨R2, -, huniq2, -⟩ := hobl k l[k] hko
      simp only [Nat.zero_add] at huniq2
      obtain ⟨hod, -⟩ := huniq2 d R hmem
      simp only [hko, Option.bind_some, hod]
      exact hall k d R hmem (hdone k hkl))
    rw [hx] at this
    exact this
  · rintro listed A w' i ⟨hsz, -⟩ hi
    obtain ⟨hun, o, ho, -⟩ := mem_ready.1 hi
    have hil : i < listed.size := by have := (Array.getElem?_eq_some_iff.1 ho).1; simp at this; omega
    simp only [Array.toList_setIfInBounds]
    refine unl_set _ _ ?_
    simp only [Array.getD_eq_getD_getElem?, Array.getElem?_eq_getElem hil, Option.getD_some] at hun
    simp [hil, hun]
  · simp [unl_rep]
  · exact ⟨by simp, ⟨rfl, rfl, rfl, Nat.le_refl _, fun _ _ => rfl⟩, rfl, rfl, fun t ht => absurd rfl ht, fun i d R _ hl => by simp [Array.getD_eq_getD_getElem?, Array.getElem?_replicate] at hl; split at hl <;> simp at hl⟩

theorem flow_val {w : World} {a : Act} {bs : List Nat} {Q : Exit → Act → World → Prop} {l0 rest : List Oper} {i : Nat} {T : FTab} {d : Tmp} {op : Op} {ty : TypeId} {pos : String} {es : Array Edge} {g : Option (Nat × Bool)} (e : Value)
    (h : ∀ A w', Below w.heap.size w w' → baseF A a bs → deps T A w' es.toList → flowUpon P (fun _ v => v = e) w' ((execOp A.eval ⟨some d, op, ty, pos, es, g⟩).run P w'))
    (k : Flow P w a bs Q l0 rest (i + 1) ((i, d, fun _ v => v = e) :: T)) : Flow P w a bs Q l0 (⟨some d, op, ty, pos, es, g⟩ :: rest) i T := ⟨_, vmono_eq e, h, k⟩
/-- A new block of these cells, told by a slice. -/
def NewSl (w0 : World) (cs : Array Value) (T : TypeId) (n : Nat) : VPred := fun w v => ∃ b, v = .slice (some ⟨b, 0, none⟩) n n ∧ w0.heap.size ≤ b ∧ w.heap[b]? = some (.cells cs T (0, 0))
theorem vmono_newSl (w0 : World) (cs : Array Value) (T : TypeId) (n : Nat) : VMono (NewSl w0 cs T n) := by
  rintro w w' v ⟨b, hv, hb, hc⟩ hB
  refine ⟨b, hv, hb, ?_⟩
  have hlt : b < w.heap.size := by
    rcases Nat.lt_or_ge b w.heap.size with h | h
    · exact h
    · rw [Array.getElem?_eq_none h] at hc; cases hc
  rw [hB.block b hlt]; exact hc
theorem flow_newSl {w : World} {a : Act} {bs : List Nat} {Q : Exit → Act → World → Prop} {l0 rest : List Oper} {i : Nat} {T : FTab} {d : Tmp} {op : Op} {ty : TypeId} {pos : String} {es : Array Edge} {g : Option (Nat × Bool)} (cs : Array Value) (et : TypeId) (n : Nat)
    (h : ∀ A w', Below w.heap.size w w' → baseF A a bs → deps T A w' es.toList → (execOp A.eval ⟨some d, op, ty, pos, es, g⟩).run P w' = .ok (.value (.slice (some ⟨w'.heap.size, 0, none⟩) n n)) (w'.alloc (.cells cs et)))
    (k : Flow P w a bs Q l0 rest (i + 1) ((i, d, NewSl w cs et n) :: T)) : Flow P w a bs Q l0 (⟨some d, op, ty, pos, es, g⟩ :: rest) i T :=
  ⟨_, vmono_newSl w cs et n, fun A w' hB hb hd => by
    rw [h A w' hB hb hd]
    exact ⟨bl_alloc (Below.refl _ _) _, w'.heap.size, rfl, hB.size, by simpa using heap_alloc_new w' _⟩, k⟩
theorem flow_valE {w : World} {a : Act} {bs : List Nat} {Q : Exit → Act → World → Prop} {l0 rest : List Oper} {i : Nat} {T : FTab} {d : Tmp} {op : Op} {ty : TypeId} {pos : String} {es : Array Edge} {g : Option (Nat × Bool)}
    (h : ∃ e, (∀ A w', Below w.heap.size w w' → baseF A a bs → deps T A w' es.toList → flowUpon P (fun _ v => v = e) w' ((execOp A.eval ⟨some d, op, ty, pos, es, g⟩).run P w')) ∧
      Flow P w a bs Q l0 rest (i + 1) ((i, d, fun _ v => v = e) :: T)) : Flow P w a bs Q l0 (⟨some d, op, ty, pos, es, g⟩ :: rest) i T :=
  let ⟨e, h, k⟩ := h
  flow_val e h k
theorem flow_newSlE {w : World} {a : Act} {bs : List Nat} {Q : Exit → Act → World → Prop} {l0 rest : List Oper} {i : Nat} {T : FTab} {d : Tmp} {op : Op} {ty : TypeId} {pos : String} {es : Array Edge} {g : Option (Nat × Bool)}
    (h : ∃ cs et n, (∀ A w', Below w.heap.size w w' → baseF A a bs → deps T A w' es.toList → (execOp A.eval ⟨some d, op, ty, pos, es, g⟩).run P w' = .ok (.value (.slice (some ⟨w'.heap.size, 0, none⟩) n n)) (w'.alloc (.cells cs et))) ∧
      Flow P w a bs Q l0 rest (i + 1) ((i, d, NewSl w cs et n) :: T)) : Flow P w a bs Q l0 (⟨some d, op, ty, pos, es, g⟩ :: rest) i T :=
  let ⟨cs, et, n, h, k⟩ := h
  flow_newSl cs et n h k
theorem flow_R {w : World} {a : Act} {bs : List Nat} {Q : Exit → Act → World → Prop} {l0 rest : List Oper} {i : Nat} {T : FTab} {d : Tmp} {op : Op} {ty : TypeId} {pos : String} {es : Array Edge} {g : Option (Nat × Bool)} (R : VPred) (hm : VMono R)
    (h : ∀ A w', Below w.heap.size w w' → baseF A a bs → deps T A w' es.toList → flowUpon P R w' ((execOp A.eval ⟨some d, op, ty, pos, es, g⟩).run P w'))
    (k : Flow P w a bs Q l0 rest (i + 1) ((i, d, R) :: T)) : Flow P w a bs Q l0 (⟨some d, op, ty, pos, es, g⟩ :: rest) i T := ⟨R, hm, h, k⟩
end
end Go.Proofs.Ytlbikcelfheohaa
end

/-! ### YtlbikcelfheohaaConfDef -/
section
namespace Go.Proofs.Ytlbikcelfheohaa
open Go.RowKit Go.Proofs.YtlbikcelfheohaaW.PrintWords
set_option linter.unusedSimpArgs false
set_option linter.unusedVariables false

/-! What a right conf, a conf read, a right entry are. (own) -/
/-- From one place on: each is a node, and more than the one ahead. -/
def rises (xs : List Int) (i : Nat) : Nat → Bool
  | 0 => true
  | n + 1 => decide (1 ≤ rd xs i ∧ rd xs i ≤ 4) && (decide (i = 0) || decide (rd xs ((i : Int) - 1) < rd xs i)) && rises xs (i + 1) n
def confOk (xs : List Int) : Bool := rises xs 0 xs.length && decide (1 ≤ xs.length)

theorem rises_short (xs : List Int) : ∀ (n i : Nat), rises xs i n = true → (i = 0 ∨ (i : Int) ≤ rd xs ((i : Int) - 1)) → 0 < n → i + n ≤ 4
  | 0, _, _, _, h => by omega
  | n + 1, i, h, hi, _ => by
    simp only [rises, Bool.and_eq_true, Bool.or_eq_true, decide_eq_true_eq] at h
    obtain ⟨⟨h1, h2⟩, h3⟩ := h
    have hx : (i : Int) + 1 ≤ rd xs i := by
      rcases hi with rfl | hi
      · simpa using h1.1
      · rcases h2 with rfl | h2
        · simpa using h1.1
        · omega
    rcases Nat.eq_zero_or_pos n with rfl | hn
    · omega
    · have := rises_short xs n (i + 1) h3 (.inr (by rw [show ((i + 1 : Nat) : Int) - 1 = i from by omega]; omega)) hn
      omega
theorem confOk_short {xs : List Int} (h : confOk xs = true) : 1 ≤ xs.length ∧ xs.length ≤ 4 := by
  simp only [confOk, Bool.and_eq_true, decide_eq_true_eq] at h
  have := rises_short xs _ 0 h.1 (.inl rfl) (by omega)
  omega

/-- A text's bytes. -/
def bytesFrom (s : ByteArray) (i : Nat) : Nat → List Int
  | 0 => []
  | n + 1 => bt s (i : Int) :: bytesFrom s (i + 1) n
theorem bytesFrom_length (s : ByteArray) : ∀ n i, (bytesFrom s i n).length = n
  | 0, _ => rfl
  | n + 1, i => by simp [bytesFrom, bytesFrom_length s n]
theorem bytesFrom_snoc (s : ByteArray) : ∀ (n i : Nat), bytesFrom s i (n + 1) = bytesFrom s i n ++ [bt s ((i + n : Nat) : Int)]
  | 0, i => by simp [bytesFrom]
  | n + 1, i => by
    have := bytesFrom_snoc s n (i + 1)
    rw [bytesFrom, this, bytesFrom, List.cons_append, show i + 1 + n = i + (n + 1) from by omega]
def readConf (s : ByteArray) : List Int × Bool := if confOk (bytesFrom s 0 s.size) then (bytesFrom s 0 s.size, true) else ([], false)

def entryOk (t k : Int) (d : ByteArray) : Bool := decide (0 ≤ t ∧ t ≤ 100000) && (if k = 1 then d.toList == ([] : List UInt8) else if k = 2 then (readConf d).2 else if k = 3 then decide ((d.size : Int) ≤ 120) else false)
end Go.Proofs.Ytlbikcelfheohaa
end
