import Derived.Test.YtofikijbmgejkaaWWords
import Derived.WideShapes
import Derived.ChangeMaps5
import Derived.ChangeShapes
import Derived.ChangeArms
import Derived.DataElems
import Derived.RowKit
import Derived.Test.YtofikijbmgejkaaProg
import Derived.Below
import Derived.WalkKit
import Derived.KernelRfl
import Derived.RowKit3
import Derived.Deep.QuietTactic
import Derived.BigQuiet
import Derived.WideLaws
import Derived.OwnWalk
import Derived.Outline
import Derived.Lib.Hide
import Derived.Deep.Draws
import Derived.Lib.QuietBelow
import Derived.Test.YtofikijbmgejkaaPNodeNewA
import Derived.Deep.Cut
import Derived.Test.YtofikijbmgejkaaPNodeNewB
import Derived.Lib.SliceRun
import Derived.Test.YtofikijbmgejkaaPNodeNewC
import Derived.Test.YtofikijbmgejkaaPNodeNewD

/-! ### YtofikijbmgejkaaOpen -/
section
namespace Go.Proofs.Ytofikijbmgejkaa
open Go.RowKit Go.WideShapes Go.ChangeMaps Go.ChangeShapes Go.Proofs.YtofikijbmgejkaaW.PrintWords

/-- A value of a type, as an argument that can be read holds it. -/
def ArgOf (P : Program) (W : World) (t : TypeId) (v : Value) : Prop :=
  (∃ base, Value.okWide P W .any base t v) ∧ ∃ (H : Type) (enc : TypeId × Value → H) (fuel : Nat) (x : DataW H × List MemPlace), DataW.trod enc P W 0 (fun _ => true) true fuel t v.cells.toList = some x

/-- Cells of a type that can be read are of a kind. -/
def Opens (P : Program) (W : World) (t : TypeId) {α : Type} (d : Kd α) (G : α → Prop) : Prop :=
  ∀ (H : Type) (enc : TypeId × Value → H) (fuel : Nat) (cs : List Value) (x : DataW H × List MemPlace), DataW.trod enc P W 0 (fun _ => true) true fuel t cs = some x → ∃ a, d.K W a cs ∧ G a

/-- The fields of a struct, from one on. -/
def OpensL (P : Program) (W : World) (fs : List Field) (o : Nat) {β : Type} (d : Kd β) (G : β → Prop) : Prop :=
  ∀ (H : Type) (enc : TypeId × Value → H) (fuel : Nat) (cs : List Value),
    (∀ f ∈ fs, ∃ y, DataW.trod enc P W 0 (fun _ => true) true fuel f.type ((cs.drop f.offset).take (P.cellsOf f.type)) = some y) → cs.length = o + d.sz → ∃ b, d.K W b (cs.drop o) ∧ G b

section
variable {P : Program} {W : World} {t e : TypeId} {α β : Type} {d : Kd α} {G : α → Prop}

theorem opens_int {k : IntKind} (ht : P.underlying t = some (.int k)) : Opens P W t (Kd.int k) (fun n => (Lit.int k n).wf = true) := by
  intro H enc fuel cs x h
  obtain ⟨n, rfl, _, hw⟩ := DataW.trod_int ht h
  exact ⟨n, rfl, hw⟩
theorem opens_bool (ht : P.underlying t = some .bool) : Opens P W t Kd.bool (fun _ => True) := by
  intro H enc fuel cs x h
  obtain ⟨b, rfl, _⟩ := DataW.trod_bool ht h
  exact ⟨b, rfl, trivial⟩
theorem opens_string (ht : P.underlying t = some .string) : Opens P W t Kd.string (fun s => s.size ≤ maxLen) := by
  intro H enc fuel cs x h
  obtain ⟨s, rfl, _, hs⟩ := DataW.trod_string ht h
  exact ⟨s, rfl, hs⟩
theorem opens_slice (ht : P.underlying t = some (.slice e)) (hsz : d.sz = P.cellsOf e) (he : Opens P W e d G) :
    Opens P W t (Kd.slice e d) (fun xs => xs.length ≤ maxLen ∧ ∀ x ∈ xs, G x) := by
  intro H enc fuel cs x h
  rcases DataW.trod_slice ht h with ⟨rfl, _⟩ | ⟨a, len, cap, elems, rest, n, _, rfl, _, _, hl, hc, hlen, hel, _⟩
  · exact ⟨[], ⟨none, 0, rfl, Nat.le_refl _, rfl, by simp, fun h => absurd h (by simp)⟩, by simp, by simp⟩
  · have step : ∀ i : Fin len, ∃ (a' : α) (c : List Value), d.K W a' c ∧ G a' ∧ ∀ j u, c[j]? = some u → W.cell? (a.add (i.1 * P.cellsOf e + j)) = some u := by
      intro i
      have h1 := hel i.1 i.2
      obtain ⟨y, hy⟩ : ∃ y, elems[i.1]? = some y := ⟨elems[i.1]'(by omega), List.getElem?_eq_getElem (by omega)⟩
      rw [hy] at h1
      obtain ⟨c, hcs, ht2⟩ := Option.bind_eq_some_iff.1 h1
      obtain ⟨a', hK, hG⟩ := he H enc n c y ht2
      refine ⟨a', c, hK, hG, fun j u hj => ?_⟩
      unfold World.cells? at hcs
      rw [if_pos (Nat.zero_le _)] at hcs
      have hlt : j < P.cellsOf e := by
        have h2 := mapM_some_length hcs
        have h3 : j < c.length := by
          rcases Nat.lt_or_ge j c.length with h | h
          · exact h
          · rw [List.getElem?_eq_none h] at hj; cases hj
        simpa [h2] using h3
      have h4 := mapM_some_get hcs j j (by simp [hlt])
      rw [Addr.add_add] at h4
      exact h4.trans hj
    let f : Fin len → α := fun i => Classical.choose (step i)
    let c : Fin len → List Value := fun i => Classical.choose (Classical.choose_spec (step i))
    have hK : ∀ i, d.K W (f i) (c i) := fun i => (Classical.choose_spec (Classical.choose_spec (step i))).1
    have hG : ∀ i, G (f i) := fun i => (Classical.choose_spec (Classical.choose_spec (step i))).2.1
    have hcell : ∀ (i : Fin len) j u, (c i)[j]? = some u → W.cell? (a.add (i.1 * P.cellsOf e + j)) = some u := fun i => (Classical.choose_spec (Classical.choose_spec (step i))).2.2
    refine ⟨List.ofFn f, ⟨some a, cap, by simp, by simpa using hl, by simp, by unfold maxLen at hc; simp; omega, fun _ => ⟨a, rfl, fun j p hj => ?_⟩⟩, by simp; omega, ?_⟩
    · obtain ⟨hjl, hjp⟩ := List.getElem?_eq_some_iff.1 hj
      have hjl' : j < len := by simpa using hjl
      refine ⟨c ⟨j, hjl'⟩, d.K_len (hK _), ?_, fun i u hu => ?_⟩
      · have : p = f ⟨j, hjl'⟩ := by rw [← hjp]; simp
        rw [this]
        exact hK _
      · rw [hsz]
        exact hcell ⟨j, hjl'⟩ i u hu
    · intro y hy
      obtain ⟨i, rfl⟩ := List.mem_ofFn.1 hy
      exact hG i
theorem opensL_last {f : Field} {o : Nat} (ho : f.offset = o) (hf : Opens P W f.type d G) (hs : d.sz = P.cellsOf f.type) : OpensL P W [f] o d G := by
  intro H enc fuel cs h hl
  obtain ⟨y, hy⟩ := h f (by simp)
  obtain ⟨a, hK, hG⟩ := hf H enc fuel _ y hy
  refine ⟨a, ?_, hG⟩
  rw [ho, List.take_of_length_le (by rw [List.length_drop, hl, hs]; omega)] at hK
  exact hK
theorem opensL_cons {f : Field} {fs : List Field} {o : Nat} {d2 : Kd β} {G2 : β → Prop} (ho : f.offset = o) (hf : Opens P W f.type d G) (hs : d.sz = P.cellsOf f.type) (hr : OpensL P W fs (o + d.sz) d2 G2) :
    OpensL P W (f :: fs) o (Kd.pair d d2) (fun x => G x.1 ∧ G2 x.2) := by
  intro H enc fuel cs h hl
  obtain ⟨y, hy⟩ := h f (by simp)
  obtain ⟨a, hK, hG⟩ := hf H enc fuel _ y hy
  have hl' : cs.length = o + (d.sz + d2.sz) := hl
  obtain ⟨b, hK2, hG2⟩ := hr H enc fuel cs (fun f' hf' => h f' (by simp [hf'])) (by omega)
  refine ⟨(a, b), ⟨_, _, ?_, hK, hK2⟩, hG, hG2⟩
  rw [ho, ← hs, ← List.drop_drop, List.take_append_drop]
theorem opens_struct {fs : Array Field} (ht : P.underlying t = some (.struct fs)) (hs : d.sz = P.cellsOf t) (hf : OpensL P W fs.toList 0 d G) : Opens P W t d G := by
  intro H enc fuel cs x h
  obtain ⟨xs, n, _, _, hl, hn, hget⟩ := DataW.trod_struct ht h
  have hall : ∀ f ∈ fs.toList, ∃ y, DataW.trod enc P W 0 (fun _ => true) true n f.type ((cs.drop f.offset).take (P.cellsOf f.type)) = some y := by
    intro f hfm
    obtain ⟨i, hi, hif⟩ := List.getElem_of_mem hfm
    have h1 := hget i f (by rw [← hif]; simp [Array.getElem?_eq_getElem (by simpa using hi)])
    have hi' : i < xs.length := by rw [hn]; simpa using hi
    exact ⟨xs[i], by rw [h1, List.getElem?_eq_getElem hi']⟩
  obtain ⟨b, hK, hG⟩ := hf H enc n cs hall (by omega)
  exact ⟨b, by simpa using hK, hG⟩
theorem opens_iso {p : β → α} (inv : α → β) (hi : ∀ x, p (inv x) = x) (h : Opens P W t d G) : Opens P W t (Kd.iso d p) (fun x => G (p x)) := by
  intro H enc fuel cs x hx
  obtain ⟨a, hK, hG⟩ := h H enc fuel cs x hx
  exact ⟨inv a, by show d.K W (p (inv a)) cs; rw [hi]; exact hK, by show G (p (inv a)); rw [hi]; exact hG⟩

theorem Opens.imp {G' : α → Prop} (h : Opens P W t d G) (hi : ∀ x, G x → G' x) : Opens P W t d G' := by
  intro H enc fuel cs x hx
  obtain ⟨a, hK, hG⟩ := h H enc fuel cs x hx
  exact ⟨a, hK, hi a hG⟩

theorem arg_int {k : IntKind} {v : Value} (ht : P.underlying t = some (.int k)) (h : ArgOf P W t v) : ∃ n, v = .int k n ∧ (Lit.int k n).wf = true := by
  obtain ⟨⟨base, ho⟩, H, enc, fuel, x, hx⟩ := h
  obtain ⟨n, hv, _, _, hw⟩ := open_int (P := P) (d := x.1) (ps := x.2) ht ho ⟨fuel, hx⟩
  exact ⟨n, hv, hw⟩
theorem arg_bool {v : Value} (ht : P.underlying t = some .bool) (h : ArgOf P W t v) : ∃ b, v = .bool b := by
  obtain ⟨⟨base, ho⟩, H, enc, fuel, x, hx⟩ := h
  obtain ⟨b, hv, _⟩ := open_bool (P := P) (d := x.1) (ps := x.2) ht ho ⟨fuel, hx⟩
  exact ⟨b, hv⟩
theorem arg_string {v : Value} (ht : P.underlying t = some .string) (h : ArgOf P W t v) : ∃ s : ByteArray, v = .string s ∧ s.size ≤ maxLen := by
  obtain ⟨⟨base, ho⟩, H, enc, fuel, x, hx⟩ := h
  obtain ⟨s, hv, _, _, hs⟩ := open_string (P := P) (d := x.1) (ps := x.2) ht ho ⟨fuel, hx⟩
  exact ⟨s, hv, hs⟩
theorem arg_struct {fs : Array Field} {v : Value} (ht : P.underlying t = some (.struct fs)) (hd : Opens P W t d G) (h : ArgOf P W t v) : ∃ a cs, v = .agg cs ∧ d.K W a cs.toList ∧ G a := by
  obtain ⟨⟨base, ho⟩, H, enc, fuel, x, hx⟩ := h
  obtain ⟨cs, rfl, _⟩ := okWide_struct ht ho
  obtain ⟨a, hK, hG⟩ := hd H enc fuel _ x hx
  exact ⟨a, cs, rfl, hK, hG⟩
theorem arg_slice {v : Value} (ht : P.underlying t = some (.slice e)) (hsz : d.sz = P.cellsOf e) (hd : Opens P W e d G) (h : ArgOf P W t v) :
    ∃ A xs c, v = .slice A xs.length c ∧ xs.length ≤ c ∧ Kd.C d W A xs.length xs ∧ xs.length ≤ maxLen ∧ ∀ x ∈ xs, G x := by
  obtain ⟨⟨base, ho⟩, H, enc, fuel, x, hx⟩ := h
  obtain ⟨A, len, cap, rfl⟩ := okWide_slice ht ho
  obtain ⟨xs, ⟨A', c, he, hc, hC⟩, hG⟩ := opens_slice ht hsz hd H enc fuel _ x hx
  simp [Value.cells] at he
  obtain ⟨rfl, rfl, rfl⟩ := he
  exact ⟨A, xs, cap, rfl, hc, hC, hG.1, hG.2⟩
end
end Go.Proofs.Ytofikijbmgejkaa
end

/-! ### YtofikijbmgejkaaBase -/
section
namespace Go.Proofs.Ytofikijbmgejkaa
open Go.RowKit

theorem bcell {W w1 : World} (hb : Below W.heap.size W w1) : (∀ b o, b < W.heap.size → w1.cell? ⟨b, o, none⟩ = W.cell? ⟨b, o, none⟩) ∧ (∀ b o, b < W.heap.size → w1.frozen? ⟨b, o, none⟩ = W.frozen? ⟨b, o, none⟩) :=
  ⟨fun b o h => hb.cell (p := ⟨b, o, none⟩) h, fun b o h => hb.frozen (p := ⟨b, o, none⟩) h⟩
theorem bl_alloc {w W : World} (h : Below w.heap.size w W) (o : Obj) : Below w.heap.size w (W.alloc o) := h.alloc h.size o
theorem bl_drewN {w W : World} (h : Below w.heap.size w W) (n : Nat) : Below w.heap.size w (W.drewN n) := ⟨h.os, h.tape, h.output, h.size, h.block⟩
theorem bl_drew {w W : World} (h : Below w.heap.size w W) : Below w.heap.size w W.drew := h.drew
theorem bl_set {w W : World} {p : Addr} {v : Value} (h : Below w.heap.size w W) (hg : w.heap.size ≤ p.block) : Below w.heap.size w (W.setCell p v) := h.setCell hg _
theorem bl_then {w W w2 : World} (h : Below w.heap.size w W) (k : Below W.heap.size W w2) : Below w.heap.size w w2 :=
  h.trans ⟨k.os, k.tape, k.output, k.size, fun i hi => k.block i (Nat.lt_of_lt_of_le hi h.size)⟩
theorem cell_grow {w : World} {d : Nat} {os : Array Obj} {a : Addr} (h : a.block < w.heap.size) : (Go.Sort.grow (redrawn w d) os).cell? a = w.cell? a := (below_regrown w d os).cell h
theorem bl_regrown {w W : World} (h : ∃ p : Regrown, W = Go.Sort.grow (redrawn w p.d) p.os) : Below w.heap.size w W := by
  obtain ⟨p, rfl⟩ := h
  exact below_regrown w p.d p.os
theorem ret_int {k : IntKind} {a b : Int} (h : a = b) : Ending.returned (.int k a) = .returned (.int k b) := by rw [h]
theorem ret_str {a b : ByteArray} (h : a = b) : Ending.returned (.string a) = .returned (.string b) := by rw [h]

/-- Whether a number lies in a range. -/
def inB (n lo hi : Int) : Bool := decide (lo ≤ n) && decide (n ≤ hi)
theorem inB_iff {n lo hi : Int} : inB n lo hi = true ↔ lo ≤ n ∧ n ≤ hi := by simp [inB]

set_option maxHeartbeats 400000 in
theorem impl_in (n lo hi : Int) (w : World) :
    Calls Try.prog 60 #[.int .i64 n, .int .i64 lo, .int .i64 hi] w fun e w' => e = .returned (.bool (inB n lo hi)) ∧ w = w' := by
  go_enter Try.func60, Try.ntmps60
  go_wp2
  all_goals (go_ret; exact ⟨by first | (simp [inB, *]; done) | (simp [inB, *]; omega), rfl⟩)
set_option maxHeartbeats 400000 in
theorem spec_l01In (n lo hi : Int) (w : World) :
    Calls Try.prog 58 #[.int .i64 n, .int .i64 lo, .int .i64 hi] w fun e w' => e = .returned (.bool (inB n lo hi)) ∧ w = w' := by
  go_enter Try.func58, Try.ntmps58
  go_wp2
  all_goals (go_ret; exact ⟨by first | (simp [inB, *]; done) | (simp [inB, *]; omega), rfl⟩)
end Go.Proofs.Ytofikijbmgejkaa
end

/-! ### YtofikijbmgejkaaBlk0 -/
section
namespace Go.Proofs.Ytofikijbmgejkaa
open Go.RowKit
set_option linter.unusedSimpArgs false
set_option linter.unusedVariables false

/-- Only one block may have turned. -/
structure Upd (g : Nat) (w w' : World) : Prop where
  os : w'.os = w.os
  tape : w'.tape = w.tape
  output : w'.output = w.output
  size : w.heap.size ≤ w'.heap.size
  block : ∀ k, k < w.heap.size → k ≠ g → w'.heap[k]? = w.heap[k]?
theorem Upd.of_below {g : Nat} {w w' : World} (h : Below w.heap.size w w') : Upd g w w' := ⟨h.os, h.tape, h.output, h.size, fun k hk _ => h.block k hk⟩
theorem Upd.refl (g : Nat) (w : World) : Upd g w w := ⟨rfl, rfl, rfl, Nat.le_refl _, fun _ _ _ => rfl⟩
theorem Upd.trans {g : Nat} {a b c : World} (h : Upd g a b) (k : Upd g b c) : Upd g a c :=
  ⟨k.os.trans h.os, k.tape.trans h.tape, k.output.trans h.output, Nat.le_trans h.size k.size, fun i hi hg => (k.block i (Nat.lt_of_lt_of_le hi h.size) hg).trans (h.block i hi hg)⟩
theorem Upd.set {g : Nat} {w w' : World} (h : Upd g w w') (o : Nat) (v : Value) : Upd g w (w'.setCell ⟨g, o, none⟩ v) :=
  ⟨h.os, h.tape, h.output, by simpa using h.size, fun k hk hg => (Below.heap_setCell w' ⟨g, o, none⟩ v k hg).trans (h.block k hk hg)⟩
theorem Upd.alloc {g : Nat} {w w' : World} (h : Upd g w w') (o : Obj) : Upd g w (w'.alloc o) :=
  h.trans (Upd.of_below (bl_alloc (Below.refl _ _) o))
theorem Upd.drewN {g : Nat} {w w' : World} (h : Upd g w w') (n : Nat) : Upd g w (w'.drewN n) := h.trans (Upd.of_below (bl_drewN (Below.refl _ _) n))
theorem Upd.then {g : Nat} {w w' w2 : World} (h : Upd g w w') (k : Below w'.heap.size w' w2) : Upd g w w2 := h.trans (Upd.of_below k)
theorem Upd.below {g : Nat} {w w' w0 : World} (h : Upd g w w') (hb : Below w0.heap.size w0 w) (hg : w0.heap.size ≤ g) : Below w0.heap.size w0 w' :=
  hb.trans ⟨h.os, h.tape, h.output, h.size, fun k hk => h.block k (Nat.lt_of_lt_of_le hk hb.size) (by omega)⟩
theorem ucell {g : Nat} {W w1 : World} (h : Upd g W w1) : (∀ b o, b < W.heap.size → b ≠ g → w1.cell? ⟨b, o, none⟩ = W.cell? ⟨b, o, none⟩) ∧ (∀ b o, b < W.heap.size → b ≠ g → w1.frozen? ⟨b, o, none⟩ = W.frozen? ⟨b, o, none⟩) :=
  ⟨fun b o hb hg => World.cell?_of_block (w := W) (h.block b hb hg), fun b o hb hg => World.frozen?_of_block (w := W) (h.block b hb hg)⟩

/-! A block whose cells are known, carried from world to world. (own) -/
def Blk (T g : Nat) (cs : Array Value) (W : World) : Prop := W.heap[g]? = some (.cells cs T (0, 0))
section
variable {T g : Nat} {cs : Array Value} {W W1 : World}
theorem Blk.lt (h : Blk T g cs W) : g < W.heap.size := by
  unfold Blk at h
  rcases Nat.lt_or_ge g W.heap.size with h1 | h1
  · exact h1
  · rw [Array.getElem?_eq_none h1] at h; cases h
theorem Blk.cell (h : Blk T g cs W) (o : Nat) {v : Value} (hv : cs[o]? = some v) : W.cell? ⟨g, o, none⟩ = some v := by
  unfold Blk at h
  simp [World.cell?, h, hv]
theorem Blk.free (h : Blk T g cs W) (o : Nat) : W.frozen? ⟨g, o, none⟩ = false := by
  unfold Blk at h
  simp [World.frozen?, h]
theorem Blk.below (h : Blk T g cs W) (hb : Below W.heap.size W W1) : Blk T g cs W1 := (hb.block g h.lt).trans h
theorem Blk.upd {g' : Nat} (h : Blk T g cs W) (hu : Upd g' W W1) (hg : g ≠ g') : Blk T g cs W1 := (hu.block g h.lt hg).trans h
theorem Blk.alloc (h : Blk T g cs W) (o : Obj) : Blk T g cs (W.alloc o) := (Below.heap_alloc W o g h.lt).trans h
theorem Blk.far (h : Blk T g cs W) {a : Addr} (hg : g ≠ a.block) (v : Value) : Blk T g cs (W.setCell a v) := (Below.heap_setCell W a v g hg).trans h
theorem Blk.drewN (h : Blk T g cs W) (n : Nat) : Blk T g cs (W.drewN n) := h
theorem Blk.new (T : Nat) (cs : Array Value) (W : World) : Blk T W.heap.size cs (W.alloc (.cells cs T)) := by
  unfold Blk
  simpa using heap_alloc_new W _
theorem Blk.newE {g : Nat} (T : Nat) (cs : Array Value) (W : World) (h : g = W.heap.size) : Blk T g cs (W.alloc (.cells cs T)) := by
  subst h; exact Blk.new T cs W
theorem Blk.set (h : Blk T g cs W) (o : Nat) (v : Value) {cs' : Array Value} (hc : cs.setIfInBounds o v = cs') : Blk T g cs' (W.setCell ⟨g, o, none⟩ v) := by
  unfold Blk at *
  subst hc
  simp [World.setCell, Array.getElem?_modify, h, Array.setIfInBounds]
end
end Go.Proofs.Ytofikijbmgejkaa
end

/-! ### YtofikijbmgejkaaConfDef -/
section
namespace Go.Proofs.Ytofikijbmgejkaa
open Go.RowKit Go.Proofs.YtofikijbmgejkaaW.PrintWords
set_option linter.unusedSimpArgs false
set_option linter.unusedVariables false

/-! What a right conf, a conf read, a right entry are. (own) -/
/-- From one place on: each is a node, and more than the one ahead. -/
def rises (xs : List Int) (i : Nat) : Nat → Bool
  | 0 => true
  | n + 1 => decide (1 ≤ rd xs i ∧ rd xs i ≤ 4) && (decide (i = 0) || decide (rd xs ((i : Int) - 1) < rd xs i)) && rises xs (i + 1) n
def confOk (xs : List Int) : Bool := rises xs 0 xs.length && decide (1 ≤ xs.length)

theorem rises_short (xs : List Int) : ∀ (n i : Nat), rises xs i n = true → (i = 0 ∨ (i : Int) ≤ rd xs ((i : Int) - 1)) → 0 < n → i + n ≤ 4
  | 0, _, _, _, h => by omega
  | n + 1, i, h, hi, _ => by
    simp only [rises, Bool.and_eq_true, Bool.or_eq_true, decide_eq_true_eq] at h
    obtain ⟨⟨h1, h2⟩, h3⟩ := h
    have hx : (i : Int) + 1 ≤ rd xs i := by
      rcases hi with rfl | hi
      · simpa using h1.1
      · rcases h2 with rfl | h2
        · simpa using h1.1
        · omega
    rcases Nat.eq_zero_or_pos n with rfl | hn
    · omega
    · have := rises_short xs n (i + 1) h3 (.inr (by rw [show ((i + 1 : Nat) : Int) - 1 = i from by omega]; omega)) hn
      omega
theorem confOk_short {xs : List Int} (h : confOk xs = true) : 1 ≤ xs.length ∧ xs.length ≤ 4 := by
  simp only [confOk, Bool.and_eq_true, decide_eq_true_eq] at h
  have := rises_short xs _ 0 h.1 (.inl rfl) (by omega)
  omega

/-- A text's bytes. -/
def bytesFrom (s : ByteArray) (i : Nat) : Nat → List Int
  | 0 => []
  | n + 1 => bt s (i : Int) :: bytesFrom s (i + 1) n
theorem bytesFrom_length (s : ByteArray) : ∀ n i, (bytesFrom s i n).length = n
  | 0, _ => rfl
  | n + 1, i => by simp [bytesFrom, bytesFrom_length s n]
theorem bytesFrom_snoc (s : ByteArray) : ∀ (n i : Nat), bytesFrom s i (n + 1) = bytesFrom s i n ++ [bt s ((i + n : Nat) : Int)]
  | 0, i => by simp [bytesFrom]
  | n + 1, i => by
    have := bytesFrom_snoc s n (i + 1)
    rw [bytesFrom, this, bytesFrom, List.cons_append, show i + 1 + n = i + (n + 1) from by omega]
def readConf (s : ByteArray) : List Int × Bool := if confOk (bytesFrom s 0 s.size) then (bytesFrom s 0 s.size, true) else ([], false)

def entryOk (t k : Int) (d : ByteArray) : Bool := decide (0 ≤ t ∧ t ≤ 100000) && (if k = 1 then d.toList == ([] : List UInt8) else if k = 2 then (readConf d).2 else if k = 3 then decide ((d.size : Int) ≤ 120) else false)
end Go.Proofs.Ytofikijbmgejkaa
end

/-! ### YtofikijbmgejkaaConfFnExactNodeNew -/
section
namespace Go.Proofs.Ytofikijbmgejkaa.PFnExactNodeNew
open Go.RowKit Go.Proofs.YtofikijbmgejkaaW.PrintWords
set_option linter.unusedSimpArgs false
set_option linter.unusedVariables false

theorem in_f (a b c : Int) : impl_in.f a b c = some (decide (b ≤ a ∧ a ≤ c)) := by
  unfold impl_in.f
  by_cases h : a ≥ b
  · rw [if_pos h]; simp [show b ≤ a from h]
  · rw [if_neg h]; simp [show ¬ b ≤ a from h]
theorem l01In_f (a b c : Int) : spec_l01In.f a b c = some (decide (b ≤ a ∧ a ≤ c)) := by
  unfold spec_l01In.f
  by_cases h : a ≥ b
  · rw [if_pos h]; simp [show b ≤ a from h]
  · rw [if_neg h]; simp [show ¬ b ≤ a from h]

theorem rise_l0 (xs : List Int) : ∀ (n k i : Nat), n + i = xs.length → n < k → xs.length < 4611686018427387904 → spec_l05Rise.l0 k xs 1 4 i = some (rises xs i n)
  | 0, 0, _, _, hk, _ => by omega
  | 0, k + 1, i, h, _, _ => by
    unfold spec_l05Rise.l0
    rw [if_neg (by omega)]
    rfl
  | n + 1, 0, _, _, hk, _ => by omega
  | n + 1, k + 1, i, h, hk, hl => by
    have e1 : wrap64 ((i : Int) + 1) = ((i + 1 : Nat) : Int) := by unfold wrap64; omega
    have e2 : 0 < (i : Int) → wrap64 ((i : Int) - 1) = (i : Int) - 1 := fun _ => by unfold wrap64; omega
    have ih := rise_l0 xs n k (i + 1) (by omega) (by omega) hl
    unfold spec_l05Rise.l0
    rw [if_pos (by omega), if_pos (by omega), l01In_f, Option.bind_some, e1]
    clear e1
    rw [ih]
    by_cases hin : 1 ≤ rd xs i ∧ rd xs i ≤ 4
    · rw [if_pos (by simpa using hin)]
      by_cases hi : (i : Int) > 0
      · rw [if_pos hi, e2 hi]
        clear e2
        rw [if_pos (by omega), if_pos (by omega)]
        by_cases hge : rd xs ((i : Int) - 1) ≥ rd xs i
        · rw [if_pos hge]
          have : ¬ i = 0 := by omega
          simp [rises, this, show ¬ rd xs ((i : Int) - 1) < rd xs i from by omega]
        · rw [if_neg hge]
          simp [rises, hin, show rd xs ((i : Int) - 1) < rd xs i from by omega]
      · rw [if_neg hi]
        have : i = 0 := by omega
        subst this
        simp only [rises]
        simp at hin
        simp [hin]
    · rw [if_neg (by simpa using hin)]
      simp only [rises]
      simp only [hin]
      simp
theorem iconf_l0 (xs : List Int) : ∀ (n k i : Nat), n + i = xs.length → n < k → xs.length < 4611686018427387904 → impl_ConfOk.l0 k xs xs xs.length i = some (rises xs i n && decide (1 ≤ xs.length))
  | 0, 0, _, _, hk, _ => by omega
  | 0, k + 1, i, h, _, _ => by
    unfold impl_ConfOk.l0
    rw [if_neg (by omega)]
    simp [rises]
    omega
  | n + 1, 0, _, _, hk, _ => by omega
  | n + 1, k + 1, i, h, hk, hl => by
    have e1 : wrap64 ((i : Int) + 1) = ((i + 1 : Nat) : Int) := by unfold wrap64; omega
    have e2 : 0 < (i : Int) → wrap64 ((i : Int) - 1) = (i : Int) - 1 := fun _ => by unfold wrap64; omega
    have ih := iconf_l0 xs n k (i + 1) (by omega) (by omega) hl
    unfold impl_ConfOk.l0
    rw [if_pos (by omega), if_pos (by omega), if_pos (by omega), in_f, Option.bind_some, e1]
    clear e1
    rw [ih]
    by_cases hin : 1 ≤ rd xs i ∧ rd xs i ≤ 4
    · rw [if_pos (by simpa using hin)]
      by_cases hi : (i : Int) > 0
      · rw [if_pos hi, e2 hi]
        clear e2
        rw [if_pos (by omega), if_pos (by omega)]
        by_cases hge : rd xs ((i : Int) - 1) ≥ rd xs i
        · rw [if_pos hge]
          have : ¬ i = 0 := by omega
          simp [rises, this, show ¬ rd xs ((i : Int) - 1) < rd xs i from by omega]
        · rw [if_neg hge]
          simp [rises, hin, show rd xs ((i : Int) - 1) < rd xs i from by omega]
      · rw [if_neg hi]
        have : i = 0 := by omega
        subst this
        simp only [rises]
        simp at hin
        simp [hin]
    · rw [if_neg (by simpa using hin)]
      simp only [rises]
      simp only [hin]
      simp
theorem iconf_f (xs : List Int) (k : Nat) (hk : xs.length < k) (hl : xs.length < 4611686018427387904) : impl_ConfOk.f k xs = some (confOk xs) := iconf_l0 xs xs.length k 0 (by omega) hk hl
theorem sconf_f (xs : List Int) (k : Nat) (hk : xs.length < k) (hl : xs.length < 4611686018427387904) : spec_ConfOk.f k xs = some (confOk xs) := by
  unfold spec_ConfOk.f spec_l05Rise.f
  rw [l01In_f, Option.bind_some]
  have h0 : spec_l05Rise.l0 k xs 1 4 0 = some (rises xs 0 xs.length) := rise_l0 xs xs.length k 0 (by omega) hk hl
  rw [h0]
  by_cases h : (1 : Int) ≤ (xs.length : Int) ∧ (xs.length : Int) ≤ 4
  · rw [if_pos (by simpa using h)]
    have : 1 ≤ xs.length := by omega
    simp [confOk, this]
  · rw [if_neg (by simpa using h)]
    cases hc : confOk xs with
    | false => rfl
    | true => have := confOk_short hc; omega

theorem iread_l0 (s : ByteArray) : ∀ (n k i : Nat) (acc : List Int), n + i = s.size → acc.length = i → n + s.size + 1 < k → s.size < 17592186044416 →
    impl_ReadConf.l0 k s acc s.size i = some (if confOk (acc ++ bytesFrom s i n) then (acc ++ bytesFrom s i n, true) else ([], false))
  | 0, 0, _, _, _, _, hk, _ => by omega
  | 0, k + 1, i, acc, h, ha, hk, hs => by
    unfold impl_ReadConf.l0
    rw [if_neg (by omega), iconf_f acc k (by omega) (by omega)]
    simp only [bytesFrom, List.append_nil, Option.bind_some]
    split <;> rfl
  | n + 1, 0, _, _, _, _, hk, _ => by omega
  | n + 1, k + 1, i, acc, h, ha, hk, hs => by
    have e1 : wrap64 ((i : Int) + 1) = ((i + 1 : Nat) : Int) := by unfold wrap64; omega
    have hb := bt_range s (i : Int)
    have e2 : wrap64 (bt s (i : Int)) = bt s (i : Int) := by unfold wrap64; omega
    unfold impl_ReadConf.l0
    rw [if_pos (by omega), if_pos (by omega), if_pos (by omega), if_pos (by omega), e1, e2]
    clear e1 e2
    rw [iread_l0 s n k (i + 1) (acc ++ [bt s (i : Int)]) (by omega) (by simp [ha]) (by omega) hs]
    simp only [bytesFrom, List.append_assoc, List.cons_append, List.nil_append]
    rfl
theorem iread_f (s : ByteArray) (k : Nat) (hk : s.size + s.size + 1 < k) (hs : s.size < 17592186044416) : impl_ReadConf.f k s = some (readConf s) := by
  have := iread_l0 s s.size k 0 [] (by omega) rfl hk hs
  simpa [impl_ReadConf.f, readConf] using this
theorem sread_l0 (s : ByteArray) : ∀ (n k i : Nat) (acc : List Int), n + i = s.size → acc = bytesFrom s 0 i → i ≤ 5 → n + s.size + 1 < k → s.size < 17592186044416 →
    spec_ReadConf.l0 k s acc i = some (readConf s)
  | n, 0, _, _, _, _, _, hk, _ => by omega
  | n, k + 1, i, acc, h, ha, h5, hk, hs => by
    have hlen : acc.length = i := by rw [ha, bytesFrom_length]
    have e1 : wrap64 ((i : Int) + 1) = ((i + 1 : Nat) : Int) := by unfold wrap64; omega
    have hb := bt_range s (i : Int)
    have e2 : wrap64 (bt s (i : Int)) = bt s (i : Int) := by unfold wrap64; omega
    have hfin : ∀ (hd : n = 0 ∨ i = 5), (if (acc.length : Int) = (s.size : Int) then ((spec_ConfOk.f k acc).bind fun t => (if t = true then (some (acc, true)) else (some ((([] : List Int)), false)))) else (some ((([] : List Int)), false))) = some (readConf s) := by
      intro hd
      by_cases he : acc.length = s.size
      · rw [if_pos (by omega), sconf_f acc k (by omega) (by omega), Option.bind_some]
        have hi : i = s.size := by omega
        subst ha
        unfold readConf
        rw [← hi]
        split <;> rfl
      · rw [if_neg (by omega)]
        unfold readConf
        have hn : ¬ confOk (bytesFrom s 0 s.size) = true := fun hc => by
          have := confOk_short hc
          rw [bytesFrom_length] at this
          rcases hd with h0 | h0 <;> omega
        rw [if_neg hn]
    unfold spec_ReadConf.l0
    by_cases h1 : (i : Int) < (s.size : Int)
    · rw [if_pos h1]
      by_cases h4 : (i : Int) ≤ 4
      · rw [if_pos h4, if_pos (by omega), if_pos (by omega), e1, e2]
        clear e1 e2
        obtain ⟨m, rfl⟩ : ∃ m, n = m + 1 := ⟨n - 1, by omega⟩
        refine sread_l0 s m k (i + 1) _ (by omega) ?_ (by omega) (by omega) hs
        rw [ha, bytesFrom_snoc s i 0]
        simp
      · rw [if_neg h4]
        exact hfin (.inr (by omega))
    · rw [if_neg h1]
      exact hfin (.inl (by omega))
theorem sread_f (s : ByteArray) (k : Nat) (hk : s.size + s.size + 1 < k) (hs : s.size < 17592186044416) : spec_ReadConf.f k s = some (readConf s) := sread_l0 s s.size k 0 [] (by omega) rfl (by omega) hk hs

theorem ientry_f (t n : Int) (d : ByteArray) (k : Nat) (hk : d.size + d.size + 1 < k) (hs : d.size < 17592186044416) : impl_EntryOk.f k t n d = some (entryOk t n d) := by
  unfold impl_EntryOk.f entryOk
  rw [in_f, iread_f d k hk hs]
  by_cases h : 0 ≤ t ∧ t ≤ 100000
  · simp only [h, Option.bind_some, and_self, decide_true, if_true, Bool.true_and]
    split
    · rfl
    · split
      · rfl
      · split <;> rfl
  · simp only [h, Option.bind_some, decide_false, Bool.false_and]
    rfl
theorem sentry_f (t n : Int) (d : ByteArray) (k : Nat) (hk : d.size + d.size + 1 < k) (hs : d.size < 17592186044416) : spec_EntryOk.f k t n d = some (entryOk t n d) := by
  unfold spec_EntryOk.f entryOk
  rw [l01In_f, sread_f d k hk hs]
  by_cases h : 0 ≤ t ∧ t ≤ 100000
  · simp only [h, Option.bind_some, and_self, decide_true, if_true, Bool.true_and]
    split
    · rfl
    · split
      · rfl
      · split <;> rfl
  · simp only [h, Option.bind_some, decide_false, Bool.false_and]
    rfl

/-- A conf in bytes. -/
def confBs (xs : List Int) : List Int := xs.map (fun x => x % 256)
theorem take_confBs (xs : List Int) (i : Nat) (h : i < xs.length) : (confBs xs).take (i + 1) = (confBs xs).take i ++ [rd xs (i : Int) % 256] := by
  have hl : i < (confBs xs).length := by simpa [confBs] using h
  rw [List.take_succ_eq_append_getElem hl]
  simp [confBs, rd, h]
end Go.Proofs.Ytofikijbmgejkaa.PFnExactNodeNew
end

/-! ### YtofikijbmgejkaaFlow -/
section
namespace Go.Proofs.Ytofikijbmgejkaa
open Go.RowKit
set_option linter.unusedVariables false

/-! A REGION THAT DRAWS ITS ORDER: EVERY ORDER BY WHAT IS KNOWN OF THE VALUES. Each operation gets a predicate on the world and its value, kept by whatever lays blocks; each operation is shown in every frame in which the operations that it waits for have brought what their predicates say. So a value may be another in another order (a new slice's address). (own) -/
section
variable {P : Program}
abbrev VPred := World → Value → Prop
def VMono (R : VPred) : Prop := ∀ w w' v, R w v → Below w.heap.size w w' → R w' v
theorem vmono_eq (e : Value) : VMono (fun _ v => v = e) := fun _ _ _ h _ => h

def flowUpon (P : Program) (R : VPred) (w : World) : Result Next → Prop
  | .ok (.value u) w' => Below w.heap.size w w' ∧ R w' u
  | .ok .skip w' => Below w.heap.size w w' ∧ R w' undef
  | .ok (.enter f args) w' => Calls P f args w' (fun e w'' => ∃ v, e = .returned v ∧ Below w.heap.size w w'' ∧ R w'' v)
  | _ => False

abbrev FTab := List (Nat × Tmp × VPred)
def dep1 (A : Act) (w : World) (j : Nat) : FTab → Prop
  | [] => True
  | (i, d, R) :: r => if i = j then R w (A.eval (.tmp d)) else dep1 A w j r
def deps (T : FTab) (A : Act) (w : World) : List Edge → Prop
  | [] => True
  | e :: r => (if Region.binds .any e = true then dep1 A w e.on T else True) ∧ deps T A w r
def allT (x : Nat → Value) (w : World) : FTab → Prop
  | [] => True
  | (i, _, R) :: r => R w (x i) ∧ allT x w r
def baseF (A a : Act) : List Nat → Prop
  | [] => True
  | t :: r => A.eval (.tmp t) = a.eval (.tmp t) ∧ baseF A a r
def frameOf (x : Nat → Value) : List Oper → Nat → Act → Act
  | [], _, a => a
  | o :: r, k, a => frameOf x r (k + 1) (a.put o.dst (x k))
def addT (o : Oper) (i : Nat) (R : VPred) (T : FTab) : FTab := match o.dst with
  | some d => (i, d, R) :: T
  | none => T

def Flow (P : Program) (w : World) (a : Act) (bs : List Nat) (Q : Exit → Act → World → Prop) (l0 : List Oper) : List Oper → Nat → FTab → Prop
  | [], _, T => ∀ x w', Below w.heap.size w w' → allT x w' T → Q .normal (frameOf x l0 0 a) w'
  | o :: rest, i, T => ∃ R : VPred, VMono R ∧
      (∀ A w', Below w.heap.size w w' → baseF A a bs → deps T A w' o.after.toList → flowUpon P R w' ((execOp A.eval o).run P w')) ∧ Flow P w a bs Q l0 rest (i + 1) (addT o i R T)

theorem dep1_of {A : Act} {w : World} {j : Nat} : ∀ {T : FTab}, (∀ d R, (j, d, R) ∈ T → R w (A.eval (.tmp d))) → dep1 A w j T
  | [], _ => trivial
  | (i, d, R) :: r, h => by
    unfold dep1
    split
    · rename_i e; subst e; exact h d R (.head _)
    · exact dep1_of fun d R hm => h d R (.tail _ hm)
theorem deps_of {T : FTab} {A : Act} {w : World} : ∀ {es : List Edge}, (∀ e ∈ es, Region.binds .any e = true → ∀ d R, (e.on, d, R) ∈ T → R w (A.eval (.tmp d))) → deps T A w es
  | [], _ => trivial
  | e :: r, h => by
    refine ⟨?_, deps_of fun e he => h e (.tail _ he)⟩
    split
    · rename_i hb; exact dep1_of (h e (.head _) hb)
    · trivial
theorem allT_of {x : Nat → Value} {w : World} : ∀ {T : FTab}, (∀ i d R, (i, d, R) ∈ T → R w (x i)) → allT x w T
  | [], _ => trivial
  | (i, d, R) :: r, h => ⟨h i d R (.head _), allT_of fun i d R hm => h i d R (.tail _ hm)⟩
theorem baseF_of {A a : Act} : ∀ {bs : List Nat}, (∀ t ∈ bs, A.eval (.tmp t) = a.eval (.tmp t)) → baseF A a bs
  | [], _ => trivial
  | t :: r, h => ⟨h t (.head _), baseF_of fun t ht => h t (.tail _ ht)⟩

theorem flow_table {w : World} {a : Act} {bs : List Nat} {Q : Exit → Act → World → Prop} {l0 : List Oper} : ∀ (rest : List Oper) (i : Nat) (T : FTab), (∀ k d R, (k, d, R) ∈ T → k < i) → Flow P w a bs Q l0 rest i T →
    ∃ T' : FTab, (∀ x ∈ T, x ∈ T') ∧ (∀ k d R, (k, d, R) ∈ T' → k < i → (k, d, R) ∈ T) ∧ (∀ k d R, (k, d, R) ∈ T' → k < i + rest.length) ∧
      (∀ (j : Nat) (o : Oper), rest[j]? = some o → ∃ R, VMono R ∧ (∀ d' R', (i + j, d', R') ∈ T' → o.dst = some d' ∧ R' = R) ∧
        (∀ A w', Below w.heap.size w w' → baseF A a bs → (∀ e ∈ o.after.toList, Region.binds .any e = true → ∀ d R, (e.on, d, R) ∈ T' → R w' (A.eval (.tmp d))) → flowUpon P R w' ((execOp A.eval o).run P w'))) ∧
      (∀ x w', Below w.heap.size w w' → allT x w' T' → Q .normal (frameOf x l0 0 a) w')
  | [], i, T, hT, h => ⟨T, fun _ h => h, fun _ _ _ h _ => h, fun k d R hm => by simpa using hT k d R hm, fun j o hj => by simp at hj, h⟩
  | o :: rest, i, T, hT, h => by
    obtain ⟨R, hmono, hobl, hrest⟩ := h
    have hT1 : ∀ k d R', (k, d, R') ∈ addT o i R T → k < i + 1 := fun k d R' hm => by
      unfold addT at hm
      split at hm
      · rcases List.mem_cons.1 hm with hm | hm
        · simp only [Prod.mk.injEq] at hm; omega
        · have := hT k d R' hm; omega
      · have := hT k d R' hm; omega
    have hsub : ∀ y ∈ T, y ∈ addT o i R T := fun y hy => by
      unfold addT
      split
      · exact .tail _ hy
      · exact hy
    obtain ⟨T', h1, h2, h3, h4, h5⟩ := flow_table rest (i + 1) (addT o i R T) hT1 hrest
    refine ⟨T', fun y hy => h1 y (hsub y hy), fun k d R' hm hk => ?_, fun k d R' hm => ?_, fun j o' hj => ?_, h5⟩
    · have := h2 k d R' hm (by omega)
      unfold addT at this
      split at this
      · rcases List.mem_cons.1 this with hm | hm
        · simp only [Prod.mk.injEq] at hm; omega
        · exact hm
      · exact this
    · have := h3 k d R' hm
      simp only [List.length_cons]; omega
    · cases j with
      | zero =>
        simp only [List.getElem?_cons_zero, Option.some.injEq] at hj
        subst hj
        refine ⟨R, hmono, fun d' R' hm => ?_, fun A w' hb hbase hd => hobl A w' hb hbase (deps_of fun e he hbn d R' hm => hd e he hbn d R' (h1 _ (hsub _ hm)))⟩
        have := h2 _ d' R' hm (by omega)
        unfold addT at this
        split at this
        · rename_i dd hdd
          rcases List.mem_cons.1 this with hm | hm
          · simp only [Prod.mk.injEq] at hm
            exact ⟨by rw [hdd, hm.2.1], hm.2.2⟩
          · have := hT _ d' R' hm; omega
        · have := hT _ d' R' this; omega
      | succ j =>
        simp only [List.getElem?_cons_succ] at hj
        obtain ⟨R2, a1, a2, a3⟩ := h4 j o' hj
        exact ⟨R2, a1, fun d' R' hm => a2 d' R' (by rw [show i + 1 + j = i + (j + 1) from by omega]; exact hm), a3⟩

theorem wpAny_inv {ops : Array Oper} {Q : Exit → Act → World → Prop} {md : Region.Mode} (I : Array Bool → Act → World → Prop)
    (step : ∀ listed a w i, I listed a w → i ∈ Region.ready md ops listed → wpOp P ops Q i (fun a' w' => I (listed.setIfInBounds i true) a' w') a w)
    (fin : ∀ listed a w, I listed a w → (∀ i, i ∉ Region.ready md ops listed) → Q .normal a w) (rank : Array Bool → Nat)
    (hr : ∀ listed a w i, I listed a w → i ∈ Region.ready md ops listed → rank (listed.setIfInBounds i true) < rank listed) :
    ∀ (fuel : Nat) (listed : Array Bool) (a : Act) (w : World), rank listed ≤ fuel → I listed a w → wpAny P md ops Q fuel listed a w
  | 0, listed, a, w, hf, h => by
    have hn : ∀ i, i ∉ Region.ready md ops listed := fun i hi => by have := hr listed a w i h hi; omega
    exact ⟨List.eq_nil_iff_forall_not_mem.2 hn, fin _ _ _ h hn⟩
  | fuel + 1, listed, a, w, hf, h => ⟨fun h0 => fin _ _ _ h (by rw [h0]; simp), fun i hi => wpOp_mono (fun a' w' h' => wpAny_inv I step fin rank hr fuel _ a' w' (by have := hr listed a w i h hi; omega) h') (step _ _ _ _ h hi)⟩

theorem frame_eq (x : Nat → Value) (A : Act) : ∀ (l : List Oper) (k : Nat) (a : Act), A.defers = a.defers → A.tmps.size = a.tmps.size →
    (∀ (i : Nat) (o : Oper) d, l[i]? = some o → o.dst = some d → d < a.tmps.size → A.tmps[d]? = some (x (k + i))) → (∀ t, a.tmps[t]? ≠ A.tmps[t]? → ∃ (i : Nat) (o : Oper), l[i]? = some o ∧ o.dst = some t) → frameOf x l k a = A
  | [], k, a, hdef, hsz, _, h => by
    have ht : a.tmps = A.tmps := by
      apply Array.ext_getElem?
      intro t
      by_cases he : a.tmps[t]? = A.tmps[t]?
      · exact he
      · obtain ⟨i, o, hi, _⟩ := h t he
        simp at hi
    obtain ⟨t1, d1⟩ := a
    obtain ⟨t2, d2⟩ := A
    simp only at ht hdef
    subst ht hdef
    rfl
  | o :: r, k, a, hdef, hsz, h1, h2 => by
    have hps : (a.put o.dst (x k)).tmps.size = a.tmps.size := by unfold Act.put; split <;> simp
    have hpd : (a.put o.dst (x k)).defers = a.defers := by unfold Act.put; split <;> rfl
    refine frame_eq x A r (k + 1) (a.put o.dst (x k)) (hdef.trans hpd.symm) (hsz.trans hps.symm) (fun i o' d hi hd hlt => ?_) (fun t ht => ?_)
    · have := h1 (i + 1) o' d (by simpa using hi) hd (by rw [hps] at hlt; exact hlt)
      rw [this]; congr 2; omega
    · have hto : o.dst ≠ some t := fun ho => by
        rcases Nat.lt_or_ge t a.tmps.size with hlt | hge
        · have := h1 0 o t (by simp) ho hlt
          rw [this] at ht
          rw [ho] at ht
          simp [Act.put, hlt] at ht
        · rw [Array.getElem?_eq_none (by omega), Array.getElem?_eq_none (by omega)] at ht
          exact ht rfl
      have hsame : (a.put o.dst (x k)).tmps[t]? = a.tmps[t]? := by
        unfold Act.put
        split
        · rename_i d hd
          have : d ≠ t := fun e => hto (by rw [hd, e])
          simp [Array.getElem?_setIfInBounds_ne this]
        · rfl
      rw [hsame] at ht
      obtain ⟨i, o', hi, hd⟩ := h2 t ht
      cases i with
      | zero => simp at hi; subst hi; exact absurd hd hto
      | succ i => exact ⟨i, o', by simpa using hi, hd⟩

/-- The places written are not written twice, and lie in the frame; no operation is guarded. -/
def flowB (n : Nat) : List Oper → Bool
  | [] => true
  | o :: r => o.guard.isNone && (match o.dst with | some d => decide (d < n) && r.all (fun o' => o'.dst != some d) | none => true) && flowB n r
theorem flowB_spec {n : Nat} : ∀ {l : List Oper}, flowB n l = true → ∀ (i : Nat) (o : Oper), l[i]? = some o → o.guard = none ∧ ∀ d, o.dst = some d → d < n ∧ ∀ (j : Nat) (o' : Oper), l[j]? = some o' → i < j → o'.dst ≠ some d
  | [], _, i, o, hi => by simp at hi
  | o0 :: r, h, i, o, hi => by
    simp only [flowB, Bool.and_eq_true] at h
    obtain ⟨⟨hg, hd⟩, hr⟩ := h
    cases i with
    | zero =>
      simp only [List.getElem?_cons_zero, Option.some.injEq] at hi
      subst hi
      refine ⟨by simpa using hg, fun d hdd => ?_⟩
      rw [hdd] at hd
      simp only [Bool.and_eq_true, decide_eq_true_eq, List.all_eq_true, bne_iff_ne] at hd
      refine ⟨hd.1, fun j o' hj hlt => ?_⟩
      cases j with
      | zero => omega
      | succ j => exact hd.2 o' (List.mem_of_getElem? (by simpa using hj))
    | succ i =>
      obtain ⟨h1, h2⟩ := flowB_spec hr i o (by simpa using hi)
      refine ⟨h1, fun d hdd => ⟨(h2 d hdd).1, fun j o' hj hlt => ?_⟩⟩
      cases j with
      | zero => omega
      | succ j => exact (h2 d hdd).2 j o' (by simpa using hj) (by omega)

/-- What is waited for stands ahead. -/
def flowO : List Oper → Nat → Bool
  | [], _ => true
  | o :: r, k => o.after.toList.all (fun e => !Region.binds .any e || decide (e.on < k)) && flowO r (k + 1)
theorem flowO_spec : ∀ {l : List Oper} {k : Nat}, flowO l k = true → ∀ (i : Nat) (o : Oper), l[i]? = some o → ∀ e ∈ o.after.toList, Region.binds .any e = true → e.on < k + i
  | [], _, _, i, o, hi => by simp at hi
  | o0 :: r, k, h, i, o, hi => by
    simp only [flowO, Bool.and_eq_true] at h
    cases i with
    | zero =>
      simp only [List.getElem?_cons_zero, Option.some.injEq] at hi
      subst hi
      intro e he hb
      have := List.all_eq_true.1 h.1 e he
      simpa [hb] using this
    | succ i =>
      intro e he hb
      have := flowO_spec h.2 i o (by simpa using hi) e he hb
      omega

def unl : List Bool → Nat
  | [] => 0
  | true :: r => unl r
  | false :: r => unl r + 1
theorem unl_set : ∀ (l : List Bool) (i : Nat), l[i]? = some false → unl (l.set i true) < unl l
  | [], i, h => by simp at h
  | b :: r, 0, h => by simp at h; subst h; simp [unl]
  | b :: r, i + 1, h => by
    have := unl_set r i (by simpa using h)
    cases b <;> simp [unl] <;> omega
theorem unl_rep : ∀ n : Nat, unl (List.replicate n false) = n
  | 0 => rfl
  | n + 1 => by simp [List.replicate_succ, unl, unl_rep n]

theorem flow_upon {o : Oper} {A : Act} {w : World} {R : VPred} {K : Act → World → Prop} {Q : Exit → Act → World → Prop}
    (h : flowUpon P R w ((execOp A.eval o).run P w)) (hk : ∀ v w', Below w.heap.size w w' → (R w' v) → K (A.put o.dst v) w') : o.wp P A w K Q := by
  unfold Oper.wp
  generalize (execOp A.eval o).run P w = r at *
  cases r with
  | ok n w' =>
    cases n <;> simp only [flowUpon] at h <;> simp only [Oper.upon]
    case value u => exact hk _ _ h.1 h.2
    case skip => exact hk _ _ h.1 h.2
    case enter f args =>
      refine h.mono ?_
      rintro e w2 ⟨v, rfl, hb, hr⟩
      exact hk _ _ hb hr
  | halt x w' => simp only [flowUpon] at h

theorem eval_put_ne {A : Act} {o : Oper} {v : Value} {d : Tmp} (h : o.dst ≠ some d) : (A.put o.dst v).eval (.tmp d) = A.eval (.tmp d) := by
  unfold Act.put
  split
  · rename_i t ht
    have : t ≠ d := fun e => h (by rw [ht, e])
    simp only [Act.eval, Array.getD_eq_getD_getElem?]
    rw [Array.getElem?_setIfInBounds_ne this]
  · rfl
theorem eval_put_eq {A : Act} {o : Oper} {v : Value} {d : Tmp} (h : o.dst = some d) (hlt : d < A.tmps.size) : (A.put o.dst v).eval (.tmp d) = v := by
  rw [h]
  simp [Act.put, Act.eval, Array.getD_eq_getD_getElem?, hlt]

theorem wp_region_flow {id : Nat} {Q : Exit → Act → World → Prop} {a : Act} {w : World} {l : List Oper} (bs : List Nat) (n : Nat) (hm : P.follows .mixedOrders = true) (hn : a.tmps.size = n)
    (hB : flowB n l = true) (hO : flowO l 0 = true) (hbs : bs.all (fun t => l.all (fun o => o.dst != some t)) = true) (h : Flow P w a bs Q l l 0 []) : (Code.region id l.toArray true).wp P Q a w := by
  obtain ⟨T, -, -, hlen, hobl, hfin⟩ := flow_table l 0 [] (by simp) h
  subst hn
  refine wp_region_any hm ?_
  refine wpAny_inv (fun listed A w' => listed.size = l.length ∧ Below w.heap.size w w' ∧ A.defers = a.defers ∧ A.tmps.size = a.tmps.size ∧ (∀ t, a.tmps[t]? ≠ A.tmps[t]? → ∃ (i : Nat) (o : Oper), l[i]? = some o ∧ o.dst = some t) ∧
      (∀ i d R, (i, d, R) ∈ T → listed.getD i false = true → R w' (A.eval (.tmp d)))) ?_ ?_ (fun listed => unl listed.toList) ?_ _ _ _ _ ?_ ?_
  · rintro listed A w' i ⟨hsz, hbel, hdef, hts, hdiff, hall⟩ hi
    obtain ⟨hun, o, ho, haft⟩ := mem_ready.1 hi
    have ho' : l[i]? = some o := by simpa using ho
    obtain ⟨hg, hd⟩ := flowB_spec hB i o ho'
    obtain ⟨R, hmono, huniq, hob⟩ := hobl i o ho'
    simp only [Nat.zero_add] at huniq
    unfold wpOp
    rw [ho]
    simp only [Region.wanted, hg, if_true]
    refine .inl (flow_upon (hob A w' hbel (baseF_of fun t ht => ?_) fun e he hb d R hmem => hall _ d R hmem (haft e (by simpa using he) hb)) fun v w2 hb2 hR => ?_)
    · have h1 := List.all_eq_true.1 hbs t ht
      have h2 : ∀ o ∈ l, o.dst ≠ some t := fun o ho => by simpa using List.all_eq_true.1 h1 o ho
      have h3 : a.tmps[t]? = A.tmps[t]? := Classical.byContradiction fun hne => by
        obtain ⟨i, o, hi, hd⟩ := hdiff t hne
        exact h2 o (List.mem_of_getElem? hi) hd
      simp only [Act.eval, Array.getD_eq_getD_getElem?, h3]
    · refine ⟨by simpa using hsz, hbel.trans ⟨hb2.os, hb2.tape, hb2.output, hb2.size, fun k hk => hb2.block k (Nat.lt_of_lt_of_le hk hbel.size)⟩, ?_, ?_, ?_, ?_⟩
      · rw [← hdef]; unfold Act.put; split <;> rfl
      · rw [← hts]; unfold Act.put; split <;> simp
      · intro t ht
        by_cases hdt : o.dst = some t
        · exact ⟨i, o, ho', hdt⟩
        · refine hdiff t fun he => ht ?_
          rw [he]
          unfold Act.put
          split
          · rename_i t' ht'
            have : t' ≠ t := fun e => hdt (by rw [ht', e])
            rw [Array.getElem?_setIfInBounds_ne this]
          · rfl
      · intro k d R' hmem hk
        by_cases hki : i = k
        · subst hki
          obtain ⟨hod, rfl⟩ := huniq d R' hmem
          rw [eval_put_eq hod (by rw [hts]; exact (hd d hod).1)]
          exact hR
        · have hk' : listed.getD k false = true := by rw [getD_set_ne false hki] at hk; exact hk
          have hold := hall k d R' hmem hk'
          have hkl : k < l.length := by simpa using hlen k d R' hmem
          have hko : l[k]? = some l[k] := by simp [hkl]
          obtain ⟨R2, hmono2, huniq2, -⟩ := hobl k l[k] hko
          simp only [Nat.zero_add] at huniq2
          obtain ⟨hod, rfl⟩ := huniq2 d R' hmem
          have hne : o.dst ≠ some d := fun hd0 => by
            rcases Nat.lt_or_gt_of_ne hki with h | h
            · exact (hd d hd0).2 k l[k] hko h hod
            · exact ((flowB_spec hB k l[k] hko).2 d hod).2 i o ho' h hd0
          rw [eval_put_ne hne]
          exact hmono2 _ _ _ hold hb2
  · rintro listed A w' ⟨hsz, hbel, hdef, hts, hdiff, hall⟩ hno
    have hdone : ∀ k, k < l.length → listed.getD k false = true := by
      intro k
      induction k using Nat.strongRecOn with
      | _ k ih =>
        intro hk
        refine Classical.byContradiction fun hf => hno k (mem_ready.2 ⟨?_, l[k], by simp [hk], fun e he hb => ?_⟩)
        · have hks : k < listed.size := by omega
          simp only [Array.getD_eq_getD_getElem?, Array.getElem?_eq_getElem hks, Option.getD_some] at hf ⊢
          simpa using hf
        · have hlt := flowO_spec hO k l[k] (by simp [hk]) e (by simpa using he) hb
          exact ih e.on (by omega) (by omega)
    have hx : frameOf (fun i => match (l[i]?).bind (·.dst) with | some d => A.eval (.tmp d) | none => undef) l 0 a = A := by
      refine frame_eq _ A l 0 a hdef hts (fun i o d hi hd hlt => ?_) hdiff
      simp only [Nat.zero_add, hi, Option.bind_some, hd, Act.eval, Array.getD_eq_getD_getElem?]
      have : d < A.tmps.size := by rw [hts]; exact hlt
      simp [this]
    have := hfin (fun i => match (l[i]?).bind (·.dst) with | some d => A.eval (.tmp d) | none => undef) w' hbel (allT_of fun k d R hmem => by
      have hkl : k < l.length := by simpa using hlen k d R hmem
      have hko : l[k]? = some l[k] := by simp [hkl]
      obtain ⟨R2, -, huniq2, -⟩ := hobl k l[k] hko
      simp only [Nat.zero_add] at huniq2
      obtain ⟨hod, -⟩ := huniq2 d R hmem
      simp only [hko, Option.bind_some, hod]
      exact hall k d R hmem (hdone k hkl))
    rw [hx] at this
    exact this
  · rintro listed A w' i ⟨hsz, -⟩ hi
    obtain ⟨hun, o, ho, -⟩ := mem_ready.1 hi
    have hil : i < listed.size := by have := (Array.getElem?_eq_some_iff.1 ho).1; simp at this; omega
    simp only [Array.toList_setIfInBounds]
    refine unl_set _ _ ?_
    simp only [Array.getD_eq_getD_getElem?, Array.getElem?_eq_getElem hil, Option.getD_some] at hun
    simp [hil, hun]
  · simp [unl_rep]
  · exact ⟨by simp, ⟨rfl, rfl, rfl, Nat.le_refl _, fun _ _ => rfl⟩, rfl, rfl, fun t ht => absurd rfl ht, fun i d R _ hl => by simp [Array.getD_eq_getD_getElem?, Array.getElem?_replicate] at hl; split at hl <;> simp at hl⟩

theorem flow_val {w : World} {a : Act} {bs : List Nat} {Q : Exit → Act → World → Prop} {l0 rest : List Oper} {i : Nat} {T : FTab} {d : Tmp} {op : Op} {ty : TypeId} {pos : String} {es : Array Edge} {g : Option (Nat × Bool)} (e : Value)
    (h : ∀ A w', Below w.heap.size w w' → baseF A a bs → deps T A w' es.toList → flowUpon P (fun _ v => v = e) w' ((execOp A.eval ⟨some d, op, ty, pos, es, g⟩).run P w'))
    (k : Flow P w a bs Q l0 rest (i + 1) ((i, d, fun _ v => v = e) :: T)) : Flow P w a bs Q l0 (⟨some d, op, ty, pos, es, g⟩ :: rest) i T := ⟨_, vmono_eq e, h, k⟩
/-- A new block of these cells, told by a slice. -/
def NewSl (w0 : World) (cs : Array Value) (T : TypeId) (n : Nat) : VPred := fun w v => ∃ b, v = .slice (some ⟨b, 0, none⟩) n n ∧ w0.heap.size ≤ b ∧ w.heap[b]? = some (.cells cs T (0, 0))
theorem vmono_newSl (w0 : World) (cs : Array Value) (T : TypeId) (n : Nat) : VMono (NewSl w0 cs T n) := by
  rintro w w' v ⟨b, hv, hb, hc⟩ hB
  refine ⟨b, hv, hb, ?_⟩
  have hlt : b < w.heap.size := by
    rcases Nat.lt_or_ge b w.heap.size with h | h
    · exact h
    · rw [Array.getElem?_eq_none h] at hc; cases hc
  rw [hB.block b hlt]; exact hc
theorem flow_newSl {w : World} {a : Act} {bs : List Nat} {Q : Exit → Act → World → Prop} {l0 rest : List Oper} {i : Nat} {T : FTab} {d : Tmp} {op : Op} {ty : TypeId} {pos : String} {es : Array Edge} {g : Option (Nat × Bool)} (cs : Array Value) (et : TypeId) (n : Nat)
    (h : ∀ A w', Below w.heap.size w w' → baseF A a bs → deps T A w' es.toList → (execOp A.eval ⟨some d, op, ty, pos, es, g⟩).run P w' = .ok (.value (.slice (some ⟨w'.heap.size, 0, none⟩) n n)) (w'.alloc (.cells cs et)))
    (k : Flow P w a bs Q l0 rest (i + 1) ((i, d, NewSl w cs et n) :: T)) : Flow P w a bs Q l0 (⟨some d, op, ty, pos, es, g⟩ :: rest) i T :=
  ⟨_, vmono_newSl w cs et n, fun A w' hB hb hd => by
    rw [h A w' hB hb hd]
    exact ⟨bl_alloc (Below.refl _ _) _, w'.heap.size, rfl, hB.size, by simpa using heap_alloc_new w' _⟩, k⟩
theorem flow_valE {w : World} {a : Act} {bs : List Nat} {Q : Exit → Act → World → Prop} {l0 rest : List Oper} {i : Nat} {T : FTab} {d : Tmp} {op : Op} {ty : TypeId} {pos : String} {es : Array Edge} {g : Option (Nat × Bool)}
    (h : ∃ e, (∀ A w', Below w.heap.size w w' → baseF A a bs → deps T A w' es.toList → flowUpon P (fun _ v => v = e) w' ((execOp A.eval ⟨some d, op, ty, pos, es, g⟩).run P w')) ∧
      Flow P w a bs Q l0 rest (i + 1) ((i, d, fun _ v => v = e) :: T)) : Flow P w a bs Q l0 (⟨some d, op, ty, pos, es, g⟩ :: rest) i T :=
  let ⟨e, h, k⟩ := h
  flow_val e h k
theorem flow_newSlE {w : World} {a : Act} {bs : List Nat} {Q : Exit → Act → World → Prop} {l0 rest : List Oper} {i : Nat} {T : FTab} {d : Tmp} {op : Op} {ty : TypeId} {pos : String} {es : Array Edge} {g : Option (Nat × Bool)}
    (h : ∃ cs et n, (∀ A w', Below w.heap.size w w' → baseF A a bs → deps T A w' es.toList → (execOp A.eval ⟨some d, op, ty, pos, es, g⟩).run P w' = .ok (.value (.slice (some ⟨w'.heap.size, 0, none⟩) n n)) (w'.alloc (.cells cs et))) ∧
      Flow P w a bs Q l0 rest (i + 1) ((i, d, NewSl w cs et n) :: T)) : Flow P w a bs Q l0 (⟨some d, op, ty, pos, es, g⟩ :: rest) i T :=
  let ⟨cs, et, n, h, k⟩ := h
  flow_newSl cs et n h k
theorem flow_R {w : World} {a : Act} {bs : List Nat} {Q : Exit → Act → World → Prop} {l0 rest : List Oper} {i : Nat} {T : FTab} {d : Tmp} {op : Op} {ty : TypeId} {pos : String} {es : Array Edge} {g : Option (Nat × Bool)} (R : VPred) (hm : VMono R)
    (h : ∀ A w', Below w.heap.size w w' → baseF A a bs → deps T A w' es.toList → flowUpon P R w' ((execOp A.eval ⟨some d, op, ty, pos, es, g⟩).run P w'))
    (k : Flow P w a bs Q l0 rest (i + 1) ((i, d, R) :: T)) : Flow P w a bs Q l0 (⟨some d, op, ty, pos, es, g⟩ :: rest) i T := ⟨R, hm, h, k⟩
end
end Go.Proofs.Ytofikijbmgejkaa
end

/-! ### YtofikijbmgejkaaNodeNew -/
section
namespace Go.Proofs.Ytofikijbmgejkaa.PFnExactNodeNew
open Go.RowKit Go.Proofs.YtofikijbmgejkaaW.PrintWords
set_option linter.unusedSimpArgs false
set_option linter.unusedVariables false

/-! A new node. (own) -/
theorem inN (n lo hi : Int) (b : Bool) (w : World) (h : Hid (inB n lo hi = b)) :
    Calls Try.prog 60 #[.int .i64 n, .int .i64 lo, .int .i64 hi] w fun e w' => e = .returned (.bool b) ∧ Below w.heap.size w w' := by
  have := impl_in n lo hi w
  rw [h.out] at this
  exact this.mono (by rintro e w' ⟨rfl, rfl⟩; exact ⟨rfl, Below.refl _ _⟩)
theorem inS (n lo hi : Int) (b : Bool) (w : World) (h : Hid (inB n lo hi = b)) :
    Calls Try.prog 58 #[.int .i64 n, .int .i64 lo, .int .i64 hi] w fun e w' => e = .returned (.bool b) ∧ Below w.heap.size w w' := by
  have := spec_l01In n lo hi w
  rw [h.out] at this
  exact this.mono (by rintro e w' ⟨rfl, rfl⟩; exact ⟨rfl, Below.refl _ _⟩)
theorem confN (A : Option Addr) (c : Nat) (xs : List Int) (b : Bool) (w : World) (h : Hid (confOk xs = b)) (hr : Kd.C (Kd.int .i64) w A xs.length xs) (hc : xs.length ≤ c) (hl : xs.length ≤ 1048576) :
    Calls Try.prog 92 #[.slice A xs.length c] w fun e w' => e = .returned (.bool b) ∧ Below w.heap.size w w' := by
  have hf := iconf_f xs (xs.length + 1) (by omega) (by omega)
  rw [h.out] at hf
  refine (impl_ConfOk.calls (xs.length + 1) A c xs _ w hr hc hf).mono ?_
  rintro e w' h
  first | exact h | (obtain ⟨rfl, n, rfl⟩ := h; exact ⟨rfl, bl_drewN (Below.refl _ _) n⟩)
theorem confS (A : Option Addr) (c : Nat) (xs : List Int) (b : Bool) (w : World) (h : Hid (confOk xs = b)) (hr : Kd.C (Kd.int .i64) w A xs.length xs) (hc : xs.length ≤ c) (hl : xs.length ≤ 1048576) :
    Calls Try.prog 84 #[.slice A xs.length c] w fun e w' => e = .returned (.bool b) ∧ Below w.heap.size w w' := by
  have hf := sconf_f xs (xs.length + 1) (by omega) (by omega)
  rw [h.out] at hf
  refine (spec_ConfOk.calls (xs.length + 1) A c xs _ w hr hc hf).mono ?_
  rintro e w' h
  first | exact h | (obtain ⟨rfl, n, rfl⟩ := h; exact ⟨rfl, bl_drewN (Below.refl _ _) n⟩)
theorem C_nilE (w : World) : Kd.C k105 w none ([] : List S105).length [] := ⟨rfl, by simp, fun h => by simp at h⟩
theorem C_nilI (w : World) : Kd.C (Kd.int .i64) w none ([] : List Int).length [] := ⟨rfl, by simp, fun h => by simp at h⟩
theorem logN (w : World) : Calls Try.prog 93 #[.agg #[.int .i64 0, .int .i64 0, .slice none 0 0]] w fun e w' => e = .returned (.bool true) ∧ Below w.heap.size w w' :=
  impl_LogOk.calls 4 0 0 none 0 [] true w (C_nilE w) (by simp) (by decide +kernel)
theorem logS (w : World) : Calls Try.prog 85 #[.agg #[.int .i64 0, .int .i64 0, .slice none 0 0]] w fun e w' => e = .returned (.bool true) ∧ Below w.heap.size w w' :=
  spec_LogOk.calls 4 0 0 none 0 [] true w (C_nilE w) (by simp) (by decide +kernel)
theorem lastN (w : World) : Calls Try.prog 94 #[.agg #[.int .i64 0, .int .i64 0, .slice none 0 0]] w fun e w' => e = .returned (.tuple #[.int .i64 0, .int .i64 0]) ∧ Below w.heap.size w w' :=
  impl_LogLast.calls 0 0 none 0 [] 0 0 w (C_nilE w) (by simp) (by decide +kernel)
theorem lastS (w : World) : Calls Try.prog 86 #[.agg #[.int .i64 0, .int .i64 0, .slice none 0 0]] w fun e w' => e = .returned (.tuple #[.int .i64 0, .int .i64 0]) ∧ Below w.heap.size w w' :=
  spec_LogLast.calls 0 0 none 0 [] 0 0 w (C_nilE w) (by simp) (by decide +kernel)

theorem calls_atN {P : Program} {f : Nat} {args : Array Value} {E : World} {Q : Ending → World → Prop} (R : World → Prop) (h : R E) (k : ∀ W, R W → Calls P f args W Q) : Calls P f args E Q := k E h
theorem wp_atN {P : Program} {c : Code} {Q : Exit → Act → World → Prop} {a : Act} {E : World} (R : World → Prop) (h : R E) (k : ∀ W, R W → c.wp P Q a W) : c.wp P Q a E := k E h
theorem C_nilP (w : World) : Kd.C k134 w none ([] : List S134).length [] := ⟨rfl, by simp, fun h => by simp at h⟩
theorem votesN (i : Int) (A : Option Addr) (c : Nat) (cf : List Int) (w : World) (hr : Kd.C (Kd.int .i64) w A cf.length cf) (hc : cf.length ≤ c) :
    Calls Try.prog 95 #[.agg #[.int .i64 i, .int .i64 0, .int .i64 0, .int .i64 0, .int .i64 0, .slice A cf.length c, .int .i64 0, .int .i64 0, .slice none 0 0, .int .i64 0, .int .i64 0, .int .i64 20, .slice none 0 0, .slice none 0 0]] w fun e w' => e = .returned (.bool true) ∧ Below w.heap.size w w' :=
  impl_votesOk.calls 2 i 0 0 0 0 A c cf 0 0 none 0 [] 0 0 20 none 0 [] none 0 [] true w hr hc (C_nilE w) (by simp) (C_nilI w) (by simp) (C_nilP w) (by simp) (by unfold impl_votesOk.f impl_votesOk.l0; simp)

set_option maxHeartbeats 2000000 in
set_option maxRecDepth 100000 in
theorem peersN (i : Int) (A : Option Addr) (c : Nat) (cf : List Int) (w : World) :
    Calls Try.prog 96 #[.agg #[.int .i64 i, .int .i64 0, .int .i64 0, .int .i64 0, .int .i64 0, .slice A cf.length c, .int .i64 0, .int .i64 0, .slice none 0 0, .int .i64 0, .int .i64 0, .int .i64 20, .slice none 0 0, .slice none 0 0]] w fun e w' => e = .returned (.bool true) ∧ Below w.heap.size w w' := by
  go_enter Try.func96, Try.ntmps96
  go_wp2_with fail
  refine wp_atN (fun W => Below w.heap.size w W) (by repeat (first | exact Below.refl _ _ | apply bl_alloc | apply bl_drewN | apply bl_drew | refine bl_set ?_ (by simp) | refine bl_then ?_ (by assumption))) ?_
  intro W0 B
  go_loopg [23] 1 (fun kq v23 w' => v23 = .int .i64 0 ∧ Below w.heap.size w w')
  case atStart => exact ⟨rfl, B⟩
  case round =>
    obtain ⟨rfl, B2⟩ := hrel
    clear B
    go_wp2_with fail
    go_ret
    exact ⟨rfl, B2⟩

set_option maxHeartbeats 2000000 in
set_option maxRecDepth 100000 in
theorem impl_NodeOkN (i : Int) (A : Option Addr) (c : Nat) (cf : List Int) (bi bc : Bool) (w : World) (Hi : Hid (inB i 1 4 = bi)) (Hc : Hid (confOk cf = bc)) (hr : Kd.C (Kd.int .i64) w A cf.length cf) (hc : cf.length ≤ c) (hl : cf.length ≤ 1048576) :
    Calls Try.prog 37 #[.agg #[.int .i64 i, .int .i64 0, .int .i64 0, .int .i64 0, .int .i64 0, .slice A cf.length c, .int .i64 0, .int .i64 0, .slice none 0 0, .int .i64 0, .int .i64 0, .int .i64 20, .slice none 0 0, .slice none 0 0]] w fun e w' => e = .returned (.bool (bi && bc)) ∧ Below w.heap.size w w' := by
  have HC := Lib.hid hr
  clear hr
  go_enter Try.func37, Try.ntmps37
  go_wp2_with fail
  refine calls_atN (fun W => Blk 75 w.heap.size #[.int .i64 i, .int .i64 0, .int .i64 0, .int .i64 0, .int .i64 0, .slice A cf.length c, .int .i64 0, .int .i64 0, .slice none 0 0, .int .i64 0, .int .i64 0, .int .i64 20, .slice none 0 0, .slice none 0 0] W ∧ Below w.heap.size w W) ⟨Blk.new _ _ w, (by repeat (first | exact Below.refl _ _ | apply bl_alloc | apply bl_drewN | apply bl_drew | refine bl_set ?_ (by simp) | refine bl_then ?_ (by assumption)))⟩ ?_
  rintro W0 ⟨k1, B⟩
  refine (inN _ _ _ bi _ Hi).mono ?_
  rintro e W1 ⟨rfl, hb⟩
  replace k1 := k1.below hb
  replace B := bl_then B hb
  clear hb W0
  have c0 := k1.cell 0 rfl
  have c1 := k1.cell 1 rfl
  have c2 := k1.cell 2 rfl
  have c3 := k1.cell 3 rfl
  have c4 := k1.cell 4 rfl
  have c5 := k1.cell 5 rfl
  have c6 := k1.cell 6 rfl
  have c7 := k1.cell 7 rfl
  have c8 := k1.cell 8 rfl
  have c9 := k1.cell 9 rfl
  have c10 := k1.cell 10 rfl
  have c11 := k1.cell 11 rfl
  have c12 := k1.cell 12 rfl
  have c13 := k1.cell 13 rfl
  have l1 := k1.lt
  cases bi with
  | false =>
    go_wp2_with fail
    go_ret
    exact ⟨rfl, B⟩
  | true =>
    go_wp2_with fail
    refine (confN _ _ cf bc _ Hc (Kd.C_below HC.out B) hc hl).mono ?_
    rintro e W2 ⟨rfl, hb⟩
    replace k1 := k1.below hb
    replace B := bl_then B hb
    clear c0 c1 c2 c3 c4 c5 c6 c7 c8 c9 c10 c11 c12 c13 l1 hb W1
    have c0 := k1.cell 0 rfl
    have c1 := k1.cell 1 rfl
    have c2 := k1.cell 2 rfl
    have c3 := k1.cell 3 rfl
    have c4 := k1.cell 4 rfl
    have c5 := k1.cell 5 rfl
    have c6 := k1.cell 6 rfl
    have c7 := k1.cell 7 rfl
    have c8 := k1.cell 8 rfl
    have c9 := k1.cell 9 rfl
    have c10 := k1.cell 10 rfl
    have c11 := k1.cell 11 rfl
    have c12 := k1.cell 12 rfl
    have c13 := k1.cell 13 rfl
    have l1 := k1.lt
    cases bc with
    | false =>
      go_wp2_with fail
      go_ret
      exact ⟨rfl, B⟩
    | true =>

      go_wp2_with fail
      refine (logN _).mono ?_
      rintro e V1 ⟨rfl, hb⟩
      replace k1 := k1.below hb
      replace B := bl_then B hb
      clear c0 c1 c2 c3 c4 c5 c6 c7 c8 c9 c10 c11 c12 c13 l1 hb W2
      have c0 := k1.cell 0 rfl
      have c1 := k1.cell 1 rfl
      have c2 := k1.cell 2 rfl
      have c3 := k1.cell 3 rfl
      have c4 := k1.cell 4 rfl
      have c5 := k1.cell 5 rfl
      have c6 := k1.cell 6 rfl
      have c7 := k1.cell 7 rfl
      have c8 := k1.cell 8 rfl
      have c9 := k1.cell 9 rfl
      have c10 := k1.cell 10 rfl
      have c11 := k1.cell 11 rfl
      have c12 := k1.cell 12 rfl
      have c13 := k1.cell 13 rfl
      have l1 := k1.lt
      go_wp2_with fail
      refine (lastN _).mono ?_
      rintro e V2 ⟨rfl, hb⟩
      replace k1 := k1.below hb
      replace B := bl_then B hb
      clear c0 c1 c2 c3 c4 c5 c6 c7 c8 c9 c10 c11 c12 c13 l1 hb V1
      have c0 := k1.cell 0 rfl
      have c1 := k1.cell 1 rfl
      have c2 := k1.cell 2 rfl
      have c3 := k1.cell 3 rfl
      have c4 := k1.cell 4 rfl
      have c5 := k1.cell 5 rfl
      have c6 := k1.cell 6 rfl
      have c7 := k1.cell 7 rfl
      have c8 := k1.cell 8 rfl
      have c9 := k1.cell 9 rfl
      have c10 := k1.cell 10 rfl
      have c11 := k1.cell 11 rfl
      have c12 := k1.cell 12 rfl
      have c13 := k1.cell 13 rfl
      have l1 := k1.lt
      go_wp2_with fail
      refine (inN 0 0 100000 true _ (Lib.hid (by decide))).mono ?_
      rintro e V3 ⟨rfl, hb⟩
      replace k1 := k1.below hb
      replace B := bl_then B hb
      clear c0 c1 c2 c3 c4 c5 c6 c7 c8 c9 c10 c11 c12 c13 l1 hb V2
      have c0 := k1.cell 0 rfl
      have c1 := k1.cell 1 rfl
      have c2 := k1.cell 2 rfl
      have c3 := k1.cell 3 rfl
      have c4 := k1.cell 4 rfl
      have c5 := k1.cell 5 rfl
      have c6 := k1.cell 6 rfl
      have c7 := k1.cell 7 rfl
      have c8 := k1.cell 8 rfl
      have c9 := k1.cell 9 rfl
      have c10 := k1.cell 10 rfl
      have c11 := k1.cell 11 rfl
      have c12 := k1.cell 12 rfl
      have c13 := k1.cell 13 rfl
      have l1 := k1.lt
      go_wp2_with fail
      refine (inN 0 0 4 true _ (Lib.hid (by decide))).mono ?_
      rintro e V4 ⟨rfl, hb⟩
      replace k1 := k1.below hb
      replace B := bl_then B hb
      clear c0 c1 c2 c3 c4 c5 c6 c7 c8 c9 c10 c11 c12 c13 l1 hb V3
      have c0 := k1.cell 0 rfl
      have c1 := k1.cell 1 rfl
      have c2 := k1.cell 2 rfl
      have c3 := k1.cell 3 rfl
      have c4 := k1.cell 4 rfl
      have c5 := k1.cell 5 rfl
      have c6 := k1.cell 6 rfl
      have c7 := k1.cell 7 rfl
      have c8 := k1.cell 8 rfl
      have c9 := k1.cell 9 rfl
      have c10 := k1.cell 10 rfl
      have c11 := k1.cell 11 rfl
      have c12 := k1.cell 12 rfl
      have c13 := k1.cell 13 rfl
      have l1 := k1.lt
      go_wp2_with fail
      refine (inN 0 0 4 true _ (Lib.hid (by decide))).mono ?_
      rintro e V5 ⟨rfl, hb⟩
      replace k1 := k1.below hb
      replace B := bl_then B hb
      clear c0 c1 c2 c3 c4 c5 c6 c7 c8 c9 c10 c11 c12 c13 l1 hb V4
      have c0 := k1.cell 0 rfl
      have c1 := k1.cell 1 rfl
      have c2 := k1.cell 2 rfl
      have c3 := k1.cell 3 rfl
      have c4 := k1.cell 4 rfl
      have c5 := k1.cell 5 rfl
      have c6 := k1.cell 6 rfl
      have c7 := k1.cell 7 rfl
      have c8 := k1.cell 8 rfl
      have c9 := k1.cell 9 rfl
      have c10 := k1.cell 10 rfl
      have c11 := k1.cell 11 rfl
      have c12 := k1.cell 12 rfl
      have c13 := k1.cell 13 rfl
      have l1 := k1.lt
      go_wp2_with fail
      refine (inN 0 0 2 true _ (Lib.hid (by decide))).mono ?_
      rintro e V6 ⟨rfl, hb⟩
      replace k1 := k1.below hb
      replace B := bl_then B hb
      clear c0 c1 c2 c3 c4 c5 c6 c7 c8 c9 c10 c11 c12 c13 l1 hb V5
      have c0 := k1.cell 0 rfl
      have c1 := k1.cell 1 rfl
      have c2 := k1.cell 2 rfl
      have c3 := k1.cell 3 rfl
      have c4 := k1.cell 4 rfl
      have c5 := k1.cell 5 rfl
      have c6 := k1.cell 6 rfl
      have c7 := k1.cell 7 rfl
      have c8 := k1.cell 8 rfl
      have c9 := k1.cell 9 rfl
      have c10 := k1.cell 10 rfl
      have c11 := k1.cell 11 rfl
      have c12 := k1.cell 12 rfl
      have c13 := k1.cell 13 rfl
      have l1 := k1.lt
      go_wp2_with fail
      refine (inN 0 0 0 true _ (Lib.hid (by decide))).mono ?_
      rintro e V7 ⟨rfl, hb⟩
      replace k1 := k1.below hb
      replace B := bl_then B hb
      clear c0 c1 c2 c3 c4 c5 c6 c7 c8 c9 c10 c11 c12 c13 l1 hb V6
      have c0 := k1.cell 0 rfl
      have c1 := k1.cell 1 rfl
      have c2 := k1.cell 2 rfl
      have c3 := k1.cell 3 rfl
      have c4 := k1.cell 4 rfl
      have c5 := k1.cell 5 rfl
      have c6 := k1.cell 6 rfl
      have c7 := k1.cell 7 rfl
      have c8 := k1.cell 8 rfl
      have c9 := k1.cell 9 rfl
      have c10 := k1.cell 10 rfl
      have c11 := k1.cell 11 rfl
      have c12 := k1.cell 12 rfl
      have c13 := k1.cell 13 rfl
      have l1 := k1.lt
      go_wp2_with fail
      refine (inN 0 0 20 true _ (Lib.hid (by decide))).mono ?_
      rintro e V8 ⟨rfl, hb⟩
      replace k1 := k1.below hb
      replace B := bl_then B hb
      clear c0 c1 c2 c3 c4 c5 c6 c7 c8 c9 c10 c11 c12 c13 l1 hb V7
      have c0 := k1.cell 0 rfl
      have c1 := k1.cell 1 rfl
      have c2 := k1.cell 2 rfl
      have c3 := k1.cell 3 rfl
      have c4 := k1.cell 4 rfl
      have c5 := k1.cell 5 rfl
      have c6 := k1.cell 6 rfl
      have c7 := k1.cell 7 rfl
      have c8 := k1.cell 8 rfl
      have c9 := k1.cell 9 rfl
      have c10 := k1.cell 10 rfl
      have c11 := k1.cell 11 rfl
      have c12 := k1.cell 12 rfl
      have c13 := k1.cell 13 rfl
      have l1 := k1.lt
      go_wp2_with fail
      refine (inN 20 1 20 true _ (Lib.hid (by decide))).mono ?_
      rintro e V9 ⟨rfl, hb⟩
      replace k1 := k1.below hb
      replace B := bl_then B hb
      clear c0 c1 c2 c3 c4 c5 c6 c7 c8 c9 c10 c11 c12 c13 l1 hb V8
      have c0 := k1.cell 0 rfl
      have c1 := k1.cell 1 rfl
      have c2 := k1.cell 2 rfl
      have c3 := k1.cell 3 rfl
      have c4 := k1.cell 4 rfl
      have c5 := k1.cell 5 rfl
      have c6 := k1.cell 6 rfl
      have c7 := k1.cell 7 rfl
      have c8 := k1.cell 8 rfl
      have c9 := k1.cell 9 rfl
      have c10 := k1.cell 10 rfl
      have c11 := k1.cell 11 rfl
      have c12 := k1.cell 12 rfl
      have c13 := k1.cell 13 rfl
      have l1 := k1.lt
      go_wp2_with fail
      refine (votesN i A c cf _ (Kd.C_below HC.out B) hc).mono ?_
      rintro e V10 ⟨rfl, hb⟩
      replace k1 := k1.below hb
      replace B := bl_then B hb
      clear c0 c1 c2 c3 c4 c5 c6 c7 c8 c9 c10 c11 c12 c13 l1 hb V9
      have c0 := k1.cell 0 rfl
      have c1 := k1.cell 1 rfl
      have c2 := k1.cell 2 rfl
      have c3 := k1.cell 3 rfl
      have c4 := k1.cell 4 rfl
      have c5 := k1.cell 5 rfl
      have c6 := k1.cell 6 rfl
      have c7 := k1.cell 7 rfl
      have c8 := k1.cell 8 rfl
      have c9 := k1.cell 9 rfl
      have c10 := k1.cell 10 rfl
      have c11 := k1.cell 11 rfl
      have c12 := k1.cell 12 rfl
      have c13 := k1.cell 13 rfl
      have l1 := k1.lt
      go_wp2_with fail
      refine (peersN i A c cf _).mono ?_
      rintro e V11 ⟨rfl, hb⟩
      replace k1 := k1.below hb
      replace B := bl_then B hb
      clear c0 c1 c2 c3 c4 c5 c6 c7 c8 c9 c10 c11 c12 c13 l1 hb V10
      have c0 := k1.cell 0 rfl
      have c1 := k1.cell 1 rfl
      have c2 := k1.cell 2 rfl
      have c3 := k1.cell 3 rfl
      have c4 := k1.cell 4 rfl
      have c5 := k1.cell 5 rfl
      have c6 := k1.cell 6 rfl
      have c7 := k1.cell 7 rfl
      have c8 := k1.cell 8 rfl
      have c9 := k1.cell 9 rfl
      have c10 := k1.cell 10 rfl
      have c11 := k1.cell 11 rfl
      have c12 := k1.cell 12 rfl
      have c13 := k1.cell 13 rfl
      have l1 := k1.lt
      go_wp2_with fail
      go_ret
      exact ⟨rfl, B⟩

theorem riseS (w : World) : Calls Try.prog 87 #[.slice none 0 0, .int .i64 1, .int .i64 4] w fun e w' => e = .returned (.bool true) ∧ Below w.heap.size w w' := by
  refine (spec_l05Rise.calls 2 none 0 [] 1 4 true w (C_nilI w) (by simp) (by unfold spec_l05Rise.f spec_l05Rise.l0; simp)).mono ?_
  rintro e w' ⟨rfl, n, rfl⟩
  exact ⟨rfl, bl_drewN (Below.refl _ _) n⟩
set_option maxHeartbeats 2000000 in
set_option maxRecDepth 100000 in
theorem spec_NodeOkN (i : Int) (A : Option Addr) (c : Nat) (cf : List Int) (bi bc : Bool) (w : World) (Hi : Hid (inB i 1 4 = bi)) (Hc : Hid (confOk cf = bc)) (hr : Kd.C (Kd.int .i64) w A cf.length cf) (hc : cf.length ≤ c) (hl : cf.length ≤ 1048576) :
    Calls Try.prog 35 #[.agg #[.int .i64 i, .int .i64 0, .int .i64 0, .int .i64 0, .int .i64 0, .slice A cf.length c, .int .i64 0, .int .i64 0, .slice none 0 0, .int .i64 0, .int .i64 0, .int .i64 20, .slice none 0 0, .slice none 0 0]] w fun e w' => e = .returned (.bool (bi && bc)) ∧ Below w.heap.size w w' := by
  have HC := Lib.hid hr
  clear hr
  go_enter Try.func35, Try.ntmps35
  go_wp2_with fail
  refine calls_atN (fun W => Blk 75 w.heap.size #[.int .i64 i, .int .i64 0, .int .i64 0, .int .i64 0, .int .i64 0, .slice A cf.length c, .int .i64 0, .int .i64 0, .slice none 0 0, .int .i64 0, .int .i64 0, .int .i64 20, .slice none 0 0, .slice none 0 0] W ∧ Below w.heap.size w W) ⟨Blk.new _ _ w, (by repeat (first | exact Below.refl _ _ | apply bl_alloc | apply bl_drewN | apply bl_drew | refine bl_set ?_ (by simp) | refine bl_then ?_ (by assumption)))⟩ ?_
  rintro W0 ⟨k1, B⟩
  refine (inS _ _ _ bi _ Hi).mono ?_
  rintro e W1 ⟨rfl, hb⟩
  replace k1 := k1.below hb
  replace B := bl_then B hb
  clear hb W0
  have c0 := k1.cell 0 rfl
  have c1 := k1.cell 1 rfl
  have c2 := k1.cell 2 rfl
  have c3 := k1.cell 3 rfl
  have c4 := k1.cell 4 rfl
  have c5 := k1.cell 5 rfl
  have c6 := k1.cell 6 rfl
  have c7 := k1.cell 7 rfl
  have c8 := k1.cell 8 rfl
  have c9 := k1.cell 9 rfl
  have c10 := k1.cell 10 rfl
  have c11 := k1.cell 11 rfl
  have c12 := k1.cell 12 rfl
  have c13 := k1.cell 13 rfl
  have l1 := k1.lt
  cases bi with
  | false =>
    go_wp2_with fail
    go_ret
    exact ⟨rfl, B⟩
  | true =>
    go_wp2_with fail
    refine (confS _ _ cf bc _ Hc (Kd.C_below HC.out B) hc hl).mono ?_
    rintro e W2 ⟨rfl, hb⟩
    replace k1 := k1.below hb
    replace B := bl_then B hb
    clear c0 c1 c2 c3 c4 c5 c6 c7 c8 c9 c10 c11 c12 c13 l1 hb W1
    have c0 := k1.cell 0 rfl
    have c1 := k1.cell 1 rfl
    have c2 := k1.cell 2 rfl
    have c3 := k1.cell 3 rfl
    have c4 := k1.cell 4 rfl
    have c5 := k1.cell 5 rfl
    have c6 := k1.cell 6 rfl
    have c7 := k1.cell 7 rfl
    have c8 := k1.cell 8 rfl
    have c9 := k1.cell 9 rfl
    have c10 := k1.cell 10 rfl
    have c11 := k1.cell 11 rfl
    have c12 := k1.cell 12 rfl
    have c13 := k1.cell 13 rfl
    have l1 := k1.lt
    cases bc with
    | false =>
      go_wp2_with fail
      go_ret
      exact ⟨rfl, B⟩
    | true =>

      go_wp2_with fail
      refine (logS _).mono ?_
      rintro e V12 ⟨rfl, hb⟩
      replace k1 := k1.below hb
      replace B := bl_then B hb
      clear c0 c1 c2 c3 c4 c5 c6 c7 c8 c9 c10 c11 c12 c13 l1 hb W2
      have c0 := k1.cell 0 rfl
      have c1 := k1.cell 1 rfl
      have c2 := k1.cell 2 rfl
      have c3 := k1.cell 3 rfl
      have c4 := k1.cell 4 rfl
      have c5 := k1.cell 5 rfl
      have c6 := k1.cell 6 rfl
      have c7 := k1.cell 7 rfl
      have c8 := k1.cell 8 rfl
      have c9 := k1.cell 9 rfl
      have c10 := k1.cell 10 rfl
      have c11 := k1.cell 11 rfl
      have c12 := k1.cell 12 rfl
      have c13 := k1.cell 13 rfl
      have l1 := k1.lt
      go_wp2_with fail
      refine (inS 0 0 100000 true _ (Lib.hid (by decide))).mono ?_
      rintro e V13 ⟨rfl, hb⟩
      replace k1 := k1.below hb
      replace B := bl_then B hb
      clear c0 c1 c2 c3 c4 c5 c6 c7 c8 c9 c10 c11 c12 c13 l1 hb V12
      have c0 := k1.cell 0 rfl
      have c1 := k1.cell 1 rfl
      have c2 := k1.cell 2 rfl
      have c3 := k1.cell 3 rfl
      have c4 := k1.cell 4 rfl
      have c5 := k1.cell 5 rfl
      have c6 := k1.cell 6 rfl
      have c7 := k1.cell 7 rfl
      have c8 := k1.cell 8 rfl
      have c9 := k1.cell 9 rfl
      have c10 := k1.cell 10 rfl
      have c11 := k1.cell 11 rfl
      have c12 := k1.cell 12 rfl
      have c13 := k1.cell 13 rfl
      have l1 := k1.lt
      go_wp2_with fail
      refine (inS 0 0 4 true _ (Lib.hid (by decide))).mono ?_
      rintro e V14 ⟨rfl, hb⟩
      replace k1 := k1.below hb
      replace B := bl_then B hb
      clear c0 c1 c2 c3 c4 c5 c6 c7 c8 c9 c10 c11 c12 c13 l1 hb V13
      have c0 := k1.cell 0 rfl
      have c1 := k1.cell 1 rfl
      have c2 := k1.cell 2 rfl
      have c3 := k1.cell 3 rfl
      have c4 := k1.cell 4 rfl
      have c5 := k1.cell 5 rfl
      have c6 := k1.cell 6 rfl
      have c7 := k1.cell 7 rfl
      have c8 := k1.cell 8 rfl
      have c9 := k1.cell 9 rfl
      have c10 := k1.cell 10 rfl
      have c11 := k1.cell 11 rfl
      have c12 := k1.cell 12 rfl
      have c13 := k1.cell 13 rfl
      have l1 := k1.lt
      go_wp2_with fail
      refine (inS 0 0 4 true _ (Lib.hid (by decide))).mono ?_
      rintro e V15 ⟨rfl, hb⟩
      replace k1 := k1.below hb
      replace B := bl_then B hb
      clear c0 c1 c2 c3 c4 c5 c6 c7 c8 c9 c10 c11 c12 c13 l1 hb V14
      have c0 := k1.cell 0 rfl
      have c1 := k1.cell 1 rfl
      have c2 := k1.cell 2 rfl
      have c3 := k1.cell 3 rfl
      have c4 := k1.cell 4 rfl
      have c5 := k1.cell 5 rfl
      have c6 := k1.cell 6 rfl
      have c7 := k1.cell 7 rfl
      have c8 := k1.cell 8 rfl
      have c9 := k1.cell 9 rfl
      have c10 := k1.cell 10 rfl
      have c11 := k1.cell 11 rfl
      have c12 := k1.cell 12 rfl
      have c13 := k1.cell 13 rfl
      have l1 := k1.lt
      go_wp2_with fail
      refine (inS 0 0 2 true _ (Lib.hid (by decide))).mono ?_
      rintro e V16 ⟨rfl, hb⟩
      replace k1 := k1.below hb
      replace B := bl_then B hb
      clear c0 c1 c2 c3 c4 c5 c6 c7 c8 c9 c10 c11 c12 c13 l1 hb V15
      have c0 := k1.cell 0 rfl
      have c1 := k1.cell 1 rfl
      have c2 := k1.cell 2 rfl
      have c3 := k1.cell 3 rfl
      have c4 := k1.cell 4 rfl
      have c5 := k1.cell 5 rfl
      have c6 := k1.cell 6 rfl
      have c7 := k1.cell 7 rfl
      have c8 := k1.cell 8 rfl
      have c9 := k1.cell 9 rfl
      have c10 := k1.cell 10 rfl
      have c11 := k1.cell 11 rfl
      have c12 := k1.cell 12 rfl
      have c13 := k1.cell 13 rfl
      have l1 := k1.lt
      go_wp2_with fail
      refine (lastS _).mono ?_
      rintro e V17 ⟨rfl, hb⟩
      replace k1 := k1.below hb
      replace B := bl_then B hb
      clear c0 c1 c2 c3 c4 c5 c6 c7 c8 c9 c10 c11 c12 c13 l1 hb V16
      have c0 := k1.cell 0 rfl
      have c1 := k1.cell 1 rfl
      have c2 := k1.cell 2 rfl
      have c3 := k1.cell 3 rfl
      have c4 := k1.cell 4 rfl
      have c5 := k1.cell 5 rfl
      have c6 := k1.cell 6 rfl
      have c7 := k1.cell 7 rfl
      have c8 := k1.cell 8 rfl
      have c9 := k1.cell 9 rfl
      have c10 := k1.cell 10 rfl
      have c11 := k1.cell 11 rfl
      have c12 := k1.cell 12 rfl
      have c13 := k1.cell 13 rfl
      have l1 := k1.lt
      go_wp2_with fail
      refine (inS 0 0 0 true _ (Lib.hid (by decide))).mono ?_
      rintro e V18 ⟨rfl, hb⟩
      replace k1 := k1.below hb
      replace B := bl_then B hb
      clear c0 c1 c2 c3 c4 c5 c6 c7 c8 c9 c10 c11 c12 c13 l1 hb V17
      have c0 := k1.cell 0 rfl
      have c1 := k1.cell 1 rfl
      have c2 := k1.cell 2 rfl
      have c3 := k1.cell 3 rfl
      have c4 := k1.cell 4 rfl
      have c5 := k1.cell 5 rfl
      have c6 := k1.cell 6 rfl
      have c7 := k1.cell 7 rfl
      have c8 := k1.cell 8 rfl
      have c9 := k1.cell 9 rfl
      have c10 := k1.cell 10 rfl
      have c11 := k1.cell 11 rfl
      have c12 := k1.cell 12 rfl
      have c13 := k1.cell 13 rfl
      have l1 := k1.lt
      go_wp2_with fail
      refine (inS 0 0 20 true _ (Lib.hid (by decide))).mono ?_
      rintro e V19 ⟨rfl, hb⟩
      replace k1 := k1.below hb
      replace B := bl_then B hb
      clear c0 c1 c2 c3 c4 c5 c6 c7 c8 c9 c10 c11 c12 c13 l1 hb V18
      have c0 := k1.cell 0 rfl
      have c1 := k1.cell 1 rfl
      have c2 := k1.cell 2 rfl
      have c3 := k1.cell 3 rfl
      have c4 := k1.cell 4 rfl
      have c5 := k1.cell 5 rfl
      have c6 := k1.cell 6 rfl
      have c7 := k1.cell 7 rfl
      have c8 := k1.cell 8 rfl
      have c9 := k1.cell 9 rfl
      have c10 := k1.cell 10 rfl
      have c11 := k1.cell 11 rfl
      have c12 := k1.cell 12 rfl
      have c13 := k1.cell 13 rfl
      have l1 := k1.lt
      go_wp2_with fail
      refine (inS 20 1 20 true _ (Lib.hid (by decide))).mono ?_
      rintro e V20 ⟨rfl, hb⟩
      replace k1 := k1.below hb
      replace B := bl_then B hb
      clear c0 c1 c2 c3 c4 c5 c6 c7 c8 c9 c10 c11 c12 c13 l1 hb V19
      have c0 := k1.cell 0 rfl
      have c1 := k1.cell 1 rfl
      have c2 := k1.cell 2 rfl
      have c3 := k1.cell 3 rfl
      have c4 := k1.cell 4 rfl
      have c5 := k1.cell 5 rfl
      have c6 := k1.cell 6 rfl
      have c7 := k1.cell 7 rfl
      have c8 := k1.cell 8 rfl
      have c9 := k1.cell 9 rfl
      have c10 := k1.cell 10 rfl
      have c11 := k1.cell 11 rfl
      have c12 := k1.cell 12 rfl
      have c13 := k1.cell 13 rfl
      have l1 := k1.lt
      go_wp2_with fail
      refine (riseS _).mono ?_
      rintro e V21 ⟨rfl, hb⟩
      replace k1 := k1.below hb
      replace B := bl_then B hb
      clear c0 c1 c2 c3 c4 c5 c6 c7 c8 c9 c10 c11 c12 c13 l1 hb V20
      have c0 := k1.cell 0 rfl
      have c1 := k1.cell 1 rfl
      have c2 := k1.cell 2 rfl
      have c3 := k1.cell 3 rfl
      have c4 := k1.cell 4 rfl
      have c5 := k1.cell 5 rfl
      have c6 := k1.cell 6 rfl
      have c7 := k1.cell 7 rfl
      have c8 := k1.cell 8 rfl
      have c9 := k1.cell 9 rfl
      have c10 := k1.cell 10 rfl
      have c11 := k1.cell 11 rfl
      have c12 := k1.cell 12 rfl
      have c13 := k1.cell 13 rfl
      have l1 := k1.lt
      go_wp2_with fail
      refine wp_atN (fun W => Below w.heap.size w W) (by first | exact B | exact bl_alloc B _ | exact bl_drewN (bl_alloc B _) _ | exact bl_alloc (bl_drewN B _) _) ?_
      intro W0 B0
      go_loopg [6] 1 (fun kq v6 w' => v6 = .int .i64 0 ∧ Below w.heap.size w w')
      case atStart => exact ⟨rfl, B0⟩
      case round =>
        obtain ⟨rfl, B2⟩ := hrel
        clear B0
        go_wp2_with fail
        go_ret
        exact ⟨rfl, B2⟩
end Go.Proofs.Ytofikijbmgejkaa.PFnExactNodeNew
end

/-! ### YtofikijbmgejkaaNodeNew2 -/
section
namespace Go.Proofs.Ytofikijbmgejkaa.PFnExactNodeNew
open Go.RowKit Go.Proofs.YtofikijbmgejkaaW.PrintWords
set_option linter.unusedSimpArgs false
set_option linter.unusedVariables false

/-! NodeNew. (own) -/
theorem eql_ints_nil (w : World) (a : Option Addr) (n c : Nat) : (binOp .eql 49 (.slice a n c) (.slice none 0 0)).run Try.prog w = .ok (.bool a.isNone) w := Go.Lib.run_eql_slice_nil w 49 3 a n c 0 0 Try.underlying49
theorem ints_empty {w W : World} (hle : w.heap.size ≤ W.heap.size) (ok : Nat → Prop) (hok : ok W.heap.size) : Kd.R (Kd.int .i64) 3 (W.alloc (.cells #[] 3)) w.heap.size ok (.slice (some ⟨W.heap.size, 0, none⟩) 0 0) [] := by
  refine ⟨fun k hk => ?_, [], ?_, Reps.none _ _⟩
  · have : W.heap.size = k := by simpa [Value.ownBlock] using hk
    rw [← this]; exact hok
  · exact World.ownsRow_lit (base := w.heap.size) (e := 3) (size := 1) W #[] 0 hle (by simp [maxLen]) (by simp)
theorem own_zero {α : Type} {d : Kd α} {e base g o : Nat} {W : World} {u v : Value} {xs : List α} (h : d.R e W base (fun k => g < k) v xs) : d.R e (W.setCell ⟨g, o, none⟩ u) base (fun k => g < k) v xs :=
  Kd.R_far h (p := ⟨g, o, none⟩) (fun k hk => by have : g < k := hk; show k ≠ g; omega) u
attribute [local go_sem] eql_ints_nil
set_option maxHeartbeats 1000000 in
set_option maxRecDepth 100000 in
theorem cloneI_C (A : Option Addr) (c : Nat) (xs : List Int) (w : World) (hr : Kd.C (Kd.int .i64) w A xs.length xs) (hc : xs.length ≤ c) (hl : xs.length ≤ 1048576) (hnil : A = none → c = 0) :
    Calls Try.prog 99 #[.slice A xs.length c] w fun e w' => ∃ v, e = .returned v ∧ Kd.R (Kd.int .i64) 3 w' w.heap.size (fun k => w.heap.size ≤ k) v xs ∧ Below w.heap.size w w' := by
  have HC := Lib.hid hr
  clear hr
  rcases A with _ | ad
  · have h0 := hnil rfl
    have hx : xs = [] := List.eq_nil_of_length_eq_zero (by omega)
    subst hx h0
    go_enter Try.func99, Try.ntmps99
    go_wp2_with fail
    go_ret
    exact ⟨_, rfl, Kd.R_nil _ _ _ _ _, Below.refl _ _⟩
  · have hE := ints_empty (w := w) (W := w) (Nat.le_refl _) (fun k => w.heap.size ≤ k) (Nat.le_refl _)
    go_enter Try.func99, Try.ntmps99
    go_wp2_with (first | (refine Kd.R_append_rows (w0 := w) (Kd.int .i64) w.heap.size rfl (.tmp 5) (.tmp 6) 49 3 (.int .i64 0) 8 rfl Try.underlying49 (by kernel_rfl) rfl (by decide) (by decide) (.slice (some ⟨w.heap.size, 0, none⟩) 0 0) [] xs (some ad) xs.length c (fun k => w.heap.size ≤ k) (fun _ => False) rfl rfl hE (Kd.C_below HC.out (bl_alloc (Below.refl _ _) _)) (fun x cs hx => hx) (fun k h => h.elim) (fun k hk => by simp at hk; omega) (bl_alloc (Below.refl _ _) _) (by simp) (by simp; omega) ?_; intro v1 w1 hR1 hB1 hg1 hat1))
    go_ret
    exact ⟨v1, rfl, by simpa using hR1, hB1⟩
/-- What NodeNew hands back. -/
def NB (w w' : World) (e : Ending) (q : Bool) (i : Int) (cf : List Int) : Prop :=
  (∃ v, e = .returned (.tuple #[.agg #[.int .i64 (if q = true then i else 0), .int .i64 0, .int .i64 0, .int .i64 0, .int .i64 0, v, .int .i64 0, .int .i64 0, .slice none 0 0, .int .i64 0, .int .i64 0, .int .i64 (if q = true then 20 else 0), .slice none 0 0, .slice none 0 0], .bool q]) ∧ Kd.R (Kd.int .i64) 3 w' w.heap.size (fun _ => True) v (if q = true then cf else [])) ∧ Below w.heap.size w w'
set_option maxHeartbeats 4000000 in
set_option maxRecDepth 100000 in
theorem impl_NodeNew_C (i : Int) (A : Option Addr) (c : Nat) (cf : List Int) (bi bc : Bool) (w : World) (Hi : Hid (inB i 1 4 = bi)) (Hc : Hid (confOk cf = bc)) (hr : Kd.C (Kd.int .i64) w A cf.length cf) (hc : cf.length ≤ c) (hl : cf.length ≤ 1048576) (hnil : A = none → c = 0) :
    Calls Try.prog 40 #[.int .i64 i, .slice A cf.length c] w fun e w' => NB w w' e (bi && bc) i cf := by
  have HC := Lib.hid hr
  clear hr
  go_enter Try.func40, Try.ntmps40
  go_wp2_with fail
  refine calls_atN (fun X => Blk 75 w.heap.size #[.int .i64 0, .int .i64 0, .int .i64 0, .int .i64 0, .int .i64 0, .slice none 0 0, .int .i64 0, .int .i64 0, .slice none 0 0, .int .i64 0, .int .i64 0, .int .i64 0, .slice none 0 0, .slice none 0 0] X ∧ Below w.heap.size w X) ⟨Blk.new _ _ w, (by repeat (first | exact Below.refl _ _ | apply bl_alloc | apply bl_drewN | apply bl_drew | refine bl_set ?_ (by simp) | refine bl_then ?_ (by assumption)))⟩ ?_
  rintro W0 ⟨k4, B0⟩
  refine (cloneI_C A c cf W0 (Kd.C_below HC.out B0) hc hl hnil).mono ?_
  rintro e W1 ⟨v, rfl, hR0, hb⟩
  have h0l := k4.lt
  have hR : Kd.R (Kd.int .i64) 3 W1 w.heap.size (fun k => w.heap.size < k) v cf := Kd.R_mono (Kd.R_lower hR0 B0.size) (fun k hk => by have : W0.heap.size ≤ k := hk; omega)
  replace k4 := k4.below hb
  have B1 := bl_then B0 hb
  clear hb hR0 B0 h0l W0
  obtain ⟨A2, c2, rfl, hcap2, -⟩ := Kd.R_reads hR
  have HR := Lib.hid hR
  clear hR
  go_wp2_with fail
  obtain ⟨b6, hb6⟩ : ∃ b6, b6 = W1.heap.size := ⟨_, rfl⟩
  refine calls_atN (fun X => Blk 75 w.heap.size #[.int .i64 0, .int .i64 0, .int .i64 0, .int .i64 0, .int .i64 0, .slice none 0 0, .int .i64 0, .int .i64 0, .slice none 0 0, .int .i64 0, .int .i64 0, .int .i64 0, .slice none 0 0, .slice none 0 0] X ∧ Below w.heap.size w X ∧ Kd.R (Kd.int .i64) 3 X w.heap.size (fun k => w.heap.size < k) (.slice A2 cf.length c2) cf ∧ Blk 75 b6 #[.int .i64 i, .int .i64 0, .int .i64 0, .int .i64 0, .int .i64 0, .slice A2 cf.length c2, .int .i64 0, .int .i64 0, .slice none 0 0, .int .i64 0, .int .i64 0, .int .i64 20, .slice none 0 0, .slice none 0 0] X) ⟨k4.alloc _, bl_alloc B1 _, Kd.R_below HR.out (bl_alloc (Below.refl _ _) _), Blk.newE _ _ W1 hb6⟩ ?_
  try rw [← hb6]
  have n6 : w.heap.size < b6 := by have := k4.lt; omega
  clear hb6 k4 B1 HR W1
  rintro X ⟨k4, B, hR, k6⟩
  obtain ⟨-, -, hCc⟩ := Kd.R_reads' hR
  have HR := Lib.hid hR
  clear hR
  refine (impl_NodeOkN i A2 c2 cf bi bc X Hi Hc hCc hcap2 hl).mono ?_
  clear hCc
  rintro e Y ⟨rfl, hb⟩
  replace k4 := k4.below hb
  replace k6 := k6.below hb
  replace B := bl_then B hb
  replace HR := Lib.hid (Kd.R_below HR.out hb)
  clear hb X
  have y0 := k4.cell 0 rfl
  have y1 := k4.cell 1 rfl
  have y2 := k4.cell 2 rfl
  have y3 := k4.cell 3 rfl
  have y4 := k4.cell 4 rfl
  have y5 := k4.cell 5 rfl
  have y6 := k4.cell 6 rfl
  have y7 := k4.cell 7 rfl
  have y8 := k4.cell 8 rfl
  have y9 := k4.cell 9 rfl
  have y10 := k4.cell 10 rfl
  have y11 := k4.cell 11 rfl
  have y12 := k4.cell 12 rfl
  have y13 := k4.cell 13 rfl
  have yf : ∀ o, _ := fun o => k4.free o
  have yl := k4.lt
  obtain ⟨q, hq⟩ : ∃ q, (bi && bc) = q := ⟨_, rfl⟩
  rw [hq]
  have HQ := Lib.hid hq
  clear hq Hi Hc
  cases q with
  | false =>
    go_wp2_with fail
    refine bodyPost_ret (v := .tuple #[.agg #[.int .i64 0, .int .i64 0, .int .i64 0, .int .i64 0, .int .i64 0, .slice none 0 0, .int .i64 0, .int .i64 0, .slice none 0 0, .int .i64 0, .int .i64 0, .int .i64 0, .slice none 0 0, .slice none 0 0], .bool false]) ?_ rfl ⟨⟨.slice none 0 0, by rw [HQ.out]; rfl, by rw [HQ.out]; exact Kd.R_nil _ _ _ _ _⟩, ?_⟩
    · simp only [results, Try.results40]
      go_simp
    · iterate 14 refine bl_set ?_ (Nat.le_refl _)
      exact B
  | true =>
    have x0 := k6.cell 0 rfl
    have x1 := k6.cell 1 rfl
    have x2 := k6.cell 2 rfl
    have x3 := k6.cell 3 rfl
    have x4 := k6.cell 4 rfl
    have x5 := k6.cell 5 rfl
    have x6 := k6.cell 6 rfl
    have x7 := k6.cell 7 rfl
    have x8 := k6.cell 8 rfl
    have x9 := k6.cell 9 rfl
    have x10 := k6.cell 10 rfl
    have x11 := k6.cell 11 rfl
    have x12 := k6.cell 12 rfl
    have x13 := k6.cell 13 rfl
    have xl := k6.lt
    go_wp2_with fail
    have hR2 := HR.out
    refine bodyPost_ret (v := .tuple #[.agg #[.int .i64 i, .int .i64 0, .int .i64 0, .int .i64 0, .int .i64 0, .slice A2 cf.length c2, .int .i64 0, .int .i64 0, .slice none 0 0, .int .i64 0, .int .i64 0, .int .i64 20, .slice none 0 0, .slice none 0 0], .bool true]) ?_ rfl ⟨⟨.slice A2 cf.length c2, by rw [HQ.out]; rfl, ?_⟩, ?_⟩
    · simp only [results, Try.results40]
      go_simp
    · rw [HQ.out]
      refine Kd.R_mono (ok := fun k => w.heap.size < k) ?_ (fun _ _ => trivial)
      iterate 14 refine own_zero ?_
      exact hR2
    · iterate 14 refine bl_set ?_ (Nat.le_refl _)
      exact B
set_option maxHeartbeats 4000000 in
set_option maxRecDepth 100000 in
theorem spec_NodeNew_some (i : Int) (A : Option Addr) (c : Nat) (cf : List Int) (bi bc : Bool) (w : World) (Hi : Hid (inB i 1 4 = bi)) (Hc : Hid (confOk cf = bc)) (hr : Kd.C (Kd.int .i64) w A cf.length cf) (hc : cf.length ≤ c) (hl : cf.length ≤ 1048576) (hnil : A = none → c = 0) (hsome : ∃ ad, A = some ad) :
    Calls Try.prog 39 #[.int .i64 i, .slice A cf.length c] w fun e w' => NB w w' e (bi && bc) i cf := by
  have HC := Lib.hid hr
  clear hr
  go_enter Try.func39, Try.ntmps39
  obtain ⟨ad, rfl⟩ := hsome
  clear hnil
  have hE2 := ints_empty (w := w) (W := w.alloc (.cells #[.int .i64 0, .int .i64 0, .int .i64 0, .int .i64 0, .int .i64 0, .slice none 0 0, .int .i64 0, .int .i64 0, .slice none 0 0, .int .i64 0, .int .i64 0, .int .i64 0, .slice none 0 0, .slice none 0 0] 75)) (by simp) (fun k => w.heap.size < k) (by simp)
  rw [show (w.alloc (.cells #[.int .i64 0, .int .i64 0, .int .i64 0, .int .i64 0, .int .i64 0, .slice none 0 0, .int .i64 0, .int .i64 0, .slice none 0 0, .int .i64 0, .int .i64 0, .int .i64 0, .slice none 0 0, .slice none 0 0] 75)).heap.size = w.heap.size + 1 from by simp] at hE2
  go_wp2_with (first | (refine Kd.R_append_rows (w0 := w) (Kd.int .i64) w.heap.size rfl (.tmp 8) (.tmp 9) 49 3 (.int .i64 0) 8 rfl Try.underlying49 (by kernel_rfl) rfl (by decide) (by decide) (.slice (some ⟨w.heap.size + 1, 0, none⟩) 0 0) [] cf (some ad) cf.length c (fun k => w.heap.size < k) (fun _ => False) rfl rfl hE2 (Kd.C_below HC.out (by repeat (first | exact Below.refl _ _ | apply bl_alloc | apply bl_drewN | apply bl_drew | refine bl_set ?_ (by simp) | refine bl_then ?_ (by assumption)))) (fun x cs hx => hx) (fun k h => h.elim) (fun k hk => by simp at hk; omega) (by repeat (first | exact Below.refl _ _ | apply bl_alloc | apply bl_drewN | apply bl_drew | refine bl_set ?_ (by simp) | refine bl_then ?_ (by assumption))) (by simp; omega) (by simp; omega) ?_; intro v W1 hR hB1 hg1 hat1; rw [List.nil_append] at hR; obtain ⟨A2, c2, rfl, hcap2, -⟩ := Kd.R_reads hR; have k4 : Blk 75 w.heap.size #[.int .i64 0, .int .i64 0, .int .i64 0, .int .i64 0, .int .i64 0, .slice none 0 0, .int .i64 0, .int .i64 0, .slice none 0 0, .int .i64 0, .int .i64 0, .int .i64 0, .slice none 0 0, .slice none 0 0] W1 := (hg1.block w.heap.size (by simp; omega) (by simp [Value.ownBlock])).trans (((Blk.new _ _ w).alloc _)); have HR := Lib.hid hR; have B1 := hB1; clear hR hat1 hg1 hB1 hE2))
  obtain ⟨b6, hb6⟩ : ∃ b6, b6 = W1.heap.size := ⟨_, rfl⟩
  refine calls_atN (fun X => Blk 75 w.heap.size #[.int .i64 0, .int .i64 0, .int .i64 0, .int .i64 0, .int .i64 0, .slice none 0 0, .int .i64 0, .int .i64 0, .slice none 0 0, .int .i64 0, .int .i64 0, .int .i64 0, .slice none 0 0, .slice none 0 0] X ∧ Below w.heap.size w X ∧ Kd.R (Kd.int .i64) 3 X w.heap.size (fun k => w.heap.size < k) (.slice A2 cf.length c2) cf ∧ Blk 75 b6 #[.int .i64 i, .int .i64 0, .int .i64 0, .int .i64 0, .int .i64 0, .slice A2 cf.length c2, .int .i64 0, .int .i64 0, .slice none 0 0, .int .i64 0, .int .i64 0, .int .i64 20, .slice none 0 0, .slice none 0 0] X) ⟨k4.alloc _, bl_alloc B1 _, Kd.R_below HR.out (bl_alloc (Below.refl _ _) _), Blk.newE _ _ W1 hb6⟩ ?_
  try rw [← hb6]
  have n6 : w.heap.size < b6 := by have := k4.lt; omega
  clear hb6 k4 B1 HR W1
  rintro X ⟨k4, B, hR, k6⟩
  obtain ⟨-, -, hCc⟩ := Kd.R_reads' hR
  have HR := Lib.hid hR
  clear hR
  refine (spec_NodeOkN i A2 c2 cf bi bc X Hi Hc hCc hcap2 hl).mono ?_
  clear hCc
  rintro e Y ⟨rfl, hb⟩
  replace k4 := k4.below hb
  replace k6 := k6.below hb
  replace B := bl_then B hb
  replace HR := Lib.hid (Kd.R_below HR.out hb)
  clear hb X
  have y0 := k4.cell 0 rfl
  have y1 := k4.cell 1 rfl
  have y2 := k4.cell 2 rfl
  have y3 := k4.cell 3 rfl
  have y4 := k4.cell 4 rfl
  have y5 := k4.cell 5 rfl
  have y6 := k4.cell 6 rfl
  have y7 := k4.cell 7 rfl
  have y8 := k4.cell 8 rfl
  have y9 := k4.cell 9 rfl
  have y10 := k4.cell 10 rfl
  have y11 := k4.cell 11 rfl
  have y12 := k4.cell 12 rfl
  have y13 := k4.cell 13 rfl
  have yf : ∀ o, _ := fun o => k4.free o
  have yl := k4.lt
  obtain ⟨q, hq⟩ : ∃ q, (bi && bc) = q := ⟨_, rfl⟩
  rw [hq]
  have HQ := Lib.hid hq
  clear hq Hi Hc
  cases q with
  | false =>
    go_wp2_with fail
    refine bodyPost_ret (v := .tuple #[.agg #[.int .i64 0, .int .i64 0, .int .i64 0, .int .i64 0, .int .i64 0, .slice none 0 0, .int .i64 0, .int .i64 0, .slice none 0 0, .int .i64 0, .int .i64 0, .int .i64 0, .slice none 0 0, .slice none 0 0], .bool false]) ?_ rfl ⟨⟨.slice none 0 0, by rw [HQ.out]; rfl, by rw [HQ.out]; exact Kd.R_nil _ _ _ _ _⟩, ?_⟩
    · simp only [results, Try.results39]
      go_simp
    · iterate 14 refine bl_set ?_ (Nat.le_refl _)
      exact B
  | true =>
    have x0 := k6.cell 0 rfl
    have x1 := k6.cell 1 rfl
    have x2 := k6.cell 2 rfl
    have x3 := k6.cell 3 rfl
    have x4 := k6.cell 4 rfl
    have x5 := k6.cell 5 rfl
    have x6 := k6.cell 6 rfl
    have x7 := k6.cell 7 rfl
    have x8 := k6.cell 8 rfl
    have x9 := k6.cell 9 rfl
    have x10 := k6.cell 10 rfl
    have x11 := k6.cell 11 rfl
    have x12 := k6.cell 12 rfl
    have x13 := k6.cell 13 rfl
    have xl := k6.lt
    go_wp2_with fail
    have hR2 := HR.out
    refine bodyPost_ret (v := .tuple #[.agg #[.int .i64 i, .int .i64 0, .int .i64 0, .int .i64 0, .int .i64 0, .slice A2 cf.length c2, .int .i64 0, .int .i64 0, .slice none 0 0, .int .i64 0, .int .i64 0, .int .i64 20, .slice none 0 0, .slice none 0 0], .bool true]) ?_ rfl ⟨⟨.slice A2 cf.length c2, by rw [HQ.out]; rfl, ?_⟩, ?_⟩
    · simp only [results, Try.results39]
      go_simp
    · rw [HQ.out]
      refine Kd.R_mono (ok := fun k => w.heap.size < k) ?_ (fun _ _ => trivial)
      iterate 14 refine own_zero ?_
      exact hR2
    · iterate 14 refine bl_set ?_ (Nat.le_refl _)
      exact B
end Go.Proofs.Ytofikijbmgejkaa.PFnExactNodeNew
end

/-! ### YtofikijbmgejkaaMarkHeldFnExactNodeNew -/
section
namespace Go.Proofs.Ytofikijbmgejkaa.PFnExactNodeNew
open Go.RowKit Go.Proofs.YtofikijbmgejkaaW.PrintWords
set_option linter.unusedSimpArgs false
set_option linter.unusedVariables false

/-! Numbers marked, held, compared with themselves. (own) -/
def marksI (a : Int) : Nat → List Int
  | 0 => []
  | n + 1 => a :: marksI (a + 1) n
theorem marksI_length : ∀ (n : Nat) (a : Int), (marksI a n).length = n
  | 0, _ => rfl
  | n + 1, a => by simp [marksI, marksI_length n]
theorem marksI_snoc : ∀ (n : Nat) (a : Int), marksI a (n + 1) = marksI a n ++ [a + n]
  | 0, a => by simp [marksI]
  | n + 1, a => by
    have := marksI_snoc n (a + 1)
    rw [marksI, this, marksI, List.cons_append, show a + 1 + (n : Int) = a + ((n + 1 : Nat) : Int) from by omega]
theorem rd_marksI : ∀ (n i : Nat) (a : Int), i < n → rd (marksI a n) i = a + i
  | 0, _, _, h => by omega
  | n + 1, 0, a, _ => by simp [marksI, rd]
  | n + 1, i + 1, a, h => by
    have := rd_marksI n i (a + 1) (by omega)
    have e : rd (marksI a (n + 1)) ((i + 1 : Nat) : Int) = rd (marksI (a + 1) n) (i : Int) := by simp [marksI, rd]
    rw [e, this]; omega
theorem markI_l0 (xs : List Int) (m : Int) (hm0 : 0 ≤ m) (hm1 : m ≤ 1099511627776) (hl : xs.length ≤ 1099511627776) : ∀ (n k i : Nat), n + i = xs.length → n < k →
    laws_markIntS.l0 k (marksI m i ++ xs.drop i) (m + i) i = some (m + xs.length, marksI m xs.length)
  | _, 0, _, _, hk => by omega
  | 0, k + 1, i, h, hk => by
    unfold laws_markIntS.l0
    rw [if_neg (by simp [marksI_length]; omega), show i = xs.length from by omega, List.drop_length, List.append_nil]
  | n + 1, k + 1, i, h, hk => by
    have e1 : wrap64 ((i : Int) + 1) = ((i + 1 : Nat) : Int) := by unfold wrap64; omega
    have e2 : wrap64 (m + (i : Int) + 1) = m + ((i + 1 : Nat) : Int) := by unfold wrap64; omega
    unfold laws_markIntS.l0
    rw [if_pos (by simp [marksI_length]; omega), if_pos (by omega), e1, e2]
    clear e1 e2
    have hi : i < xs.length := by omega
    have hs : (marksI m i ++ xs.drop i).set ((i : Int)).toNat (m + i) = marksI m (i + 1) ++ xs.drop (i + 1) := by
      rw [Int.toNat_natCast, List.set_append_right _ _ (by rw [marksI_length]; omega), marksI_length, Nat.sub_self, List.drop_eq_getElem_cons hi, List.set_cons_zero, marksI_snoc, List.append_assoc]
      rfl
    rw [hs]
    exact markI_l0 xs m hm0 hm1 hl n k (i + 1) (by omega) (by omega)
theorem markI_f (xs : List Int) (m : Int) (k : Nat) (hk : xs.length < k) (hm0 : 0 ≤ m) (hm1 : m ≤ 1099511627776) (hl : xs.length ≤ 1099511627776) : laws_markIntS.f k xs m = some (m + xs.length, marksI m xs.length) := by
  have := markI_l0 xs m hm0 hm1 hl xs.length k 0 (by omega) hk
  simpa [laws_markIntS.f, marksI] using this
theorem heldI_l0 (N : Nat) (m : Int) (hm0 : 0 ≤ m) (hm1 : m ≤ 1099511627776) (hl : N ≤ 1099511627776) : ∀ (n k i : Nat), n + i = N → n < k →
    laws_heldIntS.l0 k (marksI m N) (m + i) i = some (m + N)
  | _, 0, _, _, hk => by omega
  | 0, k + 1, i, h, hk => by
    unfold laws_heldIntS.l0
    rw [if_neg (by rw [marksI_length]; omega), show i = N from by omega]
  | n + 1, k + 1, i, h, hk => by
    have e1 : wrap64 ((i : Int) + 1) = ((i + 1 : Nat) : Int) := by unfold wrap64; omega
    have e2 : wrap64 (m + (i : Int) + 1) = m + ((i + 1 : Nat) : Int) := by unfold wrap64; omega
    unfold laws_heldIntS.l0
    rw [if_pos (by rw [marksI_length]; omega), if_pos (by omega), if_pos (rd_marksI N i m (by omega)), e1, e2]
    clear e1 e2
    exact heldI_l0 N m hm0 hm1 hl n k (i + 1) (by omega) (by omega)
theorem heldI_f (N : Nat) (m : Int) (k : Nat) (hk : N < k) (hm0 : 0 ≤ m) (hm1 : m ≤ 1099511627776) (hl : N ≤ 1099511627776) : laws_heldIntS.f k (marksI m N) m = some (m + N) := by
  have := heldI_l0 N m hm0 hm1 hl N k 0 (by omega) hk
  simpa [laws_heldIntS.f] using this
end Go.Proofs.Ytofikijbmgejkaa.PFnExactNodeNew
end

/-! ### YtofikijbmgejkaaMarkEqFnExactNodeNew -/
section
namespace Go.Proofs.Ytofikijbmgejkaa.PFnExactNodeNew
open Go.RowKit Go.Proofs.YtofikijbmgejkaaW.PrintWords
set_option linter.unusedSimpArgs false
set_option linter.unusedVariables false

theorem eqI_l0 (xs : List Int) (hl : xs.length ≤ 1099511627776) : ∀ (n k i : Nat), n + i = xs.length → n < k → laws_eqIntS.l0 k xs xs i = some true
  | _, 0, _, _, hk => by omega
  | 0, k + 1, i, h, hk => by
    unfold laws_eqIntS.l0
    rw [if_neg (by omega)]
  | n + 1, k + 1, i, h, hk => by
    have e1 : wrap64 ((i : Int) + 1) = ((i + 1 : Nat) : Int) := by unfold wrap64; omega
    unfold laws_eqIntS.l0
    rw [if_pos (by omega), if_pos (by omega), if_pos (by omega), if_pos rfl, e1]
    clear e1
    exact eqI_l0 xs hl n k (i + 1) (by omega) (by omega)
theorem eqI_f (xs : List Int) (k : Nat) (hk : xs.length < k) (hl : xs.length ≤ 1099511627776) : laws_eqIntS.f k xs xs = some true := by
  unfold laws_eqIntS.f
  rw [if_pos rfl]
  exact eqI_l0 xs hl xs.length k 0 (by omega) hk
end Go.Proofs.Ytofikijbmgejkaa.PFnExactNodeNew
end

/-! ### YtofikijbmgejkaaNodeFin0 -/
section
namespace Go.Proofs.Ytofikijbmgejkaa.PFnExactNodeNew
open Go.RowKit Go.Proofs.YtofikijbmgejkaaW.PrintWords
set_option linter.unusedSimpArgs false
set_option linter.unusedVariables false

/-! What the law on NodeNew calls. (own) -/
theorem R_nil_cap {α : Type} {d : Kd α} {e base n c : Nat} {ok : Nat → Prop} {W : World} {A : Option Addr} {xs : List α} (h : d.R e W base ok (.slice A n c) xs) (hA : A = none) : c = 0 := by
  subst hA
  obtain ⟨h0, inner, hown, hr⟩ := h
  rcases hown.2 with ⟨h, -⟩ | ⟨g, cap, cur, h, -⟩
  · injection h
  · injection h with h1
    cases h1
theorem toInt_l0 (xs : List Int) (hl : xs.length ≤ 1048576) : ∀ (n k i : Nat), n + i = xs.length → n < k → laws_toIntS.l0 k xs (xs.take i ++ List.replicate (xs.length - i) 0) i = some xs
  | _, 0, _, _, hk => by omega
  | 0, k + 1, i, h, _ => by
    have hi : i = xs.length := by omega
    subst hi
    rw [laws_toIntS.l0, if_neg (by omega)]
    simp
  | n + 1, k + 1, i, h, hk => by
    have hi : i < xs.length := by omega
    have hlen : (xs.take i ++ List.replicate (xs.length - i) (0 : Int)).length = xs.length := by simp; omega
    have hs : (xs.take i ++ List.replicate (xs.length - i) (0 : Int)).set ((i : Int)).toNat (rd xs (i : Int)) = xs.take (i + 1) ++ List.replicate (xs.length - (i + 1)) 0 := by
      rw [Int.toNat_natCast, List.set_append_right _ _ (by simp; omega)]
      have e : (i - (xs.take i).length) = 0 := by simp; omega
      rw [e, show xs.length - i = (xs.length - (i + 1)) + 1 from by omega, List.replicate_succ, List.set_cons_zero, List.take_succ_eq_append_getElem hi]
      have hr : rd xs (i : Int) = xs[i] := by simp [rd, hi]
      rw [hr, List.append_assoc]
      rfl
    rw [laws_toIntS.l0, if_pos (by omega), if_pos (by omega), if_pos (by rw [hlen]; omega), hs]
    have e1 : wrap64 ((i : Int) + 1) = ((i + 1 : Nat) : Int) := by unfold wrap64; omega
    rw [e1]
    exact toInt_l0 xs hl n k (i + 1) (by omega) (by omega)
theorem toIntC (A : Option Addr) (c : Nat) (xs : List Int) (w : World) (hr : Kd.C (Kd.int .i64) w A xs.length xs) (hc : xs.length ≤ c) (hl : xs.length ≤ 1048576) :
    Calls Try.prog 25 #[.slice A xs.length c] w fun e w' => ∃ v, e = .returned v ∧ Kd.R (Kd.int .i64) 3 w' w.heap.size (fun _ => True) v xs ∧ Below w.heap.size w w' :=
  laws_toIntS.calls (xs.length + 1) A c xs xs w hr hc (by
    unfold laws_toIntS.f
    rw [if_pos (by omega), if_pos (by omega), Int.toNat_natCast]
    have := toInt_l0 xs hl xs.length (xs.length + 1) 0 (by omega) (by omega)
    simpa using this)
theorem eqIntC (A : Option Addr) (a : Nat) (B : Option Addr) (b : Nat) (xs : List Int) (w : World) (hl : xs.length ≤ 1048576) (ha : xs.length ≤ a) (hb : xs.length ≤ b) (hA : Kd.C (Kd.int .i64) w A xs.length xs) (hB : Kd.C (Kd.int .i64) w B xs.length xs) :
    Calls Try.prog 27 #[.slice A xs.length a, .slice B xs.length b] w fun e w' => e = .returned (.bool true) ∧ Below w.heap.size w w' := by
  refine (laws_eqIntS.calls 1048577 A a xs B b xs true w hA ha hB hb (eqI_f xs 1048577 (by omega) (by omega))).mono ?_
  rintro e w' h
  first | exact h | (obtain ⟨rfl, n, rfl⟩ := h; exact ⟨rfl, bl_drewN (Below.refl _ _) n⟩)
theorem eqNodeC (i l : Int) (A : Option Addr) (a : Nat) (B : Option Addr) (b : Nat) (xs : List Int) (w : World) (hl : xs.length ≤ 1048576) (ha : xs.length ≤ a) (hb : xs.length ≤ b) (hA : Kd.C (Kd.int .i64) w A xs.length xs) (hB : Kd.C (Kd.int .i64) w B xs.length xs) :
    Calls Try.prog 38 #[.agg #[.int .i64 i, .int .i64 0, .int .i64 0, .int .i64 0, .int .i64 0, .slice A xs.length a, .int .i64 0, .int .i64 0, .slice none 0 0, .int .i64 0, .int .i64 0, .int .i64 l, .slice none 0 0, .slice none 0 0], .agg #[.int .i64 i, .int .i64 0, .int .i64 0, .int .i64 0, .int .i64 0, .slice B xs.length b, .int .i64 0, .int .i64 0, .slice none 0 0, .int .i64 0, .int .i64 0, .int .i64 l, .slice none 0 0, .slice none 0 0]] w
      fun e w' => e = .returned (.bool true) ∧ Below w.heap.size w w' :=
  laws_eqNode.calls 1048577 i 0 0 0 0 A a xs 0 0 none 0 [] 0 0 l none 0 [] none 0 [] i 0 0 0 0 B b xs 0 0 none 0 [] 0 0 l none 0 [] none 0 [] true w hA ha (C_nilE w) (by simp) (C_nilI w) (by simp) (C_nilP w) (by simp) hB hb (C_nilE w) (by simp) (C_nilI w) (by simp) (C_nilP w) (by simp) (by
    unfold laws_eqNode.f
    rw [if_pos rfl, if_pos rfl, if_pos rfl, if_pos rfl, if_pos rfl, eqI_f xs 1048577 (by omega) (by omega)]
    have h1 : laws_eqLog.f 1048577 0 0 [] 0 0 [] = some true := by rfl
    have h2 : laws_eqIntS.f 1048577 [] [] = some true := eqI_f [] 1048577 (by simp) (by simp)
    have h3 : laws_eqPeerS.f 1048577 [] [] = some true := by rfl
    simp only [Option.bind_some, h1, h2, h3, if_true])
theorem markIntC (v : Value) (xs : List Int) (P : Nat → Prop) (w0 w : World) (hB : Below w0.heap.size w0 w) (hl : xs.length ≤ 1048576) (hR : Kd.R (Kd.int .i64) 3 w w0.heap.size P v xs) :
    Calls Try.prog 28 #[v, .int .i64 1] w fun e w' => e = .returned (.int .i64 (1 + xs.length)) ∧ Below w0.heap.size w0 w' ∧ Kept w w' P := by
  refine (laws_markIntS.calls 1048577 P v xs 1 (1 + xs.length) (marksI 1 xs.length) w0 w hB hR (markI_f xs 1 1048577 (by omega) (by omega) (by omega) (by omega))).mono ?_
  rintro e w' ⟨rfl, h1, h2, h3⟩
  exact ⟨rfl, h2, h3⟩
theorem markNodeC (i l : Int) (v : Value) (xs : List Int) (P : Nat → Prop) (w0 w : World) (hB : Below w0.heap.size w0 w) (hl : xs.length ≤ 1048576) (hR : Kd.R (Kd.int .i64) 3 w w0.heap.size P v xs) :
    Calls Try.prog 41 #[.agg #[.int .i64 i, .int .i64 0, .int .i64 0, .int .i64 0, .int .i64 0, v, .int .i64 0, .int .i64 0, .slice none 0 0, .int .i64 0, .int .i64 0, .int .i64 l, .slice none 0 0, .slice none 0 0], .int .i64 1] w
      fun e w' => e = .returned (.int .i64 (1 + xs.length)) ∧ Kd.R (Kd.int .i64) 3 w' w0.heap.size (fun _ => True) v (marksI 1 xs.length) ∧ Below w0.heap.size w0 w' ∧ Kept w w' P := by
  refine (laws_markNode.calls 1048577 i 0 0 0 0 P v xs 0 0 (fun _ => False) (.slice none 0 0) [] 0 0 l (fun _ => False) (.slice none 0 0) [] (fun _ => False) (.slice none 0 0) [] 1 (1 + xs.length) (marksI 1 xs.length) [] [] [] w0 w hB hR (fun _ _ h => h) (Kd.R_nil _ _ _ _ _) (Kd.R_nil _ _ _ _ _) (fun _ h => h.elim) (Kd.R_nil _ _ _ _ _) ?_).mono ?_
  · unfold laws_markNode.f
    rw [markI_f xs 1 1048577 (by omega) (by omega) (by omega) (by omega)]
    have h1 : laws_markLog.f 1048577 0 0 [] (1 + (xs.length : Int)) = some (1 + (xs.length : Int), []) := by unfold laws_markLog.f laws_markEntryS.f laws_markEntryS.l0; simp
    have h2 : laws_markIntS.f 1048577 [] (1 + (xs.length : Int)) = some (1 + (xs.length : Int), []) := by unfold laws_markIntS.f laws_markIntS.l0; simp
    have h3 : laws_markPeerS.f 1048577 [] (1 + (xs.length : Int)) = some (1 + (xs.length : Int), []) := by unfold laws_markPeerS.f laws_markPeerS.l0; simp
    simp only [Option.bind_some, h1, h2, h3]
  · rintro e w' ⟨rfl, h1, -, -, -, h2, h3⟩
    exact ⟨rfl, Kd.R_mono h1 (fun _ _ => trivial), h2, ⟨h3.1, fun k hk hp => h3.2 k hk (by simpa using hp)⟩⟩
theorem heldNodeC (i l : Int) (n : Nat) (A : Option Addr) (a : Nat) (w : World) (hl : n ≤ 1048576) (ha : n ≤ a) (hA : Kd.C (Kd.int .i64) w A n (marksI 1 n)) :
    Calls Try.prog 42 #[.agg #[.int .i64 i, .int .i64 0, .int .i64 0, .int .i64 0, .int .i64 0, .slice A n a, .int .i64 0, .int .i64 0, .slice none 0 0, .int .i64 0, .int .i64 0, .int .i64 l, .slice none 0 0, .slice none 0 0], .int .i64 1] w
      fun e w' => e = .returned (.int .i64 (1 + n)) ∧ Below w.heap.size w w' := by
  have hn := marksI_length n 1
  have := laws_heldNode.calls 1048577 i 0 0 0 0 A a (marksI 1 n) 0 0 none 0 [] 0 0 l none 0 [] none 0 [] 1 (1 + n) w (by rw [hn]; exact hA) (by omega) (C_nilE w) (by simp) (C_nilI w) (by simp) (C_nilP w) (by simp) (by
    unfold laws_heldNode.f
    rw [heldI_f n 1 1048577 (by omega) (by omega) (by omega) (by omega)]
    have h1 : laws_heldLog.f 1048577 0 0 [] (1 + (n : Int)) = some (1 + (n : Int)) := by
      unfold laws_heldLog.f laws_heldEntryS.f laws_heldEntryS.l0
      simp
      try omega
    have h2 : laws_heldIntS.f 1048577 [] (1 + (n : Int)) = some (1 + (n : Int)) := by unfold laws_heldIntS.f laws_heldIntS.l0; simp
    have h3 : laws_heldPeerS.f 1048577 [] (1 + (n : Int)) = some (1 + (n : Int)) := by unfold laws_heldPeerS.f laws_heldPeerS.l0; simp
    have hneg : ¬ (1 + (n : Int) < 0) := by omega
    simp only [Option.bind_some, h1, h2, h3, if_neg hneg])
  rw [hn] at this
  exact this
end Go.Proofs.Ytofikijbmgejkaa.PFnExactNodeNew
end
