import Derived.Test.YtdjikjmjajlgcaaWWords
import Derived.WideShapes
import Derived.ChangeMaps5
import Derived.ChangeShapes
import Derived.ChangeArms
import Derived.DataElems
import Derived.RowKit
import Derived.Test.YtdjikjmjajlgcaaProg
import Derived.Below
import Derived.WalkKit
import Derived.KernelRfl
import Derived.RowKit3
import Derived.Deep.QuietTactic
import Derived.BigQuiet
import Derived.WideLaws
import Derived.OwnWalk
import Derived.Outline
import Derived.Lib.Hide
import Derived.Deep.Draws
import Derived.Lib.QuietBelow
import Derived.Test.YtdjikjmjajlgcaaPFnPutsA

/-! ### YtdjikjmjajlgcaaOpen -/
section
namespace Go.Proofs.Ytdjikjmjajlgcaa
open Go.RowKit Go.WideShapes Go.ChangeMaps Go.ChangeShapes Go.Proofs.YtdjikjmjajlgcaaW.PrintWords

/-- A value of a type, as an argument that can be read holds it. -/
def ArgOf (P : Program) (W : World) (t : TypeId) (v : Value) : Prop :=
  (∃ base, Value.okWide P W .any base t v) ∧ ∃ (H : Type) (enc : TypeId × Value → H) (fuel : Nat) (x : DataW H × List MemPlace), DataW.trod enc P W 0 (fun _ => true) true fuel t v.cells.toList = some x

/-- Cells of a type that can be read are of a kind. -/
def Opens (P : Program) (W : World) (t : TypeId) {α : Type} (d : Kd α) (G : α → Prop) : Prop :=
  ∀ (H : Type) (enc : TypeId × Value → H) (fuel : Nat) (cs : List Value) (x : DataW H × List MemPlace), DataW.trod enc P W 0 (fun _ => true) true fuel t cs = some x → ∃ a, d.K W a cs ∧ G a

/-- The fields of a struct, from one on. -/
def OpensL (P : Program) (W : World) (fs : List Field) (o : Nat) {β : Type} (d : Kd β) (G : β → Prop) : Prop :=
  ∀ (H : Type) (enc : TypeId × Value → H) (fuel : Nat) (cs : List Value),
    (∀ f ∈ fs, ∃ y, DataW.trod enc P W 0 (fun _ => true) true fuel f.type ((cs.drop f.offset).take (P.cellsOf f.type)) = some y) → cs.length = o + d.sz → ∃ b, d.K W b (cs.drop o) ∧ G b

section
variable {P : Program} {W : World} {t e : TypeId} {α β : Type} {d : Kd α} {G : α → Prop}

theorem opens_int {k : IntKind} (ht : P.underlying t = some (.int k)) : Opens P W t (Kd.int k) (fun n => (Lit.int k n).wf = true) := by
  intro H enc fuel cs x h
  obtain ⟨n, rfl, _, hw⟩ := DataW.trod_int ht h
  exact ⟨n, rfl, hw⟩
theorem opens_bool (ht : P.underlying t = some .bool) : Opens P W t Kd.bool (fun _ => True) := by
  intro H enc fuel cs x h
  obtain ⟨b, rfl, _⟩ := DataW.trod_bool ht h
  exact ⟨b, rfl, trivial⟩
theorem opens_string (ht : P.underlying t = some .string) : Opens P W t Kd.string (fun s => s.size ≤ maxLen) := by
  intro H enc fuel cs x h
  obtain ⟨s, rfl, _, hs⟩ := DataW.trod_string ht h
  exact ⟨s, rfl, hs⟩
theorem opens_slice (ht : P.underlying t = some (.slice e)) (hsz : d.sz = P.cellsOf e) (he : Opens P W e d G) :
    Opens P W t (Kd.slice e d) (fun xs => xs.length ≤ maxLen ∧ ∀ x ∈ xs, G x) := by
  intro H enc fuel cs x h
  rcases DataW.trod_slice ht h with ⟨rfl, _⟩ | ⟨a, len, cap, elems, rest, n, _, rfl, _, _, hl, hc, hlen, hel, _⟩
  · exact ⟨[], ⟨none, 0, rfl, Nat.le_refl _, rfl, by simp, fun h => absurd h (by simp)⟩, by simp, by simp⟩
  · have step : ∀ i : Fin len, ∃ (a' : α) (c : List Value), d.K W a' c ∧ G a' ∧ ∀ j u, c[j]? = some u → W.cell? (a.add (i.1 * P.cellsOf e + j)) = some u := by
      intro i
      have h1 := hel i.1 i.2
      obtain ⟨y, hy⟩ : ∃ y, elems[i.1]? = some y := ⟨elems[i.1]'(by omega), List.getElem?_eq_getElem (by omega)⟩
      rw [hy] at h1
      obtain ⟨c, hcs, ht2⟩ := Option.bind_eq_some_iff.1 h1
      obtain ⟨a', hK, hG⟩ := he H enc n c y ht2
      refine ⟨a', c, hK, hG, fun j u hj => ?_⟩
      unfold World.cells? at hcs
      rw [if_pos (Nat.zero_le _)] at hcs
      have hlt : j < P.cellsOf e := by
        have h2 := mapM_some_length hcs
        have h3 : j < c.length := by
          rcases Nat.lt_or_ge j c.length with h | h
          · exact h
          · rw [List.getElem?_eq_none h] at hj; cases hj
        simpa [h2] using h3
      have h4 := mapM_some_get hcs j j (by simp [hlt])
      rw [Addr.add_add] at h4
      exact h4.trans hj
    let f : Fin len → α := fun i => Classical.choose (step i)
    let c : Fin len → List Value := fun i => Classical.choose (Classical.choose_spec (step i))
    have hK : ∀ i, d.K W (f i) (c i) := fun i => (Classical.choose_spec (Classical.choose_spec (step i))).1
    have hG : ∀ i, G (f i) := fun i => (Classical.choose_spec (Classical.choose_spec (step i))).2.1
    have hcell : ∀ (i : Fin len) j u, (c i)[j]? = some u → W.cell? (a.add (i.1 * P.cellsOf e + j)) = some u := fun i => (Classical.choose_spec (Classical.choose_spec (step i))).2.2
    refine ⟨List.ofFn f, ⟨some a, cap, by simp, by simpa using hl, by simp, by unfold maxLen at hc; simp; omega, fun _ => ⟨a, rfl, fun j p hj => ?_⟩⟩, by simp; omega, ?_⟩
    · obtain ⟨hjl, hjp⟩ := List.getElem?_eq_some_iff.1 hj
      have hjl' : j < len := by simpa using hjl
      refine ⟨c ⟨j, hjl'⟩, d.K_len (hK _), ?_, fun i u hu => ?_⟩
      · have : p = f ⟨j, hjl'⟩ := by rw [← hjp]; simp
        rw [this]
        exact hK _
      · rw [hsz]
        exact hcell ⟨j, hjl'⟩ i u hu
    · intro y hy
      obtain ⟨i, rfl⟩ := List.mem_ofFn.1 hy
      exact hG i
theorem opensL_last {f : Field} {o : Nat} (ho : f.offset = o) (hf : Opens P W f.type d G) (hs : d.sz = P.cellsOf f.type) : OpensL P W [f] o d G := by
  intro H enc fuel cs h hl
  obtain ⟨y, hy⟩ := h f (by simp)
  obtain ⟨a, hK, hG⟩ := hf H enc fuel _ y hy
  refine ⟨a, ?_, hG⟩
  rw [ho, List.take_of_length_le (by rw [List.length_drop, hl, hs]; omega)] at hK
  exact hK
theorem opensL_cons {f : Field} {fs : List Field} {o : Nat} {d2 : Kd β} {G2 : β → Prop} (ho : f.offset = o) (hf : Opens P W f.type d G) (hs : d.sz = P.cellsOf f.type) (hr : OpensL P W fs (o + d.sz) d2 G2) :
    OpensL P W (f :: fs) o (Kd.pair d d2) (fun x => G x.1 ∧ G2 x.2) := by
  intro H enc fuel cs h hl
  obtain ⟨y, hy⟩ := h f (by simp)
  obtain ⟨a, hK, hG⟩ := hf H enc fuel _ y hy
  have hl' : cs.length = o + (d.sz + d2.sz) := hl
  obtain ⟨b, hK2, hG2⟩ := hr H enc fuel cs (fun f' hf' => h f' (by simp [hf'])) (by omega)
  refine ⟨(a, b), ⟨_, _, ?_, hK, hK2⟩, hG, hG2⟩
  rw [ho, ← hs, ← List.drop_drop, List.take_append_drop]
theorem opens_struct {fs : Array Field} (ht : P.underlying t = some (.struct fs)) (hs : d.sz = P.cellsOf t) (hf : OpensL P W fs.toList 0 d G) : Opens P W t d G := by
  intro H enc fuel cs x h
  obtain ⟨xs, n, _, _, hl, hn, hget⟩ := DataW.trod_struct ht h
  have hall : ∀ f ∈ fs.toList, ∃ y, DataW.trod enc P W 0 (fun _ => true) true n f.type ((cs.drop f.offset).take (P.cellsOf f.type)) = some y := by
    intro f hfm
    obtain ⟨i, hi, hif⟩ := List.getElem_of_mem hfm
    have h1 := hget i f (by rw [← hif]; simp [Array.getElem?_eq_getElem (by simpa using hi)])
    have hi' : i < xs.length := by rw [hn]; simpa using hi
    exact ⟨xs[i], by rw [h1, List.getElem?_eq_getElem hi']⟩
  obtain ⟨b, hK, hG⟩ := hf H enc n cs hall (by omega)
  exact ⟨b, by simpa using hK, hG⟩
theorem opens_iso {p : β → α} (inv : α → β) (hi : ∀ x, p (inv x) = x) (h : Opens P W t d G) : Opens P W t (Kd.iso d p) (fun x => G (p x)) := by
  intro H enc fuel cs x hx
  obtain ⟨a, hK, hG⟩ := h H enc fuel cs x hx
  exact ⟨inv a, by show d.K W (p (inv a)) cs; rw [hi]; exact hK, by show G (p (inv a)); rw [hi]; exact hG⟩

theorem Opens.imp {G' : α → Prop} (h : Opens P W t d G) (hi : ∀ x, G x → G' x) : Opens P W t d G' := by
  intro H enc fuel cs x hx
  obtain ⟨a, hK, hG⟩ := h H enc fuel cs x hx
  exact ⟨a, hK, hi a hG⟩

theorem arg_int {k : IntKind} {v : Value} (ht : P.underlying t = some (.int k)) (h : ArgOf P W t v) : ∃ n, v = .int k n ∧ (Lit.int k n).wf = true := by
  obtain ⟨⟨base, ho⟩, H, enc, fuel, x, hx⟩ := h
  obtain ⟨n, hv, _, _, hw⟩ := open_int (P := P) (d := x.1) (ps := x.2) ht ho ⟨fuel, hx⟩
  exact ⟨n, hv, hw⟩
theorem arg_bool {v : Value} (ht : P.underlying t = some .bool) (h : ArgOf P W t v) : ∃ b, v = .bool b := by
  obtain ⟨⟨base, ho⟩, H, enc, fuel, x, hx⟩ := h
  obtain ⟨b, hv, _⟩ := open_bool (P := P) (d := x.1) (ps := x.2) ht ho ⟨fuel, hx⟩
  exact ⟨b, hv⟩
theorem arg_string {v : Value} (ht : P.underlying t = some .string) (h : ArgOf P W t v) : ∃ s : ByteArray, v = .string s ∧ s.size ≤ maxLen := by
  obtain ⟨⟨base, ho⟩, H, enc, fuel, x, hx⟩ := h
  obtain ⟨s, hv, _, _, hs⟩ := open_string (P := P) (d := x.1) (ps := x.2) ht ho ⟨fuel, hx⟩
  exact ⟨s, hv, hs⟩
theorem arg_struct {fs : Array Field} {v : Value} (ht : P.underlying t = some (.struct fs)) (hd : Opens P W t d G) (h : ArgOf P W t v) : ∃ a cs, v = .agg cs ∧ d.K W a cs.toList ∧ G a := by
  obtain ⟨⟨base, ho⟩, H, enc, fuel, x, hx⟩ := h
  obtain ⟨cs, rfl, _⟩ := okWide_struct ht ho
  obtain ⟨a, hK, hG⟩ := hd H enc fuel _ x hx
  exact ⟨a, cs, rfl, hK, hG⟩
theorem arg_slice {v : Value} (ht : P.underlying t = some (.slice e)) (hsz : d.sz = P.cellsOf e) (hd : Opens P W e d G) (h : ArgOf P W t v) :
    ∃ A xs c, v = .slice A xs.length c ∧ xs.length ≤ c ∧ Kd.C d W A xs.length xs ∧ xs.length ≤ maxLen ∧ ∀ x ∈ xs, G x := by
  obtain ⟨⟨base, ho⟩, H, enc, fuel, x, hx⟩ := h
  obtain ⟨A, len, cap, rfl⟩ := okWide_slice ht ho
  obtain ⟨xs, ⟨A', c, he, hc, hC⟩, hG⟩ := opens_slice ht hsz hd H enc fuel _ x hx
  simp [Value.cells] at he
  obtain ⟨rfl, rfl, rfl⟩ := he
  exact ⟨A, xs, cap, rfl, hc, hC, hG.1, hG.2⟩
end
end Go.Proofs.Ytdjikjmjajlgcaa
end

/-! ### YtdjikjmjajlgcaaBase -/
section
namespace Go.Proofs.Ytdjikjmjajlgcaa
open Go.RowKit

theorem bcell {W w1 : World} (hb : Below W.heap.size W w1) : (∀ b o, b < W.heap.size → w1.cell? ⟨b, o, none⟩ = W.cell? ⟨b, o, none⟩) ∧ (∀ b o, b < W.heap.size → w1.frozen? ⟨b, o, none⟩ = W.frozen? ⟨b, o, none⟩) :=
  ⟨fun b o h => hb.cell (p := ⟨b, o, none⟩) h, fun b o h => hb.frozen (p := ⟨b, o, none⟩) h⟩
theorem bl_alloc {w W : World} (h : Below w.heap.size w W) (o : Obj) : Below w.heap.size w (W.alloc o) := h.alloc h.size o
theorem bl_drewN {w W : World} (h : Below w.heap.size w W) (n : Nat) : Below w.heap.size w (W.drewN n) := ⟨h.os, h.tape, h.output, h.size, h.block⟩
theorem bl_drew {w W : World} (h : Below w.heap.size w W) : Below w.heap.size w W.drew := h.drew
theorem bl_set {w W : World} {p : Addr} {v : Value} (h : Below w.heap.size w W) (hg : w.heap.size ≤ p.block) : Below w.heap.size w (W.setCell p v) := h.setCell hg _
theorem bl_then {w W w2 : World} (h : Below w.heap.size w W) (k : Below W.heap.size W w2) : Below w.heap.size w w2 :=
  h.trans ⟨k.os, k.tape, k.output, k.size, fun i hi => k.block i (Nat.lt_of_lt_of_le hi h.size)⟩
theorem cell_grow {w : World} {d : Nat} {os : Array Obj} {a : Addr} (h : a.block < w.heap.size) : (Go.Sort.grow (redrawn w d) os).cell? a = w.cell? a := (below_regrown w d os).cell h
theorem bl_regrown {w W : World} (h : ∃ p : Regrown, W = Go.Sort.grow (redrawn w p.d) p.os) : Below w.heap.size w W := by
  obtain ⟨p, rfl⟩ := h
  exact below_regrown w p.d p.os
theorem ret_int {k : IntKind} {a b : Int} (h : a = b) : Ending.returned (.int k a) = .returned (.int k b) := by rw [h]
theorem ret_str {a b : ByteArray} (h : a = b) : Ending.returned (.string a) = .returned (.string b) := by rw [h]

/-- Whether a number lies in a range. -/
def inB (n lo hi : Int) : Bool := decide (lo ≤ n) && decide (n ≤ hi)
theorem inB_iff {n lo hi : Int} : inB n lo hi = true ↔ lo ≤ n ∧ n ≤ hi := by simp [inB]

set_option maxHeartbeats 400000 in
theorem impl_in (n lo hi : Int) (w : World) :
    Calls Try.prog 93 #[.int .i64 n, .int .i64 lo, .int .i64 hi] w fun e w' => e = .returned (.bool (inB n lo hi)) ∧ w = w' := by
  go_enter Try.func93, Try.ntmps93
  go_wp2
  all_goals (go_ret; exact ⟨by first | (simp [inB, *]; done) | (simp [inB, *]; omega), rfl⟩)
set_option maxHeartbeats 400000 in
theorem spec_l01In (n lo hi : Int) (w : World) :
    Calls Try.prog 95 #[.int .i64 n, .int .i64 lo, .int .i64 hi] w fun e w' => e = .returned (.bool (inB n lo hi)) ∧ w = w' := by
  go_enter Try.func95, Try.ntmps95
  go_wp2
  all_goals (go_ret; exact ⟨by first | (simp [inB, *]; done) | (simp [inB, *]; omega), rfl⟩)
end Go.Proofs.Ytdjikjmjajlgcaa
end

/-! ### YtdjikjmjajlgcaaBlk0 -/
section
namespace Go.Proofs.Ytdjikjmjajlgcaa
open Go.RowKit
set_option linter.unusedSimpArgs false
set_option linter.unusedVariables false

/-- Only one block may have turned. -/
structure Upd (g : Nat) (w w' : World) : Prop where
  os : w'.os = w.os
  tape : w'.tape = w.tape
  output : w'.output = w.output
  size : w.heap.size ≤ w'.heap.size
  block : ∀ k, k < w.heap.size → k ≠ g → w'.heap[k]? = w.heap[k]?
theorem Upd.of_below {g : Nat} {w w' : World} (h : Below w.heap.size w w') : Upd g w w' := ⟨h.os, h.tape, h.output, h.size, fun k hk _ => h.block k hk⟩
theorem Upd.refl (g : Nat) (w : World) : Upd g w w := ⟨rfl, rfl, rfl, Nat.le_refl _, fun _ _ _ => rfl⟩
theorem Upd.trans {g : Nat} {a b c : World} (h : Upd g a b) (k : Upd g b c) : Upd g a c :=
  ⟨k.os.trans h.os, k.tape.trans h.tape, k.output.trans h.output, Nat.le_trans h.size k.size, fun i hi hg => (k.block i (Nat.lt_of_lt_of_le hi h.size) hg).trans (h.block i hi hg)⟩
theorem Upd.set {g : Nat} {w w' : World} (h : Upd g w w') (o : Nat) (v : Value) : Upd g w (w'.setCell ⟨g, o, none⟩ v) :=
  ⟨h.os, h.tape, h.output, by simpa using h.size, fun k hk hg => (Below.heap_setCell w' ⟨g, o, none⟩ v k hg).trans (h.block k hk hg)⟩
theorem Upd.alloc {g : Nat} {w w' : World} (h : Upd g w w') (o : Obj) : Upd g w (w'.alloc o) :=
  h.trans (Upd.of_below (bl_alloc (Below.refl _ _) o))
theorem Upd.drewN {g : Nat} {w w' : World} (h : Upd g w w') (n : Nat) : Upd g w (w'.drewN n) := h.trans (Upd.of_below (bl_drewN (Below.refl _ _) n))
theorem Upd.then {g : Nat} {w w' w2 : World} (h : Upd g w w') (k : Below w'.heap.size w' w2) : Upd g w w2 := h.trans (Upd.of_below k)
theorem Upd.below {g : Nat} {w w' w0 : World} (h : Upd g w w') (hb : Below w0.heap.size w0 w) (hg : w0.heap.size ≤ g) : Below w0.heap.size w0 w' :=
  hb.trans ⟨h.os, h.tape, h.output, h.size, fun k hk => h.block k (Nat.lt_of_lt_of_le hk hb.size) (by omega)⟩
theorem ucell {g : Nat} {W w1 : World} (h : Upd g W w1) : (∀ b o, b < W.heap.size → b ≠ g → w1.cell? ⟨b, o, none⟩ = W.cell? ⟨b, o, none⟩) ∧ (∀ b o, b < W.heap.size → b ≠ g → w1.frozen? ⟨b, o, none⟩ = W.frozen? ⟨b, o, none⟩) :=
  ⟨fun b o hb hg => World.cell?_of_block (w := W) (h.block b hb hg), fun b o hb hg => World.frozen?_of_block (w := W) (h.block b hb hg)⟩

/-! A block whose cells are known, carried from world to world. (own) -/
def Blk (T g : Nat) (cs : Array Value) (W : World) : Prop := W.heap[g]? = some (.cells cs T (0, 0))
section
variable {T g : Nat} {cs : Array Value} {W W1 : World}
theorem Blk.lt (h : Blk T g cs W) : g < W.heap.size := by
  unfold Blk at h
  rcases Nat.lt_or_ge g W.heap.size with h1 | h1
  · exact h1
  · rw [Array.getElem?_eq_none h1] at h; cases h
theorem Blk.cell (h : Blk T g cs W) (o : Nat) {v : Value} (hv : cs[o]? = some v) : W.cell? ⟨g, o, none⟩ = some v := by
  unfold Blk at h
  simp [World.cell?, h, hv]
theorem Blk.free (h : Blk T g cs W) (o : Nat) : W.frozen? ⟨g, o, none⟩ = false := by
  unfold Blk at h
  simp [World.frozen?, h]
theorem Blk.below (h : Blk T g cs W) (hb : Below W.heap.size W W1) : Blk T g cs W1 := (hb.block g h.lt).trans h
theorem Blk.upd {g' : Nat} (h : Blk T g cs W) (hu : Upd g' W W1) (hg : g ≠ g') : Blk T g cs W1 := (hu.block g h.lt hg).trans h
theorem Blk.alloc (h : Blk T g cs W) (o : Obj) : Blk T g cs (W.alloc o) := (Below.heap_alloc W o g h.lt).trans h
theorem Blk.far (h : Blk T g cs W) {a : Addr} (hg : g ≠ a.block) (v : Value) : Blk T g cs (W.setCell a v) := (Below.heap_setCell W a v g hg).trans h
theorem Blk.drewN (h : Blk T g cs W) (n : Nat) : Blk T g cs (W.drewN n) := h
theorem Blk.new (T : Nat) (cs : Array Value) (W : World) : Blk T W.heap.size cs (W.alloc (.cells cs T)) := by
  unfold Blk
  simpa using heap_alloc_new W _
theorem Blk.newE {g : Nat} (T : Nat) (cs : Array Value) (W : World) (h : g = W.heap.size) : Blk T g cs (W.alloc (.cells cs T)) := by
  subst h; exact Blk.new T cs W
theorem Blk.set (h : Blk T g cs W) (o : Nat) (v : Value) {cs' : Array Value} (hc : cs.setIfInBounds o v = cs') : Blk T g cs' (W.setCell ⟨g, o, none⟩ v) := by
  unfold Blk at *
  subst hc
  simp [World.setCell, Array.getElem?_modify, h, Array.setIfInBounds]
end
end Go.Proofs.Ytdjikjmjajlgcaa
end

/-! ### YtdjikjmjajlgcaaQFnPutsx3 -/
section
namespace Go.Proofs.Ytdjikjmjajlgcaa.PFnPuts
open Go.RowKit Go.Proofs.YtdjikjmjajlgcaaW.PrintWords Go.Proofs.YtdjikjmjajlgcaaW.PrintLast Go.Proofs.YtdjikjmjajlgcaaW.PrintMore
attribute [local go_sem] max2_int min2_int max_two min_two max_three min_three max_four min_four   -- for this text's walks alone
set_option linter.unusedVariables false
set_option linter.unusedSimpArgs false

/-- A state of type 186 at block g of W; what its slices lead to came in by w0. -/
def IsS186 (w0 W : World) (g : Nat) (f0 : List Int) (f1 : Int) (f2 : Int) : Prop := ∃ A0 c0, W.heap[g]? = some (.cells #[.slice A0 f0.length c0, .int .i64 f1, .int .i64 f2] 186 (0, 0)) ∧ w0.heap.size ≤ g ∧ Kd.C (Kd.int .u8) w0 A0 f0.length f0
theorem IsS186.grown {w0 W : World} {g : Nat} {f0 : List Int} {f1 : Int} {f2 : Int} {W1 : World} {row : Option Nat} (h : IsS186 w0 W g f0 f1 f2) (hw : W.grownBy W1 row) (hne : some g ≠ row) : IsS186 w0 W1 g f0 f1 f2 := by
  obtain ⟨A0, c0, hb, hg, hr0⟩ := h
  exact ⟨A0, c0, blk_grown hb hw hne, hg, hr0⟩
theorem IsS186.own_neN {w0 W : World} {g : Nat} {f0 : List Int} {f1 : Int} {f2 : Int} {α : Type} {d : Kd α} {e : Nat} {base : Nat} {ok : Nat → Prop} {v : Value} {xs : List α} (h : IsS186 w0 W g f0 f1 f2) (ho : Kd.N d e W base ok v xs) (ht : e ≠ 186) : some g ≠ v.ownBlock := by
  obtain ⟨A0, c0, hb, hg, hr0⟩ := h
  exact Kd.N_ne ho hb ht
theorem IsS186.fresh {w0 W : World} {g : Nat} {f0 : List Int} {f1 : Int} {f2 : Int} (h : IsS186 w0 W g f0 f1 f2) : ∀ k, W.heap.size ≤ k → k ≠ g := by
  obtain ⟨A0, c0, hb, hg, hr0⟩ := h
  exact Kd.freshB hb
theorem IsS186.kept {w0 W : World} {g : Nat} {f0 : List Int} {f1 : Int} {f2 : Int} {W1 : World} {S : Nat → Prop} (h : IsS186 w0 W g f0 f1 f2) (hk : Kept W W1 S) (hne : ¬ S g) : IsS186 w0 W1 g f0 f1 f2 := by
  obtain ⟨A0, c0, hb, hg, hr0⟩ := h
  exact ⟨A0, c0, blk_kept hb hk hne, hg, hr0⟩
theorem IsS186.below {w0 W : World} {g : Nat} {f0 : List Int} {f1 : Int} {f2 : Int} {W1 : World} (h : IsS186 w0 W g f0 f1 f2) (hw : Below W.heap.size W W1) : IsS186 w0 W1 g f0 f1 f2 := h.grown (grown_of_below hw none) (by simp)
theorem IsS186.alloc {w0 W : World} {g : Nat} {f0 : List Int} {f1 : Int} {f2 : Int} (h : IsS186 w0 W g f0 f1 f2) (o : Obj) : IsS186 w0 (W.alloc o) g f0 f1 f2 := h.below (below_alloc (Below.refl _ _) o)
theorem IsS186.drewN {w0 W : World} {g : Nat} {f0 : List Int} {f1 : Int} {f2 : Int} (h : IsS186 w0 W g f0 f1 f2) (m : Nat) : IsS186 w0 (W.drewN m) g f0 f1 f2 := h
theorem IsS186.drew {w0 W : World} {g : Nat} {f0 : List Int} {f1 : Int} {f2 : Int} (h : IsS186 w0 W g f0 f1 f2) : IsS186 w0 W.drew g f0 f1 f2 := h
theorem IsS186.at_ {w0 W : World} {g : Nat} {f0 : List Int} {f1 : Int} {f2 : Int} {w' : World} {m : Nat} (hq : W.drewN m = w') (h : IsS186 w0 W g f0 f1 f2) : IsS186 w0 w' g f0 f1 f2 := by subst hq; exact IsS186.drewN h m
theorem IsS186.apart {w0 W : World} {g : Nat} {f0 : List Int} {f1 : Int} {f2 : Int} {α : Type} {d : Kd α} {e : Nat} {base : Nat} {ok : Nat → Prop} {v : Value} {xs : List α} (h : IsS186 w0 W g f0 f1 f2) (ho : d.R e W base ok v xs) (ht : ∀ q, q ∈ e :: d.E → q ≠ 186) : d.R e W base (fun k => ok k ∧ k ≠ g) v xs := by
  obtain ⟨A0, c0, hb, hg, hr0⟩ := h
  exact Kd.R_types ho hb ht
theorem IsS186.own_ne {w0 W : World} {g : Nat} {f0 : List Int} {f1 : Int} {f2 : Int} {α : Type} {d : Kd α} {e : Nat} {base : Nat} {ok : Nat → Prop} {v : Value} {xs : List α} (h : IsS186 w0 W g f0 f1 f2) (ho : d.R e W base ok v xs) (ht : e ≠ 186) : some g ≠ v.ownBlock := by
  obtain ⟨A0, c0, hb, hg, hr0⟩ := h
  exact Kd.R_ne ho hb ht
theorem IsS186.apartQ {w0 W : World} {g : Nat} {f0 : List Int} {f1 : Int} {f2 : Int} {α : Type} {d : Kd α} {e : Nat} {base : Nat} {ok : Nat → Prop} {v : Value} {xs : List α} (h : IsS186 w0 W g f0 f1 f2) (ho : d.Q e W base ok v xs) (ht : ∀ q, q ∈ e :: d.E → q ≠ 186) : d.Q e W base (fun k => ok k ∧ k ≠ g) v xs := by
  obtain ⟨A0, c0, hb, hg, hr0⟩ := h
  exact Kd.Q_types ho hb ht
theorem IsS186.own_neQ {w0 W : World} {g : Nat} {f0 : List Int} {f1 : Int} {f2 : Int} {α : Type} {d : Kd α} {e : Nat} {base : Nat} {ok : Nat → Prop} {v : Value} {xs : List α} (h : IsS186 w0 W g f0 f1 f2) (ho : d.Q e W base ok v xs) (ht : e ≠ 186) : some g ≠ v.ownBlock := by
  obtain ⟨A0, c0, hb, hg, hr0⟩ := h
  exact Kd.Q_ne ho hb ht
theorem IsS186.apartS {w0 W : World} {g : Nat} {f0 : List Int} {f1 : Int} {f2 : Int} {α : Type} {d : Kd α} {e : Nat} {base : Nat} {ok : Nat → Prop} {v : Value} {xs : List α} (h : IsS186 w0 W g f0 f1 f2) (ho : d.S e W base ok v xs) (ht : ∀ q, q ∈ e :: d.E → q ≠ 186) : d.S e W base (fun k => ok k ∧ k ≠ g) v xs := by
  obtain ⟨A0, c0, hb, hg, hr0⟩ := h
  exact Kd.S_types ho hb ht
theorem IsS186.own_neS {w0 W : World} {g : Nat} {f0 : List Int} {f1 : Int} {f2 : Int} {α : Type} {d : Kd α} {e : Nat} {base : Nat} {ok : Nat → Prop} {v : Value} {xs : List α} (h : IsS186 w0 W g f0 f1 f2) (ho : d.S e W base ok v xs) (ht : e ≠ 186) : some g ≠ v.ownBlock := by
  obtain ⟨A0, c0, hb, hg, hr0⟩ := h
  exact Kd.S_ne ho hb ht
theorem IsS186.lt {w0 W : World} {g : Nat} {f0 : List Int} {f1 : Int} {f2 : Int} (h : IsS186 w0 W g f0 f1 f2) : g < W.heap.size := by
  obtain ⟨A0, c0, hb, hg, hr0⟩ := h
  exact blk_lt hb
theorem IsS186.ge {w0 W : World} {g : Nat} {f0 : List Int} {f1 : Int} {f2 : Int} (h : IsS186 w0 W g f0 f1 f2) : w0.heap.size ≤ g := by
  obtain ⟨A0, c0, hb, hg, hr0⟩ := h
  exact hg
theorem IsS186.ne_blk {w0 W : World} {g : Nat} {f0 : List Int} {f1 : Int} {f2 : Int} {a : Nat} {cs : Array Value} {t : TypeId} {fr : Nat × Nat} (h : IsS186 w0 W g f0 f1 f2) (hb2 : W.heap[a]? = some (.cells cs t fr)) (ht : t ≠ 186) : g ≠ a := by
  obtain ⟨A0, c0, hb, hg, hr0⟩ := h
  rintro rfl
  rw [hb] at hb2
  injection hb2 with hb2
  injection hb2 with _ ht2
  exact ht ht2.symm
theorem IsS186.far {w0 W : World} {g : Nat} {f0 : List Int} {f1 : Int} {f2 : Int} {p : Addr} (h : IsS186 w0 W g f0 f1 f2) (hne : g ≠ p.block) (u : Value) : IsS186 w0 (W.setCell p u) g f0 f1 f2 := by
  obtain ⟨A0, c0, hb, hg, hr0⟩ := h
  exact ⟨A0, c0, blk_far hb hne u, hg, hr0⟩
theorem cellS186_0 {W : World} {g : Nat} {A0 : Option Addr} {c0 : Nat} {f0 : List Int} {f1 : Int} {f2 : Int} (h : W.heap[g]? = some (.cells #[.slice A0 f0.length c0, .int .i64 f1, .int .i64 f2] 186 (0, 0))) : W.cell? ⟨g, 0, none⟩ = some (.slice A0 f0.length c0) := (blk_cell h 0).trans rfl
theorem cellS186_1 {W : World} {g : Nat} {A0 : Option Addr} {c0 : Nat} {f0 : List Int} {f1 : Int} {f2 : Int} (h : W.heap[g]? = some (.cells #[.slice A0 f0.length c0, .int .i64 f1, .int .i64 f2] 186 (0, 0))) : W.cell? ⟨g, 1, none⟩ = some (.int .i64 f1) := (blk_cell h 1).trans rfl
theorem IsS186.set_1 {w0 W : World} {g : Nat} {f0 : List Int} {f1 : Int} {f2 : Int} (h : IsS186 w0 W g f0 f1 f2) (x : Int) : IsS186 w0 (W.setCell ⟨g, 1, none⟩ (.int .i64 x)) g f0 x f2 := by
  obtain ⟨A0, c0, hb, hg, hr0⟩ := h
  exact ⟨A0, c0, by simpa using blk_set hb 1 (.int .i64 x), hg, hr0⟩
theorem cellS186_2 {W : World} {g : Nat} {A0 : Option Addr} {c0 : Nat} {f0 : List Int} {f1 : Int} {f2 : Int} (h : W.heap[g]? = some (.cells #[.slice A0 f0.length c0, .int .i64 f1, .int .i64 f2] 186 (0, 0))) : W.cell? ⟨g, 2, none⟩ = some (.int .i64 f2) := (blk_cell h 2).trans rfl
theorem IsS186.set_2 {w0 W : World} {g : Nat} {f0 : List Int} {f1 : Int} {f2 : Int} (h : IsS186 w0 W g f0 f1 f2) (x : Int) : IsS186 w0 (W.setCell ⟨g, 2, none⟩ (.int .i64 x)) g f0 f1 x := by
  obtain ⟨A0, c0, hb, hg, hr0⟩ := h
  exact ⟨A0, c0, by simpa using blk_set hb 2 (.int .i64 x), hg, hr0⟩
theorem IsS186.new (w0 W : World) (A0 : Option Addr) (c0 : Nat) (f0 : List Int) (f1 : Int) (f2 : Int) (hB : Below w0.heap.size w0 W) (hr0 : Kd.C (Kd.int .u8) w0 A0 f0.length f0) : IsS186 w0 (W.alloc (.cells #[.slice A0 f0.length c0, .int .i64 f1, .int .i64 f2] 186)) W.heap.size f0 f1 f2 := ⟨A0, c0, by simpa using heap_alloc_new W _, hB.size, hr0⟩

/-! ### spec_l01New: function 89 -/
def spec_l01New.l0 : Nat → List Int → Int → Int → Option (List Int × Int × Int)
  | 0, _, _, _ => none
  | k + 1, x0, x3, x4 => if x4 < (x0.length : Int) then (if x4 < 4000 then (if 0 ≤ x4 then (spec_l01New.l0 k x0 (Go.bits .and .i64 (wrap64 ((wrap64 ((wrap64 (x3 * 131)) + (wrap64 (rd x0 x4)))) + 7)) 1073741823) (wrap64 (x4 + 1))) else (none)) else (some (x0, 0, x3))) else (some (x0, 0, x3))
def spec_l01New.f (k : Nat) (l0 : List Int) : Option (List Int × Int × Int) := spec_l01New.l0 k l0 (wrap64 (11701 + (l0.length : Int))) 0
theorem spec_l01New.mono_l : ∀ k, (∀ y0 y1 y2, LeO (spec_l01New.l0 k y0 y1 y2) (spec_l01New.l0 (k + 1) y0 y1 y2))
  | 0 => fun _ _ _ r h => by simp [spec_l01New.l0] at h
  | k + 1 => by
    have ih0 := spec_l01New.mono_l k
    · intro y0 y1 y2
      unfold spec_l01New.l0
      repeat' first
      | (with_reducible exact ih0 _ _ _)
      | (with_reducible exact LeO.refl _)
      | (with_reducible exact LeO.none _)
      | (with_reducible refine LeO.ite ?_ ?_)
      | (with_reducible refine LeO.bind ?_ (fun _ => ?_))
      | exact ih0 _ _ _
      | exact LeO.none _
      | refine LeO.ite ?_ ?_
      | refine LeO.bind ?_ (fun _ => ?_)
theorem spec_l01New.mono : ∀ a0 k, LeO (spec_l01New.f k a0) (spec_l01New.f (k + 1) a0) := by
  intro a0 k
  have ih0 := spec_l01New.mono_l k
  unfold spec_l01New.f
  repeat' first
      | (with_reducible exact ih0 _ _ _)
      | (with_reducible exact LeO.refl _)
      | (with_reducible exact LeO.none _)
      | (with_reducible refine LeO.ite ?_ ?_)
      | (with_reducible refine LeO.bind ?_ (fun _ => ?_))
      | exact ih0 _ _ _
      | exact LeO.none _
      | refine LeO.ite ?_ ?_
      | refine LeO.bind ?_ (fun _ => ?_)
end Go.Proofs.Ytdjikjmjajlgcaa.PFnPuts
end

/-! ### YtdjikjmjajlgcaaQFnPutsx8 -/
section
namespace Go.Proofs.Ytdjikjmjajlgcaa.PFnPuts
open Go.RowKit Go.Proofs.YtdjikjmjajlgcaaW.PrintWords Go.Proofs.YtdjikjmjajlgcaaW.PrintLast Go.Proofs.YtdjikjmjajlgcaaW.PrintMore
attribute [local go_sem] max2_int min2_int max_two min_two max_three min_three max_four min_four   -- for this text's walks alone
set_option linter.unusedVariables false
set_option linter.unusedSimpArgs false

/-! ### spec_l01Byte: function 113 -/
def spec_l01Byte.f (s0_0 : List Int) (s0_1 : Int) (s0_2 : Int) : Option (Int × Int × Int) := if s0_1 < (s0_0.length : Int) then (if 0 ≤ s0_1 then (some (Go.bits .and .i64 (wrap64 ((Go.bits .and .i64 (Go.bits .xor .i64 ((wrap64 ((wrap64 (s0_2 * 6364136223846793005)) + 1442695040888963407)) / 8589934592) ((wrap64 ((wrap64 (s0_2 * 6364136223846793005)) + 1442695040888963407)) / 35184372088832)) 255) + (wrap64 (rd s0_0 s0_1)))) 255, wrap64 (s0_1 + 1), wrap64 ((wrap64 (s0_2 * 6364136223846793005)) + 1442695040888963407))) else (none)) else (some (Go.bits .and .i64 (Go.bits .xor .i64 ((wrap64 ((wrap64 (s0_2 * 6364136223846793005)) + 1442695040888963407)) / 8589934592) ((wrap64 ((wrap64 (s0_2 * 6364136223846793005)) + 1442695040888963407)) / 35184372088832)) 255, s0_1, wrap64 ((wrap64 (s0_2 * 6364136223846793005)) + 1442695040888963407)))
set_option maxHeartbeats 8000000 in
set_option maxRecDepth 100000 in
theorem spec_l01Byte.calls (g : Nat) (s0_0 : List Int) (s0_1 : Int) (s0_2 : Int) (r1 : Int) (r2 : Int) (r3 : Int) (w0 w : World) (hI : IsS186 w0 w g s0_0 s0_1 s0_2) (hB : Below w0.heap.size w0 w) (h : spec_l01Byte.f s0_0 s0_1 s0_2 = some (r1, r2, r3)) :
    Calls Try.prog 113 #[.pointer (some ⟨g, 0, none⟩)] w fun e w' => e = .returned (.int .i64 r1) ∧ IsS186 w0 w' g s0_0 r2 r3 ∧ Below w0.heap.size w0 w' ∧ KeepBut w w' g none := by
  have HI0 := Aside0.mk hI
  have HK := Aside0.mk (KeepBut.refl w g none)
  have HL := Aside0.mk hB.size
  clear hI
  have HW0 := Aside0.mk hB.size
  have HB := Aside0.mk hB
  clear hB
  have H : (if s0_1 < (s0_0.length : Int) then (if 0 ≤ s0_1 then (some (Go.bits .and .i64 (wrap64 ((Go.bits .and .i64 (Go.bits .xor .i64 ((wrap64 ((wrap64 (s0_2 * 6364136223846793005)) + 1442695040888963407)) / 8589934592) ((wrap64 ((wrap64 (s0_2 * 6364136223846793005)) + 1442695040888963407)) / 35184372088832)) 255) + (wrap64 (rd s0_0 s0_1)))) 255, wrap64 (s0_1 + 1), wrap64 ((wrap64 (s0_2 * 6364136223846793005)) + 1442695040888963407))) else (none)) else (some (Go.bits .and .i64 (Go.bits .xor .i64 ((wrap64 ((wrap64 (s0_2 * 6364136223846793005)) + 1442695040888963407)) / 8589934592) ((wrap64 ((wrap64 (s0_2 * 6364136223846793005)) + 1442695040888963407)) / 35184372088832)) 255, s0_1, wrap64 ((wrap64 (s0_2 * 6364136223846793005)) + 1442695040888963407)))) = some (r1, r2, r3) := h
  clear h
  by_cases c2 : s0_1 < (s0_0.length : Int)
  · rw [if_pos c2] at H
    have c2b0 : decide (s0_1 < (s0_0.length : Int)) = true := decide_eq_true c2
    clear c2
    by_cases c3 : 0 ≤ s0_1
    · rw [if_pos c3] at H
      have c3b0 : decide (0 ≤ s0_1) = true := decide_eq_true c3
      clear c3
      simp only [Option.some.injEq, Prod.mk.injEq] at H
      obtain ⟨rfl, rfl, rfl⟩ := H
      obtain ⟨ASz4_0, cSz4_0, HGz4, hgz4, HSz4_0⟩ := HI0.out
      have hcz4_0 := cellS186_0 HGz4
      have hcz4_1 := cellS186_1 HGz4
      have hcz4_2 := cellS186_2 HGz4
      have hfz4_1 := blk_frozen HGz4 1
      have hfz4_2 := blk_frozen HGz4 2
      clear HGz4 hgz4
      have p118 : 0 ≤ (s0_1 : Int) := of_decide_eq_true (by first | (with_reducible assumption) | assumption)
      have q118 : s0_1 < (s0_0.length : Int) := of_decide_eq_true (by first | (with_reducible assumption) | assumption)
      obtain ⟨ad118, e118, hx118_0⟩ := Kd.at_int HSz4_0 s0_1 p118 q118
      cases e118
      have hn118_0 : ad118.block ≠ g := Nat.ne_of_lt (Nat.lt_of_lt_of_le (by have := World.block_lt_of_cell? _ _ hx118_0; first | rwa [add_block] at this | exact this) (IsS186.ge HI0.out))
      replace hx118_0 := pw_cell_below HB.out hx118_0
      replace hx118_0 := (cell_far (p := ⟨g, 2, none⟩) (by first | (rw [add_block]; exact hn118_0) | (show (Addr.add _ _).block ≠ _; rw [add_block]; exact hn118_0) | exact hn118_0) (.int .i64 (wrap64 ((wrap64 (s0_2 * 6364136223846793005)) + 1442695040888963407)))).trans hx118_0
      (try have hy118_0 := fun (n_ : Nat) => (show (((w.drewN n_).setCell ⟨g, 2, none⟩ (.int .i64 (wrap64 ((wrap64 (s0_2 * 6364136223846793005)) + 1442695040888963407))))).cell? _ = some _ from hx118_0))
      clear hn118_0
      replace p118 := eq_true p118
      replace q118 := eq_true q118
      go_enter Try.func113, Try.ntmps113
      go_wp2
      repeat (go_quiet (fail); try go_wp2)
      go_ret
      exact ⟨by first | rfl | (simp [errW_none, errW_some] <;> rfl) | (simp [*, errW_none, errW_some] <;> rfl), by repeat (first | (with_reducible first | exact HI0.out | apply IsS186.alloc | apply IsS186.drewN | apply IsS186.drew | apply IsS186.set_1 | apply IsS186.set_2) | exact HI0.out), by repeat (first | (with_reducible first | exact HB.out | apply below_alloc | apply pw_below_drewN | apply below_drew1 | refine below_set ?_ (IsS186.ge HI0.out)) | exact HB.out), by repeat (first | (with_reducible first | exact HK.out | apply KeepBut.set_ | apply keep_drewN | apply keep_drew | apply keep_alloc) | exact HK.out)⟩
    · rw [if_neg c3] at H
      exact absurd H (by simp)
  · rw [if_neg c2] at H
    have c2b0 : decide (s0_1 < (s0_0.length : Int)) = false := decide_eq_false c2
    clear c2
    simp only [Option.some.injEq, Prod.mk.injEq] at H
    obtain ⟨rfl, rfl, rfl⟩ := H
    obtain ⟨ASz5_0, cSz5_0, HGz5, hgz5, HSz5_0⟩ := HI0.out
    have hcz5_0 := cellS186_0 HGz5
    have hcz5_1 := cellS186_1 HGz5
    have hcz5_2 := cellS186_2 HGz5
    have hfz5_1 := blk_frozen HGz5 1
    have hfz5_2 := blk_frozen HGz5 2
    clear HGz5 hgz5
    go_enter Try.func113, Try.ntmps113
    go_wp2
    repeat (go_quiet (fail); try go_wp2)
    go_ret
    exact ⟨by first | rfl | (simp [errW_none, errW_some] <;> rfl) | (simp [*, errW_none, errW_some] <;> rfl), by repeat (first | (with_reducible first | exact HI0.out | apply IsS186.alloc | apply IsS186.drewN | apply IsS186.drew | apply IsS186.set_1 | apply IsS186.set_2) | exact HI0.out), by repeat (first | (with_reducible first | exact HB.out | apply below_alloc | apply pw_below_drewN | apply below_drew1 | refine below_set ?_ (IsS186.ge HI0.out)) | exact HB.out), by repeat (first | (with_reducible first | exact HK.out | apply KeepBut.set_ | apply keep_drewN | apply keep_drew | apply keep_alloc) | exact HK.out)⟩

end Go.Proofs.Ytdjikjmjajlgcaa.PFnPuts
end

/-! ### YtdjikjmjajlgcaaQFnPutsx9 -/
section
namespace Go.Proofs.Ytdjikjmjajlgcaa.PFnPuts
open Go.RowKit Go.Proofs.YtdjikjmjajlgcaaW.PrintWords Go.Proofs.YtdjikjmjajlgcaaW.PrintLast Go.Proofs.YtdjikjmjajlgcaaW.PrintMore
attribute [local go_sem] max2_int min2_int max_two min_two max_three min_three max_four min_four   -- for this text's walks alone
set_option linter.unusedVariables false
set_option linter.unusedSimpArgs false

/-! ### spec_l01Below: function 105 -/
def spec_l01Below.f (s0_0 : List Int) (s0_1 : Int) (s0_2 : Int) (a1 : Int) : Option (Int × Int × Int) := if a1 ≤ 0 then (some (0, s0_1, s0_2)) else (if a1 ≤ 256 then ((spec_l01Byte.f s0_0 s0_1 s0_2).bind fun bt119 => (if a1 = 0 then (none) else (some (Int.tmod bt119.1 a1, bt119.2.1, bt119.2.2)))) else ((spec_l01Byte.f s0_0 s0_1 s0_2).bind fun bt122 => ((spec_l01Byte.f s0_0 bt122.2.1 bt122.2.2).bind fun bt125 => ((spec_l01Byte.f s0_0 bt125.2.1 bt125.2.2).bind fun bt128 => ((spec_l01Byte.f s0_0 bt128.2.1 bt128.2.2).bind fun bt131 => (if a1 = 0 then (none) else (some (Int.tmod (wrap64 ((wrap64 ((wrap64 ((wrap64 (bt122.1 * 16777216)) + (wrap64 (bt125.1 * 65536)))) + (wrap64 (bt128.1 * 256)))) + bt131.1)) a1, bt131.2.1, bt131.2.2))))))))
set_option maxHeartbeats 8000000 in
set_option maxRecDepth 100000 in
theorem spec_l01Below.calls (g : Nat) (s0_0 : List Int) (s0_1 : Int) (s0_2 : Int) (a1 : Int) (r1 : Int) (r2 : Int) (r3 : Int) (w0 w : World) (hI : IsS186 w0 w g s0_0 s0_1 s0_2) (hB : Below w0.heap.size w0 w) (h : spec_l01Below.f s0_0 s0_1 s0_2 a1 = some (r1, r2, r3)) :
    Calls Try.prog 105 #[.pointer (some ⟨g, 0, none⟩), .int .i64 a1] w fun e w' => e = .returned (.int .i64 r1) ∧ IsS186 w0 w' g s0_0 r2 r3 ∧ Below w0.heap.size w0 w' ∧ KeepBut w w' g none := by
  have HI0 := Aside0.mk hI
  have HK := Aside0.mk (KeepBut.refl w g none)
  have HL := Aside0.mk hB.size
  clear hI
  have HW0 := Aside0.mk hB.size
  have HB := Aside0.mk hB
  clear hB
  have H : (if a1 ≤ 0 then (some (0, s0_1, s0_2)) else (if a1 ≤ 256 then ((spec_l01Byte.f s0_0 s0_1 s0_2).bind fun bt119 => (if a1 = 0 then (none) else (some (Int.tmod bt119.1 a1, bt119.2.1, bt119.2.2)))) else ((spec_l01Byte.f s0_0 s0_1 s0_2).bind fun bt122 => ((spec_l01Byte.f s0_0 bt122.2.1 bt122.2.2).bind fun bt125 => ((spec_l01Byte.f s0_0 bt125.2.1 bt125.2.2).bind fun bt128 => ((spec_l01Byte.f s0_0 bt128.2.1 bt128.2.2).bind fun bt131 => (if a1 = 0 then (none) else (some (Int.tmod (wrap64 ((wrap64 ((wrap64 ((wrap64 (bt122.1 * 16777216)) + (wrap64 (bt125.1 * 65536)))) + (wrap64 (bt128.1 * 256)))) + bt131.1)) a1, bt131.2.1, bt131.2.2))))))))) = some (r1, r2, r3) := h
  clear h
  by_cases c3 : a1 ≤ 0
  · rw [if_pos c3] at H
    have c3b0 : decide (a1 ≤ 0) = true := decide_eq_true c3
    clear c3
    simp only [Option.some.injEq, Prod.mk.injEq] at H
    obtain ⟨rfl, rfl, rfl⟩ := H
    go_enter Try.func105, Try.ntmps105
    go_wp2
    go_ret
    exact ⟨by first | rfl | (simp [errW_none, errW_some] <;> rfl) | (simp [*, errW_none, errW_some] <;> rfl), by repeat (first | (with_reducible first | exact HI0.out | apply IsS186.alloc | apply IsS186.drewN | apply IsS186.drew | apply IsS186.set_1 | apply IsS186.set_2) | exact HI0.out), by repeat (first | (with_reducible first | exact HB.out | apply below_alloc | apply pw_below_drewN | apply below_drew1 | refine below_set ?_ (IsS186.ge HI0.out)) | exact HB.out), by repeat (first | (with_reducible first | exact HK.out | apply KeepBut.set_ | apply keep_drewN | apply keep_drew | apply keep_alloc) | exact HK.out)⟩
  · rw [if_neg c3] at H
    have c3b0 : decide (a1 ≤ 0) = false := decide_eq_false c3
    clear c3
    by_cases c4 : a1 ≤ 256
    · rw [if_pos c4] at H
      have c4b0 : decide (a1 ≤ 256) = true := decide_eq_true c4
      clear c4
      replace H := Option.bind_eq_some_iff.mp H
      obtain ⟨⟨t119, t120, t121⟩, A50, H⟩ := H
      replace H : (if a1 = 0 then (none) else (some (Int.tmod t119 a1, t120, t121))) = some (r1, r2, r3) := H
      have A5 := Aside0.mk A50
      clear A50
      by_cases c6 : a1 = 0
      · rw [if_pos c6] at H
        exact absurd H (by simp)
      · rw [if_neg c6] at H
        have c6b0 : (a1 == 0) = false := beq_eq_false_iff_ne.mpr c6
        have c6b1 : (a1 != 0) = true := bne_iff_ne.mpr c6
        simp only [Option.some.injEq, Prod.mk.injEq] at H
        obtain ⟨rfl, rfl, rfl⟩ := H
        go_enter Try.func105, Try.ntmps105
        go_wp2_with (first | ((with_reducible refine gate_callee (f := 113) rfl ?_); refine goesL_ (some 14) rfl rfl Try.func113 (by kernel_rfl) rfl #[.pointer (some ⟨g, 0, none⟩)] rfl (by (try simp only [List.map_toArray, List.map_cons, List.map_nil]); first | done | rfl | (simp only [List.length_drop, List.length_take]; rfl)) ?_; (with_reducible refine (spec_l01Byte.calls g s0_0 s0_1 s0_2 t119 t120 t121 w0 _ ?side1 ?side2 A5.out).mono ?_); (case side1 => repeat (first | (with_reducible first | exact HI0.out | apply IsS186.alloc | apply IsS186.drewN | apply IsS186.drew | apply IsS186.set_1 | apply IsS186.set_2) | exact HI0.out)); (case side2 => repeat (first | (with_reducible first | exact HB.out | apply below_alloc | apply pw_below_drewN | apply below_drew1 | refine below_set ?_ (IsS186.ge HI0.out)) | exact HB.out)); rintro e w7 ⟨rfl, hi, hb, hk⟩; refine ⟨_, rfl, ?_⟩; have n0_ := Aside0.mk (KeepBut.trans (by repeat (first | (with_reducible first | exact HK.out | apply KeepBut.set_ | apply keep_drewN | apply keep_drew | apply keep_alloc) | exact HK.out)) hk (.inl rfl)); have n1_ := Aside0.mk (hb); have n2_ := Aside0.mk (hi); clear HK; clear HB; clear HI0; have HK := n0_; have HB := n1_; have HI0 := n2_; clear n0_ n1_ n2_; (try clear hb); (try clear hb2); (try clear hk); (try clear hi)))
        go_ret
        exact ⟨by first | rfl | (simp [errW_none, errW_some] <;> rfl) | (simp [*, errW_none, errW_some] <;> rfl), by repeat (first | (with_reducible first | exact HI0.out | apply IsS186.alloc | apply IsS186.drewN | apply IsS186.drew | apply IsS186.set_1 | apply IsS186.set_2) | exact HI0.out), by repeat (first | (with_reducible first | exact HB.out | apply below_alloc | apply pw_below_drewN | apply below_drew1 | refine below_set ?_ (IsS186.ge HI0.out)) | exact HB.out), by repeat (first | (with_reducible first | exact HK.out | apply KeepBut.set_ | apply keep_drewN | apply keep_drew | apply keep_alloc) | exact HK.out)⟩
    · rw [if_neg c4] at H
      have c4b0 : decide (a1 ≤ 256) = false := decide_eq_false c4
      clear c4
      replace H := Option.bind_eq_some_iff.mp H
      obtain ⟨⟨t122, t123, t124⟩, A80, H⟩ := H
      replace H : ((spec_l01Byte.f s0_0 t123 t124).bind fun bt125 => ((spec_l01Byte.f s0_0 bt125.2.1 bt125.2.2).bind fun bt128 => ((spec_l01Byte.f s0_0 bt128.2.1 bt128.2.2).bind fun bt131 => (if a1 = 0 then (none) else (some (Int.tmod (wrap64 ((wrap64 ((wrap64 ((wrap64 (t122 * 16777216)) + (wrap64 (bt125.1 * 65536)))) + (wrap64 (bt128.1 * 256)))) + bt131.1)) a1, bt131.2.1, bt131.2.2)))))) = some (r1, r2, r3) := H
      have A8 := Aside0.mk A80
      clear A80
      replace H := Option.bind_eq_some_iff.mp H
      obtain ⟨⟨t125, t126, t127⟩, A90, H⟩ := H
      replace H : ((spec_l01Byte.f s0_0 t126 t127).bind fun bt128 => ((spec_l01Byte.f s0_0 bt128.2.1 bt128.2.2).bind fun bt131 => (if a1 = 0 then (none) else (some (Int.tmod (wrap64 ((wrap64 ((wrap64 ((wrap64 (t122 * 16777216)) + (wrap64 (t125 * 65536)))) + (wrap64 (bt128.1 * 256)))) + bt131.1)) a1, bt131.2.1, bt131.2.2))))) = some (r1, r2, r3) := H
      have A9 := Aside0.mk A90
      clear A90
      replace H := Option.bind_eq_some_iff.mp H
      obtain ⟨⟨t128, t129, t130⟩, A100, H⟩ := H
      replace H : ((spec_l01Byte.f s0_0 t129 t130).bind fun bt131 => (if a1 = 0 then (none) else (some (Int.tmod (wrap64 ((wrap64 ((wrap64 ((wrap64 (t122 * 16777216)) + (wrap64 (t125 * 65536)))) + (wrap64 (t128 * 256)))) + bt131.1)) a1, bt131.2.1, bt131.2.2)))) = some (r1, r2, r3) := H
      have A10 := Aside0.mk A100
      clear A100
      replace H := Option.bind_eq_some_iff.mp H
      obtain ⟨⟨t131, t132, t133⟩, A110, H⟩ := H
      replace H : (if a1 = 0 then (none) else (some (Int.tmod (wrap64 ((wrap64 ((wrap64 ((wrap64 (t122 * 16777216)) + (wrap64 (t125 * 65536)))) + (wrap64 (t128 * 256)))) + t131)) a1, t132, t133))) = some (r1, r2, r3) := H
      have A11 := Aside0.mk A110
      clear A110
      by_cases c12 : a1 = 0
      · rw [if_pos c12] at H
        exact absurd H (by simp)
      · rw [if_neg c12] at H
        have c12b0 : (a1 == 0) = false := beq_eq_false_iff_ne.mpr c12
        have c12b1 : (a1 != 0) = true := bne_iff_ne.mpr c12
        simp only [Option.some.injEq, Prod.mk.injEq] at H
        obtain ⟨rfl, rfl, rfl⟩ := H
        go_enter Try.func105, Try.ntmps105
        go_wp2_with (first | ((with_reducible refine gate_callee (f := 113) rfl ?_); refine goesL_ (some 18) rfl rfl Try.func113 (by kernel_rfl) rfl #[.pointer (some ⟨g, 0, none⟩)] rfl (by (try simp only [List.map_toArray, List.map_cons, List.map_nil]); first | done | rfl | (simp only [List.length_drop, List.length_take]; rfl)) ?_; (with_reducible refine (spec_l01Byte.calls g s0_0 s0_1 s0_2 t122 t123 t124 w0 _ ?side1 ?side2 A8.out).mono ?_); (case side1 => repeat (first | (with_reducible first | exact HI0.out | apply IsS186.alloc | apply IsS186.drewN | apply IsS186.drew | apply IsS186.set_1 | apply IsS186.set_2) | exact HI0.out)); (case side2 => repeat (first | (with_reducible first | exact HB.out | apply below_alloc | apply pw_below_drewN | apply below_drew1 | refine below_set ?_ (IsS186.ge HI0.out)) | exact HB.out)); rintro e w13 ⟨rfl, hi, hb, hk⟩; refine ⟨_, rfl, ?_⟩; have n0_ := Aside0.mk (KeepBut.trans (by repeat (first | (with_reducible first | exact HK.out | apply KeepBut.set_ | apply keep_drewN | apply keep_drew | apply keep_alloc) | exact HK.out)) hk (.inl rfl)); have n1_ := Aside0.mk (hb); have n2_ := Aside0.mk (hi); clear HK; clear HB; clear HI0; have HK := n0_; have HB := n1_; have HI0 := n2_; clear n0_ n1_ n2_; (try clear hb); (try clear hb2); (try clear hk); (try clear hi)) | ((with_reducible refine gate_callee (f := 113) rfl ?_); refine goesL_ (some 20) rfl rfl Try.func113 (by kernel_rfl) rfl #[.pointer (some ⟨g, 0, none⟩)] rfl (by (try simp only [List.map_toArray, List.map_cons, List.map_nil]); first | done | rfl | (simp only [List.length_drop, List.length_take]; rfl)) ?_; (with_reducible refine (spec_l01Byte.calls g s0_0 t123 t124 t125 t126 t127 w0 _ ?side1 ?side2 A9.out).mono ?_); (case side1 => repeat (first | (with_reducible first | exact HI0.out | apply IsS186.alloc | apply IsS186.drewN | apply IsS186.drew | apply IsS186.set_1 | apply IsS186.set_2) | exact HI0.out)); (case side2 => repeat (first | (with_reducible first | exact HB.out | apply below_alloc | apply pw_below_drewN | apply below_drew1 | refine below_set ?_ (IsS186.ge HI0.out)) | exact HB.out)); rintro e w14 ⟨rfl, hi, hb, hk⟩; refine ⟨_, rfl, ?_⟩; have n0_ := Aside0.mk (KeepBut.trans (by repeat (first | (with_reducible first | exact HK.out | apply KeepBut.set_ | apply keep_drewN | apply keep_drew | apply keep_alloc) | exact HK.out)) hk (.inl rfl)); have n1_ := Aside0.mk (hb); have n2_ := Aside0.mk (hi); clear HK; clear HB; clear HI0; have HK := n0_; have HB := n1_; have HI0 := n2_; clear n0_ n1_ n2_; (try clear hb); (try clear hb2); (try clear hk); (try clear hi)) | ((with_reducible refine gate_callee (f := 113) rfl ?_); refine goesL_ (some 22) rfl rfl Try.func113 (by kernel_rfl) rfl #[.pointer (some ⟨g, 0, none⟩)] rfl (by (try simp only [List.map_toArray, List.map_cons, List.map_nil]); first | done | rfl | (simp only [List.length_drop, List.length_take]; rfl)) ?_; (with_reducible refine (spec_l01Byte.calls g s0_0 t126 t127 t128 t129 t130 w0 _ ?side1 ?side2 A10.out).mono ?_); (case side1 => repeat (first | (with_reducible first | exact HI0.out | apply IsS186.alloc | apply IsS186.drewN | apply IsS186.drew | apply IsS186.set_1 | apply IsS186.set_2) | exact HI0.out)); (case side2 => repeat (first | (with_reducible first | exact HB.out | apply below_alloc | apply pw_below_drewN | apply below_drew1 | refine below_set ?_ (IsS186.ge HI0.out)) | exact HB.out)); rintro e w15 ⟨rfl, hi, hb, hk⟩; refine ⟨_, rfl, ?_⟩; have n0_ := Aside0.mk (KeepBut.trans (by repeat (first | (with_reducible first | exact HK.out | apply KeepBut.set_ | apply keep_drewN | apply keep_drew | apply keep_alloc) | exact HK.out)) hk (.inl rfl)); have n1_ := Aside0.mk (hb); have n2_ := Aside0.mk (hi); clear HK; clear HB; clear HI0; have HK := n0_; have HB := n1_; have HI0 := n2_; clear n0_ n1_ n2_; (try clear hb); (try clear hb2); (try clear hk); (try clear hi)) | ((with_reducible refine gate_callee (f := 113) rfl ?_); refine goesL_ (some 24) rfl rfl Try.func113 (by kernel_rfl) rfl #[.pointer (some ⟨g, 0, none⟩)] rfl (by (try simp only [List.map_toArray, List.map_cons, List.map_nil]); first | done | rfl | (simp only [List.length_drop, List.length_take]; rfl)) ?_; (with_reducible refine (spec_l01Byte.calls g s0_0 t129 t130 t131 t132 t133 w0 _ ?side1 ?side2 A11.out).mono ?_); (case side1 => repeat (first | (with_reducible first | exact HI0.out | apply IsS186.alloc | apply IsS186.drewN | apply IsS186.drew | apply IsS186.set_1 | apply IsS186.set_2) | exact HI0.out)); (case side2 => repeat (first | (with_reducible first | exact HB.out | apply below_alloc | apply pw_below_drewN | apply below_drew1 | refine below_set ?_ (IsS186.ge HI0.out)) | exact HB.out)); rintro e w16 ⟨rfl, hi, hb, hk⟩; refine ⟨_, rfl, ?_⟩; have n0_ := Aside0.mk (KeepBut.trans (by repeat (first | (with_reducible first | exact HK.out | apply KeepBut.set_ | apply keep_drewN | apply keep_drew | apply keep_alloc) | exact HK.out)) hk (.inl rfl)); have n1_ := Aside0.mk (hb); have n2_ := Aside0.mk (hi); clear HK; clear HB; clear HI0; have HK := n0_; have HB := n1_; have HI0 := n2_; clear n0_ n1_ n2_; (try clear hb); (try clear hb2); (try clear hk); (try clear hi)))
        go_ret
        exact ⟨by first | rfl | (simp [errW_none, errW_some] <;> rfl) | (simp [*, errW_none, errW_some] <;> rfl), by repeat (first | (with_reducible first | exact HI0.out | apply IsS186.alloc | apply IsS186.drewN | apply IsS186.drew | apply IsS186.set_1 | apply IsS186.set_2) | exact HI0.out), by repeat (first | (with_reducible first | exact HB.out | apply below_alloc | apply pw_below_drewN | apply below_drew1 | refine below_set ?_ (IsS186.ge HI0.out)) | exact HB.out), by repeat (first | (with_reducible first | exact HK.out | apply KeepBut.set_ | apply keep_drewN | apply keep_drew | apply keep_alloc) | exact HK.out)⟩

end Go.Proofs.Ytdjikjmjajlgcaa.PFnPuts
end

/-! ### YtdjikjmjajlgcaaQFnPutsx10 -/
section
namespace Go.Proofs.Ytdjikjmjajlgcaa.PFnPuts
open Go.RowKit Go.Proofs.YtdjikjmjajlgcaaW.PrintWords Go.Proofs.YtdjikjmjajlgcaaW.PrintLast Go.Proofs.YtdjikjmjajlgcaaW.PrintMore
attribute [local go_sem] max2_int min2_int max_two min_two max_three min_three max_four min_four   -- for this text's walks alone
set_option linter.unusedVariables false
set_option linter.unusedSimpArgs false

/-! ### spec_l01PickInt: function 143 -/
def spec_l01PickInt.f (s0_0 : List Int) (s0_1 : Int) (s0_2 : Int) (l1 : List Int) : Option (Int × Int × Int) := (spec_l01Below.f s0_0 s0_1 s0_2 (l1.length : Int)).bind fun bt134 => (if 0 ≤ bt134.1 then (if bt134.1 < (l1.length : Int) then (some (rd l1 bt134.1, bt134.2.1, bt134.2.2)) else (none)) else (none))
set_option maxHeartbeats 8000000 in
set_option maxRecDepth 100000 in
theorem spec_l01PickInt.calls (g : Nat) (s0_0 : List Int) (s0_1 : Int) (s0_2 : Int) (A1 : Option Addr) (c1 : Nat) (l1 : List Int) (r1 : Int) (r2 : Int) (r3 : Int) (w0 w : World) (hI : IsS186 w0 w g s0_0 s0_1 s0_2) (hB : Below w0.heap.size w0 w) (hr1 : Kd.C (Kd.int .i64) w A1 l1.length l1) (hc1 : l1.length ≤ c1) (hf1 : ∀ ad, A1 = some ad → 0 < l1.length → ad.block ≠ g) (h : spec_l01PickInt.f s0_0 s0_1 s0_2 l1 = some (r1, r2, r3)) :
    Calls Try.prog 143 #[.pointer (some ⟨g, 0, none⟩), .slice A1 l1.length c1] w fun e w' => e = .returned (.int .i64 r1) ∧ IsS186 w0 w' g s0_0 r2 r3 ∧ Below w0.heap.size w0 w' ∧ KeepBut w w' g none := by
  have HR1 := Aside0.mk hr1
  have HC1 := Aside0.mk hc1
  clear hr1 hc1
  have HI0 := Aside0.mk hI
  have HK := Aside0.mk (KeepBut.refl w g none)
  have HL := Aside0.mk hB.size
  clear hI
  have HW0 := Aside0.mk hB.size
  have HB := Aside0.mk hB
  clear hB
  have H : ((spec_l01Below.f s0_0 s0_1 s0_2 (l1.length : Int)).bind fun bt134 => (if 0 ≤ bt134.1 then (if bt134.1 < (l1.length : Int) then (some (rd l1 bt134.1, bt134.2.1, bt134.2.2)) else (none)) else (none))) = some (r1, r2, r3) := h
  clear h
  replace H := Option.bind_eq_some_iff.mp H
  obtain ⟨⟨t134, t135, t136⟩, A30, H⟩ := H
  replace H : (if 0 ≤ t134 then (if t134 < (l1.length : Int) then (some (rd l1 t134, t135, t136)) else (none)) else (none)) = some (r1, r2, r3) := H
  have A3 := Aside0.mk A30
  clear A30
  by_cases c4 : 0 ≤ t134
  · rw [if_pos c4] at H
    have c4b0 : decide (0 ≤ t134) = true := decide_eq_true c4
    clear c4
    by_cases c5 : t134 < (l1.length : Int)
    · rw [if_pos c5] at H
      have c5b0 : decide (t134 < (l1.length : Int)) = true := decide_eq_true c5
      clear c5
      simp only [Option.some.injEq, Prod.mk.injEq] at H
      obtain ⟨rfl, rfl, rfl⟩ := H
      go_enter Try.func143, Try.ntmps143
      go_wp2_with (first | ((with_reducible refine gate_callee (f := 105) rfl ?_); refine goesL_ (some 9) rfl rfl Try.func105 (by kernel_rfl) rfl #[.pointer (some ⟨g, 0, none⟩), .int .i64 (l1.length : Int)] rfl (by (try simp only [List.map_toArray, List.map_cons, List.map_nil]); first | done | rfl | (simp only [List.length_drop, List.length_take]; rfl)) ?_; (with_reducible refine (spec_l01Below.calls g s0_0 s0_1 s0_2 (l1.length : Int) t134 t135 t136 w0 _ ?side1 ?side2 A3.out).mono ?_); (case side1 => repeat (first | (with_reducible first | exact HI0.out | apply IsS186.alloc | apply IsS186.drewN | apply IsS186.drew | apply IsS186.set_1 | apply IsS186.set_2) | exact HI0.out)); (case side2 => repeat (first | (with_reducible first | exact HB.out | apply below_alloc | apply pw_below_drewN | apply below_drew1 | refine below_set ?_ (IsS186.ge HI0.out)) | exact HB.out)); rintro e w6 ⟨rfl, hi, hb, hk⟩; refine ⟨_, rfl, ?_⟩; have n0_ := Aside0.mk (KeepBut.trans (by repeat (first | (with_reducible first | exact HK.out | apply KeepBut.set_ | apply keep_drewN | apply keep_drew | apply keep_alloc) | exact HK.out)) hk (.inl rfl)); have n1_ := Aside0.mk (hb); have n2_ := Aside0.mk (hi); clear HK; clear HB; clear HI0; have HK := n0_; have HB := n1_; have HI0 := n2_; clear n0_ n1_ n2_; (try clear hb); (try clear hb2); (try clear hk); (try clear hi); have p137 : 0 ≤ (t134 : Int) := of_decide_eq_true (by first | (with_reducible assumption) | assumption); have q137 : t134 < (l1.length : Int) := of_decide_eq_true (by first | (with_reducible assumption) | assumption); obtain ⟨ad137, e137, hx137_0⟩ := Kd.at_int HR1.out t134 p137 q137; cases e137; replace hx137_0 := keep_cell HK.out hx137_0 (by first | (rw [add_block]; exact hf1 _ rfl (by omega)) | exact hf1 _ rfl (by omega) | exact hf1 ad137 rfl (by omega)); replace p137 := eq_true p137; replace q137 := eq_true q137))
      go_ret
      exact ⟨by first | rfl | (simp [errW_none, errW_some] <;> rfl) | (simp [*, errW_none, errW_some] <;> rfl), by repeat (first | (with_reducible first | exact HI0.out | apply IsS186.alloc | apply IsS186.drewN | apply IsS186.drew | apply IsS186.set_1 | apply IsS186.set_2) | exact HI0.out), by repeat (first | (with_reducible first | exact HB.out | apply below_alloc | apply pw_below_drewN | apply below_drew1 | refine below_set ?_ (IsS186.ge HI0.out)) | exact HB.out), by repeat (first | (with_reducible first | exact HK.out | apply KeepBut.set_ | apply keep_drewN | apply keep_drew | apply keep_alloc) | exact HK.out)⟩
    · rw [if_neg c5] at H
      exact absurd H (by simp)
  · rw [if_neg c4] at H
    exact absurd H (by simp)

end Go.Proofs.Ytdjikjmjajlgcaa.PFnPuts
end

/-! ### YtdjikjmjajlgcaaQFnPutsx11 -/
section
namespace Go.Proofs.Ytdjikjmjajlgcaa.PFnPuts
open Go.RowKit Go.Proofs.YtdjikjmjajlgcaaW.PrintWords Go.Proofs.YtdjikjmjajlgcaaW.PrintLast Go.Proofs.YtdjikjmjajlgcaaW.PrintMore
attribute [local go_sem] max2_int min2_int max_two min_two max_three min_three max_four min_four   -- for this text's walks alone
set_option linter.unusedVariables false
set_option linter.unusedSimpArgs false

/-! ### spec_l01Once: function 106 -/
def spec_l01Once.f (s0_0 : List Int) (s0_1 : Int) (s0_2 : Int) (a1 : Int) : Option (Bool × Int × Int) := (spec_l01Below.f s0_0 s0_1 s0_2 a1).bind fun bt138 => (some ((bt138.1 == 0), bt138.2.1, bt138.2.2))
set_option maxHeartbeats 8000000 in
set_option maxRecDepth 100000 in
theorem spec_l01Once.calls (g : Nat) (s0_0 : List Int) (s0_1 : Int) (s0_2 : Int) (a1 : Int) (r1 : Bool) (r2 : Int) (r3 : Int) (w0 w : World) (hI : IsS186 w0 w g s0_0 s0_1 s0_2) (hB : Below w0.heap.size w0 w) (h : spec_l01Once.f s0_0 s0_1 s0_2 a1 = some (r1, r2, r3)) :
    Calls Try.prog 106 #[.pointer (some ⟨g, 0, none⟩), .int .i64 a1] w fun e w' => e = .returned (.bool r1) ∧ IsS186 w0 w' g s0_0 r2 r3 ∧ Below w0.heap.size w0 w' ∧ KeepBut w w' g none := by
  have HI0 := Aside0.mk hI
  have HK := Aside0.mk (KeepBut.refl w g none)
  have HL := Aside0.mk hB.size
  clear hI
  have HW0 := Aside0.mk hB.size
  have HB := Aside0.mk hB
  clear hB
  have H : ((spec_l01Below.f s0_0 s0_1 s0_2 a1).bind fun bt138 => (some ((bt138.1 == 0), bt138.2.1, bt138.2.2))) = some (r1, r2, r3) := h
  clear h
  replace H := Option.bind_eq_some_iff.mp H
  obtain ⟨⟨t138, t139, t140⟩, A30, H⟩ := H
  replace H : (some ((t138 == 0), t139, t140)) = some (r1, r2, r3) := H
  have A3 := Aside0.mk A30
  clear A30
  simp only [Option.some.injEq, Prod.mk.injEq] at H
  obtain ⟨rfl, rfl, rfl⟩ := H
  go_enter Try.func106, Try.ntmps106
  go_wp2_with (first | ((with_reducible refine gate_callee (f := 105) rfl ?_); refine goesL_ (some 7) rfl rfl Try.func105 (by kernel_rfl) rfl #[.pointer (some ⟨g, 0, none⟩), .int .i64 a1] rfl (by (try simp only [List.map_toArray, List.map_cons, List.map_nil]); first | done | rfl | (simp only [List.length_drop, List.length_take]; rfl)) ?_; (with_reducible refine (spec_l01Below.calls g s0_0 s0_1 s0_2 a1 t138 t139 t140 w0 _ ?side1 ?side2 A3.out).mono ?_); (case side1 => repeat (first | (with_reducible first | exact HI0.out | apply IsS186.alloc | apply IsS186.drewN | apply IsS186.drew | apply IsS186.set_1 | apply IsS186.set_2) | exact HI0.out)); (case side2 => repeat (first | (with_reducible first | exact HB.out | apply below_alloc | apply pw_below_drewN | apply below_drew1 | refine below_set ?_ (IsS186.ge HI0.out)) | exact HB.out)); rintro e w4 ⟨rfl, hi, hb, hk⟩; refine ⟨_, rfl, ?_⟩; have n0_ := Aside0.mk (KeepBut.trans (by repeat (first | (with_reducible first | exact HK.out | apply KeepBut.set_ | apply keep_drewN | apply keep_drew | apply keep_alloc) | exact HK.out)) hk (.inl rfl)); have n1_ := Aside0.mk (hb); have n2_ := Aside0.mk (hi); clear HK; clear HB; clear HI0; have HK := n0_; have HB := n1_; have HI0 := n2_; clear n0_ n1_ n2_; (try clear hb); (try clear hb2); (try clear hk); (try clear hi)))
  go_ret
  exact ⟨by first | rfl | (simp [errW_none, errW_some] <;> rfl) | (simp [*, errW_none, errW_some] <;> rfl), by repeat (first | (with_reducible first | exact HI0.out | apply IsS186.alloc | apply IsS186.drewN | apply IsS186.drew | apply IsS186.set_1 | apply IsS186.set_2) | exact HI0.out), by repeat (first | (with_reducible first | exact HB.out | apply below_alloc | apply pw_below_drewN | apply below_drew1 | refine below_set ?_ (IsS186.ge HI0.out)) | exact HB.out), by repeat (first | (with_reducible first | exact HK.out | apply KeepBut.set_ | apply keep_drewN | apply keep_drew | apply keep_alloc) | exact HK.out)⟩

end Go.Proofs.Ytdjikjmjajlgcaa.PFnPuts
end

/-! ### YtdjikjmjajlgcaaQFnPutsx18 -/
section
namespace Go.Proofs.Ytdjikjmjajlgcaa.PFnPuts
open Go.RowKit Go.Proofs.YtdjikjmjajlgcaaW.PrintWords Go.Proofs.YtdjikjmjajlgcaaW.PrintLast Go.Proofs.YtdjikjmjajlgcaaW.PrintMore
attribute [local go_sem] max2_int min2_int max_two min_two max_three min_three max_four min_four   -- for this text's walks alone
set_option linter.unusedVariables false
set_option linter.unusedSimpArgs false

/-! ### spec_l01Pick: function 181 -/
def spec_l01Pick.f (s0_0 : List Int) (s0_1 : Int) (s0_2 : Int) (l1 : List ByteArray) : Option (ByteArray × Int × Int) := (spec_l01Below.f s0_0 s0_1 s0_2 (l1.length : Int)).bind fun bt190 => (if 0 ≤ bt190.1 then (if bt190.1 < (l1.length : Int) then (some (rdOf ByteArray.empty l1 bt190.1, bt190.2.1, bt190.2.2)) else (none)) else (none))
set_option maxHeartbeats 8000000 in
set_option maxRecDepth 100000 in
theorem spec_l01Pick.calls (g : Nat) (s0_0 : List Int) (s0_1 : Int) (s0_2 : Int) (A1 : Option Addr) (c1 : Nat) (l1 : List ByteArray) (r1 : ByteArray) (r2 : Int) (r3 : Int) (w0 w : World) (hI : IsS186 w0 w g s0_0 s0_1 s0_2) (hB : Below w0.heap.size w0 w) (hr1 : Kd.C Kd.string w A1 l1.length l1) (hc1 : l1.length ≤ c1) (hf1 : ∀ ad, A1 = some ad → 0 < l1.length → ad.block ≠ g) (h : spec_l01Pick.f s0_0 s0_1 s0_2 l1 = some (r1, r2, r3)) :
    Calls Try.prog 181 #[.pointer (some ⟨g, 0, none⟩), .slice A1 l1.length c1] w fun e w' => e = .returned (.string r1) ∧ IsS186 w0 w' g s0_0 r2 r3 ∧ Below w0.heap.size w0 w' ∧ KeepBut w w' g none := by
  have HR1 := Aside0.mk hr1
  have HC1 := Aside0.mk hc1
  clear hr1 hc1
  have HI0 := Aside0.mk hI
  have HK := Aside0.mk (KeepBut.refl w g none)
  have HL := Aside0.mk hB.size
  clear hI
  have HW0 := Aside0.mk hB.size
  have HB := Aside0.mk hB
  clear hB
  have H : ((spec_l01Below.f s0_0 s0_1 s0_2 (l1.length : Int)).bind fun bt190 => (if 0 ≤ bt190.1 then (if bt190.1 < (l1.length : Int) then (some (rdOf ByteArray.empty l1 bt190.1, bt190.2.1, bt190.2.2)) else (none)) else (none))) = some (r1, r2, r3) := h
  clear h
  replace H := Option.bind_eq_some_iff.mp H
  obtain ⟨⟨t190, t191, t192⟩, A30, H⟩ := H
  replace H : (if 0 ≤ t190 then (if t190 < (l1.length : Int) then (some (rdOf ByteArray.empty l1 t190, t191, t192)) else (none)) else (none)) = some (r1, r2, r3) := H
  have A3 := Aside0.mk A30
  clear A30
  by_cases c4 : 0 ≤ t190
  · rw [if_pos c4] at H
    have c4b0 : decide (0 ≤ t190) = true := decide_eq_true c4
    clear c4
    by_cases c5 : t190 < (l1.length : Int)
    · rw [if_pos c5] at H
      have c5b0 : decide (t190 < (l1.length : Int)) = true := decide_eq_true c5
      clear c5
      simp only [Option.some.injEq, Prod.mk.injEq] at H
      obtain ⟨rfl, rfl, rfl⟩ := H
      go_enter Try.func181, Try.ntmps181
      go_wp2_with (first | ((with_reducible refine gate_callee (f := 105) rfl ?_); refine goesL_ (some 9) rfl rfl Try.func105 (by kernel_rfl) rfl #[.pointer (some ⟨g, 0, none⟩), .int .i64 (l1.length : Int)] rfl (by (try simp only [List.map_toArray, List.map_cons, List.map_nil]); first | done | rfl | (simp only [List.length_drop, List.length_take]; rfl)) ?_; (with_reducible refine (spec_l01Below.calls g s0_0 s0_1 s0_2 (l1.length : Int) t190 t191 t192 w0 _ ?side1 ?side2 A3.out).mono ?_); (case side1 => repeat (first | (with_reducible first | exact HI0.out | apply IsS186.alloc | apply IsS186.drewN | apply IsS186.drew | apply IsS186.set_1 | apply IsS186.set_2) | exact HI0.out)); (case side2 => repeat (first | (with_reducible first | exact HB.out | apply below_alloc | apply pw_below_drewN | apply below_drew1 | refine below_set ?_ (IsS186.ge HI0.out)) | exact HB.out)); rintro e w6 ⟨rfl, hi, hb, hk⟩; refine ⟨_, rfl, ?_⟩; have n0_ := Aside0.mk (KeepBut.trans (by repeat (first | (with_reducible first | exact HK.out | apply KeepBut.set_ | apply keep_drewN | apply keep_drew | apply keep_alloc) | exact HK.out)) hk (.inl rfl)); have n1_ := Aside0.mk (hb); have n2_ := Aside0.mk (hi); clear HK; clear HB; clear HI0; have HK := n0_; have HB := n1_; have HI0 := n2_; clear n0_ n1_ n2_; (try clear hb); (try clear hb2); (try clear hk); (try clear hi); have p193 : 0 ≤ (t190 : Int) := of_decide_eq_true (by first | (with_reducible assumption) | assumption); have q193 : t190 < (l1.length : Int) := of_decide_eq_true (by first | (with_reducible assumption) | assumption); obtain ⟨ad193, e193, hx193_0⟩ := Kd.at_string HR1.out t190 p193 q193; cases e193; replace hx193_0 := keep_cell HK.out hx193_0 (by first | (rw [add_block]; exact hf1 _ rfl (by omega)) | exact hf1 _ rfl (by omega) | exact hf1 ad193 rfl (by omega)); replace p193 := eq_true p193; replace q193 := eq_true q193))
      go_ret
      exact ⟨by first | rfl | (simp [errW_none, errW_some] <;> rfl) | (simp [*, errW_none, errW_some] <;> rfl), by repeat (first | (with_reducible first | exact HI0.out | apply IsS186.alloc | apply IsS186.drewN | apply IsS186.drew | apply IsS186.set_1 | apply IsS186.set_2) | exact HI0.out), by repeat (first | (with_reducible first | exact HB.out | apply below_alloc | apply pw_below_drewN | apply below_drew1 | refine below_set ?_ (IsS186.ge HI0.out)) | exact HB.out), by repeat (first | (with_reducible first | exact HK.out | apply KeepBut.set_ | apply keep_drewN | apply keep_drew | apply keep_alloc) | exact HK.out)⟩
    · rw [if_neg c5] at H
      exact absurd H (by simp)
  · rw [if_neg c4] at H
    exact absurd H (by simp)

end Go.Proofs.Ytdjikjmjajlgcaa.PFnPuts
end

/-! ### YtdjikjmjajlgcaaQFnPutsx29 -/
section
namespace Go.Proofs.Ytdjikjmjajlgcaa.PFnPuts
open Go.RowKit Go.Proofs.YtdjikjmjajlgcaaW.PrintWords Go.Proofs.YtdjikjmjajlgcaaW.PrintLast Go.Proofs.YtdjikjmjajlgcaaW.PrintMore
attribute [local go_sem] max2_int min2_int max_two min_two max_three min_three max_four min_four   -- for this text's walks alone
set_option linter.unusedVariables false
set_option linter.unusedSimpArgs false

/-! ### spec_l01Place: function 107 -/
def spec_l01Place.f (s0_0 : List Int) (s0_1 : Int) (s0_2 : Int) (a1 : Int) : Option (Int × Int × Int) := (spec_l01Once.f s0_0 s0_1 s0_2 15).bind fun bt323 => (if bt323.1 = true then ((spec_l01PickInt.f s0_0 bt323.2.1 bt323.2.2 (([(-1), a1, wrap64 (a1 + 1), 9223372036854775807, (-9223372036854775808)] : List Int))).bind fun bt329 => (some (bt329.1, bt329.2.1, bt329.2.2))) else ((spec_l01Below.f s0_0 bt323.2.1 bt323.2.2 a1).bind fun bt332 => (some (bt332.1, bt332.2.1, bt332.2.2))))
set_option maxHeartbeats 8000000 in
set_option maxRecDepth 100000 in
theorem spec_l01Place.calls (g : Nat) (s0_0 : List Int) (s0_1 : Int) (s0_2 : Int) (a1 : Int) (r1 : Int) (r2 : Int) (r3 : Int) (w0 w : World) (hI : IsS186 w0 w g s0_0 s0_1 s0_2) (hB : Below w0.heap.size w0 w) (h : spec_l01Place.f s0_0 s0_1 s0_2 a1 = some (r1, r2, r3)) :
    Calls Try.prog 107 #[.pointer (some ⟨g, 0, none⟩), .int .i64 a1] w fun e w' => e = .returned (.int .i64 r1) ∧ IsS186 w0 w' g s0_0 r2 r3 ∧ Below w0.heap.size w0 w' ∧ KeepBut w w' g none := by
  have HI0 := Aside0.mk hI
  have HK := Aside0.mk (KeepBut.refl w g none)
  have HL := Aside0.mk hB.size
  clear hI
  have HW0 := Aside0.mk hB.size
  have HB := Aside0.mk hB
  clear hB
  have H : ((spec_l01Once.f s0_0 s0_1 s0_2 15).bind fun bt323 => (if bt323.1 = true then ((spec_l01PickInt.f s0_0 bt323.2.1 bt323.2.2 (([(-1), a1, wrap64 (a1 + 1), 9223372036854775807, (-9223372036854775808)] : List Int))).bind fun bt329 => (some (bt329.1, bt329.2.1, bt329.2.2))) else ((spec_l01Below.f s0_0 bt323.2.1 bt323.2.2 a1).bind fun bt332 => (some (bt332.1, bt332.2.1, bt332.2.2))))) = some (r1, r2, r3) := h
  clear h
  replace H := Option.bind_eq_some_iff.mp H
  obtain ⟨⟨t323, t324, t325⟩, A30, H⟩ := H
  replace H : (if t323 = true then ((spec_l01PickInt.f s0_0 t324 t325 (([(-1), a1, wrap64 (a1 + 1), 9223372036854775807, (-9223372036854775808)] : List Int))).bind fun bt329 => (some (bt329.1, bt329.2.1, bt329.2.2))) else ((spec_l01Below.f s0_0 t324 t325 a1).bind fun bt332 => (some (bt332.1, bt332.2.1, bt332.2.2)))) = some (r1, r2, r3) := H
  have A3 := Aside0.mk A30
  clear A30
  by_cases c4 : t323 = true
  · subst c4
    have H1 : ((spec_l01PickInt.f s0_0 t324 t325 (([(-1), a1, wrap64 (a1 + 1), 9223372036854775807, (-9223372036854775808)] : List Int))).bind fun bt329 => (some (bt329.1, bt329.2.1, bt329.2.2))) = some (r1, r2, r3) := by rw [if_pos rfl] at H; exact H
    clear H
    have H := H1
    clear H1
    obtain ⟨y326, hy326⟩ : ∃ y_ : List Int, y_ = (([(-1), a1, wrap64 (a1 + 1), 9223372036854775807, (-9223372036854775808)] : List Int)) := ⟨_, rfl⟩
    replace H : ((spec_l01PickInt.f s0_0 t324 t325 y326).bind fun bt329 => (some (bt329.1, bt329.2.1, bt329.2.2))) = some (r1, r2, r3) := by first | (rw [hy326]; with_reducible exact H) | (have H2_ := (Option.bind_some _ _).symm.trans H; rw [hy326]; with_reducible exact H2_) | (have H2_ := (Option.bind_some _ _).symm.trans H; with_reducible exact H2_) | with_reducible exact H | (rw [hy326]; exact H) | exact H
    have Ny326 := Aside0.mk hy326
    clear hy326
    replace H := Option.bind_eq_some_iff.mp H
    obtain ⟨⟨t329, t330, t331⟩, A50, H⟩ := H
    replace H : (some (t329, t330, t331)) = some (r1, r2, r3) := H
    have A5 := Aside0.mk A50
    clear A50
    simp only [Option.some.injEq, Prod.mk.injEq] at H
    obtain ⟨rfl, rfl, rfl⟩ := H
    go_enter Try.func107, Try.ntmps107
    go_wp2_with (first | ((with_reducible refine gate_callee (f := 106) rfl ?_); refine goesL_ (some 6) rfl rfl Try.func106 (by kernel_rfl) rfl #[.pointer (some ⟨g, 0, none⟩), .int .i64 15] rfl (by (try simp only [List.map_toArray, List.map_cons, List.map_nil]); first | done | rfl | (simp only [List.length_drop, List.length_take]; rfl)) ?_; (with_reducible refine (spec_l01Once.calls g s0_0 s0_1 s0_2 15 true t324 t325 w0 _ ?side1 ?side2 A3.out).mono ?_); (case side1 => repeat (first | (with_reducible first | exact HI0.out | apply IsS186.alloc | apply IsS186.drewN | apply IsS186.drew | apply IsS186.set_1 | apply IsS186.set_2) | exact HI0.out)); (case side2 => repeat (first | (with_reducible first | exact HB.out | apply below_alloc | apply pw_below_drewN | apply below_drew1 | refine below_set ?_ (IsS186.ge HI0.out)) | exact HB.out)); rintro e w6 ⟨rfl, hi, hb, hk⟩; refine ⟨_, rfl, ?_⟩; have n0_ := Aside0.mk (KeepBut.trans (by repeat (first | (with_reducible first | exact HK.out | apply KeepBut.set_ | apply keep_drewN | apply keep_drew | apply keep_alloc) | exact HK.out)) hk (.inl rfl)); have n1_ := Aside0.mk (hb); have n2_ := Aside0.mk (hi); clear HK; clear HB; clear HI0; have HK := n0_; have HB := n1_; have HI0 := n2_; clear n0_ n1_ n2_; (try clear hb); (try clear hb2); (try clear hk); (try clear hi)) | ((with_reducible refine gate_dst (N := 11) rfl ?_); refine Kd.R_lit (Kd.int .i64) _ 3 ?hg (N := 11) ?hd (xs := ([(-1), a1, wrap64 (a1 + 1), 9223372036854775807, (-9223372036854775808)] : List Int)) (inner := [.int .i64 (-1), .int .i64 a1, .int .i64 (wrap64 (a1 + 1)), .int .i64 9223372036854775807, .int .i64 (-9223372036854775808)]) (ok := fun _ => True) (okp := fun _ => True) ?hr ?hp (fun _ hk => hk) trivial (Below.refl _ _) (Nat.le_refl _) (by simp) ?_; (case hd => rfl); (case hg => rfl); (case hr => first | (go_simp; done) | (go_simp; rfl)); (case hp => exact (Reps.one (show Kd.M (Kd.int .i64) _ _ _ (-1) [.int .i64 (-1)] from rfl) (Reps.one (show Kd.M (Kd.int .i64) _ _ _ a1 [.int .i64 a1] from rfl) (Reps.one (show Kd.M (Kd.int .i64) _ _ _ (wrap64 (a1 + 1)) [.int .i64 (wrap64 (a1 + 1))] from rfl) (Reps.one (show Kd.M (Kd.int .i64) _ _ _ 9223372036854775807 [.int .i64 9223372036854775807] from rfl) (Reps.one (show Kd.M (Kd.int .i64) _ _ _ (-9223372036854775808) [.int .i64 (-9223372036854775808)] from rfl) (Reps.none _ _))))))); intro v327 w7 ho8 hb hg_ hnew_; clear hg_ hnew_; (first | rw [← Ny326.out] at ho8 | (simp only [Int.reduceToNat] at ho8; rw [← Ny326.out] at ho8)); have n0_ := Aside0.mk (Kd.R_lower ho8 (keep_size (w := w) (g := g) (row := none) (by repeat (first | (with_reducible first | exact HK.out | apply KeepBut.set_ | apply keep_drewN | apply keep_drew | apply keep_alloc) | exact HK.out)))); have n1_ := Aside0.mk (IsS186.below (by repeat (first | (with_reducible first | exact HI0.out | apply IsS186.alloc | apply IsS186.drewN | apply IsS186.drew | apply IsS186.set_1 | apply IsS186.set_2) | exact HI0.out)) hb); have n2_ := Aside0.mk (KeepBut.trans (by repeat (first | (with_reducible first | exact HK.out | apply KeepBut.set_ | apply keep_drewN | apply keep_drew | apply keep_alloc) | exact HK.out)) (KeepBut.of_below hb g none) (.inl rfl)); have n3_ := Aside0.mk (below_step (by repeat (first | (with_reducible first | exact HB.out | apply below_alloc | apply pw_below_drewN | apply below_drew1 | refine below_set ?_ (IsS186.ge HI0.out)) | exact HB.out)) hb); clear HI0; clear HK; clear HB; have HO328 := n0_; have HI0 := n1_; have HK := n2_; have HB := n3_; clear n0_ n1_ n2_ n3_; clear hb ho8; obtain ⟨Ao9, co9, eo9⟩ := Kd.R_slice HO328.out; subst eo9) | ((with_reducible refine gate_callee (f := 143) rfl ?_); refine goesL_ (some 12) rfl rfl Try.func143 (by kernel_rfl) rfl #[.pointer (some ⟨g, 0, none⟩), .slice Ao9 y326.length co9] rfl (by (try simp only [List.map_toArray, List.map_cons, List.map_nil]); first | done | rfl | (simp only [List.length_drop, List.length_take]; rfl)) ?_; (with_reducible refine (spec_l01PickInt.calls g s0_0 t324 t325 _ _ y326 t329 t330 t331 w0 _ ?side1 ?side2 ?side3 ?side4 ?side5 A5.out).mono ?_); (case side1 => repeat (first | (with_reducible first | exact HI0.out | apply IsS186.alloc | apply IsS186.drewN | apply IsS186.drew | apply IsS186.set_1 | apply IsS186.set_2) | exact HI0.out)); (case side2 => repeat (first | (with_reducible first | exact HB.out | apply below_alloc | apply pw_below_drewN | apply below_drew1 | refine below_set ?_ (IsS186.ge HI0.out)) | exact HB.out)); (case side3 => repeat (first | exact (Kd.R_reads' HO328.out).2.2 | (with_reducible refine Kd.C_alloc ?_ _) | (with_reducible refine Kd.C_drewN ?_ _) | (with_reducible refine Kd.C_drew ?_))); (case side4 => exact (Kd.R_reads' HO328.out).2.1); (case side5 => exact far_slice (IsS186.own_ne HI0.out HO328.out (by decide))); rintro e w10 ⟨rfl, hi, hb, hk⟩; refine ⟨_, rfl, ?_⟩; have n0_ := Aside0.mk (Kd.R_mono (Kd.R_keep (IsS186.apart (show IsS186 w0 _ g s0_0 t324 t325 from by repeat (first | (with_reducible first | exact HI0.out | apply IsS186.alloc | apply IsS186.drewN | apply IsS186.drew | apply IsS186.set_1 | apply IsS186.set_2) | exact HI0.out)) (by (with_reducible repeat (first | apply Kd.R_alloc | apply Kd.R_drewN | apply Kd.R_drew)); exact HO328.out) (by decide)) hk (fun _ h => h.2)) (fun _ h => h.1)); have n1_ := Aside0.mk (KeepBut.trans (by repeat (first | (with_reducible first | exact HK.out | apply KeepBut.set_ | apply keep_drewN | apply keep_drew | apply keep_alloc) | exact HK.out)) hk (.inl rfl)); have n2_ := Aside0.mk (hb); have n3_ := Aside0.mk (hi); clear HO328; clear HK; clear HB; clear HI0; have HO328 := n0_; have HK := n1_; have HB := n2_; have HI0 := n3_; clear n0_ n1_ n2_ n3_; (try clear hb); (try clear hb2); (try clear hk); (try clear hi)))
    go_ret
    exact ⟨by first | rfl | (simp [errW_none, errW_some] <;> rfl) | (simp [*, errW_none, errW_some] <;> rfl), by repeat (first | (with_reducible first | exact HI0.out | apply IsS186.alloc | apply IsS186.drewN | apply IsS186.drew | apply IsS186.set_1 | apply IsS186.set_2) | exact HI0.out), by repeat (first | (with_reducible first | exact HB.out | apply below_alloc | apply pw_below_drewN | apply below_drew1 | refine below_set ?_ (IsS186.ge HI0.out)) | exact HB.out), by repeat (first | (with_reducible first | exact HK.out | apply KeepBut.set_ | apply keep_drewN | apply keep_drew | apply keep_alloc) | exact HK.out)⟩
  · replace c4 := Bool.eq_false_iff.mpr c4
    subst c4
    have H1 : ((spec_l01Below.f s0_0 t324 t325 a1).bind fun bt332 => (some (bt332.1, bt332.2.1, bt332.2.2))) = some (r1, r2, r3) := by rw [if_neg (show ¬ (false = true) by decide)] at H; exact H
    clear H
    have H := H1
    clear H1
    replace H := Option.bind_eq_some_iff.mp H
    obtain ⟨⟨t332, t333, t334⟩, A110, H⟩ := H
    replace H : (some (t332, t333, t334)) = some (r1, r2, r3) := H
    have A11 := Aside0.mk A110
    clear A110
    simp only [Option.some.injEq, Prod.mk.injEq] at H
    obtain ⟨rfl, rfl, rfl⟩ := H
    go_enter Try.func107, Try.ntmps107
    go_wp2_with (first | ((with_reducible refine gate_callee (f := 106) rfl ?_); refine goesL_ (some 6) rfl rfl Try.func106 (by kernel_rfl) rfl #[.pointer (some ⟨g, 0, none⟩), .int .i64 15] rfl (by (try simp only [List.map_toArray, List.map_cons, List.map_nil]); first | done | rfl | (simp only [List.length_drop, List.length_take]; rfl)) ?_; (with_reducible refine (spec_l01Once.calls g s0_0 s0_1 s0_2 15 false t324 t325 w0 _ ?side1 ?side2 A3.out).mono ?_); (case side1 => repeat (first | (with_reducible first | exact HI0.out | apply IsS186.alloc | apply IsS186.drewN | apply IsS186.drew | apply IsS186.set_1 | apply IsS186.set_2) | exact HI0.out)); (case side2 => repeat (first | (with_reducible first | exact HB.out | apply below_alloc | apply pw_below_drewN | apply below_drew1 | refine below_set ?_ (IsS186.ge HI0.out)) | exact HB.out)); rintro e w12 ⟨rfl, hi, hb, hk⟩; refine ⟨_, rfl, ?_⟩; have n0_ := Aside0.mk (KeepBut.trans (by repeat (first | (with_reducible first | exact HK.out | apply KeepBut.set_ | apply keep_drewN | apply keep_drew | apply keep_alloc) | exact HK.out)) hk (.inl rfl)); have n1_ := Aside0.mk (hb); have n2_ := Aside0.mk (hi); clear HK; clear HB; clear HI0; have HK := n0_; have HB := n1_; have HI0 := n2_; clear n0_ n1_ n2_; (try clear hb); (try clear hb2); (try clear hk); (try clear hi)) | ((with_reducible refine gate_callee (f := 105) rfl ?_); refine goesL_ (some 15) rfl rfl Try.func105 (by kernel_rfl) rfl #[.pointer (some ⟨g, 0, none⟩), .int .i64 a1] rfl (by (try simp only [List.map_toArray, List.map_cons, List.map_nil]); first | done | rfl | (simp only [List.length_drop, List.length_take]; rfl)) ?_; (with_reducible refine (spec_l01Below.calls g s0_0 t324 t325 a1 t332 t333 t334 w0 _ ?side1 ?side2 A11.out).mono ?_); (case side1 => repeat (first | (with_reducible first | exact HI0.out | apply IsS186.alloc | apply IsS186.drewN | apply IsS186.drew | apply IsS186.set_1 | apply IsS186.set_2) | exact HI0.out)); (case side2 => repeat (first | (with_reducible first | exact HB.out | apply below_alloc | apply pw_below_drewN | apply below_drew1 | refine below_set ?_ (IsS186.ge HI0.out)) | exact HB.out)); rintro e w13 ⟨rfl, hi, hb, hk⟩; refine ⟨_, rfl, ?_⟩; have n0_ := Aside0.mk (KeepBut.trans (by repeat (first | (with_reducible first | exact HK.out | apply KeepBut.set_ | apply keep_drewN | apply keep_drew | apply keep_alloc) | exact HK.out)) hk (.inl rfl)); have n1_ := Aside0.mk (hb); have n2_ := Aside0.mk (hi); clear HK; clear HB; clear HI0; have HK := n0_; have HB := n1_; have HI0 := n2_; clear n0_ n1_ n2_; (try clear hb); (try clear hb2); (try clear hk); (try clear hi)))
    go_ret
    exact ⟨by first | rfl | (simp [errW_none, errW_some] <;> rfl) | (simp [*, errW_none, errW_some] <;> rfl), by repeat (first | (with_reducible first | exact HI0.out | apply IsS186.alloc | apply IsS186.drewN | apply IsS186.drew | apply IsS186.set_1 | apply IsS186.set_2) | exact HI0.out), by repeat (first | (with_reducible first | exact HB.out | apply below_alloc | apply pw_below_drewN | apply below_drew1 | refine below_set ?_ (IsS186.ge HI0.out)) | exact HB.out), by repeat (first | (with_reducible first | exact HK.out | apply KeepBut.set_ | apply keep_drewN | apply keep_drew | apply keep_alloc) | exact HK.out)⟩

end Go.Proofs.Ytdjikjmjajlgcaa.PFnPuts
end

/-! ### YtdjikjmjajlgcaaDrawFnPuts -/
section
namespace Go.Proofs.Ytdjikjmjajlgcaa.PFnPuts
open Go.RowKit Go.Proofs.YtdjikjmjajlgcaaW.PrintWords
set_option linter.unusedSimpArgs false
set_option linter.unusedVariables false

/-! Draws: every answer they may give. (own) -/
theorem and255 (x : Int) : 0 ≤ bits .and .i64 x 255 ∧ bits .and .i64 x 255 ≤ 255 := by
  have h : (BitVec.ofInt 64 x &&& BitVec.ofInt 64 255).toNat ≤ 255 := by
    rw [BitVec.toNat_and]
    exact Nat.le_trans Nat.and_le_right (by decide)
  have e : bits .and .i64 x 255 = IntKind.i64.wrap ((BitVec.ofInt 64 x &&& BitVec.ofInt 64 255).toNat : Int) := rfl
  rw [e, IntKind.wrap_i64]
  omega

theorem byte_t (bs : List Int) (i h : Int) (h0 : 0 ≤ i) (h1 : i ≤ (bs.length : Int)) (hb : bs.length ≤ 1048576) :
    ∃ r i' h', spec_l01Byte.f bs i h = some (r, i', h') ∧ (0 ≤ r ∧ r ≤ 255) ∧ 0 ≤ i' ∧ i' ≤ (bs.length : Int) := by
  unfold spec_l01Byte.f
  by_cases hl : i < (bs.length : Int)
  · rw [if_pos hl, if_pos h0]
    have e : wrap64 (i + 1) = i + 1 := by unfold wrap64; omega
    exact ⟨_, _, _, rfl, and255 _, by omega, by omega⟩
  · rw [if_neg hl]
    exact ⟨_, _, _, rfl, and255 _, h0, h1⟩
theorem tmod_range (x a : Int) (hx : 0 ≤ x) (ha : 0 < a) : 0 ≤ Int.tmod x a ∧ Int.tmod x a < a := by
  rw [Int.tmod_eq_emod_of_nonneg hx]
  exact ⟨Int.emod_nonneg _ (by omega), Int.emod_lt_of_pos _ ha⟩
theorem below_t (bs : List Int) (i h n : Int) (h0 : 0 ≤ i) (h1 : i ≤ (bs.length : Int)) (hb : bs.length ≤ 1048576) :
    ∃ r i' h', spec_l01Below.f bs i h n = some (r, i', h') ∧ (0 ≤ r ∧ (0 < n → r < n) ∧ (n ≤ 0 → r = 0)) ∧ 0 ≤ i' ∧ i' ≤ (bs.length : Int) := by
  unfold spec_l01Below.f
  by_cases hn : n ≤ 0
  · rw [if_pos hn]
    exact ⟨_, _, _, rfl, ⟨by omega, by omega, fun _ => rfl⟩, h0, h1⟩
  rw [if_neg hn]
  obtain ⟨r, i1, s1, e1, g1, h2, h3⟩ := byte_t bs i h h0 h1 hb
  by_cases h256 : n ≤ 256
  · rw [if_pos h256, e1, Option.bind_some, if_neg (by omega)]
    have := tmod_range r n g1.1 (by omega)
    exact ⟨_, _, _, rfl, ⟨this.1, fun _ => this.2, fun h => absurd h hn⟩, h2, h3⟩
  · rw [if_neg h256, e1, Option.bind_some]
    obtain ⟨r2, i2, s2, e2, g2, h4, h5⟩ := byte_t bs i1 s1 h2 h3 hb
    rw [e2, Option.bind_some]
    obtain ⟨r3, i3, s3, e3, g3, h6, h7⟩ := byte_t bs i2 s2 h4 h5 hb
    rw [e3, Option.bind_some]
    obtain ⟨r4, i4, s4, e4, g4, h8, h9⟩ := byte_t bs i3 s3 h6 h7 hb
    rw [e4, Option.bind_some, if_neg (by omega)]
    have hw : 0 ≤ wrap64 (wrap64 (wrap64 (wrap64 (r * 16777216) + wrap64 (r2 * 65536)) + wrap64 (r3 * 256)) + r4) := by unfold wrap64; omega
    have := tmod_range _ n hw (by omega)
    exact ⟨_, _, _, rfl, ⟨this.1, fun _ => this.2, fun h => absurd h hn⟩, h8, h9⟩
theorem once_t (bs : List Int) (i h n : Int) (h0 : 0 ≤ i) (h1 : i ≤ (bs.length : Int)) (hb : bs.length ≤ 1048576) :
    ∃ r i' h', spec_l01Once.f bs i h n = some (r, i', h') ∧ 0 ≤ i' ∧ i' ≤ (bs.length : Int) := by
  obtain ⟨r, i1, s1, e1, -, h2, h3⟩ := below_t bs i h n h0 h1 hb
  unfold spec_l01Once.f
  rw [e1, Option.bind_some]
  exact ⟨_, _, _, rfl, h2, h3⟩
theorem pickInt_t (bs : List Int) (i h : Int) (xs : List Int) (hx : 0 < xs.length) (h0 : 0 ≤ i) (h1 : i ≤ (bs.length : Int)) (hb : bs.length ≤ 1048576) :
    ∃ r i' h', spec_l01PickInt.f bs i h xs = some (r, i', h') ∧ r ∈ xs ∧ 0 ≤ i' ∧ i' ≤ (bs.length : Int) := by
  obtain ⟨r, i1, s1, e1, ⟨g0, g1, -⟩, h2, h3⟩ := below_t bs i h (xs.length : Int) h0 h1 hb
  have g2 := g1 (by omega)
  unfold spec_l01PickInt.f
  rw [e1, Option.bind_some, if_pos g0, if_pos g2]
  obtain ⟨m, rfl⟩ := Int.eq_ofNat_of_zero_le g0
  have hm : m < xs.length := by omega
  exact ⟨_, _, _, rfl, by simp [rd, hm], h2, h3⟩
theorem pick_t (bs : List Int) (i h : Int) (xs : List ByteArray) (hx : 0 < xs.length) (h0 : 0 ≤ i) (h1 : i ≤ (bs.length : Int)) (hb : bs.length ≤ 1048576) :
    ∃ r i' h', spec_l01Pick.f bs i h xs = some (r, i', h') ∧ r ∈ xs ∧ 0 ≤ i' ∧ i' ≤ (bs.length : Int) := by
  obtain ⟨r, i1, s1, e1, ⟨g0, g1, -⟩, h2, h3⟩ := below_t bs i h (xs.length : Int) h0 h1 hb
  have g2 := g1 (by omega)
  unfold spec_l01Pick.f
  rw [e1, Option.bind_some, if_pos g0, if_pos g2]
  obtain ⟨m, rfl⟩ := Int.eq_ofNat_of_zero_le g0
  have hm : m < xs.length := by omega
  exact ⟨_, _, _, rfl, by simp [rdOf, hm], h2, h3⟩

/-- A cursor at block g; its bytes came in by w0. -/
def Cur (w0 W : World) (g : Nat) : Prop := ∃ (bs : List Int) (i h : Int), bs.length ≤ 1048576 ∧ 0 ≤ i ∧ i ≤ (bs.length : Int) ∧ IsS186 w0 W g bs i h ∧ Below w0.heap.size w0 W
theorem Cur.bl {w0 W : World} {g : Nat} (h : Cur w0 W g) : Below w0.heap.size w0 W := by
  obtain ⟨bs, i, s, -, -, -, -, h⟩ := h; exact h
theorem Cur.lt {w0 W : World} {g : Nat} (h : Cur w0 W g) : g < W.heap.size := by
  obtain ⟨bs, i, s, -, -, -, h, -⟩ := h; exact h.lt
theorem Cur.ge {w0 W : World} {g : Nat} (h : Cur w0 W g) : w0.heap.size ≤ g := by
  obtain ⟨bs, i, s, -, -, -, h, -⟩ := h; exact h.ge
theorem Cur.alloc {w0 W : World} {g : Nat} (h : Cur w0 W g) (o : Obj) : Cur w0 (W.alloc o) g := by
  obtain ⟨bs, i, s, h1, h2, h3, h4, h5⟩ := h
  exact ⟨bs, i, s, h1, h2, h3, h4.alloc o, bl_alloc h5 o⟩
theorem Cur.below {w0 W W1 : World} {g : Nat} (h : Cur w0 W g) (hb : Below W.heap.size W W1) : Cur w0 W1 g := by
  obtain ⟨bs, i, s, h1, h2, h3, h4, h5⟩ := h
  exact ⟨bs, i, s, h1, h2, h3, h4.below hb, bl_then h5 hb⟩
theorem Cur.far {w0 W : World} {g : Nat} {p : Addr} (h : Cur w0 W g) (hne : g ≠ p.block) (hp : w0.heap.size ≤ p.block) (u : Value) : Cur w0 (W.setCell p u) g := by
  obtain ⟨bs, i, s, h1, h2, h3, h4, h5⟩ := h
  exact ⟨bs, i, s, h1, h2, h3, h4.far hne u, bl_set h5 hp⟩
theorem Cur.drewN {w0 W : World} {g : Nat} (h : Cur w0 W g) (n : Nat) : Cur w0 (W.drewN n) g := h.below (bl_drewN (Below.refl _ _) n)
theorem Cur.drew {w0 W : World} {g : Nat} (h : Cur w0 W g) : Cur w0 W.drew g := h.below (bl_drew (Below.refl _ _))
theorem kcell {g : Nat} {W w1 : World} (h : KeepBut W w1 g none) : (∀ b o, b < W.heap.size → b ≠ g → w1.cell? ⟨b, o, none⟩ = W.cell? ⟨b, o, none⟩) ∧ (∀ b o, b < W.heap.size → b ≠ g → w1.frozen? ⟨b, o, none⟩ = W.frozen? ⟨b, o, none⟩) :=
  ⟨fun b o hb hg => by simp only [World.cell?, h.2 b hb hg (by simp)], fun b o hb hg => by simp only [World.frozen?, h.2 b hb hg (by simp)]⟩
/-- A call that moves the cursor at g and makes memory, no more. -/
def LD (w0 : World) (g : Nat) (w w' : World) : Prop := (Cur w0 w g → Cur w0 w' g) ∧ KeepBut w w' g none
theorem LD.refl (w0 : World) (g : Nat) (w : World) : LD w0 g w w := ⟨id, KeepBut.refl _ _ _⟩
theorem LD.trans (w0 : World) (g : Nat) (a b c : World) (h : LD w0 g a b) (k : LD w0 g b c) : LD w0 g a c := ⟨k.1 ∘ h.1, h.2.trans k.2 (.inl rfl)⟩
theorem LD.below {w0 : World} {g : Nat} {w w' : World} (h : Below w.heap.size w w') : LD w0 g w w' := ⟨fun c => c.below h, KeepBut.of_below h g none⟩
theorem LD.drew (w0 : World) (g : Nat) (w : World) : LD w0 g w w.drew := LD.below (bl_drew (Below.refl _ _))
theorem blk_keep {T g b : Nat} {cs : Array Value} {W W1 : World} (h : Blk T b cs W) (hk : KeepBut W W1 g none) (hne : b ≠ g) : Blk T b cs W1 := (hk.2 b h.lt hne (by simp)).trans h

set_option maxHeartbeats 1000000 in
set_option maxRecDepth 100000 in
theorem new_C0 (A : Option Addr) (c : Nat) (bs : List Int) (w0 w : World) (hb : bs.length ≤ 1048576) (hB0 : Below w0.heap.size w0 w) (hr : Kd.C (Kd.int .u8) w0 A bs.length bs) (hc : bs.length ≤ c) :
    Calls Try.prog 89 #[.slice A bs.length c] w fun e w' => ∃ g : Nat, e = .returned (.pointer (some ⟨g, 0, none⟩)) ∧ Cur w0 w' g ∧ w.heap.size ≤ g ∧ Below w.heap.size w w' := by
  have HR := Lib.hid (Kd.C_below hr hB0)
  have HR0 := Lib.hid hr
  clear hr
  go_enter Try.func89, Try.ntmps89
  go_wp2_with fail
  go_loopg [3, 4] bs.length (fun kq v3 v4 w' => ∃ (i : Nat) (s : Int), v3 = .int .i64 s ∧ v4 = .int .i64 (i : Int) ∧ i + kq = bs.length ∧ Below w.heap.size w w')
  case atStart => exact ⟨0, _, rfl, rfl, by omega, (by repeat (first | exact Below.refl _ _ | apply bl_alloc | apply bl_drewN | apply bl_drew | refine bl_set ?_ (by simp) | refine bl_then ?_ (by assumption)))⟩
  case round =>
    obtain ⟨i, s, rfl, rfl, hik, hB⟩ := hrel
    have hfin : ∀ s : Int, Cur w0 (wr.alloc (.cells #[.slice A bs.length c, .int .i64 0, .int .i64 s] 186)) wr.heap.size := fun s => ⟨bs, 0, s, hb, by omega, by omega, IsS186.new w0 wr A c bs 0 s (bl_then hB0 hB) HR0.out, bl_alloc (bl_then hB0 hB) _⟩
    cases gk with
    | zero =>
      have hlt : ¬ ((i : Int) < (bs.length : Int)) := by omega
      go_wp2_with fail
      go_ret
      exact ⟨_, rfl, hfin s, hB.size, bl_alloc hB _⟩
    | succ n =>
      have hlt : (i : Int) < (bs.length : Int) := by omega
      obtain ⟨ad, e1, x0⟩ := Kd.at_int HR.out (i : Int) (by omega) hlt
      subst e1
      have x0 := (Below.cell hB (World.block_lt_of_cell? w _ x0)).trans x0
      simp only [Int.toNat_natCast] at x0
      have E1 := Lib.hid (show wrap64 ((i : Int) + 1) = ((i + 1 : Nat) : Int) from by unfold wrap64; omega)
      by_cases h4 : (i : Int) < 4000
      · go_wp2_with fail
        go_roundg n
        case measure => omega
        case rel => exact ⟨i + 1, _, rfl, by first | rfl | (rw [E1.out]), by omega, hB⟩
      · go_wp2_with fail
        go_ret
        exact ⟨_, rfl, hfin s, hB.size, bl_alloc hB _⟩
theorem new_C (A : Option Addr) (c : Nat) (bs : List Int) (w : World) (hb : bs.length ≤ 1048576) (hr : Kd.C (Kd.int .u8) w A bs.length bs) (hc : bs.length ≤ c) :
    Calls Try.prog 89 #[.slice A bs.length c] w fun e w' => ∃ g : Nat, e = .returned (.pointer (some ⟨g, 0, none⟩)) ∧ Cur w w' g := by
  refine (new_C0 A c bs w w hb (Below.refl _ _) hr hc).mono ?_
  rintro e w' ⟨g, rfl, h, -⟩
  exact ⟨g, rfl, h⟩
theorem below_C (n : Int) {w0 w : World} {g : Nat} (hc : Cur w0 w g) :
    Calls Try.prog 105 #[.pointer (some ⟨g, 0, none⟩), .int .i64 n] w fun e w' => ∃ r : Int, e = .returned (.int .i64 r) ∧ (0 ≤ r ∧ (0 < n → r < n) ∧ (n ≤ 0 → r = 0)) ∧ Cur w0 w' g ∧ KeepBut w w' g none := by
  obtain ⟨bs, i, s, h1, h2, h3, h4, h5⟩ := hc
  obtain ⟨r, i', s', e, hr, h6, h7⟩ := below_t bs i s n h2 h3 h1
  refine (spec_l01Below.calls g bs i s n r i' s' w0 w h4 h5 e).mono ?_
  rintro e w' ⟨rfl, k1, k2, k3⟩
  exact ⟨r, rfl, hr, ⟨bs, i', s', h1, h6, h7, k1, k2⟩, k3⟩
theorem once_C (n : Int) {w0 w : World} {g : Nat} (hc : Cur w0 w g) :
    Calls Try.prog 106 #[.pointer (some ⟨g, 0, none⟩), .int .i64 n] w fun e w' => ∃ r : Bool, e = .returned (.bool r) ∧ Cur w0 w' g ∧ KeepBut w w' g none := by
  obtain ⟨bs, i, s, h1, h2, h3, h4, h5⟩ := hc
  obtain ⟨r, i', s', e, h6, h7⟩ := once_t bs i s n h2 h3 h1
  refine (spec_l01Once.calls g bs i s n r i' s' w0 w h4 h5 e).mono ?_
  rintro e w' ⟨rfl, k1, k2, k3⟩
  exact ⟨r, rfl, ⟨bs, i', s', h1, h6, h7, k1, k2⟩, k3⟩
theorem pickInt_C (A : Option Addr) (c : Nat) (xs : List Int) (hx : 0 < xs.length) {w0 w : World} {g : Nat} (hc : Cur w0 w g) (hr : Kd.C (Kd.int .i64) w A xs.length xs) (hl : xs.length ≤ c) (hf : ∀ ad, A = some ad → ad.block ≠ g) :
    Calls Try.prog 143 #[.pointer (some ⟨g, 0, none⟩), .slice A xs.length c] w fun e w' => ∃ r : Int, e = .returned (.int .i64 r) ∧ r ∈ xs ∧ Cur w0 w' g ∧ KeepBut w w' g none := by
  obtain ⟨bs, i, s, h1, h2, h3, h4, h5⟩ := hc
  obtain ⟨r, i', s', e, hm, h6, h7⟩ := pickInt_t bs i s xs hx h2 h3 h1
  refine (spec_l01PickInt.calls g bs i s A c xs r i' s' w0 w h4 h5 hr hl (fun ad ha _ => hf ad ha) e).mono ?_
  rintro e w' ⟨rfl, k1, k2, k3⟩
  exact ⟨r, rfl, hm, ⟨bs, i', s', h1, h6, h7, k1, k2⟩, k3⟩
theorem pick_C (A : Option Addr) (c : Nat) (xs : List ByteArray) (hx : 0 < xs.length) {w0 w : World} {g : Nat} (hc : Cur w0 w g) (hr : Kd.C Kd.string w A xs.length xs) (hl : xs.length ≤ c) (hf : ∀ ad, A = some ad → ad.block ≠ g) :
    Calls Try.prog 181 #[.pointer (some ⟨g, 0, none⟩), .slice A xs.length c] w fun e w' => ∃ r : ByteArray, e = .returned (.string r) ∧ r ∈ xs ∧ Cur w0 w' g ∧ KeepBut w w' g none := by
  obtain ⟨bs, i, s, h1, h2, h3, h4, h5⟩ := hc
  obtain ⟨r, i', s', e, hm, h6, h7⟩ := pick_t bs i s xs hx h2 h3 h1
  refine (spec_l01Pick.calls g bs i s A c xs r i' s' w0 w h4 h5 hr hl (fun ad ha _ => hf ad ha) e).mono ?_
  rintro e w' ⟨rfl, k1, k2, k3⟩
  exact ⟨r, rfl, hm, ⟨bs, i', s', h1, h6, h7, k1, k2⟩, k3⟩
theorem long_C (n x : Int) (w : World) (hn : 0 ≤ n) (hl : n ≤ 1048576) :
    Calls Try.prog 144 #[.int .i64 n, .int .u8 x] w fun e w' => ∃ d : ByteArray, e = .returned (.string d) ∧ (d.size : Int) = n ∧ Below w.heap.size w w' := by
  obtain ⟨m, rfl⟩ := Int.eq_ofNat_of_zero_le hn
  have hh : ∀ (n k i : Nat) (acc : List Int), n + i = m → n < k → acc.length = m → ∃ d : ByteArray, spec_l01Long.l0 k (m : Int) x acc i = some d ∧ d.size = m := by
    intro n
    induction n with
    | zero =>
      intro k i acc h hk ha
      obtain ⟨k, rfl⟩ : ∃ j, k = j + 1 := ⟨k - 1, by omega⟩
      unfold spec_l01Long.l0
      rw [if_neg (by omega)]
      exact ⟨_, rfl, by rw [strOfNums_size]; exact ha⟩
    | succ n ih =>
      intro k i acc h hk ha
      obtain ⟨k, rfl⟩ : ∃ j, k = j + 1 := ⟨k - 1, by omega⟩
      have e : wrap64 ((i : Int) + 1) = ((i + 1 : Nat) : Int) := by unfold wrap64; omega
      unfold spec_l01Long.l0
      rw [if_pos (by omega), if_pos (by omega), if_pos (by omega), e]
      exact ih k (i + 1) _ (by omega) (by omega) (by simpa using ha)
  obtain ⟨d, hd, hs⟩ := hh m (m + 1) 0 (List.replicate m 0) (by omega) (by omega) (by simp)
  refine (spec_l01Long.calls (m + 1) m x d w ?_).mono ?_
  · unfold spec_l01Long.f
    rw [if_pos (by omega), if_pos (by simp; omega)]
    simpa using hd
  · rintro e w' ⟨rfl, hb⟩
    exact ⟨d, rfl, by omega, hb⟩
end Go.Proofs.Ytdjikjmjajlgcaa.PFnPuts
end

/-! ### YtdjikjmjajlgcaaQFnPutsx20 -/
section
namespace Go.Proofs.Ytdjikjmjajlgcaa.PFnPuts
open Go.RowKit Go.Proofs.YtdjikjmjajlgcaaW.PrintWords Go.Proofs.YtdjikjmjajlgcaaW.PrintLast Go.Proofs.YtdjikjmjajlgcaaW.PrintMore
attribute [local go_sem] max2_int min2_int max_two min_two max_three min_three max_four min_four   -- for this text's walks alone
set_option linter.unusedVariables false
set_option linter.unusedSimpArgs false

/-! ### spec_l09Queue: function 183 -/
def spec_l09Queue.l0 : Nat → Int → Int → List (S120) → List (S111) → List (S127) → List (S113) → Option (Int × Int × List ByteArray)
  | 0, _, _, _, _, _, _ => none
  | k + 1, x1, x5, x199000, x199001, x199002, x199003 => if x5 < (x199002.length : Int) then (if 0 ≤ x5 then (if ((rd_T127 x199002 x5).f0) = x1 then (some ((rd_T127 x199002 x5).f0, (rd_T127 x199002 x5).f1, (rd_T127 x199002 x5).f2)) else (spec_l09Queue.l0 k x1 (wrap64 (x5 + 1)) x199000 x199001 x199002 x199003)) else (none)) else (some (x1, 0, ([] : List ByteArray)))
def spec_l09Queue.f (k : Nat) (l0_0 : List (S120)) (l0_1 : List (S111)) (l0_2 : List (S127)) (l0_3 : List (S113)) (a1 : Int) : Option (Int × Int × List ByteArray) := spec_l09Queue.l0 k a1 0 l0_0 l0_1 l0_2 l0_3
theorem spec_l09Queue.mono_l : ∀ k, (∀ y0 y1 y2 y3 y4 y5, LeO (spec_l09Queue.l0 k y0 y1 y2 y3 y4 y5) (spec_l09Queue.l0 (k + 1) y0 y1 y2 y3 y4 y5))
  | 0 => fun _ _ _ _ _ _ r h => by simp [spec_l09Queue.l0] at h
  | k + 1 => by
    have ih0 := spec_l09Queue.mono_l k
    · intro y0 y1 y2 y3 y4 y5
      unfold spec_l09Queue.l0
      repeat' first
      | (with_reducible exact ih0 _ _ _ _ _ _)
      | (with_reducible exact LeO.refl _)
      | (with_reducible exact LeO.none _)
      | (with_reducible refine LeO.ite ?_ ?_)
      | (with_reducible refine LeO.bind ?_ (fun _ => ?_))
      | exact ih0 _ _ _ _ _ _
      | exact LeO.none _
      | refine LeO.ite ?_ ?_
      | refine LeO.bind ?_ (fun _ => ?_)
theorem spec_l09Queue.mono : ∀ a0 a1 a2 a3 a4 k, LeO (spec_l09Queue.f k a0 a1 a2 a3 a4) (spec_l09Queue.f (k + 1) a0 a1 a2 a3 a4) := by
  intro a0 a1 a2 a3 a4 k
  have ih0 := spec_l09Queue.mono_l k
  unfold spec_l09Queue.f
  repeat' first
      | (with_reducible exact ih0 _ _ _ _ _ _)
      | (with_reducible exact LeO.refl _)
      | (with_reducible exact LeO.none _)
      | (with_reducible refine LeO.ite ?_ ?_)
      | (with_reducible refine LeO.bind ?_ (fun _ => ?_))
      | exact ih0 _ _ _ _ _ _
      | exact LeO.none _
      | refine LeO.ite ?_ ?_
      | refine LeO.bind ?_ (fun _ => ?_)
end Go.Proofs.Ytdjikjmjajlgcaa.PFnPuts
end

/-! ### YtdjikjmjajlgcaaFlow -/
section
namespace Go.Proofs.Ytdjikjmjajlgcaa
open Go.RowKit
set_option linter.unusedVariables false

/-! A REGION THAT DRAWS ITS ORDER: EVERY ORDER BY WHAT IS KNOWN OF THE VALUES. Each operation gets a predicate on the world and its value, kept by whatever lays blocks; each operation is shown in every frame in which the operations that it waits for have brought what their predicates say. So a value may be another in another order (a new slice's address). (own) -/
section
variable {P : Program}
abbrev VPred := World → Value → Prop
def VMono (R : VPred) : Prop := ∀ w w' v, R w v → Below w.heap.size w w' → R w' v
theorem vmono_eq (e : Value) : VMono (fun _ v => v = e) := fun _ _ _ h _ => h

def flowUpon (P : Program) (R : VPred) (w : World) : Result Next → Prop
  | .ok (.value u) w' => Below w.heap.size w w' ∧ R w' u
  | .ok .skip w' => Below w.heap.size w w' ∧ R w' undef
  | .ok (.enter f args) w' => Calls P f args w' (fun e w'' => ∃ v, e = .returned v ∧ Below w.heap.size w w'' ∧ R w'' v)
  | _ => False

abbrev FTab := List (Nat × Tmp × VPred)
def dep1 (A : Act) (w : World) (j : Nat) : FTab → Prop
  | [] => True
  | (i, d, R) :: r => if i = j then R w (A.eval (.tmp d)) else dep1 A w j r
def deps (T : FTab) (A : Act) (w : World) : List Edge → Prop
  | [] => True
  | e :: r => (if Region.binds .any e = true then dep1 A w e.on T else True) ∧ deps T A w r
def allT (x : Nat → Value) (w : World) : FTab → Prop
  | [] => True
  | (i, _, R) :: r => R w (x i) ∧ allT x w r
def baseF (A a : Act) : List Nat → Prop
  | [] => True
  | t :: r => A.eval (.tmp t) = a.eval (.tmp t) ∧ baseF A a r
def frameOf (x : Nat → Value) : List Oper → Nat → Act → Act
  | [], _, a => a
  | o :: r, k, a => frameOf x r (k + 1) (a.put o.dst (x k))
def addT (o : Oper) (i : Nat) (R : VPred) (T : FTab) : FTab := match o.dst with
  | some d => (i, d, R) :: T
  | none => T

def Flow (P : Program) (w : World) (a : Act) (bs : List Nat) (Q : Exit → Act → World → Prop) (l0 : List Oper) : List Oper → Nat → FTab → Prop
  | [], _, T => ∀ x w', Below w.heap.size w w' → allT x w' T → Q .normal (frameOf x l0 0 a) w'
  | o :: rest, i, T => ∃ R : VPred, VMono R ∧
      (∀ A w', Below w.heap.size w w' → baseF A a bs → deps T A w' o.after.toList → flowUpon P R w' ((execOp A.eval o).run P w')) ∧ Flow P w a bs Q l0 rest (i + 1) (addT o i R T)

theorem dep1_of {A : Act} {w : World} {j : Nat} : ∀ {T : FTab}, (∀ d R, (j, d, R) ∈ T → R w (A.eval (.tmp d))) → dep1 A w j T
  | [], _ => trivial
  | (i, d, R) :: r, h => by
    unfold dep1
    split
    · rename_i e; subst e; exact h d R (.head _)
    · exact dep1_of fun d R hm => h d R (.tail _ hm)
theorem deps_of {T : FTab} {A : Act} {w : World} : ∀ {es : List Edge}, (∀ e ∈ es, Region.binds .any e = true → ∀ d R, (e.on, d, R) ∈ T → R w (A.eval (.tmp d))) → deps T A w es
  | [], _ => trivial
  | e :: r, h => by
    refine ⟨?_, deps_of fun e he => h e (.tail _ he)⟩
    split
    · rename_i hb; exact dep1_of (h e (.head _) hb)
    · trivial
theorem allT_of {x : Nat → Value} {w : World} : ∀ {T : FTab}, (∀ i d R, (i, d, R) ∈ T → R w (x i)) → allT x w T
  | [], _ => trivial
  | (i, d, R) :: r, h => ⟨h i d R (.head _), allT_of fun i d R hm => h i d R (.tail _ hm)⟩
theorem baseF_of {A a : Act} : ∀ {bs : List Nat}, (∀ t ∈ bs, A.eval (.tmp t) = a.eval (.tmp t)) → baseF A a bs
  | [], _ => trivial
  | t :: r, h => ⟨h t (.head _), baseF_of fun t ht => h t (.tail _ ht)⟩

theorem flow_table {w : World} {a : Act} {bs : List Nat} {Q : Exit → Act → World → Prop} {l0 : List Oper} : ∀ (rest : List Oper) (i : Nat) (T : FTab), (∀ k d R, (k, d, R) ∈ T → k < i) → Flow P w a bs Q l0 rest i T →
    ∃ T' : FTab, (∀ x ∈ T, x ∈ T') ∧ (∀ k d R, (k, d, R) ∈ T' → k < i → (k, d, R) ∈ T) ∧ (∀ k d R, (k, d, R) ∈ T' → k < i + rest.length) ∧
      (∀ (j : Nat) (o : Oper), rest[j]? = some o → ∃ R, VMono R ∧ (∀ d' R', (i + j, d', R') ∈ T' → o.dst = some d' ∧ R' = R) ∧
        (∀ A w', Below w.heap.size w w' → baseF A a bs → (∀ e ∈ o.after.toList, Region.binds .any e = true → ∀ d R, (e.on, d, R) ∈ T' → R w' (A.eval (.tmp d))) → flowUpon P R w' ((execOp A.eval o).run P w'))) ∧
      (∀ x w', Below w.heap.size w w' → allT x w' T' → Q .normal (frameOf x l0 0 a) w')
  | [], i, T, hT, h => ⟨T, fun _ h => h, fun _ _ _ h _ => h, fun k d R hm => by simpa using hT k d R hm, fun j o hj => by simp at hj, h⟩
  | o :: rest, i, T, hT, h => by
    obtain ⟨R, hmono, hobl, hrest⟩ := h
    have hT1 : ∀ k d R', (k, d, R') ∈ addT o i R T → k < i + 1 := fun k d R' hm => by
      unfold addT at hm
      split at hm
      · rcases List.mem_cons.1 hm with hm | hm
        · simp only [Prod.mk.injEq] at hm; omega
        · have := hT k d R' hm; omega
      · have := hT k d R' hm; omega
    have hsub : ∀ y ∈ T, y ∈ addT o i R T := fun y hy => by
      unfold addT
      split
      · exact .tail _ hy
      · exact hy
    obtain ⟨T', h1, h2, h3, h4, h5⟩ := flow_table rest (i + 1) (addT o i R T) hT1 hrest
    refine ⟨T', fun y hy => h1 y (hsub y hy), fun k d R' hm hk => ?_, fun k d R' hm => ?_, fun j o' hj => ?_, h5⟩
    · have := h2 k d R' hm (by omega)
      unfold addT at this
      split at this
      · rcases List.mem_cons.1 this with hm | hm
        · simp only [Prod.mk.injEq] at hm; omega
        · exact hm
      · exact this
    · have := h3 k d R' hm
      simp only [List.length_cons]; omega
    · cases j with
      | zero =>
        simp only [List.getElem?_cons_zero, Option.some.injEq] at hj
        subst hj
        refine ⟨R, hmono, fun d' R' hm => ?_, fun A w' hb hbase hd => hobl A w' hb hbase (deps_of fun e he hbn d R' hm => hd e he hbn d R' (h1 _ (hsub _ hm)))⟩
        have := h2 _ d' R' hm (by omega)
        unfold addT at this
        split at this
        · rename_i dd hdd
          rcases List.mem_cons.1 this with hm | hm
          · simp only [Prod.mk.injEq] at hm
            exact ⟨by rw [hdd, hm.2.1], hm.2.2⟩
          · have := hT _ d' R' hm; omega
        · have := hT _ d' R' this; omega
      | succ j =>
        simp only [List.getElem?_cons_succ] at hj
        obtain ⟨R2, a1, a2, a3⟩ := h4 j o' hj
        exact ⟨R2, a1, fun d' R' hm => a2 d' R' (by rw [show i + 1 + j = i + (j + 1) from by omega]; exact hm), a3⟩

theorem wpAny_inv {ops : Array Oper} {Q : Exit → Act → World → Prop} {md : Region.Mode} (I : Array Bool → Act → World → Prop)
    (step : ∀ listed a w i, I listed a w → i ∈ Region.ready md ops listed → wpOp P ops Q i (fun a' w' => I (listed.setIfInBounds i true) a' w') a w)
    (fin : ∀ listed a w, I listed a w → (∀ i, i ∉ Region.ready md ops listed) → Q .normal a w) (rank : Array Bool → Nat)
    (hr : ∀ listed a w i, I listed a w → i ∈ Region.ready md ops listed → rank (listed.setIfInBounds i true) < rank listed) :
    ∀ (fuel : Nat) (listed : Array Bool) (a : Act) (w : World), rank listed ≤ fuel → I listed a w → wpAny P md ops Q fuel listed a w
  | 0, listed, a, w, hf, h => by
    have hn : ∀ i, i ∉ Region.ready md ops listed := fun i hi => by have := hr listed a w i h hi; omega
    exact ⟨List.eq_nil_iff_forall_not_mem.2 hn, fin _ _ _ h hn⟩
  | fuel + 1, listed, a, w, hf, h => ⟨fun h0 => fin _ _ _ h (by rw [h0]; simp), fun i hi => wpOp_mono (fun a' w' h' => wpAny_inv I step fin rank hr fuel _ a' w' (by have := hr listed a w i h hi; omega) h') (step _ _ _ _ h hi)⟩

theorem frame_eq (x : Nat → Value) (A : Act) : ∀ (l : List Oper) (k : Nat) (a : Act), A.defers = a.defers → A.tmps.size = a.tmps.size →
    (∀ (i : Nat) (o : Oper) d, l[i]? = some o → o.dst = some d → d < a.tmps.size → A.tmps[d]? = some (x (k + i))) → (∀ t, a.tmps[t]? ≠ A.tmps[t]? → ∃ (i : Nat) (o : Oper), l[i]? = some o ∧ o.dst = some t) → frameOf x l k a = A
  | [], k, a, hdef, hsz, _, h => by
    have ht : a.tmps = A.tmps := by
      apply Array.ext_getElem?
      intro t
      by_cases he : a.tmps[t]? = A.tmps[t]?
      · exact he
      · obtain ⟨i, o, hi, _⟩ := h t he
        simp at hi
    obtain ⟨t1, d1⟩ := a
    obtain ⟨t2, d2⟩ := A
    simp only at ht hdef
    subst ht hdef
    rfl
  | o :: r, k, a, hdef, hsz, h1, h2 => by
    have hps : (a.put o.dst (x k)).tmps.size = a.tmps.size := by unfold Act.put; split <;> simp
    have hpd : (a.put o.dst (x k)).defers = a.defers := by unfold Act.put; split <;> rfl
    refine frame_eq x A r (k + 1) (a.put o.dst (x k)) (hdef.trans hpd.symm) (hsz.trans hps.symm) (fun i o' d hi hd hlt => ?_) (fun t ht => ?_)
    · have := h1 (i + 1) o' d (by simpa using hi) hd (by rw [hps] at hlt; exact hlt)
      rw [this]; congr 2; omega
    · have hto : o.dst ≠ some t := fun ho => by
        rcases Nat.lt_or_ge t a.tmps.size with hlt | hge
        · have := h1 0 o t (by simp) ho hlt
          rw [this] at ht
          rw [ho] at ht
          simp [Act.put, hlt] at ht
        · rw [Array.getElem?_eq_none (by omega), Array.getElem?_eq_none (by omega)] at ht
          exact ht rfl
      have hsame : (a.put o.dst (x k)).tmps[t]? = a.tmps[t]? := by
        unfold Act.put
        split
        · rename_i d hd
          have : d ≠ t := fun e => hto (by rw [hd, e])
          simp [Array.getElem?_setIfInBounds_ne this]
        · rfl
      rw [hsame] at ht
      obtain ⟨i, o', hi, hd⟩ := h2 t ht
      cases i with
      | zero => simp at hi; subst hi; exact absurd hd hto
      | succ i => exact ⟨i, o', by simpa using hi, hd⟩

/-- The places written are not written twice, and lie in the frame; no operation is guarded. -/
def flowB (n : Nat) : List Oper → Bool
  | [] => true
  | o :: r => o.guard.isNone && (match o.dst with | some d => decide (d < n) && r.all (fun o' => o'.dst != some d) | none => true) && flowB n r
theorem flowB_spec {n : Nat} : ∀ {l : List Oper}, flowB n l = true → ∀ (i : Nat) (o : Oper), l[i]? = some o → o.guard = none ∧ ∀ d, o.dst = some d → d < n ∧ ∀ (j : Nat) (o' : Oper), l[j]? = some o' → i < j → o'.dst ≠ some d
  | [], _, i, o, hi => by simp at hi
  | o0 :: r, h, i, o, hi => by
    simp only [flowB, Bool.and_eq_true] at h
    obtain ⟨⟨hg, hd⟩, hr⟩ := h
    cases i with
    | zero =>
      simp only [List.getElem?_cons_zero, Option.some.injEq] at hi
      subst hi
      refine ⟨by simpa using hg, fun d hdd => ?_⟩
      rw [hdd] at hd
      simp only [Bool.and_eq_true, decide_eq_true_eq, List.all_eq_true, bne_iff_ne] at hd
      refine ⟨hd.1, fun j o' hj hlt => ?_⟩
      cases j with
      | zero => omega
      | succ j => exact hd.2 o' (List.mem_of_getElem? (by simpa using hj))
    | succ i =>
      obtain ⟨h1, h2⟩ := flowB_spec hr i o (by simpa using hi)
      refine ⟨h1, fun d hdd => ⟨(h2 d hdd).1, fun j o' hj hlt => ?_⟩⟩
      cases j with
      | zero => omega
      | succ j => exact (h2 d hdd).2 j o' (by simpa using hj) (by omega)

/-- What is waited for stands ahead. -/
def flowO : List Oper → Nat → Bool
  | [], _ => true
  | o :: r, k => o.after.toList.all (fun e => !Region.binds .any e || decide (e.on < k)) && flowO r (k + 1)
theorem flowO_spec : ∀ {l : List Oper} {k : Nat}, flowO l k = true → ∀ (i : Nat) (o : Oper), l[i]? = some o → ∀ e ∈ o.after.toList, Region.binds .any e = true → e.on < k + i
  | [], _, _, i, o, hi => by simp at hi
  | o0 :: r, k, h, i, o, hi => by
    simp only [flowO, Bool.and_eq_true] at h
    cases i with
    | zero =>
      simp only [List.getElem?_cons_zero, Option.some.injEq] at hi
      subst hi
      intro e he hb
      have := List.all_eq_true.1 h.1 e he
      simpa [hb] using this
    | succ i =>
      intro e he hb
      have := flowO_spec h.2 i o (by simpa using hi) e he hb
      omega

def unl : List Bool → Nat
  | [] => 0
  | true :: r => unl r
  | false :: r => unl r + 1
theorem unl_set : ∀ (l : List Bool) (i : Nat), l[i]? = some false → unl (l.set i true) < unl l
  | [], i, h => by simp at h
  | b :: r, 0, h => by simp at h; subst h; simp [unl]
  | b :: r, i + 1, h => by
    have := unl_set r i (by simpa using h)
    cases b <;> simp [unl] <;> omega
theorem unl_rep : ∀ n : Nat, unl (List.replicate n false) = n
  | 0 => rfl
  | n + 1 => by simp [List.replicate_succ, unl, unl_rep n]

theorem flow_upon {o : Oper} {A : Act} {w : World} {R : VPred} {K : Act → World → Prop} {Q : Exit → Act → World → Prop}
    (h : flowUpon P R w ((execOp A.eval o).run P w)) (hk : ∀ v w', Below w.heap.size w w' → (R w' v) → K (A.put o.dst v) w') : o.wp P A w K Q := by
  unfold Oper.wp
  generalize (execOp A.eval o).run P w = r at *
  cases r with
  | ok n w' =>
    cases n <;> simp only [flowUpon] at h <;> simp only [Oper.upon]
    case value u => exact hk _ _ h.1 h.2
    case skip => exact hk _ _ h.1 h.2
    case enter f args =>
      refine h.mono ?_
      rintro e w2 ⟨v, rfl, hb, hr⟩
      exact hk _ _ hb hr
  | halt x w' => simp only [flowUpon] at h

theorem eval_put_ne {A : Act} {o : Oper} {v : Value} {d : Tmp} (h : o.dst ≠ some d) : (A.put o.dst v).eval (.tmp d) = A.eval (.tmp d) := by
  unfold Act.put
  split
  · rename_i t ht
    have : t ≠ d := fun e => h (by rw [ht, e])
    simp only [Act.eval, Array.getD_eq_getD_getElem?]
    rw [Array.getElem?_setIfInBounds_ne this]
  · rfl
theorem eval_put_eq {A : Act} {o : Oper} {v : Value} {d : Tmp} (h : o.dst = some d) (hlt : d < A.tmps.size) : (A.put o.dst v).eval (.tmp d) = v := by
  rw [h]
  simp [Act.put, Act.eval, Array.getD_eq_getD_getElem?, hlt]

theorem wp_region_flow {id : Nat} {Q : Exit → Act → World → Prop} {a : Act} {w : World} {l : List Oper} (bs : List Nat) (n : Nat) (hm : P.follows .mixedOrders = true) (hn : a.tmps.size = n)
    (hB : flowB n l = true) (hO : flowO l 0 = true) (hbs : bs.all (fun t => l.all (fun o => o.dst != some t)) = true) (h : Flow P w a bs Q l l 0 []) : (Code.region id l.toArray true).wp P Q a w := by
  obtain ⟨T, -, -, hlen, hobl, hfin⟩ := flow_table l 0 [] (by simp) h
  subst hn
  refine wp_region_any hm ?_
  refine wpAny_inv (fun listed A w' => listed.size = l.length ∧ Below w.heap.size w w' ∧ A.defers = a.defers ∧ A.tmps.size = a.tmps.size ∧ (∀ t, a.tmps[t]? ≠ A.tmps[t]? → ∃ (i : Nat) (o : Oper), l[i]? = some o ∧ o.dst = some t) ∧
      (∀ i d R, (i, d, R) ∈ T → listed.getD i false = true → R w' (A.eval (.tmp d)))) ?_ ?_ (fun listed => unl listed.toList) ?_ _ _ _ _ ?_ ?_
  · rintro listed A w' i ⟨hsz, hbel, hdef, hts, hdiff, hall⟩ hi
    obtain ⟨hun, o, ho, haft⟩ := mem_ready.1 hi
    have ho' : l[i]? = some o := by simpa using ho
    obtain ⟨hg, hd⟩ := flowB_spec hB i o ho'
    obtain ⟨R, hmono, huniq, hob⟩ := hobl i o ho'
    simp only [Nat.zero_add] at huniq
    unfold wpOp
    rw [ho]
    simp only [Region.wanted, hg, if_true]
    refine .inl (flow_upon (hob A w' hbel (baseF_of fun t ht => ?_) fun e he hb d R hmem => hall _ d R hmem (haft e (by simpa using he) hb)) fun v w2 hb2 hR => ?_)
    · have h1 := List.all_eq_true.1 hbs t ht
      have h2 : ∀ o ∈ l, o.dst ≠ some t := fun o ho => by simpa using List.all_eq_true.1 h1 o ho
      have h3 : a.tmps[t]? = A.tmps[t]? := Classical.byContradiction fun hne => by
        obtain ⟨i, o, hi, hd⟩ := hdiff t hne
        exact h2 o (List.mem_of_getElem? hi) hd
      simp only [Act.eval, Array.getD_eq_getD_getElem?, h3]
    · refine ⟨by simpa using hsz, hbel.trans ⟨hb2.os, hb2.tape, hb2.output, hb2.size, fun k hk => hb2.block k (Nat.lt_of_lt_of_le hk hbel.size)⟩, ?_, ?_, ?_, ?_⟩
      · rw [← hdef]; unfold Act.put; split <;> rfl
      · rw [← hts]; unfold Act.put; split <;> simp
      · intro t ht
        by_cases hdt : o.dst = some t
        · exact ⟨i, o, ho', hdt⟩
        · refine hdiff t fun he => ht ?_
          rw [he]
          unfold Act.put
          split
          · rename_i t' ht'
            have : t' ≠ t := fun e => hdt (by rw [ht', e])
            rw [Array.getElem?_setIfInBounds_ne this]
          · rfl
      · intro k d R' hmem hk
        by_cases hki : i = k
        · subst hki
          obtain ⟨hod, rfl⟩ := huniq d R' hmem
          rw [eval_put_eq hod (by rw [hts]; exact (hd d hod).1)]
          exact hR
        · have hk' : listed.getD k false = true := by rw [getD_set_ne false hki] at hk; exact hk
          have hold := hall k d R' hmem hk'
          have hkl : k < l.length := by simpa using hlen k d R' hmem
          have hko : l[k]? = some l[k] := by simp [hkl]
          obtain ⟨R2, hmono2, huniq2, -⟩ := hobl k l[k] hko
          simp only [Nat.zero_add] at huniq2
          obtain ⟨hod, rfl⟩ := huniq2 d R' hmem
          have hne : o.dst ≠ some d := fun hd0 => by
            rcases Nat.lt_or_gt_of_ne hki with h | h
            · exact (hd d hd0).2 k l[k] hko h hod
            · exact ((flowB_spec hB k l[k] hko).2 d hod).2 i o ho' h hd0
          rw [eval_put_ne hne]
          exact hmono2 _ _ _ hold hb2
  · rintro listed A w' ⟨hsz, hbel, hdef, hts, hdiff, hall⟩ hno
    have hdone : ∀ k, k < l.length → listed.getD k false = true := by
      intro k
      induction k using Nat.strongRecOn with
      | _ k ih =>
        intro hk
        refine Classical.byContradiction fun hf => hno k (mem_ready.2 ⟨?_, l[k], by simp [hk], fun e he hb => ?_⟩)
        · have hks : k < listed.size := by omega
          simp only [Array.getD_eq_getD_getElem?, Array.getElem?_eq_getElem hks, Option.getD_some] at hf ⊢
          simpa using hf
        · have hlt := flowO_spec hO k l[k] (by simp [hk]) e (by simpa using he) hb
          exact ih e.on (by omega) (by omega)
    have hx : frameOf (fun i => match (l[i]?).bind (·.dst) with | some d => A.eval (.tmp d) | none => undef) l 0 a = A := by
      refine frame_eq _ A l 0 a hdef hts (fun i o d hi hd hlt => ?_) hdiff
      simp only [Nat.zero_add, hi, Option.bind_some, hd, Act.eval, Array.getD_eq_getD_getElem?]
      have : d < A.tmps.size := by rw [hts]; exact hlt
      simp [this]
    have := hfin (fun i => match (l[i]?).bind (·.dst) with | some d => A.eval (.tmp d) | none => undef) w' hbel (allT_of fun k d R hmem => by
      have hkl : k < l.length := by simpa using hlen k d R hmem
      have hko : l[k]? = some l[k] := by simp [hkl]
      obtain ⟨R2, -, huniq2, -⟩ := hobl k l[k] hko
      simp only [Nat.zero_add] at huniq2
      obtain ⟨hod, -⟩ := huniq2 d R hmem
      simp only [hko, Option.bind_some, hod]
      exact hall k d R hmem (hdone k hkl))
    rw [hx] at this
    exact this
  · rintro listed A w' i ⟨hsz, -⟩ hi
    obtain ⟨hun, o, ho, -⟩ := mem_ready.1 hi
    have hil : i < listed.size := by have := (Array.getElem?_eq_some_iff.1 ho).1; simp at this; omega
    simp only [Array.toList_setIfInBounds]
    refine unl_set _ _ ?_
    simp only [Array.getD_eq_getD_getElem?, Array.getElem?_eq_getElem hil, Option.getD_some] at hun
    simp [hil, hun]
  · simp [unl_rep]
  · exact ⟨by simp, ⟨rfl, rfl, rfl, Nat.le_refl _, fun _ _ => rfl⟩, rfl, rfl, fun t ht => absurd rfl ht, fun i d R _ hl => by simp [Array.getD_eq_getD_getElem?, Array.getElem?_replicate] at hl; split at hl <;> simp at hl⟩

theorem flow_val {w : World} {a : Act} {bs : List Nat} {Q : Exit → Act → World → Prop} {l0 rest : List Oper} {i : Nat} {T : FTab} {d : Tmp} {op : Op} {ty : TypeId} {pos : String} {es : Array Edge} {g : Option (Nat × Bool)} (e : Value)
    (h : ∀ A w', Below w.heap.size w w' → baseF A a bs → deps T A w' es.toList → flowUpon P (fun _ v => v = e) w' ((execOp A.eval ⟨some d, op, ty, pos, es, g⟩).run P w'))
    (k : Flow P w a bs Q l0 rest (i + 1) ((i, d, fun _ v => v = e) :: T)) : Flow P w a bs Q l0 (⟨some d, op, ty, pos, es, g⟩ :: rest) i T := ⟨_, vmono_eq e, h, k⟩
/-- A new block of these cells, told by a slice. -/
def NewSl (w0 : World) (cs : Array Value) (T : TypeId) (n : Nat) : VPred := fun w v => ∃ b, v = .slice (some ⟨b, 0, none⟩) n n ∧ w0.heap.size ≤ b ∧ w.heap[b]? = some (.cells cs T (0, 0))
theorem vmono_newSl (w0 : World) (cs : Array Value) (T : TypeId) (n : Nat) : VMono (NewSl w0 cs T n) := by
  rintro w w' v ⟨b, hv, hb, hc⟩ hB
  refine ⟨b, hv, hb, ?_⟩
  have hlt : b < w.heap.size := by
    rcases Nat.lt_or_ge b w.heap.size with h | h
    · exact h
    · rw [Array.getElem?_eq_none h] at hc; cases hc
  rw [hB.block b hlt]; exact hc
theorem flow_newSl {w : World} {a : Act} {bs : List Nat} {Q : Exit → Act → World → Prop} {l0 rest : List Oper} {i : Nat} {T : FTab} {d : Tmp} {op : Op} {ty : TypeId} {pos : String} {es : Array Edge} {g : Option (Nat × Bool)} (cs : Array Value) (et : TypeId) (n : Nat)
    (h : ∀ A w', Below w.heap.size w w' → baseF A a bs → deps T A w' es.toList → (execOp A.eval ⟨some d, op, ty, pos, es, g⟩).run P w' = .ok (.value (.slice (some ⟨w'.heap.size, 0, none⟩) n n)) (w'.alloc (.cells cs et)))
    (k : Flow P w a bs Q l0 rest (i + 1) ((i, d, NewSl w cs et n) :: T)) : Flow P w a bs Q l0 (⟨some d, op, ty, pos, es, g⟩ :: rest) i T :=
  ⟨_, vmono_newSl w cs et n, fun A w' hB hb hd => by
    rw [h A w' hB hb hd]
    exact ⟨bl_alloc (Below.refl _ _) _, w'.heap.size, rfl, hB.size, by simpa using heap_alloc_new w' _⟩, k⟩
theorem flow_valE {w : World} {a : Act} {bs : List Nat} {Q : Exit → Act → World → Prop} {l0 rest : List Oper} {i : Nat} {T : FTab} {d : Tmp} {op : Op} {ty : TypeId} {pos : String} {es : Array Edge} {g : Option (Nat × Bool)}
    (h : ∃ e, (∀ A w', Below w.heap.size w w' → baseF A a bs → deps T A w' es.toList → flowUpon P (fun _ v => v = e) w' ((execOp A.eval ⟨some d, op, ty, pos, es, g⟩).run P w')) ∧
      Flow P w a bs Q l0 rest (i + 1) ((i, d, fun _ v => v = e) :: T)) : Flow P w a bs Q l0 (⟨some d, op, ty, pos, es, g⟩ :: rest) i T :=
  let ⟨e, h, k⟩ := h
  flow_val e h k
theorem flow_newSlE {w : World} {a : Act} {bs : List Nat} {Q : Exit → Act → World → Prop} {l0 rest : List Oper} {i : Nat} {T : FTab} {d : Tmp} {op : Op} {ty : TypeId} {pos : String} {es : Array Edge} {g : Option (Nat × Bool)}
    (h : ∃ cs et n, (∀ A w', Below w.heap.size w w' → baseF A a bs → deps T A w' es.toList → (execOp A.eval ⟨some d, op, ty, pos, es, g⟩).run P w' = .ok (.value (.slice (some ⟨w'.heap.size, 0, none⟩) n n)) (w'.alloc (.cells cs et))) ∧
      Flow P w a bs Q l0 rest (i + 1) ((i, d, NewSl w cs et n) :: T)) : Flow P w a bs Q l0 (⟨some d, op, ty, pos, es, g⟩ :: rest) i T :=
  let ⟨cs, et, n, h, k⟩ := h
  flow_newSl cs et n h k
theorem flow_R {w : World} {a : Act} {bs : List Nat} {Q : Exit → Act → World → Prop} {l0 rest : List Oper} {i : Nat} {T : FTab} {d : Tmp} {op : Op} {ty : TypeId} {pos : String} {es : Array Edge} {g : Option (Nat × Bool)} (R : VPred) (hm : VMono R)
    (h : ∀ A w', Below w.heap.size w w' → baseF A a bs → deps T A w' es.toList → flowUpon P R w' ((execOp A.eval ⟨some d, op, ty, pos, es, g⟩).run P w'))
    (k : Flow P w a bs Q l0 rest (i + 1) ((i, d, R) :: T)) : Flow P w a bs Q l0 (⟨some d, op, ty, pos, es, g⟩ :: rest) i T := ⟨R, hm, h, k⟩
end
end Go.Proofs.Ytdjikjmjajlgcaa
end
