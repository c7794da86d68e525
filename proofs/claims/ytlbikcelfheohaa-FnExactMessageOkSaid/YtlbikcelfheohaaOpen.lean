import Derived.Test.YtlbikcelfheohaaWWords
import Derived.WideShapes
import Derived.ChangeMaps5
import Derived.ChangeShapes
import Derived.ChangeArms
import Derived.DataElems
import Derived.RowKit
namespace Go.Proofs.Ytlbikcelfheohaa
open Go.RowKit Go.WideShapes Go.ChangeMaps Go.ChangeShapes Go.Proofs.YtlbikcelfheohaaW.PrintWords

/-- A value of a type, as an argument that can be read holds it. -/
def ArgOf (P : Program) (W : World) (t : TypeId) (v : Value) : Prop :=
  (∃ base, Value.okWide P W .any base t v) ∧ ∃ (H : Type) (enc : TypeId × Value → H) (fuel : Nat) (x : DataW H × List MemPlace), DataW.trod enc P W 0 (fun _ => true) true fuel t v.cells.toList = some x

/-- Cells of a type that can be read are of a kind. -/
def Opens (P : Program) (W : World) (t : TypeId) {α : Type} (d : Kd α) (G : α → Prop) : Prop :=
  ∀ (H : Type) (enc : TypeId × Value → H) (fuel : Nat) (cs : List Value) (x : DataW H × List MemPlace), DataW.trod enc P W 0 (fun _ => true) true fuel t cs = some x → ∃ a, d.K W a cs ∧ G a

/-- The fields of a struct, from one on. -/
def OpensL (P : Program) (W : World) (fs : List Field) (o : Nat) {β : Type} (d : Kd β) (G : β → Prop) : Prop :=
  ∀ (H : Type) (enc : TypeId × Value → H) (fuel : Nat) (cs : List Value),
    (∀ f ∈ fs, ∃ y, DataW.trod enc P W 0 (fun _ => true) true fuel f.type ((cs.drop f.offset).take (P.cellsOf f.type)) = some y) → cs.length = o + d.sz → ∃ b, d.K W b (cs.drop o) ∧ G b

section
variable {P : Program} {W : World} {t e : TypeId} {α β : Type} {d : Kd α} {G : α → Prop}

theorem opens_int {k : IntKind} (ht : P.underlying t = some (.int k)) : Opens P W t (Kd.int k) (fun n => (Lit.int k n).wf = true) := by
  intro H enc fuel cs x h
  obtain ⟨n, rfl, _, hw⟩ := DataW.trod_int ht h
  exact ⟨n, rfl, hw⟩
theorem opens_bool (ht : P.underlying t = some .bool) : Opens P W t Kd.bool (fun _ => True) := by
  intro H enc fuel cs x h
  obtain ⟨b, rfl, _⟩ := DataW.trod_bool ht h
  exact ⟨b, rfl, trivial⟩
theorem opens_string (ht : P.underlying t = some .string) : Opens P W t Kd.string (fun s => s.size ≤ maxLen) := by
  intro H enc fuel cs x h
  obtain ⟨s, rfl, _, hs⟩ := DataW.trod_string ht h
  exact ⟨s, rfl, hs⟩
theorem opens_slice (ht : P.underlying t = some (.slice e)) (hsz : d.sz = P.cellsOf e) (he : Opens P W e d G) :
    Opens P W t (Kd.slice e d) (fun xs => xs.length ≤ maxLen ∧ ∀ x ∈ xs, G x) := by
  intro H enc fuel cs x h
  rcases DataW.trod_slice ht h with ⟨rfl, _⟩ | ⟨a, len, cap, elems, rest, n, _, rfl, _, _, hl, hc, hlen, hel, _⟩
  · exact ⟨[], ⟨none, 0, rfl, Nat.le_refl _, rfl, by simp, fun h => absurd h (by simp)⟩, by simp, by simp⟩
  · have step : ∀ i : Fin len, ∃ (a' : α) (c : List Value), d.K W a' c ∧ G a' ∧ ∀ j u, c[j]? = some u → W.cell? (a.add (i.1 * P.cellsOf e + j)) = some u := by
      intro i
      have h1 := hel i.1 i.2
      obtain ⟨y, hy⟩ : ∃ y, elems[i.1]? = some y := ⟨elems[i.1]'(by omega), List.getElem?_eq_getElem (by omega)⟩
      rw [hy] at h1
      obtain ⟨c, hcs, ht2⟩ := Option.bind_eq_some_iff.1 h1
      obtain ⟨a', hK, hG⟩ := he H enc n c y ht2
      refine ⟨a', c, hK, hG, fun j u hj => ?_⟩
      unfold World.cells? at hcs
      rw [if_pos (Nat.zero_le _)] at hcs
      have hlt : j < P.cellsOf e := by
        have h2 := mapM_some_length hcs
        have h3 : j < c.length := by
          rcases Nat.lt_or_ge j c.length with h | h
          · exact h
          · rw [List.getElem?_eq_none h] at hj; cases hj
        simpa [h2] using h3
      have h4 := mapM_some_get hcs j j (by simp [hlt])
      rw [Addr.add_add] at h4
      exact h4.trans hj
    let f : Fin len → α := fun i => Classical.choose (step i)
    let c : Fin len → List Value := fun i => Classical.choose (Classical.choose_spec (step i))
    have hK : ∀ i, d.K W (f i) (c i) := fun i => (Classical.choose_spec (Classical.choose_spec (step i))).1
    have hG : ∀ i, G (f i) := fun i => (Classical.choose_spec (Classical.choose_spec (step i))).2.1
    have hcell : ∀ (i : Fin len) j u, (c i)[j]? = some u → W.cell? (a.add (i.1 * P.cellsOf e + j)) = some u := fun i => (Classical.choose_spec (Classical.choose_spec (step i))).2.2
    refine ⟨List.ofFn f, ⟨some a, cap, by simp, by simpa using hl, by simp, by unfold maxLen at hc; simp; omega, fun _ => ⟨a, rfl, fun j p hj => ?_⟩⟩, by simp; omega, ?_⟩
    · obtain ⟨hjl, hjp⟩ := List.getElem?_eq_some_iff.1 hj
      have hjl' : j < len := by simpa using hjl
      refine ⟨c ⟨j, hjl'⟩, d.K_len (hK _), ?_, fun i u hu => ?_⟩
      · have : p = f ⟨j, hjl'⟩ := by rw [← hjp]; simp
        rw [this]
        exact hK _
      · rw [hsz]
        exact hcell ⟨j, hjl'⟩ i u hu
    · intro y hy
      obtain ⟨i, rfl⟩ := List.mem_ofFn.1 hy
      exact hG i
theorem opensL_last {f : Field} {o : Nat} (ho : f.offset = o) (hf : Opens P W f.type d G) (hs : d.sz = P.cellsOf f.type) : OpensL P W [f] o d G := by
  intro H enc fuel cs h hl
  obtain ⟨y, hy⟩ := h f (by simp)
  obtain ⟨a, hK, hG⟩ := hf H enc fuel _ y hy
  refine ⟨a, ?_, hG⟩
  rw [ho, List.take_of_length_le (by rw [List.length_drop, hl, hs]; omega)] at hK
  exact hK
theorem opensL_cons {f : Field} {fs : List Field} {o : Nat} {d2 : Kd β} {G2 : β → Prop} (ho : f.offset = o) (hf : Opens P W f.type d G) (hs : d.sz = P.cellsOf f.type) (hr : OpensL P W fs (o + d.sz) d2 G2) :
    OpensL P W (f :: fs) o (Kd.pair d d2) (fun x => G x.1 ∧ G2 x.2) := by
  intro H enc fuel cs h hl
  obtain ⟨y, hy⟩ := h f (by simp)
  obtain ⟨a, hK, hG⟩ := hf H enc fuel _ y hy
  have hl' : cs.length = o + (d.sz + d2.sz) := hl
  obtain ⟨b, hK2, hG2⟩ := hr H enc fuel cs (fun f' hf' => h f' (by simp [hf'])) (by omega)
  refine ⟨(a, b), ⟨_, _, ?_, hK, hK2⟩, hG, hG2⟩
  rw [ho, ← hs, ← List.drop_drop, List.take_append_drop]
theorem opens_struct {fs : Array Field} (ht : P.underlying t = some (.struct fs)) (hs : d.sz = P.cellsOf t) (hf : OpensL P W fs.toList 0 d G) : Opens P W t d G := by
  intro H enc fuel cs x h
  obtain ⟨xs, n, _, _, hl, hn, hget⟩ := DataW.trod_struct ht h
  have hall : ∀ f ∈ fs.toList, ∃ y, DataW.trod enc P W 0 (fun _ => true) true n f.type ((cs.drop f.offset).take (P.cellsOf f.type)) = some y := by
    intro f hfm
    obtain ⟨i, hi, hif⟩ := List.getElem_of_mem hfm
    have h1 := hget i f (by rw [← hif]; simp [Array.getElem?_eq_getElem (by simpa using hi)])
    have hi' : i < xs.length := by rw [hn]; simpa using hi
    exact ⟨xs[i], by rw [h1, List.getElem?_eq_getElem hi']⟩
  obtain ⟨b, hK, hG⟩ := hf H enc n cs hall (by omega)
  exact ⟨b, by simpa using hK, hG⟩
theorem opens_iso {p : β → α} (inv : α → β) (hi : ∀ x, p (inv x) = x) (h : Opens P W t d G) : Opens P W t (Kd.iso d p) (fun x => G (p x)) := by
  intro H enc fuel cs x hx
  obtain ⟨a, hK, hG⟩ := h H enc fuel cs x hx
  exact ⟨inv a, by show d.K W (p (inv a)) cs; rw [hi]; exact hK, by show G (p (inv a)); rw [hi]; exact hG⟩

theorem Opens.imp {G' : α → Prop} (h : Opens P W t d G) (hi : ∀ x, G x → G' x) : Opens P W t d G' := by
  intro H enc fuel cs x hx
  obtain ⟨a, hK, hG⟩ := h H enc fuel cs x hx
  exact ⟨a, hK, hi a hG⟩

theorem arg_int {k : IntKind} {v : Value} (ht : P.underlying t = some (.int k)) (h : ArgOf P W t v) : ∃ n, v = .int k n ∧ (Lit.int k n).wf = true := by
  obtain ⟨⟨base, ho⟩, H, enc, fuel, x, hx⟩ := h
  obtain ⟨n, hv, _, _, hw⟩ := open_int (P := P) (d := x.1) (ps := x.2) ht ho ⟨fuel, hx⟩
  exact ⟨n, hv, hw⟩
theorem arg_bool {v : Value} (ht : P.underlying t = some .bool) (h : ArgOf P W t v) : ∃ b, v = .bool b := by
  obtain ⟨⟨base, ho⟩, H, enc, fuel, x, hx⟩ := h
  obtain ⟨b, hv, _⟩ := open_bool (P := P) (d := x.1) (ps := x.2) ht ho ⟨fuel, hx⟩
  exact ⟨b, hv⟩
theorem arg_string {v : Value} (ht : P.underlying t = some .string) (h : ArgOf P W t v) : ∃ s : ByteArray, v = .string s ∧ s.size ≤ maxLen := by
  obtain ⟨⟨base, ho⟩, H, enc, fuel, x, hx⟩ := h
  obtain ⟨s, hv, _, _, hs⟩ := open_string (P := P) (d := x.1) (ps := x.2) ht ho ⟨fuel, hx⟩
  exact ⟨s, hv, hs⟩
theorem arg_struct {fs : Array Field} {v : Value} (ht : P.underlying t = some (.struct fs)) (hd : Opens P W t d G) (h : ArgOf P W t v) : ∃ a cs, v = .agg cs ∧ d.K W a cs.toList ∧ G a := by
  obtain ⟨⟨base, ho⟩, H, enc, fuel, x, hx⟩ := h
  obtain ⟨cs, rfl, _⟩ := okWide_struct ht ho
  obtain ⟨a, hK, hG⟩ := hd H enc fuel _ x hx
  exact ⟨a, cs, rfl, hK, hG⟩
theorem arg_slice {v : Value} (ht : P.underlying t = some (.slice e)) (hsz : d.sz = P.cellsOf e) (hd : Opens P W e d G) (h : ArgOf P W t v) :
    ∃ A xs c, v = .slice A xs.length c ∧ xs.length ≤ c ∧ Kd.C d W A xs.length xs ∧ xs.length ≤ maxLen ∧ ∀ x ∈ xs, G x := by
  obtain ⟨⟨base, ho⟩, H, enc, fuel, x, hx⟩ := h
  obtain ⟨A, len, cap, rfl⟩ := okWide_slice ht ho
  obtain ⟨xs, ⟨A', c, he, hc, hC⟩, hG⟩ := opens_slice ht hsz hd H enc fuel _ x hx
  simp [Value.cells] at he
  obtain ⟨rfl, rfl, rfl⟩ := he
  exact ⟨A, xs, cap, rfl, hc, hC, hG.1, hG.2⟩
end
end Go.Proofs.Ytlbikcelfheohaa
