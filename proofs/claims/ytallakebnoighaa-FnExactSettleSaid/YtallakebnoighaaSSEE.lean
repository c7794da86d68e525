import Derived.Test.YtallakebnoighaaSSED
import Derived.Lib.SliceRun
import Derived.Test.YtallakebnoighaaSSEA

section
namespace Go.Proofs.Ytallakebnoighaa
open Go.RowKit
set_option linter.unusedVariables false
set_option linter.unusedSimpArgs false
section
variable {P : Program} {L M : World → World → Prop} {J J1 : World → Prop} {j0 : Nat}
def seqUpon (P : Program) (Q : Act → World → Prop) : List Oper → Act → World → Prop
  | [], A, w => Q A w
  | o :: r, A, w => lastUpon P (seqUpon P Q r) o A ((execOp A.eval o).run P w)
structure SeqUpon (P : Program) (Q : Act → World → Prop) (l : List Oper) (A : Act) (w : World) : Prop where
  out : seqUpon P Q l A w
theorem flowUponL_imp {P : Program} {L : World → World → Prop} {R R' : VPred} {w : World} {r : Result Next} (h : flowUponL P L R w r) (hi : ∀ W u, R W u → R' W u) : flowUponL P L R' w r := by
  cases r with
  | ok n w' =>
    cases n <;> simp only [flowUponL] at h ⊢
    case value u => exact ⟨h.1, hi _ _ h.2⟩
    case skip => exact ⟨h.1, hi _ _ h.2⟩
    case enter f args =>
      refine h.mono ?_
      rintro e w2 ⟨v, rfl, hb, hr⟩
      exact ⟨v, rfl, hb, hi _ _ hr⟩
  | halt x w' => simp only [flowUponL] at h
def FlowT (P : Program) (L M : World → World → Prop) (J J1 : World → Prop) (j0 : Nat) (w : World) (a : Act) (bs : List Nat) (Q : Exit → Act → World → Prop) (l0 : List Oper) (n0 : Nat) : Nat → List Oper → Nat → FTab → Prop
  | 0, rest, _, T => ∀ x w', L w w' → allT x w' T → (j0 < n0 → J1 w') → SeqUpon P (Q .normal) rest (frameOf x (l0.take n0) 0 a) w'
  | _ + 1, [], _, _ => False
  | m + 1, o :: rest, i, T => ∃ R : VPred, (if i = j0 then VMonoL M R else VMonoL L R) ∧
      (∀ A w', L w w' → (i = j0 → J w') → baseF A a bs → deps T A w' o.after.toList → flowUponL P (if i = j0 then L else M) (fun W u => R W u ∧ (i = j0 → J1 W)) w' ((execOp A.eval o).run P w')) ∧ FlowT P L M J J1 j0 w a bs Q l0 n0 m rest (i + 1) (addT o i R T)
theorem flow_tableT {w : World} {a : Act} {bs : List Nat} {Q : Exit → Act → World → Prop} {l0 : List Oper} {n0 : Nat} : ∀ (m : Nat) (rest : List Oper) (i : Nat) (T : FTab), (∀ k d R, (k, d, R) ∈ T → k < i) → FlowT P L M J J1 j0 w a bs Q l0 n0 m rest i T →
    ∃ (T' : FTab), m ≤ rest.length ∧ (∀ x ∈ T, x ∈ T') ∧ (∀ k d R, (k, d, R) ∈ T' → k < i → (k, d, R) ∈ T) ∧ (∀ k d R, (k, d, R) ∈ T' → k < i + m) ∧
      (∀ (j : Nat) (o : Oper), rest[j]? = some o → j < m → ∃ R, (if i + j = j0 then VMonoL M R else VMonoL L R) ∧ (∀ d' R', (i + j, d', R') ∈ T' → o.dst = some d' ∧ R' = R) ∧
        (∀ A w', L w w' → (i + j = j0 → J w') → baseF A a bs → (∀ e ∈ o.after.toList, Region.binds .any e = true → ∀ d R, (e.on, d, R) ∈ T' → R w' (A.eval (.tmp d))) → flowUponL P (if i + j = j0 then L else M) (fun W u => R W u ∧ (i + j = j0 → J1 W)) w' ((execOp A.eval o).run P w'))) ∧
      (∀ x w', L w w' → allT x w' T' → (j0 < n0 → J1 w') → SeqUpon P (Q .normal) (rest.drop m) (frameOf x (l0.take n0) 0 a) w')
  | 0, rest, i, T, hT, h => ⟨T, by simp, fun _ h => h, fun _ _ _ h _ => h, fun k d R hm => by simpa using hT k d R hm, fun j o hj hl => by omega, by rw [List.drop_zero]; exact h⟩
  | m + 1, [], i, T, hT, h => h.elim
  | m + 1, o :: rest, i, T, hT, h => by
    obtain ⟨R, hmono, hobl, hrest⟩ := h
    have hT1 : ∀ k d R', (k, d, R') ∈ addT o i R T → k < i + 1 := fun k d R' hm => by
      unfold addT at hm
      split at hm
      · rcases List.mem_cons.1 hm with hm | hm
        · simp only [Prod.mk.injEq] at hm; omega
        · have := hT k d R' hm; omega
      · have := hT k d R' hm; omega
    have hsub : ∀ y ∈ T, y ∈ addT o i R T := fun y hy => by
      unfold addT
      split
      · exact .tail _ hy
      · exact hy
    obtain ⟨T', hlen, h1, h2, h3, h4, h5⟩ := flow_tableT m rest (i + 1) (addT o i R T) hT1 hrest
    refine ⟨T', by simp only [List.length_cons]; omega, fun y hy => h1 y (hsub y hy), fun k d R' hm hk => ?_, fun k d R' hm => ?_, fun j o' hj hjl => ?_, by simpa using h5⟩
    · have := h2 k d R' hm (by omega)
      unfold addT at this
      split at this
      · rcases List.mem_cons.1 this with hm | hm
        · simp only [Prod.mk.injEq] at hm; omega
        · exact hm
      · exact this
    · have := h3 k d R' hm
      omega
    · cases j with
      | zero =>
        simp only [List.getElem?_cons_zero, Option.some.injEq] at hj
        subst hj
        refine ⟨R, hmono, fun d' R' hm => ?_, fun A w' hb hj hbase hd => hobl A w' hb hj hbase (deps_of fun e he hbn d R' hm => hd e he hbn d R' (h1 _ (hsub _ hm)))⟩
        have := h2 _ d' R' hm (by omega)
        unfold addT at this
        split at this
        · rename_i dd hdd
          rcases List.mem_cons.1 this with hm | hm
          · simp only [Prod.mk.injEq] at hm
            exact ⟨by rw [hdd, hm.2.1], hm.2.2⟩
          · have := hT _ d' R' hm; omega
        · have := hT _ d' R' this; omega
      | succ j =>
        simp only [List.getElem?_cons_succ] at hj
        obtain ⟨R2, a1, a2, a3⟩ := h4 j o' hj (by omega)
        rw [show i + 1 + j = i + (j + 1) from by omega] at a1 a2 a3
        exact ⟨R2, a1, a2, a3⟩
def edgesOf (l : List Oper) (j : Nat) : List Nat := match l[j]? with
  | some o => (o.after.toList.filter (fun e => Region.binds .any e)).map (·.on)
  | none => []
def ancF (l : List Oper) : Nat → List Nat → List Nat
  | 0, S => S
  | j + 1, S => ancF l j (if S.contains j then S ++ edgesOf l j else S)
def tailOrd (l : List Oper) (n0 : Nat) : Bool := (List.range l.length).all fun d => decide (d < n0) || (List.range d).all fun i => (ancF l d (edgesOf l d)).contains i
theorem edges_listed {l : List Oper} {listed : Array Bool} (hcl : ∀ (j : Nat) (o : Oper), l[j]? = some o → listed.getD j false = true → ∀ e ∈ o.after.toList, Region.binds .any e = true → listed.getD e.on false = true) (j : Nat) (hj : listed.getD j false = true) :
    ∀ i ∈ edgesOf l j, listed.getD i false = true := by
  intro i hi
  unfold edgesOf at hi
  split at hi
  · rename_i o ho
    obtain ⟨e, he, rfl⟩ := List.mem_map.1 hi
    obtain ⟨he1, he2⟩ := List.mem_filter.1 he
    exact hcl j o ho hj e he1 he2
  · cases hi
theorem anc_listed {l : List Oper} {listed : Array Bool} (hcl : ∀ (j : Nat) (o : Oper), l[j]? = some o → listed.getD j false = true → ∀ e ∈ o.after.toList, Region.binds .any e = true → listed.getD e.on false = true) :
    ∀ (n : Nat) (S : List Nat), (∀ i ∈ S, listed.getD i false = true) → ∀ i ∈ ancF l n S, listed.getD i false = true
  | 0, S, h => h
  | n + 1, S, h => by
    unfold ancF
    refine anc_listed hcl n _ ?_
    split
    · rename_i hc
      intro i hi
      rcases List.mem_append.1 hi with hi | hi
      · exact h i hi
      · exact edges_listed hcl n (h n (by simpa using hc)) i hi
    · exact h
theorem tail_listed {l : List Oper} {n0 d : Nat} {listed : Array Bool} {o : Oper} (hT : tailOrd l n0 = true) (hd : n0 ≤ d) (ho : l[d]? = some o)
    (hcl : ∀ (j : Nat) (o : Oper), l[j]? = some o → listed.getD j false = true → ∀ e ∈ o.after.toList, Region.binds .any e = true → listed.getD e.on false = true)
    (haft : ∀ e ∈ o.after.toList, Region.binds .any e = true → listed.getD e.on false = true) (i : Nat) (hi : i < d) : listed.getD i false = true := by
  have hdl : d < l.length := (List.getElem?_eq_some_iff.1 ho).1
  have h1 := List.all_eq_true.1 hT d (List.mem_range.2 hdl)
  simp only [Bool.or_eq_true, decide_eq_true_eq] at h1
  have h2 := List.all_eq_true.1 (h1.resolve_left (by omega)) i (List.mem_range.2 hi)
  refine anc_listed hcl d (edgesOf l d) ?_ i (by simpa using h2)
  intro k hk
  unfold edgesOf at hk
  rw [ho] at hk
  obtain ⟨e, he, rfl⟩ := List.mem_map.1 hk
  obtain ⟨he1, he2⟩ := List.mem_filter.1 he
  exact haft e he1 he2
theorem wp_region_flowT {id : Nat} {Q : Exit → Act → World → Prop} {a : Act} {w : World} {l : List Oper} (j0 : Nat) (hJ0 : J w.drew) (hJM : ∀ a b, J a → M a b → J b) (hJ1M : ∀ a b, J1 a → M a b → J1 b) (hML : ∀ a b, M a b → L a b) (hdr : ∀ w : World, L w w.drew) (htr : ∀ a b c, L a b → L b c → L a c) (bs : List Nat) (n n0 : Nat) (hm : P.follows .mixedOrders = true) (hn : a.tmps.size = n)
    (hB : flowB n l = true) (hO : flowO l 0 = true) (hT : tailOrd l n0 = true) (hbs : bs.all (fun t => (l.take n0).all (fun o => o.dst != some t)) = true) (h : FlowT P L M J J1 j0 w a bs Q l n0 n0 l 0 []) : (Code.region id l.toArray true).wp P Q a w := by
  obtain ⟨T, hn0, -, -, hlen, hobl, hfin⟩ := flow_tableT n0 l 0 [] (by simp) h
  subst hn
  have htake : ∀ i, i < n0 → (l.take n0)[i]? = l[i]? := fun i hi => by rw [List.getElem?_take, if_pos hi]
  -- what the frame is when all the first ones are done
  have hframe : ∀ (A : Act) (w' : World) (listed : Array Bool), (∀ k, k < n0 → listed.getD k false = true) → (∀ k, n0 ≤ k → k < l.length → listed.getD k false = false) → L w w' → A.defers = a.defers → A.tmps.size = a.tmps.size →
      (∀ t, a.tmps[t]? ≠ A.tmps[t]? → ∃ (i : Nat) (o : Oper), l[i]? = some o ∧ o.dst = some t ∧ listed.getD i false = true) → (∀ i d R, (i, d, R) ∈ T → listed.getD i false = true → R w' (A.eval (.tmp d))) → (listed.getD j0 false = true → J1 w') → seqUpon P (Q .normal) (l.drop n0) A w' := by
    intro A w' listed hdone hno hbel hdef hts hdiff hall hJ1
    have hx : frameOf (fun i => match (l[i]?).bind (·.dst) with | some d => A.eval (.tmp d) | none => undef) (l.take n0) 0 a = A := by
      refine frame_eq _ A (l.take n0) 0 a hdef hts (fun i o d hi hd hlt => ?_) (fun t ht => ?_)
      · have hi1 : i < n0 := by have := (List.getElem?_eq_some_iff.1 hi).1; simp at this; omega
        rw [htake i hi1] at hi
        simp only [Nat.zero_add, hi, Option.bind_some, hd, Act.eval, Array.getD_eq_getD_getElem?]
        have : d < A.tmps.size := by rw [hts]; exact hlt
        simp [this]
      · obtain ⟨j, oj, hj, hdj, hlj⟩ := hdiff t ht
        have hjl : j < l.length := (List.getElem?_eq_some_iff.1 hj).1
        have hj1 : j < n0 := by
          by_cases hjj : j < n0
          · exact hjj
          · rw [hno j (by omega) hjl] at hlj; cases hlj
        exact ⟨j, oj, (htake j hj1).trans hj, hdj⟩
    have hq := hfin (fun i => match (l[i]?).bind (·.dst) with | some d => A.eval (.tmp d) | none => undef) w' hbel (allT_of fun k d R hmem => by
      have hk1 : k < n0 := by simpa using hlen k d R hmem
      have hkl : k < l.length := by omega
      have hko : l[k]? = some l[k] := by simp [hkl]
      obtain ⟨R2, -, huniq2, -⟩ := hobl k l[k] hko hk1
      simp only [Nat.zero_add] at huniq2
      obtain ⟨hod, -⟩ := huniq2 d R hmem
      simp only [hko, Option.bind_some, hod]
      exact hall k d R hmem (hdone k hk1)) (fun h => hJ1 (hdone j0 h))
    rw [hx] at hq
    exact hq.out
  refine wp_region_any hm ?_
  refine wpAny_inv (fun listed A w' => listed.size = l.length ∧ (∀ (j : Nat) (o : Oper), l[j]? = some o → listed.getD j false = true → ∀ e ∈ o.after.toList, Region.binds .any e = true → listed.getD e.on false = true) ∧
      (((∀ k, n0 ≤ k → k < l.length → listed.getD k false = false) ∧ L w w' ∧ A.defers = a.defers ∧ A.tmps.size = a.tmps.size ∧ (∀ t, a.tmps[t]? ≠ A.tmps[t]? → ∃ (i : Nat) (o : Oper), l[i]? = some o ∧ o.dst = some t ∧ listed.getD i false = true) ∧
      (∀ i d R, (i, d, R) ∈ T → listed.getD i false = true → R w' (A.eval (.tmp d))) ∧ (listed.getD j0 false = false → J w') ∧ (listed.getD j0 false = true → J1 w')) ∨ (∃ k, n0 < k ∧ k ≤ l.length ∧ (∀ i, i < k → listed.getD i false = true) ∧ (∀ i, k ≤ i → i < l.length → listed.getD i false = false) ∧ seqUpon P (Q .normal) (l.drop k) A w'))) ?_ ?_ (fun listed => unl listed.toList) ?_ _ _ _ _ ?_ ?_
  · rintro listed A w' i ⟨hsz, hcl, hI⟩ hi
    obtain ⟨hun, o, ho, haft⟩ := mem_ready.1 hi
    have ho' : l[i]? = some o := by simpa using ho
    have hil : i < l.length := (List.getElem?_eq_some_iff.1 ho').1
    obtain ⟨hg, hd⟩ := flowB_spec hB i o ho'
    have haft' : ∀ e ∈ o.after.toList, Region.binds .any e = true → listed.getD e.on false = true := fun e he hb => haft e (by simpa using he) hb
    have hcl' : ∀ (j : Nat) (oj : Oper), l[j]? = some oj → (listed.setIfInBounds i true).getD j false = true → ∀ e ∈ oj.after.toList, Region.binds .any e = true → (listed.setIfInBounds i true).getD e.on false = true := by
      intro j oj hj hlj e he hb
      by_cases hij : i = j
      · subst hij
        obtain rfl : o = oj := by rw [ho'] at hj; exact Option.some.inj hj
        exact getD_set_mono (haft' e he hb)
      · rw [getD_set_ne false hij] at hlj
        exact getD_set_mono (hcl j oj hj hlj e he hb)
    have hself : (listed.setIfInBounds i true).getD i false = true := getD_set_self (by omega)
    have hunF : listed.getD i false = false := by
      rw [getD_ft (by omega)]; simpa using hun
    unfold wpOp
    rw [ho]
    simp only [Region.wanted, hg, if_true]
    -- a step of the tail
    have htailstep : ∀ k, n0 ≤ k → (∀ j, j < k → listed.getD j false = true) → (∀ j, k ≤ j → j < l.length → listed.getD j false = false) → k ≤ i → seqUpon P (Q .normal) (l.drop k) A w' → o.wp P A w' (fun a' w2 => (listed.setIfInBounds i true).size = l.length ∧ (∀ (j : Nat) (o : Oper), l[j]? = some o → (listed.setIfInBounds i true).getD j false = true → ∀ e ∈ o.after.toList, Region.binds .any e = true → (listed.setIfInBounds i true).getD e.on false = true) ∧
      (((∀ k, n0 ≤ k → k < l.length → (listed.setIfInBounds i true).getD k false = false) ∧ L w w2 ∧ a'.defers = a.defers ∧ a'.tmps.size = a.tmps.size ∧ (∀ t, a.tmps[t]? ≠ a'.tmps[t]? → ∃ (i_1 : Nat) (o : Oper), l[i_1]? = some o ∧ o.dst = some t ∧ (listed.setIfInBounds i true).getD i_1 false = true) ∧
      (∀ i_1 d R, (i_1, d, R) ∈ T → (listed.setIfInBounds i true).getD i_1 false = true → R w2 (a'.eval (.tmp d))) ∧ ((listed.setIfInBounds i true).getD j0 false = false → J w2) ∧ ((listed.setIfInBounds i true).getD j0 false = true → J1 w2)) ∨ (∃ k, n0 < k ∧ k ≤ l.length ∧ (∀ i_1, i_1 < k → (listed.setIfInBounds i true).getD i_1 false = true) ∧ (∀ i_1, k ≤ i_1 → i_1 < l.length → (listed.setIfInBounds i true).getD i_1 false = false) ∧ seqUpon P (Q .normal) (l.drop k) a' w2))) Q := by
      intro k hk hdone hno hki hseq
      obtain rfl : i = k := by
        rcases Nat.lt_or_ge k i with hlt | hge
        · have := tail_listed hT (by omega) ho' hcl haft' k hlt
          rw [hno k (Nat.le_refl _) (by omega)] at this
          cases this
        · omega
      have hdc : l.drop i = o :: l.drop (i + 1) := by
        rw [List.drop_eq_getElem_cons hil]
        congr 1
        have := List.getElem?_eq_getElem hil
        rw [ho'] at this
        exact (Option.some.inj this).symm
      rw [hdc] at hseq
      simp only [seqUpon] at hseq
      refine last_upon hseq fun v w2 hv => ⟨by simpa using hsz, hcl', .inr ⟨i + 1, by omega, by omega, fun j hj => ?_, fun j hj hjl => ?_, hv⟩⟩
      · by_cases hji : i = j
        · subst hji; exact hself
        · exact getD_set_mono (hdone j (by omega))
      · rw [getD_set_ne false (by omega)]; exact hno j (by omega) hjl
    rcases hI with ⟨hno, hbel, hdef, hts, hdiff, hall, hJ, hJ1⟩ | ⟨k, hk0, hkl, hdone, hno, hseq⟩
    · by_cases hil1 : i < n0
      · obtain ⟨R, hmono, huniq, hob⟩ := hobl i o ho' hil1
        simp only [Nat.zero_add] at huniq hmono hob
        have hstep : ∀ v w2, (L w' w2) → (∀ k d R', (k, d, R') ∈ T → i ≠ k → listed.getD k false = true → R' w2 (A.eval (.tmp d))) → R w2 v → ((listed.setIfInBounds i true).getD j0 false = false → J w2) → ((listed.setIfInBounds i true).getD j0 false = true → J1 w2) → (listed.setIfInBounds i true).size = l.length ∧ (∀ (j : Nat) (o : Oper), l[j]? = some o → (listed.setIfInBounds i true).getD j false = true → ∀ e ∈ o.after.toList, Region.binds .any e = true → (listed.setIfInBounds i true).getD e.on false = true) ∧
      (((∀ k, n0 ≤ k → k < l.length → (listed.setIfInBounds i true).getD k false = false) ∧ L w w2 ∧ (A.put o.dst v).defers = a.defers ∧ (A.put o.dst v).tmps.size = a.tmps.size ∧ (∀ t, a.tmps[t]? ≠ (A.put o.dst v).tmps[t]? → ∃ (i_1 : Nat) (o : Oper), l[i_1]? = some o ∧ o.dst = some t ∧ (listed.setIfInBounds i true).getD i_1 false = true) ∧
      (∀ i_1 d R, (i_1, d, R) ∈ T → (listed.setIfInBounds i true).getD i_1 false = true → R w2 ((A.put o.dst v).eval (.tmp d))) ∧ ((listed.setIfInBounds i true).getD j0 false = false → J w2) ∧ ((listed.setIfInBounds i true).getD j0 false = true → J1 w2)) ∨ (∃ k, n0 < k ∧ k ≤ l.length ∧ (∀ i_1, i_1 < k → (listed.setIfInBounds i true).getD i_1 false = true) ∧ (∀ i_1, k ≤ i_1 → i_1 < l.length → (listed.setIfInBounds i true).getD i_1 false = false) ∧ seqUpon P (Q .normal) (l.drop k) (A.put o.dst v) w2)) := by
          intro v w2 hb2 hkeep hR hJ2 hJ3
          refine ⟨by simpa using hsz, hcl', .inl ⟨fun k hk hkl => ?_, htr _ _ _ hbel hb2, ?_, ?_, ?_, ?_, hJ2, hJ3⟩⟩
          · rw [getD_set_ne false (by omega)]; exact hno k hk hkl
          · rw [← hdef]; unfold Act.put; split <;> rfl
          · rw [← hts]; unfold Act.put; split <;> simp
          · intro t ht
            by_cases hdt : o.dst = some t
            · exact ⟨i, o, ho', hdt, hself⟩
            · refine (hdiff t fun he => ht ?_).imp fun j => Exists.imp fun oj h => ⟨h.1, h.2.1, getD_set_mono h.2.2⟩
              rw [he]
              unfold Act.put
              split
              · rename_i t' ht'
                have : t' ≠ t := fun e => hdt (by rw [ht', e])
                rw [Array.getElem?_setIfInBounds_ne this]
              · rfl
          · intro k d R' hmem hk
            have hk1 : k < n0 := by simpa using hlen k d R' hmem
            by_cases hki : i = k
            · subst hki
              obtain ⟨hod, rfl⟩ := huniq d R' hmem
              rw [eval_put_eq hod (by rw [hts]; exact (hd d hod).1)]
              exact hR
            · have hk' : listed.getD k false = true := by rw [getD_set_ne false hki] at hk; exact hk
              have hkl : k < l.length := by omega
              have hko : l[k]? = some l[k] := by simp [hkl]
              obtain ⟨R2, hmono2, huniq2, -⟩ := hobl k l[k] hko hk1
              simp only [Nat.zero_add] at huniq2
              obtain ⟨hod, -⟩ := huniq2 d R' hmem
              have hne : o.dst ≠ some d := fun hd0 => by
                rcases Nat.lt_or_gt_of_ne hki with h | h
                · exact (hd d hd0).2 k l[k] hko h hod
                · exact ((flowB_spec hB k l[k] hko).2 d hod).2 i o ho' h hd0
              rw [eval_put_ne hne]
              exact hkeep k d R' hmem hki hk'
        have hbase : baseF A a bs := baseF_of fun t ht => by
          have h1 := List.all_eq_true.1 hbs t ht
          have h2 : ∀ o ∈ l.take n0, o.dst ≠ some t := fun o ho => by simpa using List.all_eq_true.1 h1 o ho
          have h3 : a.tmps[t]? = A.tmps[t]? := Classical.byContradiction fun hne => by
            obtain ⟨j, oj, hj, hdj, hlj⟩ := hdiff t hne
            have hjl : j < l.length := (List.getElem?_eq_some_iff.1 hj).1
            have hj1 : j < n0 := by
              by_cases hjj : j < n0
              · exact hjj
              · rw [hno j (by omega) hjl] at hlj; cases hlj
            exact h2 oj (List.mem_of_getElem? ((htake j hj1).trans hj)) hdj
          simp only [Act.eval, Array.getD_eq_getD_getElem?, h3]
        have hobA := hob A w' hbel (fun e => hJ (by rw [← e]; exact hunF)) hbase fun e he hb d R hmem => hall _ d R hmem (haft' e he hb)
        -- the facts of the others are kept
        have hkeepL : ∀ w2, L w' w2 → (∀ k d R', (k, d, R') ∈ T → i ≠ k → k ≠ j0 → listed.getD k false = true → R' w2 (A.eval (.tmp d))) := by
          intro w2 hb2 k d R' hmem hki hkj hk'
          have hk1 : k < n0 := by simpa using hlen k d R' hmem
          have hkl : k < l.length := by omega
          obtain ⟨R2, hmono2, huniq2, -⟩ := hobl k l[k] (by simp [hkl]) hk1
          simp only [Nat.zero_add] at huniq2 hmono2
          obtain ⟨-, rfl⟩ := huniq2 d R' hmem
          rw [if_neg hkj] at hmono2
          exact hmono2 _ _ _ (hall k d R' hmem hk') hb2
        by_cases hij : i = j0
        · rw [if_pos hij] at hobA
          exact .inl (flow_uponL hobA fun v w2 hb2 hR => hstep v w2 hb2 (fun k d R' hmem hki hk' => hkeepL w2 hb2 k d R' hmem hki (by omega) hk') hR.1 (fun h => by rw [← hij, hself] at h; cases h) (fun _ => hR.2 hij))
        · rw [if_neg hij] at hobA
          refine .inl (flow_uponL hobA fun v w2 hb2 hR => hstep v w2 (hML _ _ hb2) (fun k d R' hmem hki hk' => ?_) hR.1 (fun h => hJM _ _ (hJ (by rwa [getD_set_ne false hij] at h)) hb2) (fun h => hJ1M _ _ (hJ1 (by rwa [getD_set_ne false hij] at h)) hb2))
          by_cases hkj : k = j0
          · have hk1 : k < n0 := by simpa using hlen k d R' hmem
            have hkl : k < l.length := by omega
            obtain ⟨R2, hmono2, huniq2, -⟩ := hobl k l[k] (by simp [hkl]) hk1
            simp only [Nat.zero_add] at huniq2 hmono2
            obtain ⟨-, rfl⟩ := huniq2 d R' hmem
            rw [if_pos hkj] at hmono2
            exact hmono2 _ _ _ (hall k d R' hmem hk') hb2
          · exact hkeepL w2 (hML _ _ hb2) k d R' hmem hki hkj hk'
      · have hdone : ∀ j, j < n0 → listed.getD j false = true := fun j hj => tail_listed hT (by omega) ho' hcl haft' j (by omega)
        exact .inl (htailstep n0 (Nat.le_refl _) hdone hno (by omega) (hframe A w' listed hdone hno hbel hdef hts hdiff hall hJ1))
    · have hki : k ≤ i := by
        rcases Nat.lt_or_ge i k with hlt | hge
        · rw [hdone i hlt] at hunF; cases hunF
        · exact hge
      exact .inl (htailstep k (by omega) hdone hno hki hseq)
  · rintro listed A w' ⟨hsz, hcl, hI⟩ hno
    have hdone : ∀ k, k < l.length → listed.getD k false = true := by
      intro k
      induction k using Nat.strongRecOn with
      | _ k ih =>
        intro hk
        refine Classical.byContradiction fun hf => hno k (mem_ready.2 ⟨?_, l[k], by simp [hk], fun e he hb => ?_⟩)
        · have hks : k < listed.size := by omega
          simp only [Array.getD_eq_getD_getElem?, Array.getElem?_eq_getElem hks, Option.getD_some] at hf ⊢
          simpa using hf
        · have hlt := flowO_spec hO k l[k] (by simp [hk]) e (by simpa using he) hb
          exact ih e.on (by omega) (by omega)
    rcases hI with ⟨hnl, hbel, hdef, hts, hdiff, hall, -, hJ1⟩ | ⟨k, hk0, hkl, -, hnl, hseq⟩
    · have hnn : n0 = l.length := by
        rcases Nat.lt_or_ge n0 l.length with h | h
        · have := hnl n0 (Nat.le_refl _) h
          rw [hdone n0 h] at this; cases this
        · omega
      have := hframe A w' listed (fun k hk => hdone k (by omega)) hnl hbel hdef hts hdiff hall hJ1
      rw [hnn, List.drop_length] at this
      exact this
    · have hkk : k = l.length := by
        rcases Nat.lt_or_ge k l.length with h | h
        · have := hnl k (Nat.le_refl _) h
          rw [hdone k h] at this; cases this
        · omega
      rw [hkk, List.drop_length] at hseq
      exact hseq
  · rintro listed A w' i ⟨hsz, -⟩ hi
    obtain ⟨hun, o, ho, -⟩ := mem_ready.1 hi
    have hil : i < listed.size := by have := (Array.getElem?_eq_some_iff.1 ho).1; simp at this; omega
    simp only [Array.toList_setIfInBounds]
    refine unl_set _ _ ?_
    simp only [Array.getD_eq_getD_getElem?, Array.getElem?_eq_getElem hil, Option.getD_some] at hun
    simp [hil, hun]
  · simp [unl_rep]
  · refine ⟨by simp, fun j o _ hl => ?_, .inl ⟨fun k hk hkl => ?_, hdr w, rfl, rfl, fun t ht => absurd rfl ht, fun i d R _ hl => ?_, fun _ => hJ0, fun hl => ?_⟩⟩
    · simp [Array.getD_eq_getD_getElem?, Array.getElem?_replicate] at hl; split at hl <;> simp at hl
    · simp [Array.getD_eq_getD_getElem?, Array.getElem?_replicate]; split <;> simp
    · simp [Array.getD_eq_getD_getElem?, Array.getElem?_replicate] at hl; split at hl <;> simp at hl
    · simp [Array.getD_eq_getD_getElem?, Array.getElem?_replicate] at hl; split at hl <;> simp at hl
section
variable {w : World} {a : Act} {bs : List Nat} {Q : Exit → Act → World → Prop} {l0 rest : List Oper} {n0 m i : Nat} {T : FTab} {d : Tmp} {op : Op} {ty : TypeId} {pos : String} {es : Array Edge} {g : Option (Nat × Bool)}
theorem flowT_valE (hij : i ≠ j0)
    (h : ∃ e, (∀ A w', L w w' → baseF A a bs → deps T A w' es.toList → flowUponL P M (fun _ v => v = e) w' ((execOp A.eval ⟨some d, op, ty, pos, es, g⟩).run P w')) ∧
      FlowT P L M J J1 j0 w a bs Q l0 n0 m rest (i + 1) ((i, d, fun _ v => v = e) :: T)) : FlowT P L M J J1 j0 w a bs Q l0 n0 (m + 1) (⟨some d, op, ty, pos, es, g⟩ :: rest) i T := by
  obtain ⟨e, h, k⟩ := h
  exact ⟨_, by rw [if_neg hij]; exact fun _ _ _ h _ => h, by rw [if_neg hij]; exact fun A w' hl _ hb hd => flowUponL_imp (h A w' hl hb hd) (fun _ _ hr => ⟨hr, fun e => absurd e hij⟩), k⟩
theorem flowT_R (hij : i ≠ j0) (R : VPred) (hm : VMonoL L R)
    (h : ∀ A w', L w w' → baseF A a bs → deps T A w' es.toList → flowUponL P M R w' ((execOp A.eval ⟨some d, op, ty, pos, es, g⟩).run P w'))
    (k : FlowT P L M J J1 j0 w a bs Q l0 n0 m rest (i + 1) ((i, d, R) :: T)) : FlowT P L M J J1 j0 w a bs Q l0 n0 (m + 1) (⟨some d, op, ty, pos, es, g⟩ :: rest) i T := ⟨R, by rw [if_neg hij]; exact hm, by rw [if_neg hij]; exact fun A w' hl _ hb hd => flowUponL_imp (h A w' hl hb hd) (fun _ _ hr => ⟨hr, fun e => absurd e hij⟩), k⟩
theorem flowT_store {ty : TypeId} (hij : i = j0)
    (h : ∀ A w', L w w' → J w' → baseF A a bs → deps T A w' es.toList → flowUponL P L (fun W _ => J1 W) w' ((execOp A.eval ⟨none, op, ty, pos, es, g⟩).run P w'))
    (k : FlowT P L M J J1 j0 w a bs Q l0 n0 m rest (i + 1) T) : FlowT P L M J J1 j0 w a bs Q l0 n0 (m + 1) (⟨none, op, ty, pos, es, g⟩ :: rest) i T := ⟨fun _ _ => True, by rw [if_pos hij]; exact fun _ _ _ _ _ => trivial, by rw [if_pos hij]; exact fun A w' hl hj hb hd => flowUponL_imp (h A w' hl (hj hij) hb hd) (fun _ _ hr => ⟨trivial, fun _ => hr⟩), k⟩
theorem flowT_tail
    (h : ∀ x w', L w w' → allT x w' T → (j0 < n0 → J1 w') → SeqUpon P (Q .normal) rest (frameOf x (l0.take n0) 0 a) w') : FlowT P L M J J1 j0 w a bs Q l0 n0 0 rest i T := h
end
end
end Go.Proofs.Ytallakebnoighaa
end

section
namespace Go.Proofs.Ytallakebnoighaa.PFnExactSettle
open Go.RowKit Go.Proofs.YtallakebnoighaaW.PrintWords
set_option linter.unusedSimpArgs false
set_option linter.unusedVariables false
theorem eql_ints_nil (w : World) (a : Option Addr) (n c : Nat) : (binOp .eql 22 (.slice a n c) (.slice none 0 0)).run Try.prog w = .ok (.bool a.isNone) w := Go.Lib.run_eql_slice_nil w 22 3 a n c 0 0 Try.underlying22
theorem ints_empty {w W : World} (hle : w.heap.size ≤ W.heap.size) (ok : Nat → Prop) (hok : ok W.heap.size) : Kd.R (Kd.int .i64) 3 (W.alloc (.cells #[] 3)) w.heap.size ok (.slice (some ⟨W.heap.size, 0, none⟩) 0 0) [] := by
  refine ⟨fun k hk => ?_, [], ?_, Reps.none _ _⟩
  · have : W.heap.size = k := by simpa [Value.ownBlock] using hk
    rw [← this]; exact hok
  · exact World.ownsRow_lit (base := w.heap.size) (e := 3) (size := 1) W #[] 0 hle (by simp [maxLen]) (by simp)
attribute [local go_sem] eql_ints_nil
set_option maxHeartbeats 1000000 in
set_option maxRecDepth 100000 in
theorem cloneI_C (A : Option Addr) (c : Nat) (xs : List Int) (w : World) (hr : Kd.C (Kd.int .i64) w A xs.length xs) (hc : xs.length ≤ c) (hl : xs.length ≤ 1048576) (hnil : A = none → c = 0) :
    Calls Try.prog 62 #[.slice A xs.length c] w fun e w' => ∃ v, e = .returned v ∧ Kd.R (Kd.int .i64) 3 w' w.heap.size (fun k => w.heap.size ≤ k) v xs ∧ Below w.heap.size w w' := by
  have HC := Lib.hid hr
  clear hr
  rcases A with _ | ad
  · have h0 := hnil rfl
    have hx : xs = [] := List.eq_nil_of_length_eq_zero (by omega)
    subst hx h0
    go_enter Try.func62, Try.ntmps62
    go_wp2_with fail
    go_ret
    exact ⟨_, rfl, Kd.R_nil _ _ _ _ _, Below.refl _ _⟩
  · have hE := ints_empty (w := w) (W := w) (Nat.le_refl _) (fun k => w.heap.size ≤ k) (Nat.le_refl _)
    go_enter Try.func62, Try.ntmps62
    go_wp2_with (first | (refine Kd.R_append_rows (w0 := w) (Kd.int .i64) w.heap.size rfl (.tmp 5) (.tmp 6) 22 3 (.int .i64 0) 8 rfl Try.underlying22 (by kernel_rfl) rfl (by decide) (by decide) (.slice (some ⟨w.heap.size, 0, none⟩) 0 0) [] xs (some ad) xs.length c (fun k => w.heap.size ≤ k) (fun _ => False) rfl rfl hE (Kd.C_below HC.out (bl_alloc (Below.refl _ _) _)) (fun x cs hx => hx) (fun k h => h.elim) (fun k hk => by simp at hk; omega) (bl_alloc (Below.refl _ _) _) (by simp) (by simp; omega) ?_; intro v1 w1 hR1 hB1 hg1 hat1))
    go_ret
    exact ⟨v1, rfl, by simpa using hR1, hB1⟩
end Go.Proofs.Ytallakebnoighaa.PFnExactSettle
end

section
namespace Go.Proofs.Ytallakebnoighaa.PFnExactSettle
open Go.RowKit Go.Shelf Go.Proofs.YtallakebnoighaaW.PrintWords
set_option linter.unusedSimpArgs false
set_option linter.unusedVariables false
attribute [local go_sem] Oper.semAt_some flowUponL
theorem calls_atC {P : Program} {f : Nat} {args : Array Value} {E : World} {Q : Ending → World → Prop} (R : World → Prop) (h : R E) (k : ∀ W, R W → Calls P f args W Q) : Calls P f args E Q := k E h
theorem wp_atC {P : Program} {c : Code} {Q : Exit → Act → World → Prop} {a : Act} {E : World} (R : World → Prop) (h : R E) (k : ∀ W, R W → c.wp P Q a W) : c.wp P Q a E := k E h
theorem blk_own {β : Type} (g t : Nat) (f : β → Array Value) : Own (fun s W => Blk t g (f s) W) := fun s X Y row hs hg hrow =>
  (hg.block g hs.lt (fun e' => by obtain ⟨o, ho, hc⟩ := hrow g e'.symm; rw [show X.heap[g]? = _ from hs] at ho; cases ho; cases hc)).trans hs
theorem R_own {α β : Type} {d : Kd α} {e base : Nat} {ok : Nat → Prop} (v : β → Value) (xs : β → List α) : Own (fun s W => d.R e W base ok (v s) (xs s)) := fun s X Y row hs hg hrow =>
  Kd.R_mono (Kd.R_grown (Kd.R_bound hs) hg (fun k hk e' => by
    obtain ⟨o, ho, hc⟩ := hrow k e'.symm
    obtain ⟨-, -, -, q, hq, cs, hcs⟩ := hk
    rw [hcs] at ho; cases ho; cases hc)) (fun k hk => hk.1)
set_option maxRecDepth 100000 in
set_option maxHeartbeats 1000000 in
theorem backward_C (A : Option Addr) (n c : Nat) (w : World) :
    Calls Try.prog 98 #[.slice A n c] w fun e w' => e = .returned (.func (.func 109) #[] #[.pointer (some ⟨w.heap.size, 0, none⟩)]) ∧ w' = w.alloc (.cells #[.slice A n c] 31) := by
  have hmf : ∀ (fn : Fn) (first cap : Array Value) (w : World), (Instr.makeFunc fn first cap).run Try.prog w = .ok (.func fn first cap) w := fun _ _ _ _ => rfl
  go_enter Try.func98, Try.ntmps98
  go_wp2_with fail
  go_ret
  exact ⟨rfl, rfl⟩
theorem readConf_C (s : ByteArray) (hs : s.size ≤ 1048576) (w : World) : Calls Try.prog 93 #[.string s] w fun e w' => ∃ v : Value, e = .returned (.tuple #[v, .bool (readConf s).2]) ∧ Kd.R (Kd.int .i64) 3 w' w.heap.size (fun _ => True) v (readConf s).1 ∧ Below w.heap.size w w' := by
  have h := iread_f s (s.size + s.size + 2) (by omega) (by omega)
  exact impl_ReadConf.calls _ s (readConf s).1 (readConf s).2 w h
theorem confUp_none {cf : List Int} {st idx : Int} {es : List S87} : ∀ {n : Nat}, (∀ j : Nat, j < n → ¬ ((rd_T87 es (j : Int)).f1 = 2 ∧ st + j + 1 ≤ idx)) → confUp cf st idx es n = (cf, st)
  | 0, _ => rfl
  | n + 1, h => by
    unfold confUp
    rw [if_neg (h n (by omega))]
    exact confUp_none fun j hj => h j (by omega)
theorem confUp_some {cf : List Int} {st idx : Int} {es : List S87} (m : Nat) : ∀ (n : Nat), m < n → ((rd_T87 es (m : Int)).f1 = 2 ∧ st + m + 1 ≤ idx) → (∀ j : Nat, m < j → j < n → ¬ ((rd_T87 es (j : Int)).f1 = 2 ∧ st + j + 1 ≤ idx)) → confUp cf st idx es n = ((readConf (rd_T87 es (m : Int)).f2).1, st + m + 1)
  | 0, h, _, _ => by omega
  | n + 1, h, h1, h2 => by
    unfold confUp
    rcases Nat.eq_or_lt_of_le (Nat.le_of_lt_succ h) with rfl | h3
    · rw [if_pos h1]
    · rw [if_neg (h2 n h3 (by omega))]
      exact confUp_some m n h3 h1 fun j a b => h2 j a (by omega)
def hitB (st idx : Int) (p : BE) : Prop := p.1.2.f1 = 2 ∧ st + p.1.1 + 1 ≤ idx
set_option maxRecDepth 100000 in
set_option maxHeartbeats 4000000 in
theorem confIn_C (i0 i1 i2 i3 i4 : Int) (A5 : Option Addr) (c5 : Nat) (cf : List Int) (st tm : Int) (A8 : Option Addr) (c8 : Nat) (es : List S87) (cm ck lm : Int) (A12 : Option Addr) (n12 c12 : Nat) (A13 : Option Addr) (n13 c13 : Nat) (idx : Int) (w : World)
    (h5 : Kd.C (Kd.int .i64) w A5 cf.length cf) (hc5 : cf.length ≤ c5) (hl5 : cf.length ≤ 1048576) (hn5 : A5 = none → c5 = 0) (h8 : Kd.C k87 w A8 es.length es) (hc8 : es.length ≤ c8) (hS : ShortE es) (hl : es.length ≤ 1000000) (hst : 0 ≤ st ∧ st ≤ 2000000) :
    Calls Try.prog 71 #[.agg #[.int .i64 i0, .int .i64 i1, .int .i64 i2, .int .i64 i3, .int .i64 i4, .slice A5 cf.length c5, .int .i64 st, .int .i64 tm, .slice A8 es.length c8, .int .i64 cm, .int .i64 ck, .int .i64 lm, .slice A12 n12 c12, .slice A13 n13 c13], .int .i64 idx] w fun e w' =>
      (∃ v, e = .returned (.tuple #[v, .int .i64 (confUp cf st idx es es.length).2]) ∧ Kd.R (Kd.int .i64) 3 w' w.heap.size (fun k => w.heap.size ≤ k) v (confUp cf st idx es es.length).1) ∧ Below w.heap.size w w' := by
  have H5 := Lib.hid h5
  have H8 := Lib.hid h8
  clear h5 h8
  refine (callsIn_wide (n := 6)).1 ?_
  refine callsIn_of_wp_marks Try.func71 rfl trivial ?_ rfl
  refine wpIn_wide.2 ?_
  simp only [Try.ntmps71, List.size_toArray, List.length_cons, List.length_nil, Nat.reduceAdd, Nat.reduceSub, Array.replicate_succ, Array.replicate_zero, List.push_toArray, List.append_toArray, List.nil_append, List.cons_append]
  go_wp2_with fail
  refine (backward_C _ _ _ _).mono ?_
  rintro e W1 ⟨rfl, rfl⟩
  go_wp2_with fail
  obtain ⟨cn, hcn⟩ : ∃ cn : Array Value, cn = #[.int .i64 i0, .int .i64 i1, .int .i64 i2, .int .i64 i3, .int .i64 i4, .slice A5 cf.length c5, .int .i64 st, .int .i64 tm, .slice A8 es.length c8, .int .i64 cm, .int .i64 ck, .int .i64 lm, .slice A12 n12 c12, .slice A13 n13 c13] := ⟨_, rfl⟩
  obtain ⟨b, hb⟩ : ∃ b, b = w.heap.size := ⟨_, rfl⟩
  refine wp_atC (fun W => Blk 36 b cn W ∧ Blk 3 (b + 1) #[.int .i64 idx] W ∧ Blk 22 (b + 2) #[.slice none 0 0] W ∧ Blk 3 (b + 3) #[.int .i64 0] W ∧ Blk 31 (b + 4) #[.slice A8 es.length c8] W ∧ Below w.heap.size w W) ⟨?_, ?_, ?_, ?_, ?_, bl_alloc (bl_alloc (bl_alloc (bl_alloc (bl_alloc (Below.refl _ _) _) _) _) _) _⟩ ?_
  · rw [hcn, hb]; exact ((((Blk.new _ _ w).alloc _).alloc _).alloc _).alloc _
  · rw [hb]; exact (((Blk.newE _ _ (w.alloc _) (by simp)).alloc _).alloc _).alloc _
  · rw [hb]; exact ((Blk.newE _ _ ((w.alloc _).alloc _) (by simp)).alloc _).alloc _
  · rw [hb]; exact (Blk.newE _ _ (((w.alloc _).alloc _).alloc _) (by simp)).alloc _
  · rw [hb]; exact Blk.newE _ _ ((((w.alloc _).alloc _).alloc _).alloc _) (by simp)
  rintro W0 ⟨kN, k3, k4, k5, kB, B0⟩
  rw [← hb]
  have hble : w.heap.size ≤ b := by omega
  clear hb
  generalize (Value.agg #[.int .i64 i0, .int .i64 i1, .int .i64 i2, .int .i64 i3, .int .i64 i4, .slice A5 cf.length c5, .int .i64 st, .int .i64 tm, .slice A8 es.length c8, .int .i64 cm, .int .i64 ck, .int .i64 lm, .slice A12 n12 c12, .slice A13 n13 c13]) = G
  refine (wpIn_wide (n := 6)).1 ?_
  refine wpIn_rangeFunc_ownH (n := 6) (F := Fence.wide) rfl (by omega) (gf := 109) (lb := #[.pointer (some ⟨b + 4, 0, none⟩)]) rfl trivial (enters_of Try.func109 (by kernel_rfl) rfl)
    (back_stops 5 (by omega) es hS hl (b + 4) A8 c8 W0 (kB.cell 0 rfl) kB.lt (Kd.C_below H8.out B0) hc8) belowK_t (belowK_b (Nat.le_refl _)) (Below.refl _ _) (fun _ => rfl)
    (fun pre W => (((∀ p ∈ pre, ¬ hitB st idx p) ∧ (Blk 36 b cn W ∧ Blk 3 (b + 1) #[.int .i64 idx] W)) ∧ (Blk 22 (b + 2) #[.slice none 0 0] W ∧ Blk 3 (b + 3) #[.int .i64 0] W)) ∧ Below W0.heap.size W0 W)
    (fun c pre W => (c = .ret ∧ ∃ (ini : List BE) (last : BE) (v : Value), (pre = ini ++ [last] ∧ (∀ p ∈ ini, ¬ hitB st idx p) ∧ hitB st idx last) ∧ Blk 22 (b + 2) #[v] W ∧ Kd.R (Kd.int .i64) 3 W w.heap.size (fun k => w.heap.size ≤ k) v (readConf last.1.2.f2).1 ∧ Blk 3 (b + 3) #[.int .i64 (st + last.1.1 + 1)] W) ∧ Below w.heap.size w W)
    (OwnFrom.and (OwnFrom.and (OwnFrom.and (ownFrom_pure _ _) (OwnFrom.and (Own.from (blk_own _ _ _) _) (Own.from (blk_own _ _ _) _))) (OwnFrom.and (Own.from (blk_own _ _ _) _) (Own.from (blk_own _ _ _) _))) (ownFrom_below (Nat.le_refl _) (Nat.le_refl _)))
    (fun c => OwnFrom.and (Own.from (fun s X Y row hs hg hr => by
      obtain ⟨hc, ini, last, v, h1, h2, h3, h4⟩ := hs
      exact ⟨hc, ini, last, v, h1, blk_own (β := Unit) _ _ (fun _ => _) () X Y row h2 hg hr, R_own (β := Unit) (fun _ => v) (fun _ => _) () X Y row h3 hg hr, blk_own (β := Unit) _ _ (fun _ => _) () X Y row h4 hg hr⟩) _) (ownFrom_below (Nat.le_refl _) B0.size))
    ⟨⟨⟨by simp, kN, k3⟩, k4, k5⟩, Below.refl _ _⟩
    (fun x a' W => ∃ Bx, W0.heap.size ≤ Bx ∧ Blk 87 Bx #[.int .i64 x.1.2.f0, .int .i64 x.1.2.f1, .string x.1.2.f2] W ∧ a' = { tmps := #[G, .int .i64 idx, .pointer (some ⟨b, 0, none⟩), .pointer (some ⟨b + 1, 0, none⟩), .pointer (some ⟨b + 2, 0, none⟩), .pointer (some ⟨b + 3, 0, none⟩), .int .i64 (x.1.1 : Int), .pointer (some ⟨Bx, 0, none⟩), undef, undef, undef, .pointer (some ⟨b, 6, none⟩), .pointer (some ⟨b, 8, none⟩), .slice A8 es.length c8, .func (.func 109) #[] #[.pointer (some ⟨b + 4, 0, none⟩)], .int .i64 (x.1.1 : Int), .agg #[.int .i64 x.1.2.f0, .int .i64 x.1.2.f1, .string x.1.2.f2], undef, undef, undef, undef, undef, undef, undef, undef, undef, undef, undef, undef, undef, undef, undef, undef, undef, undef, undef, undef, undef, undef, undef, undef, undef, undef, undef, undef], defers := [] })
    (fun x a' _ X Y row hs hg hr => by
      obtain ⟨Bx, h1, h2, h3⟩ := hs
      exact ⟨Bx, h1, blk_own (β := Unit) _ _ (fun _ => _) () X Y row h2 hg (fun r e => (hr r e).2), h3⟩)
    ?assign ?body ?done ?stop
  case assign =>
    rintro l pre x W K ⟨⟨⟨hp, m2, m3⟩, m4, m5⟩, hB⟩ hK
    dsimp only [encB]
    gi_wp2
    exact hK _ _ ((KeepsOthers.alloc _ _).from _) ((Below.refl _ W).alloc hB.size _) ⟨⟨⟨hp, m2.alloc _, m3.alloc _⟩, m4.alloc _, m5.alloc _⟩, hB.alloc hB.size _⟩ ⟨W.heap.size, hB.size, Blk.new _ _ W, rfl⟩
  case body =>
    rintro l pre x a' W hl' ⟨r, hr⟩ ⟨⟨⟨hp, m2, m3⟩, m4, m5⟩, hB⟩ ⟨Bx, hBx, mx, rfl⟩ hlt
    have hb4 : b + 4 < W0.heap.size := kB.lt
    subst hcn
    obtain ⟨⟨xi, xe⟩, hx1, hx2⟩ := x
    have n6 := m2.cell 6 rfl
    have q3 := m3.cell 0 rfl
    have x1 := mx.cell 1 rfl
    have x2 := mx.cell 2 rfl
    have r4 := m4.cell 0 rfl
    have f4 := m4.free 0
    have r5 := m5.cell 0 rfl
    have f5 := m5.free 0
    simp only at hx1 hx2 x1 x2
    have hw1 : wrap64 (st + (xi : Int)) = st + (xi : Int) := by unfold wrap64; omega
    have hw2 : wrap64 (st + (xi : Int) + 1) = st + (xi : Int) + 1 := by unfold wrap64; omega
    have hv1 : IntKind.i64.wrap (st + (xi : Int)) = st + (xi : Int) := by rw [IntKind.wrap_i64]; omega
    have hv2 : IntKind.i64.wrap (st + (xi : Int) + 1) = st + (xi : Int) + 1 := by rw [IntKind.wrap_i64]; omega
    by_cases hk : xe.f1 = 2
    · have hk' : (xe.f1 == 2) = true := by simp [hk]
      by_cases hi : st + (xi : Int) + 1 ≤ idx
      · have hi' : decide (st + (xi : Int) + 1 ≤ idx) = true := by simp [hi]
        gi_wp2_with (refine ⟨trivial, ?_⟩; gi_at_call 93; refine (CallsIn.inRound l (callsIn_wide.2 (readConf_C xe.f2 hx2 W))).mono ?_; rintro e W3 ⟨v, rfl, hR, hb3⟩; obtain ⟨A3, c3, rfl, -, -⟩ := Kd.R_reads hR; have r4' := (m4.below hb3).cell 0 rfl; have f4' := (m4.below hb3).free 0; have r5' := (m5.below hb3).cell 0 rfl; have f5' := (m5.below hb3).free 0)
        have hz : W0.heap.size ≤ W.heap.size := hB.size
        have R1 := Kd.R_mono (Kd.R_bound hR) (ok' := fun k => W.heap.size ≤ k) (fun k hk => hk.2.1)
        have R2 := Kd.R_far (p := ⟨b + 2, 0, none⟩) R1 (fun k hk => by show k ≠ b + 2; omega) (.slice A3 (readConf xe.f2).1.length c3)
        have R3 := Kd.R_far (p := ⟨b + 3, 0, none⟩) R2 (fun k hk => by show k ≠ b + 3; omega) (.int .i64 (st + (xi : Int) + 1))
        have hwz : w.heap.size ≤ W.heap.size := Nat.le_trans B0.size hz
        refine ⟨(KeepsFrom.of_grownBy (grown_of_below hb3 none) (by simp)).trans (((KeepsOthers.setCell _ _ _).from _).trans ((KeepsOthers.setCell _ _ _).from _)), ⟨rfl, pre, ⟨(xi, xe), hx1, hx2⟩, _, ⟨rfl, hp, hk, hi⟩, ((m4.below hb3).set 0 _ rfl).far (a := ⟨b + 3, 0, none⟩) (by show b + 2 ≠ b + 3; omega) _, Kd.R_mono (Kd.R_lower R3 hwz) (fun k hk => Nat.le_trans hwz hk), ((m5.below hb3).far (a := ⟨b + 2, 0, none⟩) (by show b + 3 ≠ b + 2; omega) _).set 0 _ rfl⟩, ?_⟩
        exact bl_set (bl_set (bl_then (bl_then B0 hB) hb3) (by show w.heap.size ≤ b + 2; omega)) (by show w.heap.size ≤ b + 3; omega)
      · have hi' : decide (st + (xi : Int) + 1 ≤ idx) = false := by simp [hi]
        have hp2 : ∀ p ∈ pre ++ [(⟨(xi, xe), hx1, hx2⟩ : BE)], ¬ hitB st idx p := fun p hp' => (List.mem_append.1 hp').elim (hp p) (fun e => by rw [List.mem_singleton] at e; subst e; exact fun h => hi h.2)
        gi_wp2_with fail
        exact ⟨KeepsFrom.refl _ _, Below.refl _ _, ⟨⟨by first | exact hp2 | simpa using hp2, m2, m3⟩, m4, m5⟩, hB⟩
    · have hk' : (xe.f1 == 2) = false := by simp [hk]
      have hp2 : ∀ p ∈ pre ++ [(⟨(xi, xe), hx1, hx2⟩ : BE)], ¬ hitB st idx p := fun p hp' => (List.mem_append.1 hp').elim (hp p) (fun e => by rw [List.mem_singleton] at e; subst e; exact fun h => hk h.1)
      gi_wp2_with fail
      exact ⟨KeepsFrom.refl _ _, Below.refl _ _, ⟨⟨by first | exact hp2 | simpa using hp2, m2, m3⟩, m4, m5⟩, hB⟩
  case done =>
    rintro D ys W hD rfl ⟨⟨⟨hp, m2, m3⟩, m4, m5⟩, hB⟩ hK
    have hb4 : b + 4 < W0.heap.size := kB.lt
    have hz : W0.heap.size ≤ W.heap.size := hB.size
    subst hcn
    go_upto_region 8 with fail
    refine wp_region_flowT (L := fun A B => Upd (b + 2) A B) (M := fun A B => Below A.heap.size A B) (J := fun X => Blk 22 (b + 2) #[.slice none 0 0] X) (J1 := fun X => ∃ v, Blk 22 (b + 2) #[v] X ∧ Kd.R (Kd.int .i64) 3 X W.heap.size (fun k => W.heap.size ≤ k) v cf) 6 (m4.below (bl_drew (Below.refl _ _))) (fun a b h k => h.below k) (fun a b ⟨v, h1, h2⟩ k => ⟨v, h1.below k, Kd.R_below h2 k⟩) (fun a b h => Upd.of_below h) (fun w => Upd.of_below (bl_drew (Below.refl _ _))) (fun a b c h k => h.trans k) [2, 4, 5] 45 7 (by kernel_rfl) (by rfl) (by kernel_rfl) (by kernel_rfl) (by kernel_rfl) (by kernel_rfl) ?_
    (refine flowT_valE (by decide) ?_; apply Exists.intro; refine ⟨fun A wq hLq hbq hdq => ?_, ?_⟩; focus ((try simp [go_sem, baseF, deps, dep1, Region.binds] at hbq); (try simp [go_sem, baseF, deps, dep1, Region.binds] at hdq); go_simp; first | exact ⟨Below.refl _ _, rfl⟩ | (fail)))
    refine flowT_valE (by decide) ⟨.slice A5 cf.length c5, fun A wq hLq hbq hdq => ?_, ?_⟩
    · have qN := m2.upd hLq (by omega)
      have qc := qN.cell 5 rfl
      (try simp [go_sem, baseF, deps, dep1, Region.binds] at hbq)
      (try simp [go_sem, baseF, deps, dep1, Region.binds] at hdq)
      go_simp
      first | exact Below.refl _ _ | exact ⟨Below.refl _ _, rfl⟩
    refine flowT_R (by decide) (fun X u => Kd.R (Kd.int .i64) 3 X W.heap.size (fun k => W.heap.size ≤ k) u cf) (fun _ _ _ h u => Kd.R_step h (fun k hk hlt => u.block k hlt (by omega))) (fun A wq hLq hbq hdq => ?_) ?_
    · (try simp [go_sem, baseF, deps, dep1, Region.binds] at hbq)
      (try simp [go_sem, baseF, deps, dep1, Region.binds] at hdq)
      go_simp
      refine (cloneI_C A5 c5 cf wq (Kd.C_below H5.out (hLq.below (bl_then B0 hB) (by omega))) hc5 hl5 hn5).mono ?_
      rintro e w5 ⟨v, rfl, hR, hb5⟩
      have hzq := hLq.size
      have R9 := Kd.R_mono (Kd.R_lower hR hzq) (ok' := fun k => W.heap.size ≤ k) (fun k hk => Nat.le_trans hzq hk)
      first | exact ⟨_, rfl, hb5, R9⟩ | exact ⟨hb5, R9⟩
    iterate 2 (refine flowT_valE (by decide) ?_; apply Exists.intro; refine ⟨fun A wq hLq hbq hdq => ?_, ?_⟩; focus ((try simp [go_sem, baseF, deps, dep1, Region.binds] at hbq); (try simp [go_sem, baseF, deps, dep1, Region.binds] at hdq); go_simp; first | exact ⟨Below.refl _ _, rfl⟩ | (fail)))
    refine flowT_valE (by decide) ⟨.int .i64 st, fun A wq hLq hbq hdq => ?_, ?_⟩
    · have qN := m2.upd hLq (by omega)
      have qc := qN.cell 6 rfl
      (try simp [go_sem, baseF, deps, dep1, Region.binds] at hbq)
      (try simp [go_sem, baseF, deps, dep1, Region.binds] at hdq)
      go_simp
      first | exact Below.refl _ _ | exact ⟨Below.refl _ _, rfl⟩
    refine flowT_store rfl (fun A wq hLq hJ hbq hdq => ?_) ?_
    · (try simp [go_sem, baseF, deps, dep1, Region.binds] at hbq)
      (try simp [go_sem, baseF, deps, dep1, Region.binds] at hdq)
      obtain ⟨hR0, -⟩ := hdq
      obtain ⟨A6, c6, hv6, -, -⟩ := Kd.R_reads hR0
      rw [hv6] at hR0
      have HR := Lib.hid hR0
      clear hR0
      have j0 := hJ.cell 0 rfl
      have jf := hJ.free 0
      have jl := hJ.lt
      go_simp
      exact ⟨(Upd.refl _ _).set 0 _, _, hJ.set 0 _ rfl, Kd.R_far HR.out (fun k hk => by show k ≠ b + 2; omega) _⟩
    with_reducible refine flowT_tail ?_
    intro x wq hLq hall hJ1
    simp only [allT] at hall
    obtain ⟨v, n4, hR⟩ := hJ1 (by decide)
    obtain ⟨A6, c6, rfl, -, -⟩ := Kd.R_reads hR
    have n5 := m5.upd hLq (by omega)
    have p5 := n5.cell 0 rfl
    have pf := n5.free 0
    have pl := n5.lt
    have HR := Lib.hid hR
    clear hR
    refine ⟨?_⟩
    simp [seqUpon, lastUpon, frameOf, Act.put, List.take, hall]
    clear hall
    go_simp
    have hDl : D < W.heap.size := (Array.getElem?_eq_some_iff.1 hK).1
    have hK1 : wq.heap[D]? = some (.deferred (some [])) := (hLq.block D hDl (by omega)).trans hK
    have hK2 : (wq.setCell ⟨b + 3, 0, none⟩ (.int .i64 st)).heap[D]? = some (.deferred (some [])) := (Below.heap_setCell wq ⟨b + 3, 0, none⟩ (.int .i64 st) D (by show D ≠ b + 3; omega)).trans hK1
    obtain ⟨W9, hW9⟩ : ∃ W9, W9 = wq.setCell ⟨b + 3, 0, none⟩ (.int .i64 st) := ⟨_, rfl⟩
    have o4 : Blk 22 (b + 2) #[.slice A6 cf.length c6] W9 := by rw [hW9]; exact n4.far (a := ⟨b + 3, 0, none⟩) (by show b + 2 ≠ b + 3; omega) _
    have o5 : Blk 3 (b + 3) #[.int .i64 st] W9 := by rw [hW9]; exact n5.set 0 _ rfl
    have R9 := Lib.hid (show Kd.R (Kd.int .i64) 3 W9 W.heap.size (fun k => W.heap.size ≤ k) (.slice A6 cf.length c6) cf from by rw [hW9]; exact Kd.R_far HR.out (fun k hk => by show k ≠ b + 3; omega) _)
    have B9 : Below w.heap.size w W9 := by rw [hW9]; exact bl_set (hLq.below (bl_then B0 hB) (by omega)) (by show w.heap.size ≤ b + 3; omega)
    rw [show b + 1 + 1 + 1 = b + 3 from rfl, ← hW9]
    rw [← hW9] at hK2
    clear hW9 n4 n5 p5 pf pl HR hK1 hLq
    go_wp2_with fail
    have hwD : w.heap.size ≤ D := by have := B0.size; omega
    have hcu : confUp cf st idx es es.length = (cf, st) := confUp_none fun j hj hh => hp (itB es hS hl (es.length - 1 - j)) (by unfold dnB; exact List.mem_map.2 ⟨_, List.mem_range.2 (by omega), rfl⟩) (by
      have e : es.length - 1 - (es.length - 1 - j) = j := by omega
      simp only [hitB, itB, e]; exact hh)
    have hwz : w.heap.size ≤ W.heap.size := Nat.le_trans B0.size hz
    refine ⟨by simp, .inl ⟨_, _, rfl, run_takeDeferred hK2, ?_⟩⟩
    have z4 := cell_kept (o4.cell 0 rfl) (grownBy_putObj' W9 D (.deferred none)) (fun r e => by cases e; exact ⟨_, hK2, rfl⟩)
    have z5 := cell_kept (o5.cell 0 rfl) (grownBy_putObj' W9 D (.deferred none)) (fun r e => by cases e; exact ⟨_, hK2, rfl⟩)
    have BD := B9.trans (belowK_b (w := w) (Nat.le_refl _) W9 D _ (.deferred none) hwD hK2 rfl rfl)
    have RD := R_own (β := Unit) (fun _ => (.slice A6 cf.length c6)) (fun _ => cf) () W9 (W9.putObj D (.deferred none)) (some D) R9.out (grownBy_putObj' W9 D (.deferred none)) (fun r e => by cases e; exact ⟨_, hK2, rfl⟩)
    clear o4 o5
    refine ⟨.tuple #[(.slice A6 cf.length c6), .int .i64 st], ?_, ⟨⟨(.slice A6 cf.length c6), ?_, ?_⟩, BD⟩⟩
    · simp [results, Try.f71, go_sem, z4, z5]
    · first | rfl | (rw [hcu]; done) | rw [hcu]
    · try rw [hcu]
      exact Kd.R_mono (Kd.R_lower RD hwz) (fun k hk => Nat.le_trans hwz hk)
  case stop =>
    rintro D c pre W hD ⟨k, hk, rfl⟩ ⟨⟨rfl, ini, last, v, ⟨e1, e2, e3⟩, o4, hR, o5⟩, hB⟩ hK
    obtain ⟨A6, c6, rfl, -, -⟩ := Kd.R_reads hR
    have hwD : w.heap.size ≤ D := by have := B0.size; omega
    obtain ⟨k', rfl⟩ : ∃ k', k = k' + 1 := by
      cases k with
      | zero => simp [dnB] at e1
      | succ k' => exact ⟨k', rfl⟩
    rw [dnB_succ] at e1
    obtain ⟨rfl, e5⟩ := List.append_inj' e1 rfl
    obtain rfl : itB es hS hl k' = last := by simpa using e5
    have hcu : confUp cf st idx es es.length = ((readConf (rd_T87 es ((es.length - 1 - k' : Nat) : Int)).f2).1, st + ((es.length - 1 - k' : Nat) : Int) + 1) := confUp_some (es.length - 1 - k') es.length (by omega) e3 (fun j h1 h2 hh => e2 (itB es hS hl (es.length - 1 - j)) (by unfold dnB; exact List.mem_map.2 ⟨_, List.mem_range.2 (by omega), rfl⟩) (by
      have e : es.length - 1 - (es.length - 1 - j) = j := by omega
      simp only [hitB, itB, e]; exact hh))
    simp only [itB] at o4 hR o5
    refine wpIn_wide.2 ?_
    go_wp2_with fail
    refine ⟨by simp, .inl ⟨_, _, rfl, run_takeDeferred hK, ?_⟩⟩
    have z4 := cell_kept (o4.cell 0 rfl) (grownBy_putObj' W D (.deferred none)) (fun r e => by cases e; exact ⟨_, hK, rfl⟩)
    have z5 := cell_kept (o5.cell 0 rfl) (grownBy_putObj' W D (.deferred none)) (fun r e => by cases e; exact ⟨_, hK, rfl⟩)
    have BD := hB.trans (belowK_b (w := w) (Nat.le_refl _) W D _ (.deferred none) hwD hK rfl rfl)
    have RD := R_own (β := Unit) (fun _ => (.slice A6 (readConf (rd_T87 es ((es.length - 1 - k' : Nat) : Int)).f2).1.length c6)) (fun _ => (readConf (rd_T87 es ((es.length - 1 - k' : Nat) : Int)).f2).1) () W (W.putObj D (.deferred none)) (some D) hR (grownBy_putObj' W D (.deferred none)) (fun r e => by cases e; exact ⟨_, hK, rfl⟩)
    clear o4 o5
    refine ⟨.tuple #[(.slice A6 (readConf (rd_T87 es ((es.length - 1 - k' : Nat) : Int)).f2).1.length c6), .int .i64 (st + ((es.length - 1 - k' : Nat) : Int) + 1)], ?_, ⟨⟨(.slice A6 (readConf (rd_T87 es ((es.length - 1 - k' : Nat) : Int)).f2).1.length c6), ?_, ?_⟩, BD⟩⟩
    · simp [results, Try.f71, go_sem, z4, z5]
    · first | rfl | (rw [hcu]; done) | rw [hcu]
    · try rw [hcu]
      exact RD
end Go.Proofs.Ytallakebnoighaa.PFnExactSettle
end

section
namespace Go.Proofs.Ytallakebnoighaa.PFnExactSettle
open Go.RowKit Go.Proofs.YtallakebnoighaaW.PrintWords
set_option linter.unusedSimpArgs false
set_option linter.unusedVariables false
theorem row_ints {W : World} {b : Nat} (xs : List Int) (hl : xs.length ≤ 1048576) (h : ∀ i p, xs[i]? = some p → W.cell? ⟨b, i, none⟩ = some (.int .i64 p)) : Kd.C (Kd.int .i64) W (some ⟨b, 0, none⟩) xs.length xs := by
  refine ⟨rfl, by omega, fun _ => ⟨_, rfl, fun j p hj => ⟨[.int .i64 p], rfl, rfl, fun i u hu => ?_⟩⟩⟩
  rcases i with _ | i
  · obtain rfl : Value.int .i64 p = u := by simpa using hu
    have : Addr.add ⟨b, 0, none⟩ (j * (Kd.int .i64).sz + 0) = ⟨b, j, none⟩ := by
      show Addr.add ⟨b, 0, none⟩ (j * 1 + 0) = ⟨b, j, none⟩
      unfold Addr.add
      rcases j with _ | j <;> simp
    rw [this]
    exact h j p hj
  · simp at hu
theorem Upd.setCells {g : Nat} {w : World} : ∀ (vs : List Value) (o : Nat) (w' : World), Upd g w w' → Upd g w (w'.setCells g o vs)
  | [], _, _, h => h
  | v :: r, o, w', h => by
    rw [World.setCells]
    exact Upd.setCells r (o + 1) _ (h.set o v)
theorem R_blk {e base c n : Nat} {ok : Nat → Prop} {W : World} {A : Option Addr} {xs : List Int} (h : Kd.R (Kd.int .i64) e W base ok (.slice A n c) xs) :
    n = xs.length ∧ ((A = none ∧ xs = [] ∧ c = 0) ∨ ∃ g cs, A = some ⟨g, 0, none⟩ ∧ Blk e g cs W ∧ base ≤ g ∧ cs.size = c ∧ xs.length ≤ c ∧ c ≤ maxLen ∧ ∀ t : Nat, t < xs.length → cs[t]? = some (.int .i64 (rd xs t))) := by
  obtain ⟨A', c', hv, hcap, hC⟩ := Kd.R_reads h
  obtain ⟨rfl, rfl, rfl⟩ : A = A' ∧ n = xs.length ∧ c = c' := by injection hv with h1 h2 h3; exact ⟨h1, h2, h3⟩
  refine ⟨rfl, ?_⟩
  obtain ⟨h0, inner, hown, hr⟩ := h
  rcases hown.2 with ⟨h1, h2⟩ | ⟨g, cap, cur, h1, h2, h3, h4, h5, h6, h7⟩
  · injection h1 with a1 a2 a3
    exact .inl ⟨a1, List.eq_nil_of_length_eq_zero a2, a3⟩
  · injection h1 with a1 a2 a3
    subst a1 a3
    refine .inr ⟨g, cur, rfl, h3, h2, by simpa [Kd.int, Kd.scalar] using h6, hcap, h5, fun t ht => ?_⟩
    obtain ⟨ad, e1, x0⟩ := Kd.at_int hC (t : Int) (by omega) (by omega)
    obtain rfl : (⟨g, 0, none⟩ : Addr) = ad := by injection e1
    simp only [Int.toNat_natCast] at x0
    have hb : W.heap[g]? = some (.cells cur e (0, 0)) := h3
    have ha : (Addr.add ⟨g, 0, none⟩ t) = ⟨g, t, none⟩ := by unfold Addr.add; rcases t with _ | t <;> simp
    rw [ha] at x0
    simpa [World.cell?, hb] using x0
theorem peers1_C (g : Nat) (id x : Int) (w : World) (h : w.cell? ⟨g, 0, none⟩ = some (.int .i64 id)) (hg : g < w.heap.size) :
    Calls Try.prog 77 #[.int .i64 x, .pointer (some ⟨g, 0, none⟩)] w fun e w' => e = .returned (.bool (x == id)) ∧ w = w' := by
  go_enter Try.func77, Try.ntmps77
  go_wp2
  all_goals
    go_ret
    exact ⟨by first | rfl | (simp; done), rfl⟩
def ixI (xs : List Int) (id : Int) : Nat → Nat → Int
  | _, 0 => -1
  | i, n + 1 => if rd xs i = id then i else ixI xs id (i + 1) n
theorem ixI_none {xs : List Int} {id : Int} : ∀ (n i : Nat), ixI xs id i n = -1 → ∀ t : Nat, i ≤ t → t < i + n → rd xs t ≠ id
  | 0, i, h, t, h1, h2 => by omega
  | n + 1, i, h, t, h1, h2 => by
    unfold ixI at h
    split at h
    · omega
    · rcases Nat.eq_or_lt_of_le h1 with rfl | h3
      · assumption
      · exact ixI_none n (i + 1) h t h3 (by omega)
theorem ixI_some {xs : List Int} {id : Int} : ∀ (n i : Nat), ixI xs id i n ≠ -1 → ∃ m : Nat, ixI xs id i n = (m : Int) ∧ i ≤ m ∧ m < i + n ∧ rd xs m = id ∧ ∀ t : Nat, i ≤ t → t < m → rd xs t ≠ id
  | 0, i, h => absurd rfl h
  | n + 1, i, h => by
    unfold ixI at h ⊢
    split
    · rename_i he
      exact ⟨i, rfl, Nat.le_refl _, by omega, he, fun t h1 h2 => by omega⟩
    · rename_i he
      rw [if_neg he] at h
      obtain ⟨m, h1, h2, h3, h4, h5⟩ := ixI_some n (i + 1) h
      refine ⟨m, h1, by omega, by omega, h4, fun t a b => ?_⟩
      rcases Nat.eq_or_lt_of_le a with rfl | a
      · exact he
      · exact h5 t a b
set_option maxRecDepth 100000 in
set_option maxHeartbeats 1000000 in
theorem ixI_C (A : Option Addr) (c : Nat) (xs : List Int) (g : Nat) (id : Int) (w : World) (hr : Kd.C (Kd.int .i64) w A xs.length xs) (hc : xs.length ≤ c) (hl : xs.length ≤ 1048576) (h : w.cell? ⟨g, 0, none⟩ = some (.int .i64 id)) (hg : g < w.heap.size) :
    Calls Try.prog 101 #[.slice A xs.length c, .func (.func 77) #[] #[.pointer (some ⟨g, 0, none⟩)]] w fun e w' => e = .returned (.int .i64 (ixI xs id 0 xs.length)) ∧ w = w' := by
  have HR := Lib.hid hr
  clear hr
  go_enter Try.func101, Try.ntmps101
  go_wp2
  go_loopg [8] xs.length (fun kq v8 w' => ∃ i : Nat, v8 = .int .i64 (i : Int) ∧ i + kq = xs.length ∧ Hid (ixI xs id i kq = ixI xs id 0 xs.length) ∧ w = w')
  case atStart => exact ⟨0, rfl, by omega, Lib.hid rfl, rfl⟩
  case round =>
    obtain ⟨i, rfl, hik, hix, rfl⟩ := hrel
    cases gk with
    | zero =>
      have hlt : ¬ ((i : Int) < (xs.length : Int)) := by omega
      have hix' := hix.out
      simp only [ixI] at hix'
      have hix2 := Lib.hid hix'
      clear hix hix'
      go_wp2
      go_ret
      rw [← hix2.out]
      exact ⟨rfl, rfl⟩
    | succ n =>
      have hlt : (i : Int) < (xs.length : Int) := by omega
      obtain ⟨ad, rfl, x0⟩ := Kd.at_int HR.out (i : Int) (by omega) hlt
      simp only [Int.toNat_natCast] at x0
      have e1 : wrap64 ((i : Int) + 1) = ((i + 1 : Nat) : Int) := by unfold wrap64; omega
      have E1 := Lib.hid e1
      clear e1
      by_cases hd : rd xs i = id
      · have hb0 : (rd xs i == id) = true := by simpa using hd
        have hix' := hix.out
        simp only [ixI, if_pos hd] at hix'
        have hix2 := Lib.hid hix'
        clear hix hix' hd
        go_wp2_with (first | (go_at_call 77; refine (peers1_C g id _ _ h hg).mono ?_; rintro e w' ⟨rfl, rfl⟩; rw [hb0]))
        go_ret
        rw [← hix2.out]
        exact ⟨rfl, rfl⟩
      · have hb0 : (rd xs i == id) = false := by simpa using hd
        have hix' := hix.out
        simp only [ixI, if_neg hd] at hix'
        have hix2 := Lib.hid hix'
        clear hix hix' hd
        go_wp2_with (first | (go_at_call 77; refine (peers1_C g id _ _ h hg).mono ?_; rintro e w' ⟨rfl, rfl⟩; rw [hb0]))
        go_roundg n
        case measure => omega
        case rel => exact ⟨i + 1, by first | rfl | (rw [E1.out]), by omega, hix2, rfl⟩
def flt (xs : List Int) (id : Int) (j : Nat) : List Int := (xs.take j).filter (fun x => x != id)
theorem flt_succ {xs : List Int} {id : Int} {j : Nat} (h : j < xs.length) : flt xs id (j + 1) = flt xs id j ++ (if rd xs j = id then [] else [rd xs j]) := by
  have e : rd xs (j : Int) = xs[j] := by simp [rd, h]
  unfold flt
  rw [List.take_add_one, List.getElem?_eq_getElem h, e]
  simp only [Option.toList_some, List.filter_append]
  congr 1
  by_cases hx : xs[j] = id
  · simp [hx]
  · simp [hx]
theorem flt_le (xs : List Int) (id : Int) (j : Nat) : (flt xs id j).length ≤ j := Nat.le_trans (List.length_filter_le _ _) (by simp; omega)
theorem flt_all {xs : List Int} {id : Int} : ∀ (m : Nat), m ≤ xs.length → (∀ t : Nat, t < m → rd xs t ≠ id) → flt xs id m = xs.take m
  | 0, _, _ => by simp [flt]
  | m + 1, hm, h => by
    have hlt : m < xs.length := by omega
    have e : rd xs (m : Int) = xs[m] := by simp [rd, hlt]
    rw [flt_succ hlt, if_neg (h m (by omega)), flt_all m (by omega) (fun t ht => h t (by omega)), List.take_add_one, List.getElem?_eq_getElem hlt, e]
    rfl
theorem rd_take {xs : List Int} {m t : Nat} (h : t < m) : rd (xs.take m) t = rd xs t := by
  simp [rd, List.getElem?_take, h]
theorem rd_app1 {a b : List Int} {t : Nat} (h : t < a.length) : rd (a ++ b) t = rd a t := by simp [rd, List.getElem?_append, h]
theorem rd_app2 {a : List Int} {x : Int} : rd (a ++ [x]) (a.length : Int) = x := by simp [rd]
def DelAt (g c : Nat) (xs : List Int) (id : Int) (j : Nat) (W : World) : Prop := ∃ cs, Blk 3 g cs W ∧ cs.size = c ∧ (∀ t : Nat, t < (flt xs id j).length → cs[t]? = some (.int .i64 (rd (flt xs id j) t))) ∧ ∀ t : Nat, j ≤ t → t < xs.length → cs[t]? = some (.int .i64 (rd xs t))
set_option maxRecDepth 100000 in
set_option maxHeartbeats 4000000 in
theorem delFn_C (g c : Nat) (cs0 : Array Value) (xs : List Int) (gN : Nat) (id : Int) (w : World) (hB : Blk 3 g cs0 w) (hsz : cs0.size = c) (hcs : ∀ t : Nat, t < xs.length → cs0[t]? = some (.int .i64 (rd xs t))) (hc : xs.length ≤ c) (hcm : c ≤ maxLen) (hl : xs.length ≤ 1048576) (h : w.cell? ⟨gN, 0, none⟩ = some (.int .i64 id)) (hg : gN < w.heap.size) (hne : gN ≠ g) :
    Calls Try.prog 76 #[.slice (some ⟨g, 0, none⟩) xs.length c, .func (.func 77) #[] #[.pointer (some ⟨gN, 0, none⟩)]] w fun e w' =>
      (e = .returned (.slice (some ⟨g, 0, none⟩) (flt xs id xs.length).length c) ∧ Kd.C (Kd.int .i64) w' (some ⟨g, 0, none⟩) (flt xs id xs.length).length (flt xs id xs.length)) ∧ Upd g w w' := by
  have hrow : Kd.C (Kd.int .i64) w (some ⟨g, 0, none⟩) xs.length xs := row_ints xs hl fun i p hp => by
    have hi : i < xs.length := (List.getElem?_eq_some_iff.1 hp).1
    have := hcs i hi
    have e : rd xs (i : Int) = p := by simp [rd, hp]
    rw [e] at this
    exact hB.cell i this
  have HR := Lib.hid hrow
  clear hrow
  have hcm' : c ≤ 9223372036854775807 := by unfold maxLen at hcm; omega
  go_enter Try.func76, Try.ntmps76
  go_wp2_with fail
  obtain ⟨ix, hix⟩ : ∃ ix, ixI xs id 0 xs.length = ix := ⟨_, rfl⟩
  refine (ixI_C (some ⟨g, 0, none⟩) c xs gN id w HR.out hc hl h hg).mono ?_
  rintro e w' ⟨rfl, rfl⟩
  rw [hix]
  by_cases h1 : ix = -1
  · have hall := ixI_none xs.length 0 (hix.trans h1)
    have hf : flt xs id xs.length = xs := by rw [flt_all xs.length (Nat.le_refl _) (fun t ht => hall t (Nat.zero_le _) (by omega))]; simp
    clear hix
    subst h1
    go_wp2_with fail
    go_ret
    rw [hf]
    exact ⟨⟨rfl, HR.out⟩, Upd.refl _ _⟩
  · obtain ⟨m, hm0, -, hm1, hm2, hm3⟩ := ixI_some xs.length 0 (fun e => h1 (hix.symm.trans e))
    obtain rfl : ix = (m : Int) := hix.symm.trans hm0
    clear hix hm0 h1
    have hne1 : ((m : Int) == -1) = false := by simp
    have E0 := Lib.hid (show wrap64 ((m : Int) + 1) = ((m + 1 : Nat) : Int) from by unfold wrap64; omega)
    have hf0 : flt xs id (m + 1) = xs.take m := by rw [flt_succ (by omega), if_pos hm2, flt_all m (by omega) (fun t ht => hm3 t (Nat.zero_le _) ht)]; simp
    have hfl0 : (flt xs id (m + 1)).length = m := by rw [hf0]; simp; omega
    have Hf0 := Lib.hid hf0
    have Hfl0 := Lib.hid hfl0
    clear hf0 hfl0
    go_wp2_with fail
    go_loopg [5, 6, 7] (xs.length - (m + 1)) (fun kq v5 v6 v7 w' => ∃ (j : Nat), v5 = .int .i64 ((flt xs id j).length : Int) ∧ v6 = .int .i64 (j : Int) ∧ j + kq = xs.length ∧ (flt xs id j).length < j ∧ DelAt g c xs id j w' ∧ Upd g w w')
    case atStart =>
      refine ⟨m + 1, by rw [Hfl0.out], by first | rfl | (rw [E0.out]), by omega, by rw [Hfl0.out]; omega, ⟨cs0, hB, hsz, fun t ht => ?_, fun t _ ht => hcs t ht⟩, Upd.refl _ _⟩
      rw [Hfl0.out] at ht
      rw [Hf0.out, rd_take ht]
      exact hcs t (by omega)
    case round =>
      obtain ⟨j, rfl, rfl, hjk, hij, ⟨cs, kB, ks, hlo, hhi⟩, hU⟩ := hrel
      have kl := kB.lt
      obtain ⟨i, hi⟩ : ∃ i, (flt xs id j).length = i := ⟨_, rfl⟩
      rw [hi] at hij hlo ⊢
      have HI := Lib.hid hi
      clear hi
      cases gk with
      | zero =>
        have hlt : ¬ ((j : Int) < (xs.length : Int)) := by omega
        have hjn : j = xs.length := by omega
        have hclr : ∀ ty, (Builtin.clear_ #[22] ty #[.slice (some ⟨g, i, none⟩) (xs.length - i) (c - i)]).run Try.prog wr = .ok (.tuple #[]) (wr.setCells g i (List.replicate (xs.length - i) (.int .i64 0))) := fun ty =>
          Lib.run_clear_slice wr 22 3 ty (.int .i64 0) Try.underlying22 (fun w => by simp [go_sem]) rfl rfl g i _ _ (by omega) (fun t ht => by
            have h2 : i + t < cs.size := by omega
            rw [kB.cell (i + t) (Array.getElem?_eq_getElem h2)]; rfl) (fun t ht => kB.free _)
        have hic : (i : Int) ≤ (xs.length : Int) := by omega
        have hic2 : ¬ (c = i) := by omega
        have hlo2 : Hid (∀ t : Nat, t < i → cs[t]? = some (.int .i64 (rd (flt xs id j) t))) := Lib.hid hlo
        clear hlo hhi
        go_wp2_with fail
        go_ret
        have hil : i ≤ xs.length := by omega
        have hfe : (flt xs id xs.length).length = i := by rw [← hjn]; exact HI.out
        refine ⟨⟨by rw [hfe]; first | rfl | simp [Act.eval], row_ints _ (by omega) fun t p hp => ?_⟩, Upd.setCells _ _ _ hU⟩
        have ht : t < (flt xs id xs.length).length := (List.getElem?_eq_some_iff.1 hp).1
        rw [World.cell?_setCells_out g _ _ _ ⟨g, t, none⟩ (fun _ _ => by left; show t < i; omega)]
        have e : rd (flt xs id xs.length) (t : Int) = p := by simp [rd, hp]
        have := hlo2.out t (by omega)
        rw [hjn, e] at this
        exact kB.cell t this
      | succ n =>
        have hlt : (j : Int) < (xs.length : Int) := by omega
        have hx := kB.cell j (hhi j (Nat.le_refl _) (by omega))
        have hcap : wr.cell? ⟨gN, 0, none⟩ = some (.int .i64 id) := by rw [(ucell hU).1 gN 0 hg hne]; exact h
        have hgw : gN < wr.heap.size := Nat.lt_of_lt_of_le hg hU.size
        have E1 := Lib.hid (show wrap64 ((j : Int) + 1) = ((j + 1 : Nat) : Int) from by unfold wrap64; omega)
        have E2 := Lib.hid (show wrap64 ((i : Int) + 1) = ((i + 1 : Nat) : Int) from by unfold wrap64; omega)
        have hi2 : i < cs.size := by omega
        have hxi := kB.cell i (Array.getElem?_eq_getElem hi2)
        have hfi := kB.free i
        have hil : (i : Int) < (xs.length : Int) := by omega
        by_cases hd : rd xs j = id
        · have hb0 : (rd xs j == id) = true := by simpa using hd
          have hf : flt xs id (j + 1) = flt xs id j := by rw [flt_succ (by omega), if_pos hd]; simp
          clear hd
          go_wp2_with (first | (go_at_call 77; refine (peers1_C gN id _ _ hcap hgw).mono ?_; rintro e w' ⟨rfl, rfl⟩; rw [hb0]))
          go_roundg n
          case measure => omega
          case rel =>
            refine ⟨j + 1, by rw [hf, HI.out], by first | rfl | (rw [E1.out]), by omega, by rw [hf, HI.out]; omega, ⟨cs, kB, ks, fun t ht => ?_, fun t h1 h2 => hhi t (by omega) h2⟩, hU⟩
            rw [hf, HI.out] at ht
            rw [hf]
            exact hlo t ht
        · have hb0 : (rd xs j == id) = false := by simpa using hd
          have hf : flt xs id (j + 1) = flt xs id j ++ [rd xs j] := by rw [flt_succ (by omega), if_neg hd]
          clear hd
          go_wp2_with (first | (go_at_call 77; refine (peers1_C gN id _ _ hcap hgw).mono ?_; rintro e w' ⟨rfl, rfl⟩; rw [hb0]))
          have hfl : (flt xs id (j + 1)).length = i + 1 := by rw [hf, List.length_append, HI.out]; rfl
          go_roundg n
          case measure => omega
          case rel =>
            refine ⟨j + 1, by first | (rw [hfl]; done) | (rw [hfl, E2.out]) | (rw [hfl]; simp), by first | rfl | (rw [E1.out]), by omega, by omega, ⟨cs.setIfInBounds i (.int .i64 (rd xs j)), kB.set i _ rfl, by simpa using ks, fun t ht => ?_, fun t h1 h2 => ?_⟩, hU.set i _⟩
            · rw [hfl] at ht
              rw [hf]
              rcases Nat.lt_or_ge t i with h | h
              · rw [rd_app1 (by rw [HI.out]; exact h), Array.getElem?_setIfInBounds_ne (by omega)]
                exact hlo t h
              · obtain rfl : t = i := by omega
                have e : (t : Int) = ((flt xs id j).length : Int) := by rw [HI.out]
                rw [e, rd_app2, Array.getElem?_setIfInBounds_self_of_lt hi2]
            · rw [Array.getElem?_setIfInBounds_ne (by omega)]
              exact hhi t (by omega) h2
end Go.Proofs.Ytallakebnoighaa.PFnExactSettle
end

section
namespace Go.Proofs.Ytallakebnoighaa
open Go.RowKit
set_option linter.unusedVariables false
section
variable {P : Program}
def gObl (P : Program) (l0 : List Oper) (o : Oper) (R : VPred) (A : Act) (w : World) : Prop :=
  if Region.wanted o (yielded l0.toArray A.tmps) = true then flowUpon P R w ((execOp A.eval o).run P w) else R w undef
def FlowG (P : Program) (w : World) (a : Act) (bs : List Nat) (Q : Exit → Act → World → Prop) (l0 : List Oper) : List Oper → Nat → FTab → Prop
  | [], _, T => ∀ x w', Below w.heap.size w w' → allT x w' T → Q .normal (frameOf x l0 0 a) w'
  | o :: rest, i, T => ∃ R : VPred, VMono R ∧
      (∀ A w', Below w.heap.size w w' → baseF A a bs → deps T A w' o.after.toList → gObl P l0 o R A w') ∧ FlowG P w a bs Q l0 rest (i + 1) (addT o i R T)
theorem flowG_table {w : World} {a : Act} {bs : List Nat} {Q : Exit → Act → World → Prop} {l0 : List Oper} : ∀ (rest : List Oper) (i : Nat) (T : FTab), (∀ k d R, (k, d, R) ∈ T → k < i) → FlowG P w a bs Q l0 rest i T →
    ∃ T' : FTab, (∀ x ∈ T, x ∈ T') ∧ (∀ k d R, (k, d, R) ∈ T' → k < i → (k, d, R) ∈ T) ∧ (∀ k d R, (k, d, R) ∈ T' → k < i + rest.length) ∧
      (∀ (j : Nat) (o : Oper), rest[j]? = some o → ∃ R, VMono R ∧ (∀ d' R', (i + j, d', R') ∈ T' → o.dst = some d' ∧ R' = R) ∧
        (∀ A w', Below w.heap.size w w' → baseF A a bs → (∀ e ∈ o.after.toList, Region.binds .any e = true → ∀ d R, (e.on, d, R) ∈ T' → R w' (A.eval (.tmp d))) → gObl P l0 o R A w')) ∧
      (∀ x w', Below w.heap.size w w' → allT x w' T' → Q .normal (frameOf x l0 0 a) w')
  | [], i, T, hT, h => ⟨T, fun _ h => h, fun _ _ _ h _ => h, fun k d R hm => by simpa using hT k d R hm, fun j o hj => by simp at hj, h⟩
  | o :: rest, i, T, hT, h => by
    obtain ⟨R, hmono, hobl, hrest⟩ := h
    have hT1 : ∀ k d R', (k, d, R') ∈ addT o i R T → k < i + 1 := fun k d R' hm => by
      unfold addT at hm
      split at hm
      · rcases List.mem_cons.1 hm with hm | hm
        · simp only [Prod.mk.injEq] at hm; omega
        · have := hT k d R' hm; omega
      · have := hT k d R' hm; omega
    have hsub : ∀ y ∈ T, y ∈ addT o i R T := fun y hy => by
      unfold addT
      split
      · exact .tail _ hy
      · exact hy
    obtain ⟨T', h1, h2, h3, h4, h5⟩ := flowG_table rest (i + 1) (addT o i R T) hT1 hrest
    refine ⟨T', fun y hy => h1 y (hsub y hy), fun k d R' hm hk => ?_, fun k d R' hm => ?_, fun j o' hj => ?_, h5⟩
    · have := h2 k d R' hm (by omega)
      unfold addT at this
      split at this
      · rcases List.mem_cons.1 this with hm | hm
        · simp only [Prod.mk.injEq] at hm; omega
        · exact hm
      · exact this
    · have := h3 k d R' hm
      simp only [List.length_cons]; omega
    · cases j with
      | zero =>
        simp only [List.getElem?_cons_zero, Option.some.injEq] at hj
        subst hj
        refine ⟨R, hmono, fun d' R' hm => ?_, fun A w' hb hbase hd => hobl A w' hb hbase (deps_of fun e he hbn d R' hm => hd e he hbn d R' (h1 _ (hsub _ hm)))⟩
        have := h2 _ d' R' hm (by omega)
        unfold addT at this
        split at this
        · rename_i dd hdd
          rcases List.mem_cons.1 this with hm | hm
          · simp only [Prod.mk.injEq] at hm
            exact ⟨by rw [hdd, hm.2.1], hm.2.2⟩
          · have := hT _ d' R' hm; omega
        · have := hT _ d' R' this; omega
      | succ j =>
        simp only [List.getElem?_cons_succ] at hj
        obtain ⟨R2, a1, a2, a3⟩ := h4 j o' hj
        exact ⟨R2, a1, fun d' R' hm => a2 d' R' (by rw [show i + 1 + j = i + (j + 1) from by omega]; exact hm), a3⟩
def gflowB (n : Nat) : List Oper → Bool
  | [] => true
  | o :: r => (match o.dst with | some d => decide (d < n) && r.all (fun o' => o'.dst != some d) | none => true) && gflowB n r
theorem gflowB_spec {n : Nat} : ∀ {l : List Oper}, gflowB n l = true → ∀ (i : Nat) (o : Oper), l[i]? = some o → ∀ d, o.dst = some d → d < n ∧ ∀ (j : Nat) (o' : Oper), l[j]? = some o' → i < j → o'.dst ≠ some d
  | [], _, i, o, hi => by simp at hi
  | o0 :: r, h, i, o, hi => by
    simp only [gflowB, Bool.and_eq_true] at h
    obtain ⟨hd, hr⟩ := h
    cases i with
    | zero =>
      simp only [List.getElem?_cons_zero, Option.some.injEq] at hi
      subst hi
      intro d hdd
      rw [hdd] at hd
      simp only [Bool.and_eq_true, decide_eq_true_eq, List.all_eq_true, bne_iff_ne] at hd
      refine ⟨hd.1, fun j o' hj hlt => ?_⟩
      cases j with
      | zero => omega
      | succ j => exact hd.2 o' (List.mem_of_getElem? (by simpa using hj))
    | succ i =>
      have h2 := gflowB_spec hr i o (by simpa using hi)
      refine fun d hdd => ⟨(h2 d hdd).1, fun j o' hj hlt => ?_⟩
      cases j with
      | zero => omega
      | succ j => exact (h2 d hdd).2 j o' (by simpa using hj) (by omega)
theorem wp_region_flowG {id : Nat} {Q : Exit → Act → World → Prop} {a : Act} {w : World} {l : List Oper} (bs : List Nat) (n : Nat) (hm : P.follows .mixedOrders = true) (hn : a.tmps.size = n)
    (hB : gflowB n l = true) (hO : flowO l 0 = true) (hbs : bs.all (fun t => l.all (fun o => o.dst != some t)) = true) (h : FlowG P w a bs Q l l 0 []) : (Code.region id l.toArray true).wp P Q a w := by
  obtain ⟨T, -, -, hlen, hobl, hfin⟩ := flowG_table l 0 [] (by simp) h
  subst hn
  refine wp_region_any hm ?_
  refine wpAny_inv (fun listed A w' => listed.size = l.length ∧ Below w.heap.size w w' ∧ A.defers = a.defers ∧ A.tmps.size = a.tmps.size ∧ (∀ t, a.tmps[t]? ≠ A.tmps[t]? → ∃ (i : Nat) (o : Oper), l[i]? = some o ∧ o.dst = some t) ∧
      (∀ i d R, (i, d, R) ∈ T → listed.getD i false = true → R w' (A.eval (.tmp d)))) ?_ ?_ (fun listed => unl listed.toList) ?_ _ _ _ _ ?_ ?_
  · rintro listed A w' i ⟨hsz, hbel, hdef, hts, hdiff, hall⟩ hi
    obtain ⟨hun, o, ho, haft⟩ := mem_ready.1 hi
    have ho' : l[i]? = some o := by simpa using ho
    have hd := gflowB_spec hB i o ho'
    obtain ⟨R, hmono, huniq, hob⟩ := hobl i o ho'
    simp only [Nat.zero_add] at huniq
    have hob' := hob A w' hbel (baseF_of fun t ht => by
        have h1 := List.all_eq_true.1 hbs t ht
        have h2 : ∀ o ∈ l, o.dst ≠ some t := fun o ho => by simpa using List.all_eq_true.1 h1 o ho
        have h3 : a.tmps[t]? = A.tmps[t]? := Classical.byContradiction fun hne => by
          obtain ⟨i, o, hi, hd⟩ := hdiff t hne
          exact h2 o (List.mem_of_getElem? hi) hd
        simp only [Act.eval, Array.getD_eq_getD_getElem?, h3]) fun e he hb d R hmem => hall _ d R hmem (haft e (by simpa using he) hb)
    have key : ∀ (v : Value) (w2 : World), Below w'.heap.size w' w2 → R w2 v → ((listed.setIfInBounds i true).size = l.length ∧ Below w.heap.size w w2 ∧ (A.put o.dst v).defers = a.defers ∧ (A.put o.dst v).tmps.size = a.tmps.size ∧ (∀ t, a.tmps[t]? ≠ (A.put o.dst v).tmps[t]? → ∃ (i : Nat) (o : Oper), l[i]? = some o ∧ o.dst = some t) ∧
        (∀ j d R, (j, d, R) ∈ T → (listed.setIfInBounds i true).getD j false = true → R w2 ((A.put o.dst v).eval (.tmp d)))) := by
      intro v w2 hb2 hR
      refine ⟨by simpa using hsz, hbel.trans ⟨hb2.os, hb2.tape, hb2.output, hb2.size, fun k hk => hb2.block k (Nat.lt_of_lt_of_le hk hbel.size)⟩, ?_, ?_, ?_, ?_⟩
      · rw [← hdef]; unfold Act.put; split <;> rfl
      · rw [← hts]; unfold Act.put; split <;> simp
      · intro t ht
        by_cases hdt : o.dst = some t
        · exact ⟨i, o, ho', hdt⟩
        · refine hdiff t fun he => ht ?_
          rw [he]
          unfold Act.put
          split
          · rename_i t' ht'
            have : t' ≠ t := fun e => hdt (by rw [ht', e])
            rw [Array.getElem?_setIfInBounds_ne this]
          · rfl
      · intro k d R' hmem hk
        by_cases hki : i = k
        · subst hki
          obtain ⟨hod, rfl⟩ := huniq d R' hmem
          rw [eval_put_eq hod (by rw [hts]; exact (hd d hod).1)]
          exact hR
        · have hk' : listed.getD k false = true := by rw [getD_set_ne false hki] at hk; exact hk
          have hold := hall k d R' hmem hk'
          have hkl : k < l.length := by simpa using hlen k d R' hmem
          have hko : l[k]? = some l[k] := by simp [hkl]
          obtain ⟨R2, hmono2, huniq2, -⟩ := hobl k l[k] hko
          simp only [Nat.zero_add] at huniq2
          obtain ⟨hod, rfl⟩ := huniq2 d R' hmem
          have hne : o.dst ≠ some d := fun hd0 => by
            rcases Nat.lt_or_gt_of_ne hki with h | h
            · exact (hd d hd0).2 k l[k] hko h hod
            · exact (gflowB_spec hB k l[k] hko d hod).2 i o ho' h hd0
          rw [eval_put_ne hne]
          exact hmono2 _ _ _ hold hb2
    unfold wpOp
    rw [ho]
    unfold gObl at hob'
    simp only []
    by_cases hw : Region.wanted o (yielded l.toArray A.tmps) = true
    · rw [if_pos hw] at hob' ⊢
      exact .inl (flow_upon hob' fun v w2 hb2 hR => key v w2 hb2 hR)
    · rw [if_neg hw] at hob' ⊢
      exact key undef w' (Below.refl _ _) hob'
  · rintro listed A w' ⟨hsz, hbel, hdef, hts, hdiff, hall⟩ hno
    have hdone : ∀ k, k < l.length → listed.getD k false = true := by
      intro k
      induction k using Nat.strongRecOn with
      | _ k ih =>
        intro hk
        refine Classical.byContradiction fun hf => hno k (mem_ready.2 ⟨?_, l[k], by simp [hk], fun e he hb => ?_⟩)
        · have hks : k < listed.size := by omega
          simp only [Array.getD_eq_getD_getElem?, Array.getElem?_eq_getElem hks, Option.getD_some] at hf ⊢
          simpa using hf
        · have hlt := flowO_spec hO k l[k] (by simp [hk]) e (by simpa using he) hb
          exact ih e.on (by omega) (by omega)
    have hx : frameOf (fun i => match (l[i]?).bind (·.dst) with | some d => A.eval (.tmp d) | none => undef) l 0 a = A := by
      refine frame_eq _ A l 0 a hdef hts (fun i o d hi hd hlt => ?_) hdiff
      simp only [Nat.zero_add, hi, Option.bind_some, hd, Act.eval, Array.getD_eq_getD_getElem?]
      have : d < A.tmps.size := by rw [hts]; exact hlt
      simp [this]
    have := hfin (fun i => match (l[i]?).bind (·.dst) with | some d => A.eval (.tmp d) | none => undef) w' hbel (allT_of fun k d R hmem => by
      have hkl : k < l.length := by simpa using hlen k d R hmem
      have hko : l[k]? = some l[k] := by simp [hkl]
      obtain ⟨R2, -, huniq2, -⟩ := hobl k l[k] hko
      simp only [Nat.zero_add] at huniq2
      obtain ⟨hod, -⟩ := huniq2 d R hmem
      simp only [hko, Option.bind_some, hod]
      exact hall k d R hmem (hdone k hkl))
    rw [hx] at this
    exact this
  · rintro listed A w' i ⟨hsz, -⟩ hi
    obtain ⟨hun, o, ho, -⟩ := mem_ready.1 hi
    have hil : i < listed.size := by have := (Array.getElem?_eq_some_iff.1 ho).1; simp at this; omega
    simp only [Array.toList_setIfInBounds]
    refine unl_set _ _ ?_
    simp only [Array.getD_eq_getD_getElem?, Array.getElem?_eq_getElem hil, Option.getD_some] at hun
    simp [hil, hun]
  · simp [unl_rep]
  · exact ⟨by simp, ⟨rfl, rfl, rfl, Nat.le_refl _, fun _ _ => rfl⟩, rfl, rfl, fun t ht => absurd rfl ht, fun i d R _ hl => by simp [Array.getD_eq_getD_getElem?, Array.getElem?_replicate] at hl; split at hl <;> simp at hl⟩
section
variable {w : World} {a : Act} {bs : List Nat} {Q : Exit → Act → World → Prop} {l0 rest : List Oper} {i : Nat} {T : FTab} {d : Tmp} {op : Op} {ty : TypeId} {pos : String} {es : Array Edge}
theorem bcellA {W w1 : World} (hb : Below W.heap.size W w1) : (∀ p : Addr, p.block < W.heap.size → w1.cell? p = W.cell? p) ∧ (∀ p : Addr, p.block < W.heap.size → w1.frozen? p = W.frozen? p) := ⟨fun p h => hb.cell h, fun p h => hb.frozen h⟩
theorem yielded_of {ops : Array Oper} {tmps : Array Value} {j d : Nat} {b : Bool} (h : (ops[j]?).bind (·.dst) = some d) (hv : tmps[d]?.getD undef = .bool b) : yielded ops tmps j = some b := by
  unfold yielded
  rw [h]
  show (match tmps[d]? with | some (.bool b) => some b | _ => none) = some b
  rcases ht : tmps[d]? with _ | v
  · rw [ht] at hv; cases hv
  · rw [ht] at hv
    simp at hv
    subst hv
    rfl
theorem gObl_none {o : Oper} {R : VPred} {A : Act} {w : World} (hg : o.guard = none) (h : flowUpon P R w ((execOp A.eval o).run P w)) : gObl P l0 o R A w := by
  unfold gObl
  rw [if_pos (by simp [Region.wanted, hg])]
  exact h
theorem flowG_R (R : VPred) (hm : VMono R)
    (h : ∀ A w', Below w.heap.size w w' → baseF A a bs → deps T A w' es.toList → flowUpon P R w' ((execOp A.eval ⟨some d, op, ty, pos, es, none⟩).run P w'))
    (k : FlowG P w a bs Q l0 rest (i + 1) ((i, d, R) :: T)) : FlowG P w a bs Q l0 (⟨some d, op, ty, pos, es, none⟩ :: rest) i T :=
  ⟨R, hm, fun A w' hB hb hd => gObl_none rfl (h A w' hB hb hd), k⟩
theorem flowG_valE
    (h : ∃ e, (∀ A w', Below w.heap.size w w' → baseF A a bs → deps T A w' es.toList → flowUpon P (fun _ v => v = e) w' ((execOp A.eval ⟨some d, op, ty, pos, es, none⟩).run P w')) ∧
      FlowG P w a bs Q l0 rest (i + 1) ((i, d, fun _ v => v = e) :: T)) : FlowG P w a bs Q l0 (⟨some d, op, ty, pos, es, none⟩ :: rest) i T :=
  let ⟨e, h, k⟩ := h
  flowG_R _ (vmono_eq e) h k
theorem flowG_yesE {j : Nat} {want : Bool}
    (h : ∃ e, (∀ A w', Below w.heap.size w w' → baseF A a bs → deps T A w' es.toList → yielded l0.toArray A.tmps j = some want ∧ flowUpon P (fun _ v => v = e) w' ((execOp A.eval ⟨some d, op, ty, pos, es, some (j, want)⟩).run P w')) ∧
      FlowG P w a bs Q l0 rest (i + 1) ((i, d, fun _ v => v = e) :: T)) : FlowG P w a bs Q l0 (⟨some d, op, ty, pos, es, some (j, want)⟩ :: rest) i T := by
  obtain ⟨e, h, k⟩ := h
  refine ⟨_, vmono_eq e, fun A w' hB hb hd => ?_, k⟩
  obtain ⟨h1, h2⟩ := h A w' hB hb hd
  unfold gObl
  rw [if_pos (by simp [Region.wanted, h1])]
  exact h2
theorem flowG_no {j : Nat} {want : Bool}
    (h : ∀ A w', Below w.heap.size w w' → baseF A a bs → deps T A w' es.toList → yielded l0.toArray A.tmps j = some (!want))
    (k : FlowG P w a bs Q l0 rest (i + 1) ((i, d, fun _ v => v = undef) :: T)) : FlowG P w a bs Q l0 (⟨some d, op, ty, pos, es, some (j, want)⟩ :: rest) i T := by
  refine ⟨_, vmono_eq undef, fun A w' hB hb hd => ?_, k⟩
  unfold gObl
  rw [if_neg (by simp [Region.wanted, h A w' hB hb hd])]
end
end
end Go.Proofs.Ytallakebnoighaa
end

section
namespace Go.Proofs.Ytallakebnoighaa.PFnExactSettle
open Go.RowKit Go.Proofs.YtallakebnoighaaW.PrintWords Go.Proofs.YtallakebnoighaaW.PrintLast Go.Proofs.YtallakebnoighaaW.PrintMore
set_option linter.unusedVariables false
set_option linter.unusedSimpArgs false
def impl_lastOf.f (a0_0 : Int) (a0_1 : Int) (l0_2 : List (S87)) : Option (Int) := some (wrap64 (a0_0 + (l0_2.length : Int)))
set_option maxHeartbeats 8000000 in
set_option maxRecDepth 100000 in
theorem impl_lastOf.calls (a0_0 : Int) (a0_1 : Int) (A0_2 : Option Addr) (c0_2 : Nat) (l0_2 : List (S87)) (r : Int) (w : World) (hr0_2 : Kd.C k87 w A0_2 l0_2.length l0_2) (hc0_2 : l0_2.length ≤ c0_2) (h : impl_lastOf.f a0_0 a0_1 l0_2 = some r) :
    Calls Try.prog 66 #[.agg #[.int .i64 a0_0, .int .i64 a0_1, .slice A0_2 l0_2.length c0_2]] w fun e w' => e = .returned (.int .i64 r) ∧ Below w.heap.size w w' := by
  have hu33 := Try.underlying33
  have HR0_2 := Aside0.mk hr0_2
  have HC0_2 := Aside0.mk hc0_2
  clear hr0_2 hc0_2
  have HB := Aside0.mk (Below.refl w.heap.size w)
  have H : (some (wrap64 (a0_0 + (l0_2.length : Int)))) = some r := h
  clear h
  obtain rfl := Option.some.inj H
  go_enter Try.func66, Try.ntmps66
  go_wp2_with (first | ((with_reducible refine gate_dst (N := 1) rfl ?_); refine box_event ?hg (N := 1) ?hd (cs := #[.int .i64 a0_0, .int .i64 a0_1, .slice A0_2 l0_2.length c0_2]) (t := 33) ?hr ?_; (case hd => rfl); (case hg => rfl); (case hr => first | (go_simp; done) | (go_simp; rfl)); intro gb355 hg w2 hbox hb; have n0_ := Aside0.mk (below_step (by repeat (first | (with_reducible first | exact HB.out | apply below_alloc | apply pw_below_drewN | apply below_drew1) | exact HB.out)) hb); have n1_ := Aside0.mk (hbox); have n2_ := Aside0.mk ((by rw [hg]; exact (below_size (by repeat (first | (with_reducible first | exact HB.out | apply below_alloc | apply pw_below_drewN | apply below_drew1) | exact HB.out))) : w.heap.size ≤ gb355)); have n3_ := Aside0.mk ((by rw [hg]; exact (below_size (by repeat (first | (with_reducible first | exact HB.out | apply below_alloc | apply pw_below_drewN | apply below_drew1) | exact HB.out))) : w.heap.size ≤ gb355)); clear HB; have HB := n0_; have BK355 := n1_; have GW355 := n2_; have GE355 := n3_; clear n0_ n1_ n2_ n3_; clear hb hbox hg; have hcz3_0 : w2.cell? ⟨gb355, 0, none⟩ = some (.int .i64 a0_0) := (blk_cell BK355.out 0).trans rfl; have hcz3_1 : w2.cell? ⟨gb355, 1, none⟩ = some (.int .i64 a0_1) := (blk_cell BK355.out 1).trans rfl; have hcz3_2 : w2.cell? ⟨gb355, 2, none⟩ = some (.slice A0_2 l0_2.length c0_2) := (blk_cell BK355.out 2).trans rfl; have hfz3_0 := blk_frozen BK355.out 0; have hfz3_1 := blk_frozen BK355.out 1; have hfz3_2 := blk_frozen BK355.out 2))
  go_ret
  exact ⟨by first | rfl | (simp [errW_none, errW_some] <;> rfl) | (simp [*, errW_none, errW_some] <;> rfl), by repeat (first | (with_reducible first | exact HB.out | apply below_alloc | apply pw_below_drewN | apply below_drew1 | refine below_set ?_ GE355.out) | exact HB.out)⟩
end Go.Proofs.Ytallakebnoighaa.PFnExactSettle
end
